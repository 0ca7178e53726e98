/- Walks and laws, printed by program and by hand: what each function comes to, for all arguments, part 6. -/
import Derived.Test.YtgjnaocffdhnbaaGreatA5
namespace Go.Proofs.YtgjnaocffdhnbaaGreat
set_option linter.unusedVariables false
set_option linter.unusedSimpArgs false
open Go.Proofs.YtgjnaocffdhnbaaGreat.Tot (tot)
open Go.Proofs.YtgjnaocffdhnbaaGreat.Mark (cnt mrk mkd mkd_mark cnt_mark)
section
open Go.RowKit
set_option linter.unusedVariables false
set_option linter.unusedSimpArgs false
set_option maxRecDepth 100000
set_option maxHeartbeats 4000000
variable {al qC qL qV xk qK : Option Addr} {cl qB qI qP xf qJ : Nat} {Fl qZ xC xK zC xB : List Nat}
theorem find_ok (w : World) (l : List qO) (u : qO) {auAlive : Option Addr} {cuAlive : Nat} {FuAlive : List Nat} {auBags : Option Addr} {cuBags : Nat} {FuBags : List Nat} {auAround : Option Addr} {cuAround : Nat} {FuAround : List Nat} (hl : qU.rep w Fl [.slice al l.length cl] l) (huAlive : qU.rep w FuAlive [.slice auAlive u.qA.length cuAlive] u.qA) (huBags : qU.rep w FuBags [.slice auBags u.qE.length cuBags] u.qE) (huAround : qU.rep w FuAround [.slice auAround u.qy.length cuAround] u.qy) : Calls Tryz.prog 80 #[.slice al l.length cl, .agg #[.slice auAlive u.qA.length cuAlive, .slice auBags u.qE.length cuBags, .slice auAround u.qy.length cuAround]] w (Ret (fun v w' => v = .int .i64 (firstIdx (fun zz => decide (l[zz]! = u)) l.length)) w) := by
 refine en Tryz.func80 Tryz.ntmps80 ?_
 have H := ((((St.start w).arg huAround).arg huBags).arg huAlive).arg hl
 have nhl := qN hl
 have nhuAlive := qN huAlive
 have nhuBags := qN huBags
 have nhuAround := qN huAround
 clear hl huAlive huBags huAround
 have N := Fresh.nil w.heap.size
 refine zcr (sw (vK H [.slice auAlive u.qA.length cuAlive, .slice auBags u.qE.length cuBags, .slice auAround u.qy.length cuAround] fun b1 w2 H => sp (.int .i64 0) (zjc (sps [.slice al l.length cl, .func (.func 117) #[] #[pp b1 0]] (sw (vw #[.slice al l.length cl, .func (.func 117) #[] #[pp b1 0]] rfl rfl Tryz.call116 (en Tryz.func116 Tryz.ntmps116 ?_)))))))
 refine zcr (sp (.int .i64 0) (zjcc (sp (.slice al l.length cl) (oN rfl (sp (.int .i64 0) (zjn (xe ?_)))))))
 refine zG (fun m' ρ w3 => ∃ (xR : Env) (i : Nat), ρ = upd (upd (upd (upd xR 0 (.slice al l.length cl)) 1 (.func (.func 117) #[] #[pp b1 0])) 7 (.int .i64 l.length)) 8 (.int .i64 i) ∧ ((i : Int) ≤ l.length) ∧ (noneTo (fun zz => decide (l[zz]! = u)) i) ∧ m' = (l.length - (i : Int)).toNat ∧ Fresh w.heap.size [] ∧ St w w3 [.box b1 [.slice auAlive u.qA.length cuAlive, .slice auBags u.qE.length cuBags, .slice auAround u.qy.length cuAround] 38] [sF false Fl al cl l, sF false FuAlive auAlive cuAlive u.qA, sF false FuBags auBags cuBags u.qE, sF false FuAround auAround cuAround u.qy]) ((l.length - (0 : Int)).toNat) ⟨_, 0, uE4, qf, (by exact fun j hj => by omega), rfl, N, H⟩ ?_
 clear H N
 rintro m' ρ w4 ⟨xR, i, rfl, i0, i1, rfl, N, H⟩
 refine zcr (sp (.bool (decide ((i : Int) < l.length))) (zjn (zf (cD rfl (fun h5 => ?_) (fun h5 => ?_)))))
 ·skip
  refine qX (t_n (zf (xe (zcr (sps [.int .i64 i, .int .i64 i] (zjc (sps [.func (.func 117) #[] #[pp b1 0], .slice al l.length cl, .int .i64 i] ?_)))))))
  obtain ⟨b6, o7, rfl⟩ := H.addr 0 rfl qf
  obtain ⟨ae9Alive, ce9Alive, Fe9Alive, ae9Bags, ce9Bags, Fe9Bags, ae9Around, ce9Around, Fe9Around, H⟩ := H.elem_StateD 0 rfl i i qf qf qf
  refine oI rfl rfl (sw (zq [.slice ae9Alive (((l[i]!).qA).length) ce9Alive, .slice ae9Bags (((l[i]!).qE).length) ce9Bags, .slice ae9Around (((l[i]!).qy).length) ce9Around] Tryz.isAgg38 Tryz.sizeOf38 rfl (qH (H.get 3 rfl) 0 3) (sw (vw #[.agg #[.slice ae9Alive (((l[i]!).qA).length) ce9Alive, .slice ae9Bags (((l[i]!).qE).length) ce9Bags, .slice ae9Around (((l[i]!).qy).length) ce9Around], pp b1 0] rfl rfl Tryz.call117 (en Tryz.func117 Tryz.ntmps117 ?_)))))
  refine zcr (sw (vK H [.slice ae9Alive (((l[i]!).qA).length) ce9Alive, .slice ae9Bags (((l[i]!).qE).length) ce9Bags, .slice ae9Around (((l[i]!).qy).length) ce9Around] fun b10 w11 H => sp (.bool false) (zjc (sw (zq [.slice ae9Alive (((l[i]!).qA).length) ce9Alive, .slice ae9Bags (((l[i]!).qE).length) ce9Bags, .slice ae9Around (((l[i]!).qy).length) ce9Around] Tryz.isAgg38 Tryz.sizeOf38 rfl (qH (H.cells 0 rfl) 0 3) ?_)))))
  refine sw (zq [.slice auAlive u.qA.length cuAlive, .slice auBags u.qE.length cuBags, .slice auAround u.qy.length cuAround] Tryz.isAgg38 Tryz.sizeOf38 rfl (qH (H.cells 1 rfl) 0 3) (sw (oq (sameState_ok _ (l[i]!) u (H.get 0 rfl).1 (H.get 1 rfl).1 (H.get 2 rfl).1 (H.get 5 rfl).1 (H.get 6 rfl).1 (H.get 7 rfl).1) H fun w13 H => sp (.bool (decide ((l[i]!) = u))) (zjr (ret1 (.bool (decide ((l[i]!) = u))) rfl rfl ⟨_, rfl, ?_⟩)))))
  replace H := H.erases [0]
  dsimp only [vz, List.eraseIdx] at H
  refine zjn (cD rfl (fun h15 => ?_) (fun h15 => ?_))
  ·skip
   refine zcr (sps [.int .i64 i, .int .i64 i] (zjr (zr5 (ret1 (.int .i64 i) rfl rfl ⟨_, rfl, (sp (.int .i64 i) (zjr (ret1 (.int .i64 i) rfl rfl ⟨_, rfl, ?_, H.base⟩)))⟩))))
   rw [firstIdx_some (k := i) qf i1 (decide_eq_true ‹_›)]
  refine qX (b_n (t_n (zh (sw (zK i 1 rfl rfl qf (sp (.int .i64 (i + 1)) (zi (xh (m' := (l.length - ((i + 1) : Int)).toNat) qf ⟨_, i + 1, uE4, ?_, ?_, rfl, N, H.pick [0] [4, 5, 6, 7]⟩))))))))
  · omega
  · exact noneTo_succ i1 (decide_eq_false ‹_›)
 refine zx4 (zcr (sp (.int .i64 (-1)) (zjr (ret1 (.int .i64 (-1)) rfl rfl ⟨_, rfl, (sp (.int .i64 (-1)) (zjr (ret1 (.int .i64 (-1)) rfl rfl ⟨_, rfl, ?_, H.base⟩)))⟩))))
 rw [firstIdx_none (fun j hj => i1 j qf)]

theorem sizeS_ok (w : World) (l : List qO) (hl : qU.rep w Fl [.slice al l.length cl] l) : Calls Tryz.prog 121 #[.slice al l.length cl] w (Ret (fun v w' => v = .int .i64 l.length) w) := by
 refine en Tryz.func121 Tryz.ntmps121 ?_
 have H := (St.start w).arg hl
 have nhl := qN hl
 clear hl
 have N := Fresh.nil w.heap.size
 refine zcr (sp (.int .i64 0) (zjc (sp (.slice al l.length cl) (oN rfl (sp (.int .i64 l.length) (zjr (ret1 (.int .i64 l.length) rfl rfl ⟨_, rfl, ?_, H.base⟩)))))))
 rfl

def visit_ok_S (f : Nat) : Prop := ∀ {W0 w : World} {ps : List Prv} {Γ : List Fact} {Ns : List (List Nat)} (z : Int) (marks : List Int) (most : List Int) (R : List (List Int)) (aS : Option Addr) (nS : Nat) (cS : Nat) (aR : Option Addr) (cR : Nat) (FR : List Nat) (bm : Nat) (bg : Nat) (bv : Nat) (bd : Nat) (ram : Option Addr) (rnm : Nat) (rcm : Nat) (rad : Option Addr) (rnd : Nat) (rcd : Nat) (H : St W0 w ((.box bm [.slice ram rnm rcm] 118) :: (.box bg [.slice aS nS cS, .slice aR R.length cR] 59) :: (.box bv [.func (.func 120) #[] #[pp bm 0, pp bg 0, pp bv 0, pp bd 0]] 139) :: (.box bd [.slice rad rnd rcd] 22) :: (rr ram rnm rcm 3 1 (marks.map (Value.int .i64))) :: (rr rad rnd rcd 2 1 (most.map (Value.int .i64))) :: ps) ((sF false FR aR cR R) :: Γ)) (N : Fresh W0.heap.size (Ns)) (K0 : Kept Ns Γ) (p0 : VisI R marks most) (p1 : 0 ≤ z ∧ z.toNat < R.length) (p2 : marks[z.toNat]! = 0) (p3 : RowsIn R) (p4 : ∀ j : Nat, marks[j]! = 1 → Rch R j z.toNat) (p5 : marks.count 0 ≤ f), Calls Tryz.prog 120 #[.int .i64 z, pp bm 0, pp bg 0, pp bv 0, pp bd 0] w (fun e w' => ∃ v, e = .returned v ∧ ∃ (marks_ : List Int) (most_ : List Int), (marks_.length = marks.length) ∧ (most_.length = most.length) ∧ (Halts R z.toNat → VisEnd R marks most marks_ most_ z.toNat) ∧ v = .bool (dec (Halts R z.toNat)) ∧ Fresh W0.heap.size (Ns) ∧ St W0 w' ((.box bm [.slice ram rnm rcm] 118) :: (.box bg [.slice aS nS cS, .slice aR R.length cR] 59) :: (.box bv [.func (.func 120) #[] #[pp bm 0, pp bg 0, pp bv 0, pp bd 0]] 139) :: (.box bd [.slice rad rnd rcd] 22) :: (rr ram rnm rcm 3 1 (marks_.map (Value.int .i64))) :: (rr rad rnd rcd 2 1 (most_.map (Value.int .i64))) :: ps) ((sF false FR aR cR R) :: Γ))
theorem visit_ok_step (f : Nat) (IH : ∀ k, k < f → visit_ok_S k) {W0 w : World} {ps : List Prv} {Γ : List Fact} {Ns : List (List Nat)} (z : Int) (marks : List Int) (most : List Int) (R : List (List Int)) (aS : Option Addr) (nS : Nat) (cS : Nat) (aR : Option Addr) (cR : Nat) (FR : List Nat) (bm : Nat) (bg : Nat) (bv : Nat) (bd : Nat) (ram : Option Addr) (rnm : Nat) (rcm : Nat) (rad : Option Addr) (rnd : Nat) (rcd : Nat) (H : St W0 w ((.box bm [.slice ram rnm rcm] 118) :: (.box bg [.slice aS nS cS, .slice aR R.length cR] 59) :: (.box bv [.func (.func 120) #[] #[pp bm 0, pp bg 0, pp bv 0, pp bd 0]] 139) :: (.box bd [.slice rad rnd rcd] 22) :: (rr ram rnm rcm 3 1 (marks.map (Value.int .i64))) :: (rr rad rnd rcd 2 1 (most.map (Value.int .i64))) :: ps) ((sF false FR aR cR R) :: Γ)) (N : Fresh W0.heap.size (Ns)) (K0 : Kept Ns Γ) (p0 : VisI R marks most) (p1 : 0 ≤ z ∧ z.toNat < R.length) (p2 : marks[z.toNat]! = 0) (p3 : RowsIn R) (p4 : ∀ j : Nat, marks[j]! = 1 → Rch R j z.toNat) (p5 : marks.count 0 ≤ f) : Calls Tryz.prog 120 #[.int .i64 z, pp bm 0, pp bg 0, pp bv 0, pp bd 0] w (fun e w' => ∃ v, e = .returned v ∧ ∃ (marks_ : List Int) (most_ : List Int), (marks_.length = marks.length) ∧ (most_.length = most.length) ∧ (Halts R z.toNat → VisEnd R marks most marks_ most_ z.toNat) ∧ v = .bool (dec (Halts R z.toNat)) ∧ Fresh W0.heap.size (Ns) ∧ St W0 w' ((.box bm [.slice ram rnm rcm] 118) :: (.box bg [.slice aS nS cS, .slice aR R.length cR] 59) :: (.box bv [.func (.func 120) #[] #[pp bm 0, pp bg 0, pp bv 0, pp bd 0]] 139) :: (.box bd [.slice rad rnd rcd] 22) :: (rr ram rnm rcm 3 1 (marks_.map (Value.int .i64))) :: (rr rad rnd rcd 2 1 (most_.map (Value.int .i64))) :: ps) ((sF false FR aR cR R) :: Γ)) := by
 refine en Tryz.func120 Tryz.ntmps120 ?_
 have nR := qN (H.get 0 rfl).1
 obtain rfl := H.Xp 4 rfl
 obtain rfl := H.Xp 5 rfl
 obtain ⟨p6, p7⟩ := p1
 have ml := p0.ml
 have dl := p0.dl
 have p8 := p3.1
 have p9 := (p3.2 z.toNat p7).1
 have v0 := VisL.start p0 p7 p2
 refine zcr (sp (.bool false) (zjc (oL rfl (H.cell 0 rfl rfl) (sp (.int .i64 z) ?_))))
 obtain ⟨b1, rfl⟩ := H.yK 4 rfl qf
 refine oI rfl rfl (sw (QQ H 4 rfl 1 Tryz.sizeOf3 rfl rfl (i := z.toNat) qf qf fun w2 H => ?_))
 try dsimp only [List.set] at H
 refine zjcc (oF rfl (oL rfl (H.cell 1 rfl rfl) (sp (.int .i64 z) ?_)))
 obtain ⟨b3, o4, rfl⟩ := H.addr 0 rfl qf
 obtain ⟨ae6, ce6, Fe6, H⟩ := H.vU 0 rfl z z.toNat qf qf qf
 refine oI rfl rfl (oL rfl (H.xX 1 rfl 0 rfl) (oN rfl (sp (.int .i64 0) (zjn (xe ?_)))))
 refine zG (fun m' ρ w7 => ∃ (xR : Env) (k_1 : Nat) (most_1 : List Int) (marks_1 : List Int), ρ = upd (upd (upd (upd (upd (upd (upd xR 0 (.int .i64 z)) 1 (pp bm 0)) 3 (pp bv 0)) 4 (pp bd 0)) 16 (.slice ae6 ((R[z.toNat]!).length) ce6)) 17 (.int .i64 ((R[z.toNat]!).length))) 18 (.int .i64 k_1) ∧ ((k_1 : Int) ≤ ((R[z.toNat]!).length)) ∧ (VisL R marks most marks_1 most_1 z.toNat k_1) ∧ (marks_1.length = marks.length) ∧ (most_1.length = most.length) ∧ m' = (((R[z.toNat]!).length) - (k_1 : Int)).toNat ∧ Fresh W0.heap.size (Ns) ∧ St W0 w7 ((.box bm [.slice (aa b1 0) marks.length rcm] 118) :: (.box bg [.slice aS nS cS, .slice (aa b3 o4) R.length cR] 59) :: (.box bv [.func (.func 120) #[] #[pp bm 0, pp bg 0, pp bv 0, pp bd 0]] 139) :: (.box bd [.slice rad most.length rcd] 22) :: (rr (aa b1 0) marks.length rcm 3 1 (marks_1.map (Value.int .i64))) :: (rr rad most.length rcd 2 1 (most_1.map (Value.int .i64))) :: ps) ((sF false Fe6 ae6 ce6 (R[z.toNat]!)) :: (atF b3 (o4 + (z : Int).toNat * 1) [.slice ae6 ((R[z.toNat]!).length) ce6]) :: (sF false FR (aa b3 o4) cR R) :: Γ)) ((((R[z.toNat]!).length) - (0 : Int)).toNat) ⟨_, 0, most, (marks.set z.toNat 1), uE7, qf, (by exact v0), qm, (by rfl), rfl, N, H⟩ ?_
 clear H N
 rintro m' ρ w8 ⟨xR, k_1, most_1, marks_1, rfl, i0, v, ml1, dl1, rfl, N, H⟩
 have hn_most := H.Xp 5 rfl
 have hn_marks := H.Xp 4 rfl
 refine zcr (sp (.bool (decide ((k_1 : Int) < ((R[z.toNat]!).length)))) (zjn (zf (cD rfl (fun h9 => ?_) (fun h9 => ?_)))))
 ·skip
  obtain ⟨q1, q2⟩ := (p3.2 z.toNat p7).2 k_1 qf
  have q3 := v.vi.top p3 q2
  refine qX (t_n (zf (xe (zcr ?_))))
  obtain ⟨b10, o11, rfl⟩ := H.addr 0 rfl qf
  refine oI rfl rfl (oL rfl (H.jD 0 rfl k_1 qf qf) (sp (.int .i64 ((R[z.toNat]!)[k_1]!)) (zjcc (oL rfl (H.cell 0 rfl rfl) (sp (.int .i64 ((R[z.toNat]!)[k_1]!)) (oI rfl rfl (oL rfl (H.rowInt 4 rfl (iv := (R[z.toNat]!)[k_1]!) (i := (((R[z.toNat]!)[k_1]!).toNat)) qf qf) (sps [.bool ((marks_1[((R[z.toNat]!)[k_1]!).toNat]! : Int) == 1), .bool ((marks_1[((R[z.toNat]!)[k_1]!).toNat]! : Int) == 1)] ?_))))))))
  cases h13 : ((marks_1[((R[z.toNat]!)[k_1]!).toNat]! : Int) == 1)
  ·skip
   replace h13 := ne_of_beq_false h13
   refine qR 27 rfl rfl (oL rfl (H.cell 0 rfl rfl) (qR 27 rfl rfl (sp (.int .i64 ((R[z.toNat]!)[k_1]!)) (qR 27 rfl rfl (oI rfl rfl (qR 27 rfl rfl (oL rfl (H.rowInt 4 rfl (iv := (R[z.toNat]!)[k_1]!) (i := (((R[z.toNat]!)[k_1]!).toNat)) qf qf) (qR 27 rfl rfl (sp (.bool ((marks_1[((R[z.toNat]!)[k_1]!).toNat]! : Int) == 0)) (qR 27 rfl rfl (sp (.bool ((marks_1[((R[z.toNat]!)[k_1]!).toNat]! : Int) == 0)) ?_)))))))))))
   cases h14 : ((marks_1[((R[z.toNat]!)[k_1]!).toNat]! : Int) == 0)
   ·skip
    replace h14 := ne_of_beq_false h14
    refine zn [34, 35, 36, 37] (qR 27 rfl rfl (sps [.bool false, .bool false] (zjn (xF false rfl (fun h => absurd h qj) (fun _ => qX (t_n ?_))))))
    obtain ⟨b15, rfl⟩ := H.yK 5 rfl qf
    refine c_cut (fun ρ w16 => ∃ (xR : Env), ρ = upd (upd (upd (upd (upd (upd (upd (upd (upd (upd (upd (upd (upd (upd xR 0 (.int .i64 z)) 1 (pp bm 0)) 3 (pp bv 0)) 4 (pp bd 0)) 16 (.slice (aa b10 o11) ((R[z.toNat]!).length) ce6)) 17 (.int .i64 ((R[z.toNat]!).length))) 18 (.int .i64 k_1)) 28 (.slice (aa b1 0) marks.length rcm)) 29 (.int .i64 ((R[z.toNat]!)[k_1]!))) 30 (pp b1 (0 + ((R[z.toNat]!)[k_1]! : Int).toNat * 1))) 31 (.int .i64 (marks_1[((R[z.toNat]!)[k_1]!).toNat]!))) 32 (.bool false)) 33 (.bool false)) 38 (.bool false) ∧ Fresh W0.heap.size (Ns) ∧ St W0 w16 ((.box bm [.slice (aa b1 0) marks.length rcm] 118) :: (.box bg [.slice aS nS cS, .slice (aa b3 o4) R.length cR] 59) :: (.box bv [.func (.func 120) #[] #[pp bm 0, pp bg 0, pp bv 0, pp bd 0]] 139) :: (.box bd [.slice (aa b15 0) most.length rcd] 22) :: (rr (aa b1 0) marks.length rcm 3 1 (marks_1.map (Value.int .i64))) :: (rr (aa b15 0) most.length rcd 2 1 ((most_1.set z.toNat (max (most_1[z.toNat]!) ((most_1[((R[z.toNat]!)[k_1]!).toNat]!) + 1))).map (Value.int .i64))) :: ps) ((sF false Fe6 (aa b10 o11) ce6 (R[z.toNat]!)) :: (atF b3 (o4 + (z : Int).toNat * 1) [.slice (aa b10 o11) ((R[z.toNat]!).length) ce6]) :: (sF false FR (aa b3 o4) cR R) :: Γ)) ?_ ?_
    ·skip
     refine c_drawK2 rfl H [0, 1, 2, 3, 4] [0, 1, 2] fun H => ?_
     have S := H.jW [0, 1, 2, 3, 4] [0, 1, 2]
     refine tL 0 rfl rfl (fun _ h => h.cell 3 rfl rfl) S ?_
     refine rtp 1 (.int .i64 z) S ?_
     refine tL 2 rfl rfl (fun _ h => h.cell 3 rfl rfl) S ?_
     refine rtp 3 (.int .i64 z) S ?_
     refine tI 4 rfl rfl rfl S ?_
     refine tL 6 rfl rfl (fun _ h => h.cell 3 rfl rfl) S ?_
     refine rtp 7 (.int .i64 ((R[z.toNat]!)[k_1]!)) S ?_
     refine tI 8 rfl rfl rfl S ?_
     refine vW [5, 9] qh qm (jF rfl ?_ (jF rfl ?_ vX))
     ·skip
      refine zI (.int .i64 (most_1[z.toNat]!)) Tryz.isAgg2 rfl (H.rowInt 5 rfl (iv := z) (i := z.toNat) qf qf) (⟨H.pick [0, 1, 2, 3, 4] [0, 1, 2], (ro 9 rfl (zI (.int .i64 (most_1[((R[z.toNat]!)[k_1]!).toNat]!)) Tryz.isAgg2 rfl (H.rowInt 5 rfl (iv := (R[z.toNat]!)[k_1]!) (i := (((R[z.toNat]!)[k_1]!).toNat)) qf qf) (⟨H.pick [0, 1, 2, 3, 4] [0, 1, 2], ?_⟩)))⟩)
      have S := H.jW [0, 1, 2, 3, 4] [0, 1, 2]
      refine rt 10 (.int .i64 ((most_1[((R[z.toNat]!)[k_1]!).toNat]!) + 1)) (y_add (most_1[((R[z.toNat]!)[k_1]!).toNat]!) 1 rfl rfl qf) S ?_
      refine rt 11 (.int .i64 (max (most_1[z.toNat]!) ((most_1[((R[z.toNat]!)[k_1]!).toNat]!) + 1))) (y_max (most_1[z.toNat]!) ((most_1[((R[z.toNat]!)[k_1]!).toNat]!) + 1) rfl rfl) S ?_
      refine tI 12 rfl rfl rfl S ?_
      refine ro 13 rfl (QQ H 5 rfl (max (most_1[z.toNat]!) ((most_1[((R[z.toNat]!)[k_1]!).toNat]!) + 1)) Tryz.sizeOf2 rfl rfl (i := z.toNat) qf qf fun w18 H => ?_)
      try dsimp only [List.set] at H
      refine ⟨H.pick [0, 1, 2, 3, 4] [0, 1, 2], (xI qh ((meet ⟨_, uE14, N, H⟩)))⟩
     refine zI (.int .i64 (most_1[((R[z.toNat]!)[k_1]!).toNat]!)) Tryz.isAgg2 rfl (H.rowInt 5 rfl (iv := (R[z.toNat]!)[k_1]!) (i := (((R[z.toNat]!)[k_1]!).toNat)) qf qf) (⟨H.pick [0, 1, 2, 3, 4] [0, 1, 2], (rt 10 (.int .i64 ((most_1[((R[z.toNat]!)[k_1]!).toNat]!) + 1)) (y_add (most_1[((R[z.toNat]!)[k_1]!).toNat]!) 1 rfl rfl qf) (H.pick [0, 1, 2, 3, 4] [0, 1, 2]) ?_)⟩)
     refine ro 5 rfl (zI (.int .i64 (most_1[z.toNat]!)) Tryz.isAgg2 rfl (H.rowInt 5 rfl (iv := z) (i := z.toNat) qf qf) (⟨H.pick [0, 1, 2, 3, 4] [0, 1, 2], ?_⟩))
     have S := H.jW [0, 1, 2, 3, 4] [0, 1, 2]
     refine rt 11 (.int .i64 (max (most_1[z.toNat]!) ((most_1[((R[z.toNat]!)[k_1]!).toNat]!) + 1))) (y_max (most_1[z.toNat]!) ((most_1[((R[z.toNat]!)[k_1]!).toNat]!) + 1) rfl rfl) S ?_
     refine tI 12 rfl rfl rfl S ?_
     refine ro 13 rfl (QQ H 5 rfl (max (most_1[z.toNat]!) ((most_1[((R[z.toNat]!)[k_1]!).toNat]!) + 1)) Tryz.sizeOf2 rfl rfl (i := z.toNat) qf qf fun w19 H => ?_)
     try dsimp only [List.set] at H
     refine ⟨H.pick [0, 1, 2, 3, 4] [0, 1, 2], (xI qh ((meet ⟨_, uE14, N, H⟩)))⟩
    clear H N
    rintro ρ w20 ⟨xR, rfl, N, H⟩
    refine b_n (t_n (zh (sw (zK k_1 1 rfl rfl qf (sp (.int .i64 (k_1 + 1)) (zi (xh (m' := (((R[z.toNat]!).length) - ((k_1 + 1) : Int)).toNat) qf ⟨_, k_1 + 1, (most_1.set z.toNat (max (most_1[z.toNat]!) ((most_1[((R[z.toNat]!)[k_1]!).toNat]!) + 1))), marks_1, uE7, ?_, ?_, ?_, ?_, rfl, N, H⟩)))))))
    · omega
    · first | exact v.go qf p7 p3 (by have := v.vi.mr _ q2; omega) | exact (v.sub (‹Halts R _ → VisEnd R _ _ _ _ _› ‹Halts R _›)).go qf p7 p3 (‹Halts R _ → VisEnd R _ _ _ _ _› ‹Halts R _›).me
    · omega
    · simp; omega
   replace h14 := eq_of_beq h14
   refine qR 33 rfl rfl (oL rfl (H.cell 2 rfl rfl) (qR 33 rfl rfl (sp (.int .i64 ((R[z.toNat]!)[k_1]!)) (qR 33 rfl rfl ?_))))
   have c0 := v.c0
   have H1 : St W0 w8 ((.box bm [.slice (aa b1 0) marks.length rcm] 118) :: (.box bg [.slice aS nS cS, .slice (aa b3 o4) R.length cR] 59) :: (.box bv [.func (.func 120) #[] #[pp bm 0, pp bg 0, pp bv 0, pp bd 0]] 139) :: (.box bd [.slice rad most.length rcd] 22) :: (rr (aa b1 0) marks.length rcm 3 1 (marks_1.map (Value.int .i64))) :: (rr rad most.length rcd 2 1 (most_1.map (Value.int .i64))) :: ps) ((sF false FR (aa b3 o4) cR R) :: (sF false Fe6 (aa b10 o11) ce6 (R[z.toNat]!)) :: (atF b3 (o4 + (z : Int).toNat * 1) [.slice (aa b10 o11) ((R[z.toNat]!).length) ce6]) :: (sF false FR (aa b3 o4) cR R) :: Γ) := H.Xr 6 3 [0, 1, 2, 3, 4, 5] [2, 0, 1, 2] qo qo
   have N1 : Fresh _ (Ns) := N
   have K1 : Kept (Ns) ((sF false Fe6 (aa b10 o11) ce6 (R[z.toNat]!)) :: (atF b3 (o4 + (z : Int).toNat * 1) [.slice (aa b10 o11) ((R[z.toNat]!).length) ce6]) :: (sF false FR (aa b3 o4) cR R) :: Γ) := K0.behind 3 rfl
   refine sw (o_callF #[.int .i64 ((R[z.toNat]!)[k_1]!), pp bm 0, pp bg 0, pp bv 0, pp bd 0] rfl rfl Tryz.call120 (IH (f - 1) qf ((R[z.toNat]!)[k_1]!) marks_1 most_1 R aS nS cS (aa b3 o4) cR FR bm bg bv bd (aa b1 0) marks.length rcm rad most.length rcd H1 N1 K1 (by first | assumption | exact vi | exact v.vi) (by first | assumption | exact ⟨by omega, by omega⟩) ql ql (by first | assumption | exact v.open' qf p4 | exact fun j hj => (rep0 hj).elim) (by first | omega | exact rep_cnt qf)) ?_)
   clear H H1 N1 K1
   rintro _ w21 ⟨marks22, most22, hx23, hx24, hx25, rfl, N, H⟩
   refine qR 33 rfl rfl (sp (.bool (!(dec (Halts R ((R[z.toNat]!)[k_1]!).toNat)))) (qR 27 rfl rfl (sps [.bool (!(dec (Halts R ((R[z.toNat]!)[k_1]!).toNat))), .bool (!(dec (Halts R ((R[z.toNat]!)[k_1]!).toNat)))] (zjn (cQ rfl (fun h26 => ?_) (fun h26 => ?_))))))
   ·skip
    refine zcr (sp (.bool false) (zjr (t_r (zr5 (ret1 (.bool false) rfl rfl ⟨_, rfl, ?_⟩)))))
    have nh : ¬ Halts R z.toNat := by first | exact v.cyc qf p4 ql | exact not_go (k := k_1) qf ql
    rw [xu nh]
    exact ⟨marks22, most22, (by first | rfl | omega | (simp; omega)), (by first | rfl | omega), (by first | exact fun _ => v2.1 | exact fun hh => absurd hh nh), rfl, N, H.Xr 6 4 [0, 1, 2, 3, 4, 5] [0] qo qo⟩
   have v1 := v.sub ((‹Halts R _ → VisEnd R _ _ _ _ _›) ‹Halts R _›)
   have q4 := v1.vi.top p3 q2
   refine qX (t_n ?_)
   obtain ⟨b27, rfl⟩ := H.yK 5 rfl qf
   refine c_cut (fun ρ w28 => ∃ (xR : Env), ρ = upd (upd (upd (upd (upd (upd (upd (upd (upd (upd (upd (upd (upd (upd (upd (upd (upd (upd xR 0 (.int .i64 z)) 1 (pp bm 0)) 3 (pp bv 0)) 4 (pp bd 0)) 16 (.slice (aa b10 o11) ((R[z.toNat]!).length) ce6)) 17 (.int .i64 ((R[z.toNat]!).length))) 18 (.int .i64 k_1)) 28 (.slice (aa b1 0) marks.length rcm)) 29 (.int .i64 ((R[z.toNat]!)[k_1]!))) 30 (pp b1 (0 + ((R[z.toNat]!)[k_1]! : Int).toNat * 1))) 31 (.int .i64 (marks_1[((R[z.toNat]!)[k_1]!).toNat]!))) 32 (.bool true)) 33 (.bool true)) 34 (.func (.func 120) #[] #[pp bm 0, pp bg 0, pp bv 0, pp bd 0])) 35 (.int .i64 ((R[z.toNat]!)[k_1]!))) 36 (.bool (dec (Halts R ((R[z.toNat]!)[k_1]!).toNat)))) 37 (.bool (!(dec (Halts R ((R[z.toNat]!)[k_1]!).toNat))))) 38 (.bool (!(dec (Halts R ((R[z.toNat]!)[k_1]!).toNat)))) ∧ Fresh W0.heap.size (Ns) ∧ St W0 w28 ((.box bm [.slice (aa b1 0) marks.length rcm] 118) :: (.box bg [.slice aS nS cS, .slice (aa b3 o4) R.length cR] 59) :: (.box bv [.func (.func 120) #[] #[pp bm 0, pp bg 0, pp bv 0, pp bd 0]] 139) :: (.box bd [.slice (aa b27 0) most.length rcd] 22) :: (rr (aa b1 0) marks.length rcm 3 1 (marks22.map (Value.int .i64))) :: (rr (aa b27 0) most.length rcd 2 1 ((most22.set z.toNat (max (most22[z.toNat]!) ((most22[((R[z.toNat]!)[k_1]!).toNat]!) + 1))).map (Value.int .i64))) :: ps) ((sF false FR (aa b3 o4) cR R) :: (sF false Fe6 (aa b10 o11) ce6 (R[z.toNat]!)) :: (atF b3 (o4 + (z : Int).toNat * 1) [.slice (aa b10 o11) ((R[z.toNat]!).length) ce6]) :: (sF false FR (aa b3 o4) cR R) :: Γ)) ?_ ?_
   ·skip
    refine c_drawK2 rfl H [0, 1, 2, 3, 4] [0, 1, 2, 3] fun H => ?_
    have S := H.jW [0, 1, 2, 3, 4] [0, 1, 2, 3]
    refine tL 0 rfl rfl (fun _ h => h.cell 3 rfl rfl) S ?_
    refine rtp 1 (.int .i64 z) S ?_
    refine tL 2 rfl rfl (fun _ h => h.cell 3 rfl rfl) S ?_
    refine rtp 3 (.int .i64 z) S ?_
    refine tI 4 rfl rfl rfl S ?_
    refine tL 6 rfl rfl (fun _ h => h.cell 3 rfl rfl) S ?_
    refine rtp 7 (.int .i64 ((R[z.toNat]!)[k_1]!)) S ?_
    refine tI 8 rfl rfl rfl S ?_
    refine vW [5, 9] qh qm (jF rfl ?_ (jF rfl ?_ vX))
    ·skip
     refine zI (.int .i64 (most22[z.toNat]!)) Tryz.isAgg2 rfl (H.rowInt 5 rfl (iv := z) (i := z.toNat) qf qf) (⟨H.pick [0, 1, 2, 3, 4] [0, 1, 2, 3], (ro 9 rfl (zI (.int .i64 (most22[((R[z.toNat]!)[k_1]!).toNat]!)) Tryz.isAgg2 rfl (H.rowInt 5 rfl (iv := (R[z.toNat]!)[k_1]!) (i := (((R[z.toNat]!)[k_1]!).toNat)) qf qf) (⟨H.pick [0, 1, 2, 3, 4] [0, 1, 2, 3], ?_⟩)))⟩)
     have S := H.jW [0, 1, 2, 3, 4] [0, 1, 2, 3]
     refine rt 10 (.int .i64 ((most22[((R[z.toNat]!)[k_1]!).toNat]!) + 1)) (y_add (most22[((R[z.toNat]!)[k_1]!).toNat]!) 1 rfl rfl qf) S ?_
     refine rt 11 (.int .i64 (max (most22[z.toNat]!) ((most22[((R[z.toNat]!)[k_1]!).toNat]!) + 1))) (y_max (most22[z.toNat]!) ((most22[((R[z.toNat]!)[k_1]!).toNat]!) + 1) rfl rfl) S ?_
     refine tI 12 rfl rfl rfl S ?_
     refine ro 13 rfl (QQ H 5 rfl (max (most22[z.toNat]!) ((most22[((R[z.toNat]!)[k_1]!).toNat]!) + 1)) Tryz.sizeOf2 rfl rfl (i := z.toNat) qf qf fun w30 H => ?_)
     try dsimp only [List.set] at H
     refine ⟨H.pick [0, 1, 2, 3, 4] [0, 1, 2, 3], (xI qh ((meet ⟨_, uE18, N, H⟩)))⟩
    refine zI (.int .i64 (most22[((R[z.toNat]!)[k_1]!).toNat]!)) Tryz.isAgg2 rfl (H.rowInt 5 rfl (iv := (R[z.toNat]!)[k_1]!) (i := (((R[z.toNat]!)[k_1]!).toNat)) qf qf) (⟨H.pick [0, 1, 2, 3, 4] [0, 1, 2, 3], (rt 10 (.int .i64 ((most22[((R[z.toNat]!)[k_1]!).toNat]!) + 1)) (y_add (most22[((R[z.toNat]!)[k_1]!).toNat]!) 1 rfl rfl qf) (H.pick [0, 1, 2, 3, 4] [0, 1, 2, 3]) ?_)⟩)
    refine ro 5 rfl (zI (.int .i64 (most22[z.toNat]!)) Tryz.isAgg2 rfl (H.rowInt 5 rfl (iv := z) (i := z.toNat) qf qf) (⟨H.pick [0, 1, 2, 3, 4] [0, 1, 2, 3], ?_⟩))
    have S := H.jW [0, 1, 2, 3, 4] [0, 1, 2, 3]
    refine rt 11 (.int .i64 (max (most22[z.toNat]!) ((most22[((R[z.toNat]!)[k_1]!).toNat]!) + 1))) (y_max (most22[z.toNat]!) ((most22[((R[z.toNat]!)[k_1]!).toNat]!) + 1) rfl rfl) S ?_
    refine tI 12 rfl rfl rfl S ?_
    refine ro 13 rfl (QQ H 5 rfl (max (most22[z.toNat]!) ((most22[((R[z.toNat]!)[k_1]!).toNat]!) + 1)) Tryz.sizeOf2 rfl rfl (i := z.toNat) qf qf fun w31 H => ?_)
    try dsimp only [List.set] at H
    refine ⟨H.pick [0, 1, 2, 3, 4] [0, 1, 2, 3], (xI qh ((meet ⟨_, uE18, N, H⟩)))⟩
   clear H N
   rintro ρ w32 ⟨xR, rfl, N, H⟩
   refine b_n (t_n (zh (sw (zK k_1 1 rfl rfl qf (sp (.int .i64 (k_1 + 1)) (zi (xh (m' := (((R[z.toNat]!).length) - ((k_1 + 1) : Int)).toNat) qf ⟨_, k_1 + 1, (most22.set z.toNat (max (most22[z.toNat]!) ((most22[((R[z.toNat]!)[k_1]!).toNat]!) + 1))), marks22, uE7, ?_, ?_, ?_, ?_, rfl, N, H.Xr 6 4 [0, 1, 2, 3, 4, 5] [1, 2, 3] qo qo⟩)))))))
   · omega
   · first | exact v.go qf p7 p3 (by have := v.vi.mr _ q2; omega) | exact (v.sub (‹Halts R _ → VisEnd R _ _ _ _ _› ‹Halts R _›)).go qf p7 p3 (‹Halts R _ → VisEnd R _ _ _ _ _› ‹Halts R _›).me
   · omega
   · simp; omega
  replace h13 := eq_of_beq h13
  refine zn [28, 29, 30, 31, 32, 33, 34, 35, 36, 37, 38] (sp (.bool true) (zjn (xF true rfl (fun _ => zcr (sp (.bool false) (zjr (t_r (zr5 (ret1 (.bool false) rfl rfl ⟨_, rfl, ?_⟩)))))) (fun h => absurd h qj))))
  have nh : ¬ Halts R z.toNat := by first | exact v.cyc qf p4 ql | exact not_go (k := k_1) qf ql
  rw [xu nh]
  exact ⟨marks_1, most_1, (by first | rfl | omega | (simp; omega)), (by first | rfl | omega), (by first | exact fun _ => v2.1 | exact fun hh => absurd hh nh), rfl, N, H.Xr 6 3 [0, 1, 2, 3, 4, 5] [2] qo qo⟩
 refine zx4 (zcr (oL rfl (H.cell 0 rfl rfl) (sp (.int .i64 z) (oI rfl rfl (sw (QQ H 4 rfl 2 Tryz.sizeOf3 rfl rfl (i := z.toNat) qf qf fun w33 H => ?_))))))
 try dsimp only [List.set] at H
 refine zjc (sp (.bool true) (zjr (ret1 (.bool true) rfl rfl ⟨_, rfl, ?_⟩)))
 have v2 := v.fin p7 qf
 rw [jZ v2.2]
 exact ⟨(marks_1.set z.toNat 2), most_1, (by first | rfl | omega | (simp; omega)), (by first | rfl | omega), (by first | exact fun _ => v2.1 | exact fun hh => absurd hh nh), rfl, N, H.Xr 6 3 [0, 1, 2, 3, 4, 5] [2] qo qo⟩

theorem visit_ok (f : Nat) : visit_ok_S f := Nat.strongRecOn (motive := visit_ok_S) f fun f IH => by unfold visit_ok_S; intros; apply visit_ok_step f IH <;> assumption
theorem specLR_ok (w : World) (s : qM) (t : qO) (xm : qU.rep w qZ [.slice qC s.qw.length qB] s.qw) (xJ : qU.rep w xC [.slice qL s.qx.length qI] s.qx) (zA : qU.rep w xK [.slice qV t.qA.length qP] t.qA) (zU : qU.rep w zC [.slice xk t.qE.length xf] t.qE) (xN : qU.rep w xB [.slice qK t.qy.length qJ] t.qy) : Calls Tryz.prog 36 #[.agg #[.int .i64 s.qQ, .slice qC s.qw.length qB, .slice qL s.qx.length qI], .agg #[.slice qV t.qA.length qP, .slice xk t.qE.length xf, .slice qK t.qy.length qJ]] w (Ret (fun v w' => v = .tuple #[.int .i64 ((QU s t).1), .int .i64 ((QU s t).2)]) w) := by
 refine en Tryz.func36 Tryz.ntmps36 ?_
 have H := (((((St.start w).arg xN).arg zU).arg zA).arg xJ).arg xm
 have vI := qN xm
 have jB := qN xJ
 have yT := qN zA
 have QA := qN zU
 have yc := qN xN
 clear xm xJ zA zU xN
 have N := Fresh.nil w.heap.size
 refine zcr (sw (vK H [.int .i64 s.qQ, .slice qC s.qw.length qB, .slice qL s.qx.length qI] fun b1 w2 H => sw (vK H [.slice qV t.qA.length qP, .slice xk t.qE.length xf, .slice qK t.qy.length qJ] fun b3 w4 H => sps [.int .i64 0, .int .i64 0] (zjc (sw (zq [.int .i64 s.qQ, .slice qC s.qw.length qB, .slice qL s.qx.length qI] Tryz.isAgg36 Tryz.sizeOf36 rfl (qH (H.cells 1 rfl) 0 3) ?_))))))
 refine sw (zq [.slice qV t.qA.length qP, .slice xk t.qE.length xf, .slice qK t.qy.length qJ] Tryz.isAgg38 Tryz.sizeOf38 rfl (qH (H.cells 0 rfl) 0 3) (sw (vw #[.agg #[.int .i64 s.qQ, .slice qC s.qw.length qB, .slice qL s.qx.length qI], .agg #[.slice qV t.qA.length qP, .slice xk t.qE.length xf, .slice qK t.qy.length qJ]] rfl rfl Tryz.call40 (en Tryz.func40 Tryz.ntmps40 ?_))))
 refine zcr (sw (vK H [.int .i64 s.qQ, .slice qC s.qw.length qB, .slice qL s.qx.length qI] fun b5 w6 H => sw (vK H [.slice qV t.qA.length qP, .slice xk t.qE.length xf, .slice qK t.qy.length qJ] fun b7 w8 H => sw (xH H ti59 [.slice none 0 0, .slice none 0 0] fun b9 w10 H => sp (.int .i64 0) (zjcc (sw (oq (l03Both_ok _ s t (qH (H.cells 2 rfl) 0 3) (H.get 0 rfl).1 (H.get 1 rfl).1 (qH (H.cells 1 rfl) 0 3) (H.get 2 rfl).1 (H.get 3 rfl).1 (H.get 4 rfl).1) H fun w12 H => sp (.bool (!(dec (yg s ∧ zT s t)))) (zjn ?_))))))))
 refine cQ rfl (fun h14 => ?_) (fun h14 => ?_)
 ·skip
  refine zcr (sw (jv [.slice none 0 0, .slice none 0 0] [] (sw (zt H 0 [.slice none 0 0, .slice none 0 0] Tryz.sizeOf59 fun w15 H => sp (.int .i64 1) (zjr (t_r (retC2 H 0 rfl (.int .i64 1) rfl Tryz.isAgg59 Tryz.sizeOf59 rfl rfl ⟨_, rfl, ?_⟩)))))))
  replace H := H.erases [2, 1, 0]
  dsimp only [vz, List.eraseIdx] at H
  refine sps [.tuple #[.agg #[.slice none 0 0, .slice none 0 0], .int .i64 1], .agg #[.slice none 0 0, .slice none 0 0], .int .i64 1] (sw (xH H ti59 [.slice none 0 0, .slice none 0 0] fun b16 w17 H => sw (zt H 0 [.slice none 0 0, .slice none 0 0] Tryz.sizeOf59 fun w18 H => sp (.int .i64 1) (zjcc (sps [.int .i64 1, .bool true] (zjn (xF true rfl (fun _ => zcr (sps [.int .i64 1, .int .i64 0, .int .i64 1] (zjr (t_r (ret2 (.int .i64 0) (.int .i64 1) rfl rfl rfl ⟨_, rfl, ?_, H.base⟩))))) (fun h => absurd h qj))))))))
  rw [lr_1 ‹_›]
 have k0 := (‹yg s ∧ zT s t› : yg s ∧ zT s t)
 have k1 := k0.1
 have k2 := k0.2
 obtain ⟨q7, q8, q9, q10⟩ := k2.sizes k1.1
 have q13 := fun k hk => Nat.le_trans (q10 k hk) (by decide : 8 ≤ 1000000)
 refine qX (t_n (zcr (sw (vw #[pp b5 0, pp b7 0] rfl rfl Tryz.call85 (en Tryz.func85 Tryz.ntmps85 ?_)))))
 refine zcr (sw (xH H ti59 [.slice none 0 0, .slice none 0 0] fun b19 w20 H => sps [.slice none 0 0, .int .i64 0] (zjc (sp (pp b7 0) ?_))))
 have sz24 := H.base.size
 refine sw (oc (l02Own_ok _ t (qH (H.cells 2 rfl) 0 3) (H.get 2 rfl).1 (H.get 3 rfl).1 (H.get 4 rfl).1 qg qg qg qg) ?_)
 rintro _ w22 ⟨ra21Alive, rn21Alive, rc21Alive, ra21Bags, rn21Bags, rc21Bags, rx21Bags, rF21Bags, ra21Around, rn21Around, rc21Around, rfl, M, K⟩ _
 replace N := N.merge sz24 qm M
 replace H := H.merge K M
 obtain rfl := H.rowNB 0 rfl
 obtain rfl := H.zB (α := List Int) 1 rfl 0 rfl qj
 obtain rfl := H.Xp 2 rfl
 refine sw (zN H Tryz.underlying47 ti38 [.slice ra21Alive t.qA.length rc21Alive, .slice ra21Bags t.qE.length rc21Bags, .slice ra21Around t.qy.length rc21Around] fun b29 w30 H => sw (jv [.slice (aa b29 0) 1 1, .slice none 0 0] [(0, .slice (aa b29 0) 1 1)] (sw (xH H ti59 [.slice none 0 0, .slice none 0 0] fun b31 w32 H => sw (zt H 0 [.slice (aa b29 0) 1 1, .slice none 0 0] Tryz.sizeOf59 fun w33 H => zjc (sw (zN H Tryz.underlying22 ti2 [.int .i64 (-1)] fun b34 w35 H => sp (.slice (aa b34 0) 1 1) (zjcc (sp (.int .i64 0) ?_)))))))))
 refine zjn (xe ?_)
 replace H := H.boxRowI 0 [(-1)] 1
 replace H := H.boxRow 2 rfl 3 1 rfl qj
 replace H := H.vY (α := qO)
 obtain ⟨G36, N, hn37, H⟩ := H.freezeB 3 rfl N (H.yG [1])
 have H0 := H
 obtain ⟨G38, hg40, hn39, H⟩ := H.QZ (α := List Int) 4 rfl 2 rfl qj
 replace N : Fresh w.heap.size [G38, G36] := Fresh.ice (N.pick [1, 0]) H0 4 hg40.1 hg40.2 (H0.yG [0])
 clear H0
 obtain ⟨G41, N, hn42, H⟩ := H.vZ 5 rfl N (H.yG [0, 1])
 replace H := H.Vr 3 rfl 2 rfl 1 rfl 0 rfl
 replace N : Fresh w.heap.size [([] ++ (G36 ++ G38 ++ G41))] := (N.emp.pick [3, 2, 1, 0]).join.join.swap.join
 replace H : St _ _ [rr (aa b34 0) 1 1 2 1 ([(-1)].map (Value.int .i64)), .box b31 [.slice (aa b29 0) 1 1, .slice none 0 0] 59, rr (aa b29 0) 1 1 38 3 [.slice ra21Alive t.qA.length rc21Alive, .slice ra21Bags t.qE.length rc21Bags, .slice ra21Around t.qy.length rc21Around], rr none 0 0 0 1 [], rr none 0 0 0 1 [], rr none 0 0 0 1 [], .box b19 [.slice none 0 0, .slice none 0 0] 59, .box b9 [.slice none 0 0, .slice none 0 0] 59, .box b7 [.slice qV t.qA.length qP, .slice xk t.qE.length xf, .slice qK t.qy.length qJ] 38, .box b5 [.int .i64 s.qQ, .slice qC s.qw.length qB, .slice qL s.qx.length qI] 36, .box b3 [.slice qV t.qA.length qP, .slice xk t.qE.length xf, .slice qK t.qy.length qJ] 38, .box b1 [.int .i64 s.qQ, .slice qC s.qw.length qB, .slice qL s.qx.length qI] 36] [zg true ([] ++ (G36 ++ G38 ++ G41)) [.slice ra21Alive t.qA.length rc21Alive, .slice ra21Bags t.qE.length rc21Bags, .slice ra21Around t.qy.length rc21Around] [t], sF true G41 ra21Around rc21Around t.qy, sF true G38 ra21Bags rc21Bags t.qE, sF true G36 ra21Alive rc21Alive t.qA, zg true [] [] ([] : List qO), zg true rF21Bags rx21Bags t.qE, sF false qZ qC qB s.qw, sF false xC qL qI s.qx, sF false xK qV qP t.qA, sF false zC xk xf t.qE, sF false xB qK qJ t.qy] := H
 replace H := H.nilRow 22 1
 replace H := H.vY (α := List Int)
 refine zG (fun m' ρ w43 => ∃ (xR : Env) (a_from : Option Addr) (n_from : Nat) (c_from : Nat) (from_ : List Int) (i : Nat) (xY : Option Addr) (xM : Nat) (xQ : Nat) (g_States : List qO) (ve : List Value) (jM : List Nat) (zy : Option Addr) (qF : Nat) (zu : Nat) (g_Next : List (List Int)) (vS : List Value) (vG : List Nat), ρ = upd (upd (upd (upd (upd xR 0 (pp b5 0)) 4 (pp b19 0)) 7 (pp b31 0)) 8 (.slice a_from n_from c_from)) 9 (.int .i64 i) ∧ (grRes s t = grGo s (302 - i) i g_States g_Next) ∧ (∀ u ∈ g_States, zT s u) ∧ (0 < g_States.length ∧ g_States.length ≤ 300) ∧ (g_Next.length = i) ∧ (i ≤ g_States.length) ∧ (GrOk g_States g_Next) ∧ (from_.length = g_States.length) ∧ m' = (301 - i) ∧ Fresh w.heap.size [vG] ∧ St w w43 [rr zy qF zu 22 1 vS, rr a_from n_from c_from 2 1 (from_.map (Value.int .i64)), .box b31 [.slice xY xM xQ, .slice zy qF zu] 59, rr xY xM xQ 38 3 ve, .box b19 [.slice none 0 0, .slice none 0 0] 59, .box b9 [.slice none 0 0, .slice none 0 0] 59, .box b7 [.slice qV t.qA.length qP, .slice xk t.qE.length xf, .slice qK t.qy.length qJ] 38, .box b5 [.int .i64 s.qQ, .slice qC s.qw.length qB, .slice qL s.qx.length qI] 36, .box b3 [.slice qV t.qA.length qP, .slice xk t.qE.length xf, .slice qK t.qy.length qJ] 38, .box b1 [.int .i64 s.qQ, .slice qC s.qw.length qB, .slice qL s.qx.length qI] 36] [zg true vG vS g_Next, zg true jM ve g_States, sF false qZ qC qB s.qw, sF false xC qL qI s.qx, sF false xK qV qP t.qA, sF false zC xk xf t.qE, sF false xB qK qJ t.qy]) ((301 - 0)) ⟨_, (aa b34 0), 1, 1, [(-1)], 0, (aa b29 0), 1, 1, [t], [.slice ra21Alive t.qA.length rc21Alive, .slice ra21Bags t.qE.length rc21Bags, .slice ra21Around t.qy.length rc21Around], ([] ++ (G36 ++ G38 ++ G41)), none, 0, 0, ([] : List (List Int)), [], [], uE5, (by rfl), (by exact fun u hu => by obtain rfl := List.mem_singleton.1 hu; exact k2), qm, (by rfl), qm, (by exact GrOk.start t), (by rfl), rfl, (N.emp.pick [0]), H.pick [0, 1, 2, 3, 7, 8, 9, 10, 11, 12] [0, 1, 7, 8, 9, 10, 11]⟩ ?_
 clear H N
 rintro m' ρ w44 ⟨xR, a_from, n_from, c_from, from_, i, xY, xM, xQ, g_States, ve, jM, zy, qF, zu, g_Next, vS, vG, rfl, kr, ka, kl, kn, ki, ko, kf, rfl, N, H⟩
 have hn_from := H.Xp 1 rfl
 have hn_g_States := H.zB (α := qO) 3 rfl 1 rfl qj
 have hn_g_Next := H.zB (α := List Int) 0 rfl 0 rfl qj
 refine zcc (sp (.int .i64 i) (oF rfl (oL rfl (H.cell 2 rfl rfl) (oN rfl (sp (.bool (decide ((i : Int) < xM))) (zjn (cD rfl (fun h45 => ?_) (fun h45 => ?_))))))))
 ·skip
  refine qX (t_n (zf (xe (zcr (oF rfl (oL rfl (H.cell 2 rfl rfl) (sp (.int .i64 i) ?_)))))))
  obtain ⟨b46, rfl⟩ := H.yK 3 rfl qf
  obtain ⟨ae47Alive, ce47Alive, Fe47Alive, ae47Bags, ce47Bags, Fe47Bags, ae47Around, ce47Around, Fe47Around, hx48, H⟩ := H.rowel_StateD 3 rfl 1 rfl (iv := i) i qf qf
  refine oI rfl rfl (sw (zq [.slice ae47Alive (((g_States[i]!).qA).length) ce47Alive, .slice ae47Bags (((g_States[i]!).qE).length) ce47Bags, .slice ae47Around (((g_States[i]!).qy).length) ce47Around] Tryz.isAgg38 Tryz.sizeOf38 rfl (qH (fun j v hj => H.rowGet 3 rfl (hx48 j v hj)) 0 3) (sw (xH H ti38 [.slice none 0 0, .slice none 0 0, .slice none 0 0] fun b49 w50 H => sw (zt H 0 [.slice ae47Alive (((g_States[i]!).qA).length) ce47Alive, .slice ae47Bags (((g_States[i]!).qE).length) ce47Bags, .slice ae47Around (((g_States[i]!).qy).length) ce47Around] Tryz.sizeOf38 fun w51 H => zjc ?_)))))
  refine sp (pp b5 0) ?_
  have ks := ka (g_States[i]!) (mem_at (k := i) qf rfl)
  have nl := succ_len s (g_States[i]!)
  have sz55 := H.base.size
  have lt56 := H.ltN (L := [vG]) [3]
  refine sw (oc (l03Succ_ok _ s (g_States[i]!) (qH (H.cells 8 rfl) 0 3) (H.get 5 rfl).1 (H.get 6 rfl).1 (qH (H.cells 0 rfl) 0 3) (H.get 0 rfl).1 (H.get 1 rfl).1 (H.get 2 rfl).1 qg qg) ?_)
  rintro _ w53 ⟨ra52a, rn52a, rc52a, rx52a, rF52a, rfl, M, K⟩ _
  replace N := N.merge sz55 lt56 M
  replace H := H.merge K M
  obtain rfl := H.zB (α := qO) 0 rfl 0 rfl qj
  refine sps [.tuple #[.slice ra52a (((qY s (g_States[i]!)).1).length) rc52a, .int .i64 ((qY s (g_States[i]!)).2)], .slice ra52a (((qY s (g_States[i]!)).1).length) rc52a, .int .i64 ((qY s (g_States[i]!)).2), .slice ra52a (((qY s (g_States[i]!)).1).length) rc52a, .int .i64 ((qY s (g_States[i]!)).2)] (zjcc (sps [.int .i64 ((qY s (g_States[i]!)).2), .bool (((qY s (g_States[i]!)).2 : Int) != 0)] (zjn (xF (((qY s (g_States[i]!)).2 : Int) != 0) rfl (fun h58 => ?_) (fun h58 => ?_)))))
  ·skip
   replace h58 := bne_iff_ne.1 h58
   refine zcr (sw (jv [.slice none 0 0, .slice none 0 0] [] (sps [.slice a_from n_from c_from, .int .i64 ((qY s (g_States[i]!)).2)] (sw (zt H 6 [.slice none 0 0, .slice none 0 0] Tryz.sizeOf59 fun w59 H => sps [.slice a_from n_from c_from, .int .i64 ((qY s (g_States[i]!)).2)] (zjr (t_r (zr5 (retC3 H 6 rfl (.slice a_from n_from c_from) (.int .i64 ((qY s (g_States[i]!)).2)) rfl Tryz.isAgg59 Tryz.sizeOf59 rfl rfl rfl ⟨_, rfl, ?_⟩)))))))))
   replace H := H.erases [6, 5, 4, 2, 1, 0]
   dsimp only [vz, List.eraseIdx] at H
   refine sps [.tuple #[.agg #[.slice none 0 0, .slice none 0 0], .slice a_from n_from c_from, .int .i64 ((qY s (g_States[i]!)).2)], .agg #[.slice none 0 0, .slice none 0 0], .slice a_from n_from c_from, .int .i64 ((qY s (g_States[i]!)).2)] (sw (xH H ti59 [.slice none 0 0, .slice none 0 0] fun b60 w61 H => sw (zt H 0 [.slice none 0 0, .slice none 0 0] Tryz.sizeOf59 fun w62 H => sps [.slice a_from n_from c_from, .int .i64 ((qY s (g_States[i]!)).2)] (zjc (sw (zq [.slice none 0 0, .slice none 0 0] Tryz.isAgg59 Tryz.sizeOf59 rfl (qH (H.cells 0 rfl) 0 2) (sp (.int .i64 ((qY s (g_States[i]!)).2)) ?_)))))))
   refine sw (zt H 2 [.slice none 0 0, .slice none 0 0] Tryz.sizeOf59 fun w63 H => sp (.int .i64 ((qY s (g_States[i]!)).2)) (zjr (retC2 H 2 rfl (.int .i64 ((qY s (g_States[i]!)).2)) rfl Tryz.isAgg59 Tryz.sizeOf59 rfl rfl ⟨_, rfl, ?_⟩)))
   replace H := H.erases [4, 3, 2, 1, 0]
   dsimp only [vz, List.eraseIdx] at H
   refine sps [.tuple #[.agg #[.slice none 0 0, .slice none 0 0], .int .i64 ((qY s (g_States[i]!)).2)], .agg #[.slice none 0 0, .slice none 0 0], .int .i64 ((qY s (g_States[i]!)).2)] (sw (xH H ti59 [.slice none 0 0, .slice none 0 0] fun b64 w65 H => sw (zt H 0 [.slice none 0 0, .slice none 0 0] Tryz.sizeOf59 fun w66 H => sp (.int .i64 ((qY s (g_States[i]!)).2)) (zjcc (sps [.int .i64 ((qY s (g_States[i]!)).2), .bool (((qY s (g_States[i]!)).2 : Int) != 0)] (zjn (xF (((qY s (g_States[i]!)).2 : Int) != 0) rfl (fun h67 => ?_) (fun h => absurd (xA h) h58))))))))
   replace h67 := bne_iff_ne.1 h67
   refine zcr (sps [.int .i64 ((qY s (g_States[i]!)).2), .int .i64 0, .int .i64 ((qY s (g_States[i]!)).2)] (zjr (t_r (ret2 (.int .i64 0) (.int .i64 ((qY s (g_States[i]!)).2)) rfl rfl rfl ⟨_, rfl, ?_, H.base⟩))))
   rw [lr_c k0 (kr.trans (gr_code qf qf ql)) rfl ql]
  replace h58 := xA h58
  refine qX (t_n (zcr (sw (jh H Tryz.underlying22 ti2 fun b68 w69 H => sp (.slice (aa b68 0) 0 0) (zjcc (sp (.int .i64 0) (zjn (xe ?_))))))))
  have H0 := H
  obtain ⟨G70, hg72, hn71, H⟩ := H.QZ (α := qO) 1 rfl 0 rfl qj
  replace N : Fresh w.heap.size [G70, vG] := Fresh.ice N H0 1 hg72.1 hg72.2 (H0.yG [4])
  clear H0
  replace H := H.boxRowI 0 [] 0
  refine zG (fun m' ρ w73 => ∃ (xR : Env) (Xo : Option Addr) (QL : Nat) (Xk : Nat) (from__1 : List Int) (a_row : Option Addr) (n_row : Nat) (c_row : Nat) (row : List Int) (k : Nat) (jV : Option Addr) (zV : Nat) (jS : Nat) (g_States_1 : List qO) (jO : List Value) (yR : List Nat), ρ = upd (upd (upd (upd (upd (upd (upd (upd xR 0 (pp b5 0)) 4 (pp b19 0)) 7 (pp b31 0)) 8 (.slice Xo QL Xk)) 9 (.int .i64 i)) 11 (.slice ra52a (((qY s (g_States[i]!)).1).length) rc52a)) 13 (.slice a_row n_row c_row)) 14 (.int .i64 k) ∧ row = (zZ g_States (qY s (g_States[i]!)).1 k).2 ∧ g_States_1 = (zZ g_States (qY s (g_States[i]!)).1 k).1 ∧ ((k : Int) ≤ (((qY s (g_States[i]!)).1).length)) ∧ (from__1.length = (zZ g_States (qY s (g_States[i]!)).1 k).1.length) ∧ m' = ((((qY s (g_States[i]!)).1).length) - (k : Int)).toNat ∧ Fresh w.heap.size [G70, vG] ∧ St w w73 [rr a_row n_row c_row 2 1 (row.map (Value.int .i64)), .box b49 [.slice ae47Alive (((g_States[i]!).qA).length) ce47Alive, .slice ae47Bags (((g_States[i]!).qE).length) ce47Bags, .slice ae47Around (((g_States[i]!).qy).length) ce47Around] 38, rr zy qF zu 22 1 vS, rr Xo QL Xk 2 1 (from__1.map (Value.int .i64)), .box b31 [.slice jV zV jS, .slice zy qF zu] 59, rr jV zV jS 38 3 jO, .box b19 [.slice none 0 0, .slice none 0 0] 59, .box b9 [.slice none 0 0, .slice none 0 0] 59, .box b7 [.slice qV t.qA.length qP, .slice xk t.qE.length xf, .slice qK t.qy.length qJ] 38, .box b5 [.int .i64 s.qQ, .slice qC s.qw.length qB, .slice qL s.qx.length qI] 36, .box b3 [.slice qV t.qA.length qP, .slice xk t.qE.length xf, .slice qK t.qy.length qJ] 38, .box b1 [.int .i64 s.qQ, .slice qC s.qw.length qB, .slice qL s.qx.length qI] 36] [sF true G70 ra52a rc52a ((qY s (g_States[i]!)).1), sF true Fe47Alive ae47Alive ce47Alive ((g_States[i]!).qA), sF true Fe47Bags ae47Bags ce47Bags ((g_States[i]!).qE), sF true Fe47Around ae47Around ce47Around ((g_States[i]!).qy), zg true vG vS g_Next, zg true yR jO g_States_1, sF false qZ qC qB s.qw, sF false xC qL qI s.qx, sF false xK qV qP t.qA, sF false zC xk xf t.qE, sF false xB qK qJ t.qy]) (((((qY s (g_States[i]!)).1).length) - (0 : Int)).toNat) ⟨_, a_from, n_from, c_from, from_, (aa b68 0), 0, 0, ([] : List Int), 0, (aa b46 0), xM, xQ, g_States, ve, jM, uE8, (by rfl), (by rfl), qf, ql, rfl, N, H.pick [0, 2, 3, 4, 5, 6, 7, 8, 9, 10, 11, 12] [0, 2, 3, 4, 5, 6, 7, 8, 9, 10, 11]⟩ ?_
  clear H N
  rintro m' ρ w74 ⟨xR, Xo, QL, Xk, from__1, a_row, n_row, c_row, row, k, jV, zV, jS, g_States_1, jO, yR, rfl, rfl, rfl, i0, kf2, rfl, N, H⟩
  have hn_from := H.Xp 3 rfl
  have hn_row := H.Xp 0 rfl
  have hn_g_States := H.zB (α := qO) 5 rfl 5 rfl qj
  obtain ⟨al1, al2, al3⟩ := addSt_len (S := g_States) (nx := (qY s (g_States[i]!)).1) k
  refine zcc (sps [.int .i64 k, .slice ra52a (((qY s (g_States[i]!)).1).length) rc52a] (oN rfl (sp (.bool (decide ((k : Int) < (((qY s (g_States[i]!)).1).length)))) (zjn (cD rfl (fun h75 => ?_) (fun h75 => ?_))))))
  ·skip
   refine qX (t_n (zf (xe (zf ?_))))
   refine ji rfl H fun H => tF 0 rfl rfl H ?_
   refine tL 1 rfl rfl (fun _ h => h.cell 4 rfl rfl) H ?_
   refine rtp 2 (.slice ra52a (((qY s (g_States[i]!)).1).length) rc52a) H ?_
   refine rtp 3 (.int .i64 k) H ?_
   obtain ⟨b77, o78, rfl⟩ := H.addr 0 rfl qf
   obtain ⟨ae80Alive, ce80Alive, Fe80Alive, ae80Bags, ce80Bags, Fe80Bags, XM, XF, Fe80Around, H⟩ := H.elem_StateD 0 rfl k k qf qf qf
   refine tI 4 rfl rfl rfl (H.pick [0, 1, 2, 3, 4, 5, 6, 7, 8, 9, 10, 11] [4, 5, 6, 7, 8, 9, 10, 11, 12, 13, 14]) ?_
   refine ro 5 rfl ?_
   obtain ⟨G81, hn82, h83⟩ := H.rowIsR (α := qO) 5 rfl 9 rfl qj
   refine oq (args_eq (by rw [← hn82]) (l03Find_ok _ ((zZ g_States (qY s (g_States[i]!)).1 k).1) (((qY s (g_States[i]!)).1)[k]!) (hn82 ▸ h83) (qH (H.get 3 rfl) 0 3) (H.get 0 rfl).1 (H.get 1 rfl).1 (H.get 2 rfl).1)) H fun w85 H => ⟨H.pick [0, 1, 2, 3, 4, 5, 6, 7, 8, 9, 10, 11] [4, 5, 6, 7, 8, 9, 10, 11, 12, 13, 14], (rtp 6 (.int .i64 (firstIdx (fun zz => decide (((zZ g_States (qY s (g_States[i]!)).1 k).1)[zz]! = (((qY s (g_States[i]!)).1)[k]!))) ((zZ g_States (qY s (g_States[i]!)).1 k).1).length)) (H.pick [0, 1, 2, 3, 4, 5, 6, 7, 8, 9, 10, 11] [4, 5, 6, 7, 8, 9, 10, 11, 12, 13, 14]) ?_)⟩
   refine xI qh (t_n (zcc (sps [.int .i64 (firstIdx (fun zz => decide (((zZ g_States (qY s (g_States[i]!)).1 k).1)[zz]! = (((qY s (g_States[i]!)).1)[k]!))) ((zZ g_States (qY s (g_States[i]!)).1 k).1).length), .bool (decide ((firstIdx (fun zz => decide (((zZ g_States (qY s (g_States[i]!)).1 k).1)[zz]! = (((qY s (g_States[i]!)).1)[k]!))) ((zZ g_States (qY s (g_States[i]!)).1 k).1).length : Int) < 0))] (zjn (cD rfl (fun h87 => ?_) (fun h87 => ?_))))))
   ·skip
    refine zcr (oF rfl (oL rfl (H.cell 4 rfl rfl) (oN rfl (sp (.int .i64 zV) (zjn (zf ?_))))))
    refine c_cut (fun ρ w90 => ∃ (xR : Env) (a88 : Option Addr) (c89 : Nat), ρ = upd (upd (upd (upd (upd (upd (upd (upd (upd xR 0 (pp b5 0)) 4 (pp b19 0)) 7 (pp b31 0)) 8 (.slice Xo QL Xk)) 9 (.int .i64 i)) 11 (.slice (aa b77 o78) (((qY s (g_States[i]!)).1).length) rc52a)) 13 (.slice a_row n_row c_row)) 14 (.int .i64 k)) 15 (.int .i64 zV) ∧ Fresh w.heap.size [G70, vG] ∧ St w w90 [rr a_row n_row c_row 2 1 (((zZ g_States (qY s (g_States[i]!)).1 k).2).map (Value.int .i64)), .box b49 [.slice ae47Alive (((g_States[i]!).qA).length) ce47Alive, .slice ae47Bags (((g_States[i]!).qE).length) ce47Bags, .slice ae47Around (((g_States[i]!).qy).length) ce47Around] 38, rr zy qF zu 22 1 vS, rr Xo QL Xk 2 1 (from__1.map (Value.int .i64)), .box b31 [.slice a88 (zV + 1) c89, .slice zy qF zu] 59, rr a88 (zV + 1) c89 38 3 (jO ++ [.slice ae80Alive (((((qY s (g_States[i]!)).1)[k]!).qA).length) ce80Alive, .slice ae80Bags (((((qY s (g_States[i]!)).1)[k]!).qE).length) ce80Bags, .slice XM (((((qY s (g_States[i]!)).1)[k]!).qy).length) XF]), .box b19 [.slice none 0 0, .slice none 0 0] 59, .box b9 [.slice none 0 0, .slice none 0 0] 59, .box b7 [.slice qV t.qA.length qP, .slice xk t.qE.length xf, .slice qK t.qy.length qJ] 38, .box b5 [.int .i64 s.qQ, .slice qC s.qw.length qB, .slice qL s.qx.length qI] 36, .box b3 [.slice qV t.qA.length qP, .slice xk t.qE.length xf, .slice qK t.qy.length qJ] 38, .box b1 [.int .i64 s.qQ, .slice qC s.qw.length qB, .slice qL s.qx.length qI] 36] [zg true (yR ++ (Fe80Alive ++ Fe80Bags ++ Fe80Around)) (jO ++ [.slice ae80Alive (((((qY s (g_States[i]!)).1)[k]!).qA).length) ce80Alive, .slice ae80Bags (((((qY s (g_States[i]!)).1)[k]!).qE).length) ce80Bags, .slice XM (((((qY s (g_States[i]!)).1)[k]!).qy).length) XF]) (((zZ g_States (qY s (g_States[i]!)).1 k).1) ++ [⟨(((qY s (g_States[i]!)).1)[k]!).qA, (((qY s (g_States[i]!)).1)[k]!).qE, (((qY s (g_States[i]!)).1)[k]!).qy⟩]), sF true Fe80Alive ae80Alive ce80Alive ((((qY s (g_States[i]!)).1)[k]!).qA), sF true Fe80Bags ae80Bags ce80Bags ((((qY s (g_States[i]!)).1)[k]!).qE), sF true Fe80Around XM XF ((((qY s (g_States[i]!)).1)[k]!).qy), atF b77 (o78 + (k : Int).toNat * 3) [.slice ae80Alive (((((qY s (g_States[i]!)).1)[k]!).qA).length) ce80Alive, .slice ae80Bags (((((qY s (g_States[i]!)).1)[k]!).qE).length) ce80Bags, .slice XM (((((qY s (g_States[i]!)).1)[k]!).qy).length) XF], sF true G70 (aa b77 o78) rc52a ((qY s (g_States[i]!)).1), sF true Fe47Alive ae47Alive ce47Alive ((g_States[i]!).qA), sF true Fe47Bags ae47Bags ce47Bags ((g_States[i]!).qE), sF true Fe47Around ae47Around ce47Around ((g_States[i]!).qy), zg true vG vS g_Next, sF false qZ qC qB s.qw, sF false xC qL qI s.qx, sF false xK qV qP t.qA, sF false zC xk xf t.qE, sF false xB qK qJ t.qy]) ?_ ?_
    ·skip
     refine yS rfl H [0, 1, 2, 3, 6, 7, 8, 9, 10, 11] fun H => ?_
     have S := H.jW [0, 1, 2, 3, 6, 7, 8, 9, 10, 11] [0, 1, 2, 3, 4, 5, 6, 7, 8, 9, 10, 11, 12, 13, 14]
     refine tF 0 rfl rfl S ?_
     refine rtp 2 (.slice (aa b77 o78) (((qY s (g_States[i]!)).1).length) rc52a) S ?_
     refine rtp 3 (.int .i64 k) S ?_
     refine tI 4 rfl rfl rfl S ?_
     refine rt 5 (.agg #[.slice ae80Alive (((((qY s (g_States[i]!)).1)[k]!).qA).length) ce80Alive, .slice ae80Bags (((((qY s (g_States[i]!)).1)[k]!).qE).length) ce80Bags, .slice XM (((((qY s (g_States[i]!)).1)[k]!).qy).length) XF]) (Qh (cs := [.slice ae80Alive (((((qY s (g_States[i]!)).1)[k]!).qA).length) ce80Alive, .slice ae80Bags (((((qY s (g_States[i]!)).1)[k]!).qE).length) ce80Bags, .slice XM (((((qY s (g_States[i]!)).1)[k]!).qy).length) XF]) Tryz.isAgg38 Tryz.sizeOf38 rfl (fun _ h => qH (h.get 3 rfl) 0 3)) S ?_
     refine vW [1, 6] qh qm (jF rfl ?_ (jF rfl ?_ vX))
     ·skip
      refine zI (.slice jV zV jS) Tryz.isAgg47 rfl (H.cell 4 rfl rfl) (⟨H.pick [0, 1, 2, 3, 6, 7, 8, 9, 10, 11] [0, 1, 2, 3, 4, 5, 6, 7, 8, 9, 10, 11, 12, 13, 14], (ro 6 rfl (zN H Tryz.underlying47 ti38 [.slice ae80Alive (((((qY s (g_States[i]!)).1)[k]!).qA).length) ce80Alive, .slice ae80Bags (((((qY s (g_States[i]!)).1)[k]!).qE).length) ce80Bags, .slice XM (((((qY s (g_States[i]!)).1)[k]!).qy).length) XF] fun b92 w93 H => ⟨H.pick [1, 2, 3, 4, 7, 8, 9, 10, 11, 12] [0, 1, 2, 3, 4, 5, 6, 7, 8, 9, 10, 11, 12, 13, 14], (ro 7 rfl ?_)⟩))⟩)
      refine zX H 6 rfl 0 rfl Tryz.underlying47 ti38 rfl qj rfl rfl rfl (by simp [Value.oneCell', Value.cells]) qp qf fun a94 c95 w96 H => ?_
      replace H := H.Vr 9 rfl 0 rfl 1 rfl 2 rfl
      refine ⟨H.pick [1, 2, 3, 4, 7, 8, 9, 10, 11, 12] [1, 2, 3, 4, 5, 6, 7, 8, 9, 10, 11, 12, 13, 14, 15], (tF 8 rfl rfl (H.pick [1, 2, 3, 4, 7, 8, 9, 10, 11, 12] [1, 2, 3, 4, 5, 6, 7, 8, 9, 10, 11, 12, 13, 14, 15]) ?_)⟩
      refine ro 9 rfl (xU H 5 [.slice a94 (zV + 1) c95, .slice zy qF zu] Tryz.sizeOf47 fun w97 H => ⟨H.pick [1, 2, 3, 4, 7, 8, 9, 10, 11, 12] [1, 2, 3, 4, 5, 6, 7, 8, 9, 10, 11, 12, 13, 14, 15], (xI qh ((meet ⟨_, a94, c95, uE9, N, H.pick [1, 2, 3, 4, 5, 6, 7, 8, 9, 10, 11, 12] [0, 1, 2, 3, 4, 5, 6, 7, 8, 9, 11, 12, 13, 14, 15]⟩)))⟩)
     refine zN H Tryz.underlying47 ti38 [.slice ae80Alive (((((qY s (g_States[i]!)).1)[k]!).qA).length) ce80Alive, .slice ae80Bags (((((qY s (g_States[i]!)).1)[k]!).qE).length) ce80Bags, .slice XM (((((qY s (g_States[i]!)).1)[k]!).qy).length) XF] fun b98 w99 H => ⟨H.pick [1, 2, 3, 4, 7, 8, 9, 10, 11, 12] [0, 1, 2, 3, 4, 5, 6, 7, 8, 9, 10, 11, 12, 13, 14], (ro 1 rfl (zI (.slice jV zV jS) Tryz.isAgg47 rfl (H.cell 5 rfl rfl) (⟨H.pick [1, 2, 3, 4, 7, 8, 9, 10, 11, 12] [0, 1, 2, 3, 4, 5, 6, 7, 8, 9, 10, 11, 12, 13, 14], (ro 7 rfl ?_)⟩)))⟩
     refine zX H 6 rfl 0 rfl Tryz.underlying47 ti38 rfl qj rfl rfl rfl (by simp [Value.oneCell', Value.cells]) qp qf fun a100 c101 w102 H => ?_
     replace H := H.Vr 9 rfl 0 rfl 1 rfl 2 rfl
     refine ⟨H.pick [1, 2, 3, 4, 7, 8, 9, 10, 11, 12] [1, 2, 3, 4, 5, 6, 7, 8, 9, 10, 11, 12, 13, 14, 15], (tF 8 rfl rfl (H.pick [1, 2, 3, 4, 7, 8, 9, 10, 11, 12] [1, 2, 3, 4, 5, 6, 7, 8, 9, 10, 11, 12, 13, 14, 15]) ?_)⟩
     refine ro 9 rfl (xU H 5 [.slice a100 (zV + 1) c101, .slice zy qF zu] Tryz.sizeOf47 fun w103 H => ⟨H.pick [1, 2, 3, 4, 7, 8, 9, 10, 11, 12] [1, 2, 3, 4, 5, 6, 7, 8, 9, 10, 11, 12, 13, 14, 15], (xI qh ((meet ⟨_, a100, c101, uE9, N, H.pick [1, 2, 3, 4, 5, 6, 7, 8, 9, 10, 11, 12] [0, 1, 2, 3, 4, 5, 6, 7, 8, 9, 11, 12, 13, 14, 15]⟩)))⟩)
    clear H N
    rintro ρ w104 ⟨xR, a88, c89, rfl, N, H⟩
    refine t_n (zh (sps [.slice Xo QL Xk, .int .i64 i] (sw (zN H Tryz.underlying22 ti2 [.int .i64 i] fun b105 w106 H => sw (zX H 4 rfl 0 rfl Tryz.underlying22 ti2 rfl qj rfl rfl rfl (by simp [Value.oneCell', Value.cells]) qp qf fun a107 c108 w109 H => ?_)))))
    rw [snocI] at H
    refine sp (.slice a107 (QL + 1) c108) (zjn (zh (sps [.slice a_row n_row c_row, .int .i64 zV] (sw (zN H Tryz.underlying22 ti2 [.int .i64 zV] fun b110 w111 H => sw (zX H 2 rfl 0 rfl Tryz.underlying22 ti2 rfl qj rfl rfl rfl (by simp [Value.oneCell', Value.cells]) qp qf fun a112 c113 w114 H => ?_))))))
    rw [snocI] at H
    refine sp (.slice a112 (n_row + 1) c113) (zi (b_n (t_n (zh (sp (.int .i64 k) (sw (zK k 1 rfl rfl qf (sp (.int .i64 (k + 1)) (zi ?_)))))))))
    refine xh (m' := ((((qY s (g_States[i]!)).1).length) - ((k + 1) : Int)).toNat) qf ⟨_, a107, QL + 1, c108, (from__1 ++ [(i : Int)]), a112, n_row + 1, c113, (((zZ g_States (qY s (g_States[i]!)).1 k).2) ++ [(zV : Int)]), k + 1, a88, zV + 1, c89, (((zZ g_States (qY s (g_States[i]!)).1 k).1) ++ [⟨(((qY s (g_States[i]!)).1)[k]!).qA, (((qY s (g_States[i]!)).1)[k]!).qE, (((qY s (g_States[i]!)).1)[k]!).qy⟩]), jO ++ [.slice ae80Alive (((((qY s (g_States[i]!)).1)[k]!).qA).length) ce80Alive, .slice ae80Bags (((((qY s (g_States[i]!)).1)[k]!).qE).length) ce80Bags, .slice XM (((((qY s (g_States[i]!)).1)[k]!).qy).length) XF], (yR ++ (Fe80Alive ++ Fe80Bags ++ Fe80Around)), uE8, ?_, ?_, ?_, ?_, rfl, N, H.pick [2, 3, 4, 5, 6, 7, 8, 9, 10, 11, 12, 13] [5, 6, 7, 8, 9, 0, 10, 11, 12, 13, 14]⟩
    · first | exact (Va (k := k) ‹_›).2 | (refine Eq.trans ?_ (Vb (k := k) ‹_›).2; congr 2 <;> omega)
    · first | exact (Vb (k := k) ‹_›).1 | exact (Va (k := k) ‹_›).1
    · omega
    · first | (rw [← (Vb (k := k) ‹_›).1, List.length_append, List.length_append]; exact congrArg (· + 1) kf2) | (rw [← (Va (k := k) ‹_›).1]; omega)
   refine qX (t_n (zh (sps [.slice a_row n_row c_row, .int .i64 (firstIdx (fun zz => decide (((zZ g_States (qY s (g_States[i]!)).1 k).1)[zz]! = (((qY s (g_States[i]!)).1)[k]!))) ((zZ g_States (qY s (g_States[i]!)).1 k).1).length)] (sw (zN H Tryz.underlying22 ti2 [.int .i64 (firstIdx (fun zz => decide (((zZ g_States (qY s (g_States[i]!)).1 k).1)[zz]! = (((qY s (g_States[i]!)).1)[k]!))) ((zZ g_States (qY s (g_States[i]!)).1 k).1).length)] fun b115 w116 H => ?_)))))
   refine sw (zX H 1 rfl 0 rfl Tryz.underlying22 ti2 rfl qj rfl rfl rfl (by simp [Value.oneCell', Value.cells]) qp qf fun a117 c118 w119 H => ?_)
   rw [snocI] at H
   refine sp (.slice a117 (n_row + 1) c118) (zi (b_n (t_n (zh (sp (.int .i64 k) (sw (zK k 1 rfl rfl qf (sp (.int .i64 (k + 1)) (zi ?_)))))))))
   refine xh (m' := ((((qY s (g_States[i]!)).1).length) - ((k + 1) : Int)).toNat) qf ⟨_, Xo, QL, Xk, from__1, a117, n_row + 1, c118, (((zZ g_States (qY s (g_States[i]!)).1 k).2) ++ [firstIdx (fun zz => decide (((zZ g_States (qY s (g_States[i]!)).1 k).1)[zz]! = (((qY s (g_States[i]!)).1)[k]!))) ((zZ g_States (qY s (g_States[i]!)).1 k).1).length]), k + 1, jV, zV, jS, ((zZ g_States (qY s (g_States[i]!)).1 k).1), jO, yR, uE8, ?_, ?_, ?_, ?_, rfl, N, H.pick [1, 2, 3, 4, 5, 6, 7, 8, 9, 10, 11, 12] [4, 5, 6, 7, 8, 9, 10, 11, 12, 13, 14]⟩
   · first | exact (Va (k := k) ‹_›).2 | (refine Eq.trans ?_ (Vb (k := k) ‹_›).2; congr 2 <;> omega)
   · first | exact (Vb (k := k) ‹_›).1 | exact (Va (k := k) ‹_›).1
   · omega
   · first | (rw [← (Vb (k := k) ‹_›).1, List.length_append, List.length_append]; exact congrArg (· + 1) kf2) | (rw [← (Va (k := k) ‹_›).1]; omega)
  refine zx4 (zcr (oF rfl (oL rfl (H.cell 4 rfl rfl) (sp (.slice a_row n_row c_row) (sw (zN H Tryz.underlying27 ti22 [.slice a_row n_row c_row] fun b120 w121 H => ?_))))))
  obtain ⟨G125, N, hn126, H⟩ := H.vZ 1 rfl N (H.yG [0, 4])
  refine sw (zX H 3 rfl 0 rfl Tryz.underlying27 ti22 rfl qj rfl rfl rfl (by simp [Value.oneCell', Value.cells]) qp qf fun a122 c123 w124 H => ?_)
  replace H := H.yh 5 rfl 0 rfl
  replace N : Fresh w.heap.size [(vG ++ G125), G70] := (N.pick [2, 0, 1]).join
  refine oF rfl (sw (xU H 5 [.slice jV zV jS, .slice a122 (qF + 1) c123] Tryz.sizeOf27 fun w127 H => zjc (oF rfl (oL rfl (H.cell 5 rfl rfl) (oN rfl (sp (.bool (decide ((zV : Int) > 300))) (zjn (cD rfl (fun h128 => ?_) (fun h128 => ?_)))))))))
  ·skip
   refine zcr (sw (jv [.slice none 0 0, .slice none 0 0] [] (sp (.slice Xo QL Xk) (sw (zt H 7 [.slice none 0 0, .slice none 0 0] Tryz.sizeOf59 fun w129 H => sps [.slice Xo QL Xk, .int .i64 3] (zjr (zr5 (retC3 H 7 rfl (.slice Xo QL Xk) (.int .i64 3) rfl Tryz.isAgg59 Tryz.sizeOf59 rfl rfl rfl ⟨_, rfl, ?_⟩))))))))
   replace H := H.erases [7, 6, 5, 3, 2, 1, 0]
   dsimp only [vz, List.eraseIdx] at H
   refine sps [.tuple #[.agg #[.slice none 0 0, .slice none 0 0], .slice Xo QL Xk, .int .i64 3], .agg #[.slice none 0 0, .slice none 0 0], .slice Xo QL Xk, .int .i64 3] (sw (xH H ti59 [.slice none 0 0, .slice none 0 0] fun b130 w131 H => sw (zt H 0 [.slice none 0 0, .slice none 0 0] Tryz.sizeOf59 fun w132 H => sps [.slice Xo QL Xk, .int .i64 3] (zjc (sw (zq [.slice none 0 0, .slice none 0 0] Tryz.isAgg59 Tryz.sizeOf59 rfl (qH (H.cells 0 rfl) 0 2) (sp (.int .i64 3) (sw (zt H 2 [.slice none 0 0, .slice none 0 0] Tryz.sizeOf59 fun w133 H => sp (.int .i64 3) ?_)))))))))
   refine zjr (retC2 H 2 rfl (.int .i64 3) rfl Tryz.isAgg59 Tryz.sizeOf59 rfl rfl ⟨_, rfl, ?_⟩)
   replace H := H.erases [4, 3, 2, 1, 0]
   dsimp only [vz, List.eraseIdx] at H
   refine sps [.tuple #[.agg #[.slice none 0 0, .slice none 0 0], .int .i64 3], .agg #[.slice none 0 0, .slice none 0 0], .int .i64 3] (sw (xH H ti59 [.slice none 0 0, .slice none 0 0] fun b134 w135 H => sw (zt H 0 [.slice none 0 0, .slice none 0 0] Tryz.sizeOf59 fun w136 H => sp (.int .i64 3) (zjcc (sps [.int .i64 3, .bool true] (zjn (xF true rfl (fun _ => zcr (sps [.int .i64 3, .int .i64 0, .int .i64 3] (zjr (t_r (ret2 (.int .i64 0) (.int .i64 3) rfl rfl rfl ⟨_, rfl, ?_, H.base⟩))))) (fun h => absurd h qj))))))))
   rw [lr_c k0 (kr.trans (gr_many qf qf qf (k := k) qf qf)) rfl qj]
  refine qX (b_n (t_n (zh (sp (.int .i64 i) (sw (zK i 1 rfl rfl qf (sp (.int .i64 (i + 1)) (zi (xh (m' := (301 - (i + 1))) qf ⟨_, Xo, QL, Xk, from__1, i + 1, jV, zV, jS, ((zZ g_States (qY s (g_States[i]!)).1 k).1), jO, yR, a122, qF + 1, c123, (g_Next ++ [((zZ g_States (qY s (g_States[i]!)).1 k).2)]), vS ++ [.slice a_row n_row c_row], (vG ++ G125), uE5, ?_, ?_, ?_, ?_, ?_, ?_, ?_, rfl, (N.pick [0]), H.pick [3, 4, 5, 6, 7, 8, 9, 10, 11, 12] [0, 7, 8, 9, 10, 11, 12]⟩)))))))))
  · exact kr.trans (gr_go qf qf qf (k := k) qf qf)
  · exact addSt_mem ka succ_ok k qf
  · omega
  · simp; omega
  · omega
  · exact ko.next qf qf
  · omega
 refine zx4 (zcr (sw (zq [.slice xY xM xQ, .slice zy qF zu] Tryz.isAgg59 Tryz.sizeOf59 rfl (qH (H.cells 2 rfl) 0 2) (sp (.slice a_from n_from c_from) (sw (zt H 4 [.slice xY xM xQ, .slice zy qF zu] Tryz.sizeOf59 fun w137 H => sps [.slice a_from n_from c_from, .int .i64 0] (zjr (retC3 H 4 rfl (.slice a_from n_from c_from) (.int .i64 0) rfl Tryz.isAgg59 Tryz.sizeOf59 rfl rfl rfl ⟨_, rfl, ?_⟩))))))))
 replace H := H.erases [4, 2]
 dsimp only [vz, List.eraseIdx] at H
 refine sps [.tuple #[.agg #[.slice xY xM xQ, .slice zy qF zu], .slice a_from n_from c_from, .int .i64 0], .agg #[.slice xY xM xQ, .slice zy qF zu], .slice a_from n_from c_from, .int .i64 0] (sw (xH H ti59 [.slice none 0 0, .slice none 0 0] fun b138 w139 H => sw (zt H 0 [.slice xY xM xQ, .slice zy qF zu] Tryz.sizeOf59 fun w140 H => sps [.slice a_from n_from c_from, .int .i64 0] (zjc ?_))))
 refine sw (zq [.slice xY xM xQ, .slice zy qF zu] Tryz.isAgg59 Tryz.sizeOf59 rfl (qH (H.cells 0 rfl) 0 2) (sp (.int .i64 0) (sw (zt H 4 [.slice xY xM xQ, .slice zy qF zu] Tryz.sizeOf59 fun w141 H => sp (.int .i64 0) (zjr (retC2 H 4 rfl (.int .i64 0) rfl Tryz.isAgg59 Tryz.sizeOf59 rfl rfl ⟨_, rfl, ?_⟩))))))
 replace H := H.erases [6, 5, 4, 2, 0]
 dsimp only [vz, List.eraseIdx] at H
 refine sps [.tuple #[.agg #[.slice xY xM xQ, .slice zy qF zu], .int .i64 0], .agg #[.slice xY xM xQ, .slice zy qF zu], .int .i64 0] (sw (xH H ti59 [.slice none 0 0, .slice none 0 0] fun b142 w143 H => sw (zt H 0 [.slice xY xM xQ, .slice zy qF zu] Tryz.sizeOf59 fun w144 H => sp (.int .i64 0) (zjcc (sps [.int .i64 0, .bool false] (zjn (xF false rfl (fun h => absurd h qj) (fun _ => qX (t_n (zcr (sw (vw #[pp b142 0] rfl rfl Tryz.call81 ?_))))))))))))
 refine en Tryz.func81 Tryz.ntmps81 ?_
 refine zcr (sps [.slice none 0 0, .bool false] (zjc (sps [pp b142 0, pp b142 0] (oF rfl (oL rfl (H.cell 0 rfl rfl) (oN rfl (sp (.int .i64 qF) (zjc (sp (.int .i64 qF) (sw (jA H Tryz.underlying22 ti2 qF rfl rfl qf qf qf fun b145 w146 H => sp (.slice (aa b145 0) qF qF) (zjc (sp (.int .i64 qF) (sw (o_makeB H Tryz.underlying26 ti4 qF rfl rfl qf qf qf fun b147 w148 H => sp (.slice (aa b147 0) qF qF) ?_)))))))))))))))
 refine zjc (sps [.int .i64 qF, .int .i64 qF] (zjn (zf (xe ?_))))
 refine zG (fun m' ρ w149 => ∃ (xR : Env) (left : Int) (done : List Bool) (depth : List Int), ρ = upd (upd (upd (upd (upd xR 0 (pp b142 0)) 4 (.int .i64 qF)) 5 (.slice (aa b145 0) qF qF)) 6 (.slice (aa b147 0) qF qF)) 7 (.int .i64 left) ∧ (LayI g_Next depth done left) ∧ m' = (left : Int).toNat ∧ Fresh w.heap.size [vG] ∧ St w w149 [rr (aa b147 0) qF qF 4 1 (done.map (Value.bool)), rr (aa b145 0) qF qF 2 1 (depth.map (Value.int .i64)), .box b142 [.slice xY xM xQ, .slice zy qF zu] 59, rr zy qF zu 22 1 vS, rr xY xM xQ 38 3 ve, .box b3 [.slice qV t.qA.length qP, .slice xk t.qE.length xf, .slice qK t.qy.length qJ] 38, .box b1 [.int .i64 s.qQ, .slice qC s.qw.length qB, .slice qL s.qx.length qI] 36] [zg true vG vS g_Next, zg true jM ve g_States, sF false qZ qC qB s.qw, sF false xC qL qI s.qx, sF false xK qV qP t.qA, sF false zC xk xf t.qE, sF false xB qK qJ t.qy]) ((qF : Int).toNat) ⟨_, qF, (List.replicate qF (false)), (List.replicate qF (0 : Int)), uE5, (by rw [show qF = g_Next.length by omega]; exact LayI.start g_Next), rfl, N, H⟩ ?_
 clear H N
 rintro m' ρ w150 ⟨xR, left, done, depth, rfl, l1, rfl, N, H⟩
 have hn_done := H.rowNB 0 rfl
 have hn_depth := H.Xp 1 rfl
 refine zcc (sps [.int .i64 left, .bool (decide ((left : Int) > 0))] (zjn (cD rfl (fun h151 => ?_) (fun h151 => ?_))))
 ·skip
  refine qX (t_n (xe (zcr (sp (.bool false) (zjcc (sp (.int .i64 0) (zjn (xe ?_))))))))
  refine zG (fun m' ρ w152 => ∃ (xR : Env) (left_1 : Int) (found : Bool) (i_1 : Nat) (done_1 : List Bool) (depth_1 : List Int), ρ = upd (upd (upd (upd (upd (upd (upd xR 0 (pp b142 0)) 4 (.int .i64 qF)) 5 (.slice (aa b145 0) qF qF)) 6 (.slice (aa b147 0) qF qF)) 7 (.int .i64 left_1)) 8 (.bool found)) 9 (.int .i64 i_1) ∧ ((i_1 : Int) ≤ qF) ∧ (LayI g_Next depth_1 done_1 left_1) ∧ (found = true → left_1 < left) ∧ (found = false → left_1 = left ∧ NoneR g_Next done_1 i_1) ∧ (left_1 ≤ left) ∧ m' = (qF - (i_1 : Int)).toNat ∧ Fresh w.heap.size [vG] ∧ St w w152 [rr (aa b147 0) qF qF 4 1 (done_1.map (Value.bool)), rr (aa b145 0) qF qF 2 1 (depth_1.map (Value.int .i64)), .box b142 [.slice xY xM xQ, .slice zy qF zu] 59, rr zy qF zu 22 1 vS, rr xY xM xQ 38 3 ve, .box b3 [.slice qV t.qA.length qP, .slice xk t.qE.length xf, .slice qK t.qy.length qJ] 38, .box b1 [.int .i64 s.qQ, .slice qC s.qw.length qB, .slice qL s.qx.length qI] 36] [zg true vG vS g_Next, zg true jM ve g_States, sF false qZ qC qB s.qw, sF false xC qL qI s.qx, sF false xK qV qP t.qA, sF false zC xk xf t.qE, sF false xB qK qJ t.qy]) ((qF - (0 : Int)).toNat) ⟨_, left, false, 0, done, depth, uE7, qf, ql, (by exact fun h => by cases h), (by exact fun _ => ⟨rfl, fun j hj => by omega⟩), qf, rfl, N, H⟩ ?_
  clear H N
  rintro m' ρ w153 ⟨xR, left_1, found, i_1, done_1, depth_1, rfl, i0, l2, l3, l4, l5, rfl, N, H⟩
  have hn_done := H.rowNB 0 rfl
  have hn_depth := H.Xp 1 rfl
  refine zcc (sps [.int .i64 i_1, .int .i64 qF, .bool (decide ((i_1 : Int) < qF))] (zjn (cD rfl (fun h154 => ?_) (fun h154 => ?_))))
  ·skip
   refine qX (t_n (zf (xe (zcc (sps [.slice (aa b147 0) qF qF, .int .i64 i_1] (oI rfl rfl (oL rfl (H.rowBool 0 rfl (iv := i_1) (i := i_1) qf qf) (zjn (xF (done_1[i_1]!) rfl (fun h155 => ?_) (fun h155 => ?_))))))))))
   ·skip
    refine c_exit (t_x (b_x (t_n (zh (sp (.int .i64 i_1) (sw (zK i_1 1 rfl rfl qf (sp (.int .i64 (i_1 + 1)) (zi (xh (m' := (qF - ((i_1 + 1) : Int)).toNat) qf ⟨_, left_1, found, i_1 + 1, done_1, depth_1, uE7, ?_, ?_, ?_, ?_, ?_, rfl, N, H⟩))))))))))
    · omega
    · first | assumption | exact l2.set qf ql (fun q hq => by have := (ko.rows i_1 qf q hq).2; omega) (fun q hq => rdTo_true ‹rdTo _ _ _ = true› q qf) qf
    · first | assumption | exact fun _ => by omega
    · first | exact fun h => Bool.noConfusion h | exact fun h => ⟨(l4 h).1, (l4 h).2.succ (.inl ql)⟩ | exact fun h => ⟨(l4 h).1, (l4 h).2.succ (.inr (by obtain ⟨q, h1, h2⟩ := rdTo_false ‹rdTo _ _ _ = false›; exact ⟨q, by omega, h2⟩))⟩
    · omega
   refine qX (t_n (zcr (sp (.bool true) (zjc (sp (.int .i64 0) (zjcc (sp (.int .i64 0) (zjn (xe ?_)))))))))
   refine zG (fun m' ρ w156 => ∃ (xR : Env) (ready : Bool) (best : Int) (k : Nat), ρ = upd (upd (upd (upd (upd (upd (upd (upd (upd (upd xR 0 (pp b142 0)) 4 (.int .i64 qF)) 5 (.slice (aa b145 0) qF qF)) 6 (.slice (aa b147 0) qF qF)) 7 (.int .i64 left_1)) 8 (.bool found)) 9 (.int .i64 i_1)) 10 (.bool ready)) 11 (.int .i64 best)) 12 (.int .i64 k) ∧ ready = (rdTo done_1 (g_Next[i_1]!) k) ∧ best = (mxF (fun j => depth_1[j]!) (g_Next[i_1]!) k) ∧ ((k : Int) ≤ ((g_Next[i_1]!).length)) ∧ m' = (((g_Next[i_1]!).length) - (k : Int)).toNat ∧ Fresh w.heap.size [vG] ∧ St w w156 [rr (aa b147 0) qF qF 4 1 (done_1.map (Value.bool)), rr (aa b145 0) qF qF 2 1 (depth_1.map (Value.int .i64)), .box b142 [.slice xY xM xQ, .slice zy qF zu] 59, rr zy qF zu 22 1 vS, rr xY xM xQ 38 3 ve, .box b3 [.slice qV t.qA.length qP, .slice xk t.qE.length xf, .slice qK t.qy.length qJ] 38, .box b1 [.int .i64 s.qQ, .slice qC s.qw.length qB, .slice qL s.qx.length qI] 36] [zg true vG vS g_Next, zg true jM ve g_States, sF false qZ qC qB s.qw, sF false xC qL qI s.qx, sF false xK qV qP t.qA, sF false zC xk xf t.qE, sF false xB qK qJ t.qy]) ((((g_Next[i_1]!).length) - (0 : Int)).toNat) ⟨_, true, 0, 0, uE10, (by rfl), (by rfl), qf, rfl, N, H⟩ ?_
   clear H N
   rintro m' ρ w157 ⟨xR, ready, best, k, rfl, rfl, rfl, i0, rfl, N, H⟩
   refine zcc (sps [.int .i64 k, pp b142 0, pp b142 0] (oF rfl (oL rfl (H.cell 2 rfl rfl) (sp (.int .i64 i_1) ?_))))
   obtain ⟨b158, rfl⟩ := H.yK 3 rfl qf
   refine oI rfl rfl ?_
   obtain ⟨a159, c160, G161, s162, h163, H⟩ := H.jE 3 rfl 0 rfl (iv := i_1) i_1 qf qf
   refine oL rfl (h163) (oN rfl (sp (.bool (decide ((k : Int) < ((g_Next[i_1]!).length)))) (zjn (cD rfl (fun h164 => ?_) (fun h164 => ?_)))))
   ·skip
    obtain ⟨r1, r2⟩ := ko.rows i_1 qf k qf
    have r3 := l2.nn (((g_Next[i_1]!)[k]!).toNat) qf
    have r4 := l2.ol
    have r5 := l2.dl
    have r6 := l2.lf
    have r7 := List.count_le_length (a := true) (l := done_1)
    have r8 := ko.lens i_1 qf
    refine qX (t_n (zf (xe (zcr (sps [pp b142 0, pp b142 0] (oF rfl (oL rfl (H.cell 2 rfl rfl) (sp (.int .i64 i_1) (oI rfl rfl ?_)))))))))
    obtain ⟨a165, c166, G167, s168, h169, H⟩ := H.jE 3 rfl 1 rfl (iv := i_1) i_1 qf qf
    refine oL rfl (h169) (sp (.int .i64 k) ?_)
    obtain ⟨b170, o171, rfl⟩ := H.addr 0 rfl qf
    refine oI rfl rfl (oL rfl (H.jD 0 rfl k qf qf) (sp (.int .i64 ((g_Next[i_1]!)[k]!)) (zjc (sps [.bool (rdTo done_1 (g_Next[i_1]!) k), .bool (rdTo done_1 (g_Next[i_1]!) k)] ?_))))
    cases h173 : ((rdTo done_1 (g_Next[i_1]!) k))
    ·skip
     refine zn [59, 60, 61, 62] (sps [.bool false, .bool false] (zjn (zh (sps [.int .i64 (mxF (fun j => depth_1[j]!) (g_Next[i_1]!) k), .slice (aa b145 0) qF qF, .int .i64 ((g_Next[i_1]!)[k]!)] (oI rfl rfl (oL rfl (H.rowInt 1 rfl (iv := (g_Next[i_1]!)[k]!) (i := (((g_Next[i_1]!)[k]!).toNat)) qf qf) (sw (zK (depth_1[((g_Next[i_1]!)[k]!).toNat]!) 1 rfl rfl qf (sw (oq (l00Max_ok w157 (mxF (fun j => depth_1[j]!) (g_Next[i_1]!) k) ((depth_1[((g_Next[i_1]!)[k]!).toNat]!) + 1)) H fun w175 H => sp (.int .i64 (max (mxF (fun j => depth_1[j]!) (g_Next[i_1]!) k) ((depth_1[((g_Next[i_1]!)[k]!).toNat]!) + 1))) ?_))))))))))
     refine zi (b_n (t_n (zh (sp (.int .i64 k) (sw (zK k 1 rfl rfl qf (sp (.int .i64 (k + 1)) (zi (xh (m' := (((g_Next[i_1]!).length) - ((k + 1) : Int)).toNat) qf ⟨_, false, max (mxF (fun j => depth_1[j]!) (g_Next[i_1]!) k) ((depth_1[((g_Next[i_1]!)[k]!).toNat]!) + 1), k + 1, uE10, ?_, ?_, ?_, rfl, N, H.pick [0, 1, 2, 3, 4, 5, 6] [2, 3, 4, 5, 6, 7, 8]⟩)))))))))
     · first | rfl | (rw [rdTo, ‹rdTo _ _ _ = false›]; rfl) | (rw [rdTo, ‹rdTo _ _ _ = true›]; rfl)
     · rfl
     · omega
    refine qR 58 rfl rfl (sp (.slice (aa b147 0) qF qF) (qR 58 rfl rfl (sp (.int .i64 ((g_Next[i_1]!)[k]!)) (qR 58 rfl rfl (oI rfl rfl (qR 58 rfl rfl (oL rfl (H.rowBool 0 rfl (iv := (g_Next[i_1]!)[k]!) (i := (((g_Next[i_1]!)[k]!).toNat)) qf qf) (sps [.bool (done_1[((g_Next[i_1]!)[k]!).toNat]!), .bool (done_1[((g_Next[i_1]!)[k]!).toNat]!)] (zjn (zh (sps [.int .i64 (mxF (fun j => depth_1[j]!) (g_Next[i_1]!) k), .slice (aa b145 0) qF qF, .int .i64 ((g_Next[i_1]!)[k]!)] (oI rfl rfl ?_))))))))))))
    refine oL rfl (H.rowInt 1 rfl (iv := (g_Next[i_1]!)[k]!) (i := (((g_Next[i_1]!)[k]!).toNat)) qf qf) (sw (zK (depth_1[((g_Next[i_1]!)[k]!).toNat]!) 1 rfl rfl qf (sw (oq (l00Max_ok w157 (mxF (fun j => depth_1[j]!) (g_Next[i_1]!) k) ((depth_1[((g_Next[i_1]!)[k]!).toNat]!) + 1)) H fun w178 H => sp (.int .i64 (max (mxF (fun j => depth_1[j]!) (g_Next[i_1]!) k) ((depth_1[((g_Next[i_1]!)[k]!).toNat]!) + 1))) (zi (b_n (t_n (zh (sp (.int .i64 k) (sw (zK k 1 rfl rfl qf (sp (.int .i64 (k + 1)) (zi ?_)))))))))))))
    refine xh (m' := (((g_Next[i_1]!).length) - ((k + 1) : Int)).toNat) qf ⟨_, done_1[((g_Next[i_1]!)[k]!).toNat]!, max (mxF (fun j => depth_1[j]!) (g_Next[i_1]!) k) ((depth_1[((g_Next[i_1]!)[k]!).toNat]!) + 1), k + 1, uE10, ?_, ?_, ?_, rfl, N, H.pick [0, 1, 2, 3, 4, 5, 6] [2, 3, 4, 5, 6, 7, 8]⟩
    · first | rfl | (rw [rdTo, ‹rdTo _ _ _ = false›]; rfl) | (rw [rdTo, ‹rdTo _ _ _ = true›]; rfl)
    · rfl
    · omega
   refine zx4 (zcr (sp (.bool (rdTo done_1 (g_Next[i_1]!) k)) (zjn (xF ((rdTo done_1 (g_Next[i_1]!) k)) rfl (fun h180 => ?_) (fun h180 => ?_)))))
   ·skip
    have r4 := l2.ol
    have r6 := l2.lf
    have r7 := List.count_le_length (a := true) (l := done_1)
    refine zcr (sps [.slice (aa b147 0) qF qF, .int .i64 i_1] (oI rfl rfl (sw (Qi H 0 rfl true Tryz.sizeOf4 rfl rfl (i := i_1) qf qf fun w181 H => zjc (sps [.slice (aa b145 0) qF qF, .int .i64 i_1, .int .i64 (mxF (fun j => depth_1[j]!) (g_Next[i_1]!) k)] (oI rfl rfl (sw (QQ H 1 rfl (mxF (fun j => depth_1[j]!) (g_Next[i_1]!) k) Tryz.sizeOf2 rfl rfl (i := i_1) qf qf fun w182 H => zjc (sp (.bool true) (zjn (zh (sp (.int .i64 left_1) (sw (o_sub left_1 1 rfl rfl qf (sp (.int .i64 (left_1 - 1)) ?_)))))))))))))))
    refine zi (b_n (t_n (zh (sp (.int .i64 i_1) (sw (zK i_1 1 rfl rfl qf (sp (.int .i64 (i_1 + 1)) (zi (xh (m' := (qF - ((i_1 + 1) : Int)).toNat) qf ⟨_, left_1 - 1, true, i_1 + 1, (done_1.set i_1 true), (depth_1.set i_1 (mxF (fun j => depth_1[j]!) (g_Next[i_1]!) k)), uE7, ?_, ?_, ?_, ?_, ?_, rfl, N, H.pick [0, 1, 2, 3, 4, 5, 6] [1, 2, 3, 4, 5, 6, 7]⟩)))))))))
    · omega
    · first | assumption | exact l2.set qf ql (fun q hq => by have := (ko.rows i_1 qf q hq).2; omega) (fun q hq => rdTo_true ‹rdTo _ _ _ = true› q qf) qf
    · first | assumption | exact fun _ => by omega
    · first | exact fun h => Bool.noConfusion h | exact fun h => ⟨(l4 h).1, (l4 h).2.succ (.inl ql)⟩ | exact fun h => ⟨(l4 h).1, (l4 h).2.succ (.inr (by obtain ⟨q, h1, h2⟩ := rdTo_false ‹rdTo _ _ _ = false›; exact ⟨q, by omega, h2⟩))⟩
    · omega
   refine qX (b_n (t_n (zh (sp (.int .i64 i_1) (sw (zK i_1 1 rfl rfl qf (sp (.int .i64 (i_1 + 1)) (zi (xh (m' := (qF - ((i_1 + 1) : Int)).toNat) qf ⟨_, left_1, found, i_1 + 1, done_1, depth_1, uE7, ?_, ?_, ?_, ?_, ?_, rfl, N, H.pick [0, 1, 2, 3, 4, 5, 6] [1, 2, 3, 4, 5, 6, 7]⟩)))))))))
   · omega
   · first | assumption | exact l2.set qf ql (fun q hq => by have := (ko.rows i_1 qf q hq).2; omega) (fun q hq => rdTo_true ‹rdTo _ _ _ = true› q qf) qf
   · first | assumption | exact fun _ => by omega
   · first | exact fun h => Bool.noConfusion h | exact fun h => ⟨(l4 h).1, (l4 h).2.succ (.inl ql)⟩ | exact fun h => ⟨(l4 h).1, (l4 h).2.succ (.inr (by obtain ⟨q, h1, h2⟩ := rdTo_false ‹rdTo _ _ _ = false›; exact ⟨q, by omega, h2⟩))⟩
   · omega
  refine zx4 (zcr (sps [.bool found, .bool !found] (zjn (xF (!found) rfl (fun h183 => ?_) (fun h183 => ?_)))))
  ·skip
   replace h183 := xw h183
   obtain ⟨e1, e2⟩ := l4 (by cases found <;> simp_all)
   refine zcr (sps [.slice (aa b145 0) qF qF, .slice (aa b145 0) qF qF, .bool false] (zjr (b_r (t_r (b_r (t_r (ret2 (.slice (aa b145 0) qF qF) (.bool false) rfl rfl rfl ⟨_, rfl, ?_⟩)))))))
   replace H := H.erases [0]
   dsimp only [vz, List.eraseIdx] at H
   refine sps [.tuple #[.slice (aa b145 0) qF qF, .bool false], .slice (aa b145 0) qF qF, .bool false, .slice (aa b145 0) qF qF, .bool false] (zjcc (sps [.bool false, .bool true] (zjn (xF true rfl (fun _ => zcr (sps [.int .i64 0, .int .i64 4] (zjr (t_r (ret2 (.int .i64 0) (.int .i64 4) rfl rfl rfl ⟨_, rfl, ?_, H.base⟩))))) (fun h => absurd h qj)))))
   rw [lr_n k0 (kr.trans (gr_end qf)) (lay_not l2 qf ko qf (by rw [show g_Next.length = i_1 by omega]; exact e2))]
  replace h183 := xn h183
  have l6 := l3 (by cases found <;> simp_all)
  refine qX (b_n (xh (m' := (left_1 : Int).toNat) qf ⟨_, left_1, done_1, depth_1, uE5, ?_, rfl, N, H⟩))
  · assumption
 refine zx4 (zcr (sps [.slice (aa b145 0) qF qF, .slice (aa b145 0) qF qF, .bool true] (zjr (ret2 (.slice (aa b145 0) qF qF) (.bool true) rfl rfl rfl ⟨_, rfl, ?_⟩))))
 replace H := H.erases [0]
 dsimp only [vz, List.eraseIdx] at H
 refine sps [.tuple #[.slice (aa b145 0) qF qF, .bool true], .slice (aa b145 0) qF qF, .bool true, .slice (aa b145 0) qF qF, .bool true] (zjcc (sps [.bool true, .bool false] (zjn (xF false rfl (fun h => absurd h qj) (fun _ => qX (t_n (zcr (sp (.slice (aa b145 0) qF qF) (oI rfl rfl (oL rfl (H.rowInt 0 rfl (iv := 0) (i := 0) qf qf) (sps [.int .i64 (depth[0]!), .int .i64 0] (zjr (ret2 (.int .i64 (depth[0]!)) (.int .i64 0) rfl rfl rfl ⟨_, rfl, ?_, H.base⟩)))))))))))))
 rw [lr_y k0 (kr.trans (gr_end qf)) (lay_end (S := g_States) l1 qf qf)]

theorem implLR_ok (w : World) (s : qM) (t : qO) (xm : qU.rep w qZ [.slice qC s.qw.length qB] s.qw) (xJ : qU.rep w xC [.slice qL s.qx.length qI] s.qx) (zA : qU.rep w xK [.slice qV t.qA.length qP] t.qA) (zU : qU.rep w zC [.slice xk t.qE.length xf] t.qE) (xN : qU.rep w xB [.slice qK t.qy.length qJ] t.qy) : Calls Tryz.prog 37 #[.agg #[.int .i64 s.qQ, .slice qC s.qw.length qB, .slice qL s.qx.length qI], .agg #[.slice qV t.qA.length qP, .slice xk t.qE.length xf, .slice qK t.qy.length qJ]] w (Ret (fun v w' => v = .tuple #[.int .i64 ((QU s t).1), .int .i64 ((QU s t).2)]) w) := by
 refine en Tryz.func37 Tryz.ntmps37 ?_
 have H := (((((St.start w).arg xN).arg zU).arg zA).arg xJ).arg xm
 have vI := qN xm
 have jB := qN xJ
 have yT := qN zA
 have QA := qN zU
 have yc := qN xN
 clear xm xJ zA zU xN
 have N := Fresh.nil w.heap.size
 refine zcr (sw (vK H [.int .i64 s.qQ, .slice qC s.qw.length qB, .slice qL s.qx.length qI] fun b1 w2 H => sw (vK H [.slice qV t.qA.length qP, .slice xk t.qE.length xf, .slice qK t.qy.length qJ] fun b3 w4 H => sps [.int .i64 0, .int .i64 0] (zjc (sw (zq [.int .i64 s.qQ, .slice qC s.qw.length qB, .slice qL s.qx.length qI] Tryz.isAgg36 Tryz.sizeOf36 rfl (qH (H.cells 1 rfl) 0 3) ?_))))))
 refine sw (zq [.slice qV t.qA.length qP, .slice xk t.qE.length xf, .slice qK t.qy.length qJ] Tryz.isAgg38 Tryz.sizeOf38 rfl (qH (H.cells 0 rfl) 0 3) (sw (vw #[.agg #[.int .i64 s.qQ, .slice qC s.qw.length qB, .slice qL s.qx.length qI], .agg #[.slice qV t.qA.length qP, .slice xk t.qE.length xf, .slice qK t.qy.length qJ]] rfl rfl Tryz.call41 (en Tryz.func41 Tryz.ntmps41 ?_))))
 refine zcr (sw (vK H [.int .i64 s.qQ, .slice qC s.qw.length qB, .slice qL s.qx.length qI] fun b5 w6 H => sw (vK H [.slice qV t.qA.length qP, .slice xk t.qE.length xf, .slice qK t.qy.length qJ] fun b7 w8 H => sw (xH H ti59 [.slice none 0 0, .slice none 0 0] fun b9 w10 H => sp (.int .i64 0) (zjcc (sw (zq [.int .i64 s.qQ, .slice qC s.qw.length qB, .slice qL s.qx.length qI] Tryz.isAgg36 Tryz.sizeOf36 rfl (qH (H.cells 2 rfl) 0 3) ?_)))))))
 refine sw (zq [.slice qV t.qA.length qP, .slice xk t.qE.length xf, .slice qK t.qy.length qJ] Tryz.isAgg38 Tryz.sizeOf38 rfl (qH (H.cells 1 rfl) 0 3) (sw (oq (validState_ok _ s t (H.get 0 rfl).1 (H.get 1 rfl).1 (H.get 2 rfl).1 (H.get 3 rfl).1 (H.get 4 rfl).1) H fun w12 H => sp (.bool (!(dec (yg s ∧ zT s t)))) (zjn (cQ rfl (fun h14 => ?_) (fun h14 => ?_))))))
 ·skip
  refine zcr (sw (jv [.slice none 0 0, .slice none 0 0] [] (sw (zt H 0 [.slice none 0 0, .slice none 0 0] Tryz.sizeOf59 fun w15 H => sp (.int .i64 1) (zjr (t_r (retC2 H 0 rfl (.int .i64 1) rfl Tryz.isAgg59 Tryz.sizeOf59 rfl rfl ⟨_, rfl, ?_⟩)))))))
  replace H := H.erases [2, 1, 0]
  dsimp only [vz, List.eraseIdx] at H
  refine sps [.tuple #[.agg #[.slice none 0 0, .slice none 0 0], .int .i64 1], .agg #[.slice none 0 0, .slice none 0 0], .int .i64 1] (sw (xH H ti59 [.slice none 0 0, .slice none 0 0] fun b16 w17 H => sw (zt H 0 [.slice none 0 0, .slice none 0 0] Tryz.sizeOf59 fun w18 H => sp (.int .i64 1) (zjcc (sps [.int .i64 1, .bool true] (zjn (xF true rfl (fun _ => zcr (sps [.int .i64 1, .int .i64 0, .int .i64 1] (zjr (t_r (ret2 (.int .i64 0) (.int .i64 1) rfl rfl rfl ⟨_, rfl, ?_, H.base⟩))))) (fun h => absurd h qj))))))))
  rw [lr_1 ‹_›]
 have k0 := (‹yg s ∧ zT s t› : yg s ∧ zT s t)
 have k1 := k0.1
 have k2 := k0.2
 obtain ⟨q7, q8, q9, q10⟩ := k2.sizes k1.1
 have q13 := fun k hk => Nat.le_trans (q10 k hk) (by decide : 8 ≤ 1000000)
 refine qX (t_n (zcr (sw (zq [.int .i64 s.qQ, .slice qC s.qw.length qB, .slice qL s.qx.length qI] Tryz.isAgg36 Tryz.sizeOf36 rfl (qH (H.cells 2 rfl) 0 3) (sw (zq [.slice qV t.qA.length qP, .slice xk t.qE.length xf, .slice qK t.qy.length qJ] Tryz.isAgg38 Tryz.sizeOf38 rfl (qH (H.cells 1 rfl) 0 3) ?_))))))
 refine sw (vw #[.agg #[.int .i64 s.qQ, .slice qC s.qw.length qB, .slice qL s.qx.length qI], .agg #[.slice qV t.qA.length qP, .slice xk t.qE.length xf, .slice qK t.qy.length qJ]] rfl rfl Tryz.call86 (en Tryz.func86 Tryz.ntmps86 ?_))
 refine zcr (sw (vK H [.int .i64 s.qQ, .slice qC s.qw.length qB, .slice qL s.qx.length qI] fun b19 w20 H => sw (vK H [.slice qV t.qA.length qP, .slice xk t.qE.length xf, .slice qK t.qy.length qJ] fun b21 w22 H => sw (xH H ti59 [.slice none 0 0, .slice none 0 0] fun b23 w24 H => sp (.int .i64 0) (zjc (sw (zq [.slice qV t.qA.length qP, .slice xk t.qE.length xf, .slice qK t.qy.length qJ] Tryz.isAgg38 Tryz.sizeOf38 rfl (qH (H.cells 1 rfl) 0 3) ?_)))))))
 have sz28 := H.base.size
 refine sw (oc (X4 _ t (H.get 2 rfl).1 (H.get 3 rfl).1 (H.get 4 rfl).1 qg qg qg qg) ?_)
 rintro _ w26 ⟨ra25Alive, rn25Alive, rc25Alive, ra25Bags, rn25Bags, rc25Bags, rx25Bags, rF25Bags, ra25Around, rn25Around, rc25Around, rfl, M, K⟩ _
 replace N := N.merge sz28 qm M
 replace H := H.merge K M
 obtain rfl := H.rowNB 0 rfl
 obtain rfl := H.zB (α := List Int) 1 rfl 0 rfl qj
 obtain rfl := H.Xp 2 rfl
 refine sw (zN H Tryz.underlying47 ti38 [.slice ra25Alive t.qA.length rc25Alive, .slice ra25Bags t.qE.length rc25Bags, .slice ra25Around t.qy.length rc25Around] fun b33 w34 H => sw (jv [.slice (aa b33 0) 1 1, .slice none 0 0] [(0, .slice (aa b33 0) 1 1)] (sw (xH H ti59 [.slice none 0 0, .slice none 0 0] fun b35 w36 H => sw (zt H 0 [.slice (aa b33 0) 1 1, .slice none 0 0] Tryz.sizeOf59 fun w37 H => zjcc (sp (.int .i64 0) (zjn (xe ?_))))))))
 replace H := H.boxRow 1 rfl 3 1 rfl qj
 replace H := H.vY (α := qO)
 obtain ⟨G38, N, hn39, H⟩ := H.freezeB 2 rfl N (H.yG [1])
 have H0 := H
 obtain ⟨G40, hg42, hn41, H⟩ := H.QZ (α := List Int) 3 rfl 2 rfl qj
 replace N : Fresh w.heap.size [G40, G38] := Fresh.ice (N.pick [1, 0]) H0 3 hg42.1 hg42.2 (H0.yG [0])
 clear H0
 obtain ⟨G43, N, hn44, H⟩ := H.vZ 4 rfl N (H.yG [0, 1])
 replace H := H.Vr 3 rfl 2 rfl 1 rfl 0 rfl
 replace N : Fresh w.heap.size [([] ++ (G38 ++ G40 ++ G43))] := (N.emp.pick [3, 2, 1, 0]).join.join.swap.join
 replace H : St _ _ [.box b35 [.slice (aa b33 0) 1 1, .slice none 0 0] 59, rr (aa b33 0) 1 1 38 3 [.slice ra25Alive t.qA.length rc25Alive, .slice ra25Bags t.qE.length rc25Bags, .slice ra25Around t.qy.length rc25Around], rr none 0 0 0 1 [], rr none 0 0 0 1 [], rr none 0 0 0 1 [], .box b23 [.slice none 0 0, .slice none 0 0] 59, .box b21 [.slice qV t.qA.length qP, .slice xk t.qE.length xf, .slice qK t.qy.length qJ] 38, .box b19 [.int .i64 s.qQ, .slice qC s.qw.length qB, .slice qL s.qx.length qI] 36, .box b9 [.slice none 0 0, .slice none 0 0] 59, .box b7 [.slice qV t.qA.length qP, .slice xk t.qE.length xf, .slice qK t.qy.length qJ] 38, .box b5 [.int .i64 s.qQ, .slice qC s.qw.length qB, .slice qL s.qx.length qI] 36, .box b3 [.slice qV t.qA.length qP, .slice xk t.qE.length xf, .slice qK t.qy.length qJ] 38, .box b1 [.int .i64 s.qQ, .slice qC s.qw.length qB, .slice qL s.qx.length qI] 36] [zg true ([] ++ (G38 ++ G40 ++ G43)) [.slice ra25Alive t.qA.length rc25Alive, .slice ra25Bags t.qE.length rc25Bags, .slice ra25Around t.qy.length rc25Around] [t], sF true G43 ra25Around rc25Around t.qy, sF true G40 ra25Bags rc25Bags t.qE, sF true G38 ra25Alive rc25Alive t.qA, zg true [] [] ([] : List qO), zg true rF25Bags rx25Bags t.qE, sF false qZ qC qB s.qw, sF false xC qL qI s.qx, sF false xK qV qP t.qA, sF false zC xk xf t.qE, sF false xB qK qJ t.qy] := H
 replace H := H.nilRow 22 1
 replace H := H.vY (α := List Int)
 refine zG (fun m' ρ w45 => ∃ (xR : Env) (i : Nat) (xY : Option Addr) (xM : Nat) (xQ : Nat) (g_States : List qO) (ve : List Value) (jM : List Nat) (zy : Option Addr) (qF : Nat) (zu : Nat) (g_Next : List (List Int)) (vS : List Value) (vG : List Nat), ρ = upd (upd (upd (upd xR 2 (pp b19 0)) 4 (pp b23 0)) 6 (pp b35 0)) 7 (.int .i64 i) ∧ (grRes s t = grGo s (302 - i) i g_States g_Next) ∧ (∀ u ∈ g_States, zT s u) ∧ (0 < g_States.length ∧ g_States.length ≤ 300) ∧ (g_Next.length = i) ∧ (i ≤ g_States.length) ∧ (GrOk g_States g_Next) ∧ m' = (301 - i) ∧ Fresh w.heap.size [vG] ∧ St w w45 [rr zy qF zu 22 1 vS, .box b35 [.slice xY xM xQ, .slice zy qF zu] 59, rr xY xM xQ 38 3 ve, .box b23 [.slice none 0 0, .slice none 0 0] 59, .box b21 [.slice qV t.qA.length qP, .slice xk t.qE.length xf, .slice qK t.qy.length qJ] 38, .box b19 [.int .i64 s.qQ, .slice qC s.qw.length qB, .slice qL s.qx.length qI] 36, .box b9 [.slice none 0 0, .slice none 0 0] 59, .box b7 [.slice qV t.qA.length qP, .slice xk t.qE.length xf, .slice qK t.qy.length qJ] 38, .box b5 [.int .i64 s.qQ, .slice qC s.qw.length qB, .slice qL s.qx.length qI] 36, .box b3 [.slice qV t.qA.length qP, .slice xk t.qE.length xf, .slice qK t.qy.length qJ] 38, .box b1 [.int .i64 s.qQ, .slice qC s.qw.length qB, .slice qL s.qx.length qI] 36] [zg true vG vS g_Next, zg true jM ve g_States, sF false qZ qC qB s.qw, sF false xC qL qI s.qx, sF false xK qV qP t.qA, sF false zC xk xf t.qE, sF false xB qK qJ t.qy]) ((301 - 0)) ⟨_, 0, (aa b33 0), 1, 1, [t], [.slice ra25Alive t.qA.length rc25Alive, .slice ra25Bags t.qE.length rc25Bags, .slice ra25Around t.qy.length rc25Around], ([] ++ (G38 ++ G40 ++ G43)), none, 0, 0, ([] : List (List Int)), [], [], uE4, (by rfl), (by exact fun u hu => by obtain rfl := List.mem_singleton.1 hu; exact k2), qm, (by rfl), qm, (by exact GrOk.start t), rfl, (N.emp.pick [0]), H.pick [0, 1, 2, 6, 7, 8, 9, 10, 11, 12, 13] [0, 1, 7, 8, 9, 10, 11]⟩ ?_
 clear H N
 rintro m' ρ w46 ⟨xR, i, xY, xM, xQ, g_States, ve, jM, zy, qF, zu, g_Next, vS, vG, rfl, kr, ka, kl, kn, ki, ko, rfl, N, H⟩
 have hn_g_States := H.zB (α := qO) 2 rfl 1 rfl qj
 have hn_g_Next := H.zB (α := List Int) 0 rfl 0 rfl qj
 refine zcc (sp (.int .i64 i) (oF rfl (oL rfl (H.cell 1 rfl rfl) (oN rfl (sp (.bool (decide ((i : Int) < xM))) (zjn (cD rfl (fun h47 => ?_) (fun h47 => ?_))))))))
 ·skip
  have ks := ka (g_States[i]!) (mem_at (k := i) qf rfl)
  have nl := succ_len s (g_States[i]!)
  refine qX (t_n (zf (xe (zf ?_))))
  refine ji rfl H fun H => rt 0 (.agg #[.int .i64 s.qQ, .slice qC s.qw.length qB, .slice qL s.qx.length qI]) (Qh (cs := [.int .i64 s.qQ, .slice qC s.qw.length qB, .slice qL s.qx.length qI]) Tryz.isAgg36 Tryz.sizeOf36 rfl (fun _ h => qH (h.cells 5 rfl) 0 3)) H ?_
  refine tF 1 rfl rfl H ?_
  refine tL 2 rfl rfl (fun _ h => h.cell 1 rfl rfl) H ?_
  refine rtp 3 (.int .i64 i) H ?_
  obtain ⟨b49, rfl⟩ := H.yK 2 rfl qf
  obtain ⟨ae50Alive, ce50Alive, Fe50Alive, ae50Bags, ce50Bags, Fe50Bags, ae50Around, ce50Around, Fe50Around, hx51, H⟩ := H.rowel_StateD 2 rfl 1 rfl (iv := i) i qf qf
  have S := H.jW [0, 1, 2, 3, 4, 5, 6, 7, 8, 9, 10] [3, 4, 5, 6, 7, 8, 9]
  refine tI 4 rfl rfl rfl S ?_
  refine rt 5 (.agg #[.slice ae50Alive (((g_States[i]!).qA).length) ce50Alive, .slice ae50Bags (((g_States[i]!).qE).length) ce50Bags, .slice ae50Around (((g_States[i]!).qy).length) ce50Around]) (Qh (cs := [.slice ae50Alive (((g_States[i]!).qA).length) ce50Alive, .slice ae50Bags (((g_States[i]!).qE).length) ce50Bags, .slice ae50Around (((g_States[i]!).qy).length) ce50Around]) Tryz.isAgg38 Tryz.sizeOf38 rfl (fun _ h => qH (fun j v hj => h.rowGet 2 rfl (hx51 j v hj)) 0 3)) S ?_
  refine ro 6 rfl ?_
  have sz55 := H.base.size
  have lt56 := H.ltN (L := [vG]) [3]
  refine oc (nextStates_ok _ s (g_States[i]!) (H.get 5 rfl).1 (H.get 6 rfl).1 (H.get 0 rfl).1 (H.get 1 rfl).1 (H.get 2 rfl).1 qg qg) ?_
  rintro _ w53 ⟨ra52a, rn52a, rc52a, rx52a, rF52a, rfl, M, K⟩ _
  replace N := N.merge sz55 lt56 M
  replace H := H.merge K M
  obtain rfl := H.zB (α := qO) 0 rfl 0 rfl qj
  refine ⟨H.pick [1, 2, 3, 4, 5, 6, 7, 8, 9, 10, 11] [4, 5, 6, 7, 8, 9, 10], ?_⟩
  have S := H.jW [1, 2, 3, 4, 5, 6, 7, 8, 9, 10, 11] [4, 5, 6, 7, 8, 9, 10]
  refine rtp 7 (.tuple #[.slice ra52a (((qY s (g_States[i]!)).1).length) rc52a, .int .i64 ((qY s (g_States[i]!)).2)]) S ?_
  refine rtp 8 (.slice ra52a (((qY s (g_States[i]!)).1).length) rc52a) S ?_
  refine rtp 9 (.int .i64 ((qY s (g_States[i]!)).2)) S ?_
  refine rtp 10 (.slice ra52a (((qY s (g_States[i]!)).1).length) rc52a) S ?_
  refine rtp 11 (.int .i64 ((qY s (g_States[i]!)).2)) S ?_
  refine xI qh (t_n (zcc (sps [.int .i64 ((qY s (g_States[i]!)).2), .bool (((qY s (g_States[i]!)).2 : Int) != 0)] (zjn (xF (((qY s (g_States[i]!)).2 : Int) != 0) rfl (fun h58 => ?_) (fun h58 => ?_))))))
  ·skip
   replace h58 := bne_iff_ne.1 h58
   refine zcr (sw (jv [.slice none 0 0, .slice none 0 0] [] (sp (.int .i64 ((qY s (g_States[i]!)).2)) (sw (zt H 4 [.slice none 0 0, .slice none 0 0] Tryz.sizeOf59 fun w59 H => sp (.int .i64 ((qY s (g_States[i]!)).2)) (zjr (t_r (zr5 (retC2 H 4 rfl (.int .i64 ((qY s (g_States[i]!)).2)) rfl Tryz.isAgg59 Tryz.sizeOf59 rfl rfl ⟨_, rfl, ?_⟩)))))))))
   replace H := H.erases [6, 5, 4, 3, 2, 1, 0]
   dsimp only [vz, List.eraseIdx] at H
   refine sps [.agg #[.slice none 0 0, .slice none 0 0], .int .i64 ((qY s (g_States[i]!)).2)] (sw (zt H 0 [.slice none 0 0, .slice none 0 0] Tryz.sizeOf59 fun w60 H => sp (.int .i64 ((qY s (g_States[i]!)).2)) (zjr (retC2 H 0 rfl (.int .i64 ((qY s (g_States[i]!)).2)) rfl Tryz.isAgg59 Tryz.sizeOf59 rfl rfl ⟨_, rfl, ?_⟩))))
   replace H := H.erases [2, 1, 0]
   dsimp only [vz, List.eraseIdx] at H
   refine sps [.tuple #[.agg #[.slice none 0 0, .slice none 0 0], .int .i64 ((qY s (g_States[i]!)).2)], .agg #[.slice none 0 0, .slice none 0 0], .int .i64 ((qY s (g_States[i]!)).2)] (sw (xH H ti59 [.slice none 0 0, .slice none 0 0] fun b61 w62 H => sw (zt H 0 [.slice none 0 0, .slice none 0 0] Tryz.sizeOf59 fun w63 H => sp (.int .i64 ((qY s (g_States[i]!)).2)) (zjcc (sps [.int .i64 ((qY s (g_States[i]!)).2), .bool (((qY s (g_States[i]!)).2 : Int) != 0)] (zjn (xF (((qY s (g_States[i]!)).2 : Int) != 0) rfl (fun h64 => ?_) (fun h => absurd (xA h) h58))))))))
   replace h64 := bne_iff_ne.1 h64
   refine zcr (sps [.int .i64 ((qY s (g_States[i]!)).2), .int .i64 0, .int .i64 ((qY s (g_States[i]!)).2)] (zjr (t_r (ret2 (.int .i64 0) (.int .i64 ((qY s (g_States[i]!)).2)) rfl rfl rfl ⟨_, rfl, ?_, H.base⟩))))
   rw [lr_c k0 (kr.trans (gr_code qf qf ql)) rfl ql]
  replace h58 := xA h58
  refine qX (t_n (zcr (sw (jh H Tryz.underlying22 ti2 fun b65 w66 H => sp (.slice (aa b65 0) 0 0) (zjcc (sp (.slice ra52a (((qY s (g_States[i]!)).1).length) rc52a) (oN rfl (sp (.int .i64 0) (zjn (xe ?_))))))))))
  have H0 := H
  obtain ⟨G67, hg69, hn68, H⟩ := H.QZ (α := qO) 1 rfl 0 rfl qj
  replace N : Fresh w.heap.size [G67, vG] := Fresh.ice N H0 1 hg69.1 hg69.2 (H0.yG [4])
  clear H0
  replace H := H.boxRowI 0 [] 0
  refine zG (fun m' ρ w70 => ∃ (xR : Env) (a_own : Option Addr) (n_own : Nat) (c_own : Nat) (own : List Int) (k : Nat) (jV : Option Addr) (zV : Nat) (jS : Nat) (g_States_1 : List qO) (jO : List Value) (yR : List Nat), ρ = upd (upd (upd (upd (upd (upd (upd (upd xR 2 (pp b19 0)) 4 (pp b23 0)) 6 (pp b35 0)) 7 (.int .i64 i)) 10 (.slice a_own n_own c_own)) 40 (.slice ra52a (((qY s (g_States[i]!)).1).length) rc52a)) 41 (.int .i64 (((qY s (g_States[i]!)).1).length))) 42 (.int .i64 k) ∧ own = (zZ g_States (qY s (g_States[i]!)).1 k).2 ∧ g_States_1 = (zZ g_States (qY s (g_States[i]!)).1 k).1 ∧ ((k : Int) ≤ (((qY s (g_States[i]!)).1).length)) ∧ m' = ((((qY s (g_States[i]!)).1).length) - (k : Int)).toNat ∧ Fresh w.heap.size [G67, vG] ∧ St w w70 [rr a_own n_own c_own 2 1 (own.map (Value.int .i64)), rr zy qF zu 22 1 vS, .box b35 [.slice jV zV jS, .slice zy qF zu] 59, rr jV zV jS 38 3 jO, .box b23 [.slice none 0 0, .slice none 0 0] 59, .box b21 [.slice qV t.qA.length qP, .slice xk t.qE.length xf, .slice qK t.qy.length qJ] 38, .box b19 [.int .i64 s.qQ, .slice qC s.qw.length qB, .slice qL s.qx.length qI] 36, .box b9 [.slice none 0 0, .slice none 0 0] 59, .box b7 [.slice qV t.qA.length qP, .slice xk t.qE.length xf, .slice qK t.qy.length qJ] 38, .box b5 [.int .i64 s.qQ, .slice qC s.qw.length qB, .slice qL s.qx.length qI] 36, .box b3 [.slice qV t.qA.length qP, .slice xk t.qE.length xf, .slice qK t.qy.length qJ] 38, .box b1 [.int .i64 s.qQ, .slice qC s.qw.length qB, .slice qL s.qx.length qI] 36] [sF true G67 ra52a rc52a ((qY s (g_States[i]!)).1), zg true vG vS g_Next, zg true yR jO g_States_1, sF false qZ qC qB s.qw, sF false xC qL qI s.qx, sF false xK qV qP t.qA, sF false zC xk xf t.qE, sF false xB qK qJ t.qy]) (((((qY s (g_States[i]!)).1).length) - (0 : Int)).toNat) ⟨_, (aa b65 0), 0, 0, ([] : List Int), 0, (aa b49 0), xM, xQ, g_States, ve, jM, uE8, (by rfl), (by rfl), qf, rfl, N, H.pick [0, 2, 3, 4, 5, 6, 7, 8, 9, 10, 11, 12] [0, 5, 6, 7, 8, 9, 10, 11]⟩ ?_
  clear H N
  rintro m' ρ w71 ⟨xR, a_own, n_own, c_own, own, k, jV, zV, jS, g_States_1, jO, yR, rfl, rfl, rfl, i0, rfl, N, H⟩
  have hn_own := H.Xp 0 rfl
  have hn_g_States := H.zB (α := qO) 3 rfl 2 rfl qj
  obtain ⟨al1, al2, al3⟩ := addSt_len (S := g_States) (nx := (qY s (g_States[i]!)).1) k
  refine zcr (sp (.bool (decide ((k : Int) < (((qY s (g_States[i]!)).1).length)))) (zjn (zf (cD rfl (fun h72 => ?_) (fun h72 => ?_)))))
  ·skip
   refine qX (t_n (zf (xe (zcr ?_))))
   obtain ⟨b73, o74, rfl⟩ := H.addr 0 rfl qf
   obtain ⟨ae76Alive, ce76Alive, Fe76Alive, ae76Bags, ce76Bags, Fe76Bags, ae76Around, ce76Around, Fe76Around, H⟩ := H.elem_StateD 0 rfl k k qf qf qf
   refine oI rfl rfl (sw (zq [.slice ae76Alive (((((qY s (g_States[i]!)).1)[k]!).qA).length) ce76Alive, .slice ae76Bags (((((qY s (g_States[i]!)).1)[k]!).qE).length) ce76Bags, .slice ae76Around (((((qY s (g_States[i]!)).1)[k]!).qy).length) ce76Around] Tryz.isAgg38 Tryz.sizeOf38 rfl (qH (H.get 3 rfl) 0 3) (sw (xH H ti38 [.slice none 0 0, .slice none 0 0, .slice none 0 0] fun b77 w78 H => ?_))))
   refine sw (zt H 0 [.slice ae76Alive (((((qY s (g_States[i]!)).1)[k]!).qA).length) ce76Alive, .slice ae76Bags (((((qY s (g_States[i]!)).1)[k]!).qE).length) ce76Bags, .slice ae76Around (((((qY s (g_States[i]!)).1)[k]!).qy).length) ce76Around] Tryz.sizeOf38 fun w79 H => zjc (oF rfl (oL rfl (H.cell 3 rfl rfl) ?_)))
   refine sw (zq [.slice ae76Alive (((((qY s (g_States[i]!)).1)[k]!).qA).length) ce76Alive, .slice ae76Bags (((((qY s (g_States[i]!)).1)[k]!).qE).length) ce76Bags, .slice ae76Around (((((qY s (g_States[i]!)).1)[k]!).qy).length) ce76Around] Tryz.isAgg38 Tryz.sizeOf38 rfl (qH (H.cells 0 rfl) 0 3) ?_)
   obtain ⟨G80, hn81, h82⟩ := H.rowIsR (α := qO) 4 rfl 6 rfl qj
   refine sw (oq (args_eq (by rw [← hn81]) (find_ok _ ((zZ g_States (qY s (g_States[i]!)).1 k).1) (((qY s (g_States[i]!)).1)[k]!) (hn81 ▸ h82) (H.get 0 rfl).1 (H.get 1 rfl).1 (H.get 2 rfl).1)) H fun w84 H => sp (.int .i64 (firstIdx (fun zz => decide (((zZ g_States (qY s (g_States[i]!)).1 k).1)[zz]! = (((qY s (g_States[i]!)).1)[k]!))) ((zZ g_States (qY s (g_States[i]!)).1 k).1).length)) (zjcc ?_))
   refine sps [.int .i64 (firstIdx (fun zz => decide (((zZ g_States (qY s (g_States[i]!)).1 k).1)[zz]! = (((qY s (g_States[i]!)).1)[k]!))) ((zZ g_States (qY s (g_States[i]!)).1 k).1).length), .bool (decide ((firstIdx (fun zz => decide (((zZ g_States (qY s (g_States[i]!)).1 k).1)[zz]! = (((qY s (g_States[i]!)).1)[k]!))) ((zZ g_States (qY s (g_States[i]!)).1 k).1).length : Int) < 0))] (zjn (cD rfl (fun h86 => ?_) (fun h86 => ?_)))
   ·skip
    refine zcr (oF rfl (oL rfl (H.cell 3 rfl rfl) ?_))
    obtain ⟨G87, hn88, h89⟩ := H.rowIsR (α := qO) 4 rfl 6 rfl qj
    refine sw (oq (args_eq (by rw [← hn88]) (sizeS_ok _ ((zZ g_States (qY s (g_States[i]!)).1 k).1) (hn88 ▸ h89))) H fun w91 H => sp (.int .i64 (((zZ g_States (qY s (g_States[i]!)).1 k).1).length)) (zjn (zh (oF rfl (oL rfl (H.cell 3 rfl rfl) (sw (zq [.slice ae76Alive (((((qY s (g_States[i]!)).1)[k]!).qA).length) ce76Alive, .slice ae76Bags (((((qY s (g_States[i]!)).1)[k]!).qE).length) ce76Bags, .slice ae76Around (((((qY s (g_States[i]!)).1)[k]!).qy).length) ce76Around] Tryz.isAgg38 Tryz.sizeOf38 rfl (qH (H.cells 0 rfl) 0 3) ?_)))))))
    refine sw (zN H Tryz.underlying47 ti38 [.slice ae76Alive (((((qY s (g_States[i]!)).1)[k]!).qA).length) ce76Alive, .slice ae76Bags (((((qY s (g_States[i]!)).1)[k]!).qE).length) ce76Bags, .slice ae76Around (((((qY s (g_States[i]!)).1)[k]!).qy).length) ce76Around] fun b93 w94 H => sw (zX H 5 rfl 0 rfl Tryz.underlying47 ti38 rfl qj rfl rfl rfl (by simp [Value.oneCell', Value.cells]) qp qf fun a95 c96 w97 H => ?_))
    replace H := H.Vr 6 rfl 0 rfl 1 rfl 2 rfl
    refine oF rfl (sw (xU H 4 [.slice a95 (zV + 1) c96, .slice zy qF zu] Tryz.sizeOf47 fun w98 H => zjn (zh (sps [.slice a_own n_own c_own, .int .i64 (((zZ g_States (qY s (g_States[i]!)).1 k).1).length)] (sw (zN H Tryz.underlying22 ti2 [.int .i64 (((zZ g_States (qY s (g_States[i]!)).1 k).1).length)] fun b99 w100 H => sw (zX H 3 rfl 0 rfl Tryz.underlying22 ti2 rfl qj rfl rfl rfl (by simp [Value.oneCell', Value.cells]) qp qf fun a101 c102 w103 H => ?_)))))))
    rw [snocI] at H
    refine sp (.slice a101 (n_own + 1) c102) (zi (b_n (t_n (zh (sw (zK k 1 rfl rfl qf (sp (.int .i64 (k + 1)) (zi ?_))))))))
    refine xh (m' := ((((qY s (g_States[i]!)).1).length) - ((k + 1) : Int)).toNat) qf ⟨_, a101, n_own + 1, c102, (((zZ g_States (qY s (g_States[i]!)).1 k).2) ++ [(((zZ g_States (qY s (g_States[i]!)).1 k).1).length : Int)]), k + 1, a95, zV + 1, c96, (((zZ g_States (qY s (g_States[i]!)).1 k).1) ++ [⟨(((qY s (g_States[i]!)).1)[k]!).qA, (((qY s (g_States[i]!)).1)[k]!).qE, (((qY s (g_States[i]!)).1)[k]!).qy⟩]), jO ++ [.slice ae76Alive (((((qY s (g_States[i]!)).1)[k]!).qA).length) ce76Alive, .slice ae76Bags (((((qY s (g_States[i]!)).1)[k]!).qE).length) ce76Bags, .slice ae76Around (((((qY s (g_States[i]!)).1)[k]!).qy).length) ce76Around], (yR ++ (Fe76Alive ++ Fe76Bags ++ Fe76Around)), uE8, ?_, ?_, ?_, rfl, N, H.pick [3, 4, 5, 6, 7, 8, 9, 10, 11, 12, 13, 14] [5, 6, 0, 8, 9, 10, 11, 12]⟩
    · first | exact (Va (k := k) ‹_›).2 | (refine Eq.trans ?_ (Vb (k := k) ‹_›).2; congr 2 <;> omega)
    · first | exact (Vb (k := k) ‹_›).1 | exact (Va (k := k) ‹_›).1
    · omega
   refine qX (t_n (zh (sps [.slice a_own n_own c_own, .int .i64 (firstIdx (fun zz => decide (((zZ g_States (qY s (g_States[i]!)).1 k).1)[zz]! = (((qY s (g_States[i]!)).1)[k]!))) ((zZ g_States (qY s (g_States[i]!)).1 k).1).length)] (sw (zN H Tryz.underlying22 ti2 [.int .i64 (firstIdx (fun zz => decide (((zZ g_States (qY s (g_States[i]!)).1 k).1)[zz]! = (((qY s (g_States[i]!)).1)[k]!))) ((zZ g_States (qY s (g_States[i]!)).1 k).1).length)] fun b104 w105 H => ?_)))))
   refine sw (zX H 2 rfl 0 rfl Tryz.underlying22 ti2 rfl qj rfl rfl rfl (by simp [Value.oneCell', Value.cells]) qp qf fun a106 c107 w108 H => ?_)
   rw [snocI] at H
   refine sp (.slice a106 (n_own + 1) c107) (zi (b_n (t_n (zh (sw (zK k 1 rfl rfl qf (sp (.int .i64 (k + 1)) (zi ?_))))))))
   refine xh (m' := ((((qY s (g_States[i]!)).1).length) - ((k + 1) : Int)).toNat) qf ⟨_, a106, n_own + 1, c107, (((zZ g_States (qY s (g_States[i]!)).1 k).2) ++ [firstIdx (fun zz => decide (((zZ g_States (qY s (g_States[i]!)).1 k).1)[zz]! = (((qY s (g_States[i]!)).1)[k]!))) ((zZ g_States (qY s (g_States[i]!)).1 k).1).length]), k + 1, jV, zV, jS, ((zZ g_States (qY s (g_States[i]!)).1 k).1), jO, yR, uE8, ?_, ?_, ?_, rfl, N, H.pick [2, 3, 4, 5, 6, 7, 8, 9, 10, 11, 12, 13] [4, 5, 6, 7, 8, 9, 10, 11]⟩
   · first | exact (Va (k := k) ‹_›).2 | (refine Eq.trans ?_ (Vb (k := k) ‹_›).2; congr 2 <;> omega)
   · first | exact (Vb (k := k) ‹_›).1 | exact (Va (k := k) ‹_›).1
   · omega
  refine zx4 (zcc (oF rfl (oL rfl (H.cell 2 rfl rfl) (oN rfl (sp (.bool (decide ((zV : Int) > 300))) (zjn (cD rfl (fun h109 => ?_) (fun h109 => ?_))))))))
  ·skip
   refine zcr (sw (jv [.slice none 0 0, .slice none 0 0] [] (sw (zt H 4 [.slice none 0 0, .slice none 0 0] Tryz.sizeOf59 fun w110 H => sp (.int .i64 3) (zjr (t_r (zr5 (retC2 H 4 rfl (.int .i64 3) rfl Tryz.isAgg59 Tryz.sizeOf59 rfl rfl ⟨_, rfl, ?_⟩))))))))
   replace H := H.erases [6, 5, 4, 3, 2, 1, 0]
   dsimp only [vz, List.eraseIdx] at H
   refine sps [.agg #[.slice none 0 0, .slice none 0 0], .int .i64 3] (sw (zt H 0 [.slice none 0 0, .slice none 0 0] Tryz.sizeOf59 fun w111 H => sp (.int .i64 3) (zjr (retC2 H 0 rfl (.int .i64 3) rfl Tryz.isAgg59 Tryz.sizeOf59 rfl rfl ⟨_, rfl, ?_⟩))))
   replace H := H.erases [2, 1, 0]
   dsimp only [vz, List.eraseIdx] at H
   refine sps [.tuple #[.agg #[.slice none 0 0, .slice none 0 0], .int .i64 3], .agg #[.slice none 0 0, .slice none 0 0], .int .i64 3] (sw (xH H ti59 [.slice none 0 0, .slice none 0 0] fun b112 w113 H => sw (zt H 0 [.slice none 0 0, .slice none 0 0] Tryz.sizeOf59 fun w114 H => sp (.int .i64 3) (zjcc (sps [.int .i64 3, .bool true] (zjn (xF true rfl (fun _ => zcr (sps [.int .i64 3, .int .i64 0, .int .i64 3] (zjr (t_r (ret2 (.int .i64 0) (.int .i64 3) rfl rfl rfl ⟨_, rfl, ?_, H.base⟩))))) (fun h => absurd h qj))))))))
   rw [lr_c k0 (kr.trans (gr_many qf qf qf (k := k) qf qf)) rfl qj]
  refine qX (t_n (zh (oF rfl (oL rfl (H.cell 2 rfl rfl) (sp (.slice a_own n_own c_own) (sw (zN H Tryz.underlying27 ti22 [.slice a_own n_own c_own] fun b115 w116 H => ?_)))))))
  obtain ⟨G120, N, hn121, H⟩ := H.vZ 1 rfl N (H.yG [0, 1])
  refine sw (zX H 2 rfl 0 rfl Tryz.underlying27 ti22 rfl qj rfl rfl rfl (by simp [Value.oneCell', Value.cells]) qp qf fun a117 c118 w119 H => ?_)
  replace H := H.yh 2 rfl 0 rfl
  replace N : Fresh w.heap.size [(vG ++ G120), G67] := (N.pick [2, 0, 1]).join
  refine oF rfl (sw (xU H 3 [.slice jV zV jS, .slice a117 (qF + 1) c118] Tryz.sizeOf27 fun w122 H => zi (b_n (t_n (zh (sp (.int .i64 i) (sw (zK i 1 rfl rfl qf (sp (.int .i64 (i + 1)) (zi ?_))))))))))
  refine xh (m' := (301 - (i + 1))) qf ⟨_, i + 1, jV, zV, jS, ((zZ g_States (qY s (g_States[i]!)).1 k).1), jO, yR, a117, qF + 1, c118, (g_Next ++ [((zZ g_States (qY s (g_States[i]!)).1 k).2)]), vS ++ [.slice a_own n_own c_own], (vG ++ G120), uE4, ?_, ?_, ?_, ?_, ?_, ?_, rfl, (N.pick [0]), H.pick [2, 3, 4, 5, 6, 7, 8, 9, 10, 11, 12] [0, 4, 5, 6, 7, 8, 9]⟩
  · exact kr.trans (gr_go qf qf qf (k := k) qf qf)
  · exact addSt_mem ka succ_ok k qf
  · omega
  · simp; omega
  · omega
  · exact ko.next qf qf
 refine zx4 (zcr (sw (zq [.slice xY xM xQ, .slice zy qF zu] Tryz.isAgg59 Tryz.sizeOf59 rfl (qH (H.cells 1 rfl) 0 2) (sw (zt H 3 [.slice xY xM xQ, .slice zy qF zu] Tryz.sizeOf59 fun w123 H => sp (.int .i64 0) (zjr (retC2 H 3 rfl (.int .i64 0) rfl Tryz.isAgg59 Tryz.sizeOf59 rfl rfl ⟨_, rfl, ?_⟩)))))))
 replace H := H.erases [5, 4, 3, 1]
 dsimp only [vz, List.eraseIdx] at H
 refine sps [.agg #[.slice xY xM xQ, .slice zy qF zu], .int .i64 0] (sw (zt H 2 [.slice xY xM xQ, .slice zy qF zu] Tryz.sizeOf59 fun w124 H => sp (.int .i64 0) (zjr (retC2 H 2 rfl (.int .i64 0) rfl Tryz.isAgg59 Tryz.sizeOf59 rfl rfl ⟨_, rfl, ?_⟩))))
 replace H := H.erases [4, 3, 2]
 dsimp only [vz, List.eraseIdx] at H
 refine sps [.tuple #[.agg #[.slice xY xM xQ, .slice zy qF zu], .int .i64 0], .agg #[.slice xY xM xQ, .slice zy qF zu], .int .i64 0] (sw (xH H ti59 [.slice none 0 0, .slice none 0 0] fun b125 w126 H => sw (zt H 0 [.slice xY xM xQ, .slice zy qF zu] Tryz.sizeOf59 fun w127 H => sp (.int .i64 0) (zjcc (sps [.int .i64 0, .bool false] (zjn (xF false rfl (fun h => absurd h qj) (fun _ => qX (t_n (zcr ?_))))))))))
 refine sw (zq [.slice xY xM xQ, .slice zy qF zu] Tryz.isAgg59 Tryz.sizeOf59 rfl (qH (H.cells 0 rfl) 0 2) (sw (vw #[.agg #[.slice xY xM xQ, .slice zy qF zu]] rfl rfl Tryz.call82 (en Tryz.func82 Tryz.ntmps82 ?_))))
 refine zcr (sw (vK H [.slice xY xM xQ, .slice zy qF zu] fun b128 w129 H => sps [.int .i64 0, .bool false] (zjn (zf ?_))))
 refine c_cut (fun ρ w134 => ∃ (xR : Env) (b130 : Nat) (b131 : Nat) (b132 : Nat) (b133 : Nat), ρ = upd (upd (upd xR 1 (pp b128 0)) 4 (pp b130 0)) 5 (pp b131 0) ∧ Fresh w.heap.size [vG] ∧ St w w134 [.box b131 [.slice (aa b132 0) qF qF] 22, .box b130 [.slice (aa b133 0) qF qF] 118, rr (aa b132 0) qF qF 2 1 ((List.replicate qF (0 : Int)).map (Value.int .i64)), rr (aa b133 0) qF qF 3 1 ((List.replicate qF (0 : Int)).map (Value.int .i64)), .box b128 [.slice xY xM xQ, .slice zy qF zu] 59, .box b125 [.slice xY xM xQ, .slice zy qF zu] 59, rr zy qF zu 22 1 vS, rr xY xM xQ 38 3 ve, .box b3 [.slice qV t.qA.length qP, .slice xk t.qE.length xf, .slice qK t.qy.length qJ] 38, .box b1 [.int .i64 s.qQ, .slice qC s.qw.length qB, .slice qL s.qx.length qI] 36] [zg true vG vS g_Next, zg true jM ve g_States, sF false qZ qC qB s.qw, sF false xC qL qI s.qx, sF false xK qV qP t.qA, sF false zC xk xf t.qE, sF false xB qK qJ t.qy]) ?_ ?_
 ·skip
  refine ji rfl H fun H => ?_
  refine Xg (fun ρ w140 => ∃ (xR : Env) (b136 : Nat) (b137 : Nat) (b138 : Nat), ρ = upd (upd (upd (upd (upd xR 1 (pp b128 0)) 4 (pp b137 0)) 5 (pp b138 0)) 11 (.slice (aa b136 0) qF qF)) 14 (.int .i64 qF) ∧ Fresh w.heap.size [vG] ∧ St w w140 [.box b138 [.slice none 0 0] 22, .box b137 [.slice none 0 0] 118, rr (aa b136 0) qF qF 3 1 ((List.replicate qF (0 : Int)).map (Value.int .i64)), .box b128 [.slice xY xM xQ, .slice zy qF zu] 59, .box b125 [.slice xY xM xQ, .slice zy qF zu] 59, rr zy qF zu 22 1 vS, rr xY xM xQ 38 3 ve, .box b3 [.slice qV t.qA.length qP, .slice xk t.qE.length xf, .slice qK t.qy.length qJ] 38, .box b1 [.int .i64 s.qQ, .slice qC s.qw.length qB, .slice qL s.qx.length qI] 36] [zg true vG vS g_Next, zg true jM ve g_States, sF false qZ qC qB s.qw, sF false xC qL qI s.qx, sF false xK qV qP t.qA, sF false zC xk xf t.qE, sF false xB qK qJ t.qy]) 3 #[true, true, true, true, true, true, true, false, true, true, false, false] ?_ fun L139 => ?_
  ·skip
   rintro ρ w141 ⟨xR, b136, b137, b138, rfl, N, H⟩
   refine vW [7, 10] qh qm (jF rfl ?_ (jF rfl ?_ vX))
   ·skip
    refine jA H Tryz.underlying22 ti2 qF rfl rfl qf qf qf fun b142 w143 H => ⟨H.pick [4, 5, 6, 7, 8, 9] [0, 1, 2, 3, 4, 5, 6], (ro 10 rfl (xU H 2 [.slice (aa b136 0) qF qF] Tryz.sizeOf118 fun w144 H => ⟨H.pick [4, 5, 6, 7, 8, 9] [0, 1, 2, 3, 4, 5, 6], (ro 11 rfl (xU H 1 [.slice (aa b142 0) qF qF] Tryz.sizeOf22 fun w145 H => ⟨H.pick [4, 5, 6, 7, 8, 9] [0, 1, 2, 3, 4, 5, 6], (xI qh ((meet ⟨_, b137, b138, b142, b136, uE3, N, H.pick [1, 2, 0, 3, 4, 5, 6, 7, 8, 9] [0, 1, 2, 3, 4, 5, 6]⟩)))⟩))⟩))⟩
   refine xU H 1 [.slice (aa b136 0) qF qF] Tryz.sizeOf118 fun w146 H => ⟨H.pick [3, 4, 5, 6, 7, 8] [0, 1, 2, 3, 4, 5, 6], (ro 7 rfl (jA H Tryz.underlying22 ti2 qF rfl rfl qf qf qf fun b147 w148 H => ⟨H.pick [4, 5, 6, 7, 8, 9] [0, 1, 2, 3, 4, 5, 6], (ro 11 rfl (xU H 1 [.slice (aa b147 0) qF qF] Tryz.sizeOf22 fun w149 H => ⟨H.pick [4, 5, 6, 7, 8, 9] [0, 1, 2, 3, 4, 5, 6], (xI qh ((meet ⟨_, b137, b138, b147, b136, uE3, N, H.pick [1, 2, 0, 3, 4, 5, 6, 7, 8, 9] [0, 1, 2, 3, 4, 5, 6]⟩)))⟩))⟩))⟩
  refine Xg (fun ρ w153 => ∃ (xR : Env) (b150 : Nat) (b151 : Nat), ρ = upd (upd (upd xR 1 (pp b128 0)) 11 (.slice (aa b150 0) qF qF)) 15 (.slice (aa b151 0) qF qF) ∧ Fresh w.heap.size [vG] ∧ St w w153 [rr (aa b151 0) qF qF 2 1 ((List.replicate qF (0 : Int)).map (Value.int .i64)), rr (aa b150 0) qF qF 3 1 ((List.replicate qF (0 : Int)).map (Value.int .i64)), .box b128 [.slice xY xM xQ, .slice zy qF zu] 59, .box b125 [.slice xY xM xQ, .slice zy qF zu] 59, rr zy qF zu 22 1 vS, rr xY xM xQ 38 3 ve, .box b3 [.slice qV t.qA.length qP, .slice xk t.qE.length xf, .slice qK t.qy.length qJ] 38, .box b1 [.int .i64 s.qQ, .slice qC s.qw.length qB, .slice qL s.qx.length qI] 36] [zg true vG vS g_Next, zg true jM ve g_States, sF false qZ qC qB s.qw, sF false xC qL qI s.qx, sF false xK qV qP t.qA, sF false zC xk xf t.qE, sF false xB qK qJ t.qy]) 4 #[true, true, true, true, true, true, true, true, false, false, false, false] ?_ fun L152 => ?_
  ·skip
   rintro ρ w154 ⟨xR, b150, b151, rfl, N, H⟩
   refine vW [8, 9] qh qm (jF rfl ?_ (jF rfl ?_ vX))
   ·skip
    refine xH H ti118 [.slice none 0 0] fun b155 w156 H => ⟨H.pick [3, 4, 5, 6, 7, 8] [0, 1, 2, 3, 4, 5, 6], (ro 9 rfl (xH H ti22 [.slice none 0 0] fun b157 w158 H => ⟨H.pick [4, 5, 6, 7, 8, 9] [0, 1, 2, 3, 4, 5, 6], (ro 10 rfl (xU H 1 [.slice (aa b150 0) qF qF] Tryz.sizeOf118 fun w159 H => ⟨H.pick [4, 5, 6, 7, 8, 9] [0, 1, 2, 3, 4, 5, 6], (ro 11 rfl (xU H 0 [.slice (aa b151 0) qF qF] Tryz.sizeOf22 fun w160 H => ⟨H.pick [4, 5, 6, 7, 8, 9] [0, 1, 2, 3, 4, 5, 6], (xI qh ((meet ⟨_, b155, b157, b151, b150, uE3, N, H⟩)))⟩))⟩))⟩))⟩
   refine xH H ti22 [.slice none 0 0] fun b161 w162 H => ⟨H.pick [3, 4, 5, 6, 7, 8] [0, 1, 2, 3, 4, 5, 6], (ro 8 rfl (xH H ti118 [.slice none 0 0] fun b163 w164 H => ⟨H.pick [4, 5, 6, 7, 8, 9] [0, 1, 2, 3, 4, 5, 6], (ro 10 rfl (xU H 0 [.slice (aa b150 0) qF qF] Tryz.sizeOf118 fun w165 H => ⟨H.pick [4, 5, 6, 7, 8, 9] [0, 1, 2, 3, 4, 5, 6], (ro 11 rfl (xU H 1 [.slice (aa b151 0) qF qF] Tryz.sizeOf22 fun w166 H => ⟨H.pick [4, 5, 6, 7, 8, 9] [0, 1, 2, 3, 4, 5, 6], (xI qh ((meet ⟨_, b163, b161, b151, b150, uE3, N, H.pick [1, 0, 2, 3, 4, 5, 6, 7, 8, 9] [0, 1, 2, 3, 4, 5, 6]⟩)))⟩))⟩))⟩))⟩
  refine Xg (fun ρ w170 => ∃ (xR : Env) (b167 : Nat) (b168 : Nat), ρ = upd (upd (upd (upd xR 1 (pp b128 0)) 4 (pp b168 0)) 11 (.slice (aa b167 0) qF qF)) 14 (.int .i64 qF) ∧ Fresh w.heap.size [vG] ∧ St w w170 [.box b168 [.slice none 0 0] 118, rr (aa b167 0) qF qF 3 1 ((List.replicate qF (0 : Int)).map (Value.int .i64)), .box b128 [.slice xY xM xQ, .slice zy qF zu] 59, .box b125 [.slice xY xM xQ, .slice zy qF zu] 59, rr zy qF zu 22 1 vS, rr xY xM xQ 38 3 ve, .box b3 [.slice qV t.qA.length qP, .slice xk t.qE.length xf, .slice qK t.qy.length qJ] 38, .box b1 [.int .i64 s.qQ, .slice qC s.qw.length qB, .slice qL s.qx.length qI] 36] [zg true vG vS g_Next, zg true jM ve g_States, sF false qZ qC qB s.qw, sF false xC qL qI s.qx, sF false xK qV qP t.qA, sF false zC xk xf t.qE, sF false xB qK qJ t.qy]) 4 #[true, true, true, true, true, true, true, false, true, false, false, false] ?_ fun L169 => ?_
  ·skip
   rintro ρ w171 ⟨xR, b167, b168, rfl, N, H⟩
   refine vW [7, 9] qh qm (jF rfl ?_ (jF rfl ?_ vX))
   ·skip
    refine jA H Tryz.underlying22 ti2 qF rfl rfl qf qf qf fun b172 w173 H => ⟨H.pick [3, 4, 5, 6, 7, 8] [0, 1, 2, 3, 4, 5, 6], (ro 9 rfl (xH H ti22 [.slice none 0 0] fun b174 w175 H => ⟨H.pick [4, 5, 6, 7, 8, 9] [0, 1, 2, 3, 4, 5, 6], (ro 10 rfl (xU H 2 [.slice (aa b167 0) qF qF] Tryz.sizeOf118 fun w176 H => ⟨H.pick [4, 5, 6, 7, 8, 9] [0, 1, 2, 3, 4, 5, 6], (ro 11 rfl (xU H 0 [.slice (aa b172 0) qF qF] Tryz.sizeOf22 fun w177 H => ⟨H.pick [4, 5, 6, 7, 8, 9] [0, 1, 2, 3, 4, 5, 6], (xI qh (?_))⟩))⟩))⟩))⟩
    exact meet ⟨_, b168, b174, b172, b167, uE3, N, H.pick [0, 2, 1, 3, 4, 5, 6, 7, 8, 9] [0, 1, 2, 3, 4, 5, 6]⟩
   refine xH H ti22 [.slice none 0 0] fun b178 w179 H => ⟨H.pick [3, 4, 5, 6, 7, 8] [0, 1, 2, 3, 4, 5, 6], (y9 L139 ⟨_, b167, b168, b178, uE5, N, H⟩)⟩
  refine Xg (fun ρ w183 => ∃ (xR : Env) (b180 : Nat) (b181 : Nat), ρ = upd (upd (upd (upd xR 1 (pp b128 0)) 5 (pp b181 0)) 11 (.slice (aa b180 0) qF qF)) 14 (.int .i64 qF) ∧ Fresh w.heap.size [vG] ∧ St w w183 [.box b181 [.slice none 0 0] 22, rr (aa b180 0) qF qF 3 1 ((List.replicate qF (0 : Int)).map (Value.int .i64)), .box b128 [.slice xY xM xQ, .slice zy qF zu] 59, .box b125 [.slice xY xM xQ, .slice zy qF zu] 59, rr zy qF zu 22 1 vS, rr xY xM xQ 38 3 ve, .box b3 [.slice qV t.qA.length qP, .slice xk t.qE.length xf, .slice qK t.qy.length qJ] 38, .box b1 [.int .i64 s.qQ, .slice qC s.qw.length qB, .slice qL s.qx.length qI] 36] [zg true vG vS g_Next, zg true jM ve g_States, sF false qZ qC qB s.qw, sF false xC qL qI s.qx, sF false xK qV qP t.qA, sF false zC xk xf t.qE, sF false xB qK qJ t.qy]) 4 #[true, true, true, true, true, true, true, false, false, true, false, false] ?_ fun L182 => ?_
  ·skip
   rintro ρ w184 ⟨xR, b180, b181, rfl, N, H⟩
   refine vW [7, 8] qh qm (jF rfl ?_ (jF rfl ?_ vX))
   ·skip
    refine jA H Tryz.underlying22 ti2 qF rfl rfl qf qf qf fun b185 w186 H => ⟨H.pick [3, 4, 5, 6, 7, 8] [0, 1, 2, 3, 4, 5, 6], (ro 8 rfl (xH H ti118 [.slice none 0 0] fun b187 w188 H => ⟨H.pick [4, 5, 6, 7, 8, 9] [0, 1, 2, 3, 4, 5, 6], (ro 10 rfl (xU H 0 [.slice (aa b180 0) qF qF] Tryz.sizeOf118 fun w189 H => ⟨H.pick [4, 5, 6, 7, 8, 9] [0, 1, 2, 3, 4, 5, 6], (ro 11 rfl (xU H 2 [.slice (aa b185 0) qF qF] Tryz.sizeOf22 fun w190 H => ⟨H.pick [4, 5, 6, 7, 8, 9] [0, 1, 2, 3, 4, 5, 6], (xI qh (?_))⟩))⟩))⟩))⟩
    exact meet ⟨_, b187, b181, b185, b180, uE3, N, H.pick [2, 0, 1, 3, 4, 5, 6, 7, 8, 9] [0, 1, 2, 3, 4, 5, 6]⟩
   refine xH H ti118 [.slice none 0 0] fun b191 w192 H => ⟨H.pick [3, 4, 5, 6, 7, 8] [0, 1, 2, 3, 4, 5, 6], (y9 L139 ⟨_, b180, b191, b181, uE5, N, H.pick [1, 0, 2, 3, 4, 5, 6, 7, 8] [0, 1, 2, 3, 4, 5, 6]⟩)⟩
  refine Xg (fun ρ w196 => ∃ (xR : Env) (b193 : Nat) (b194 : Nat), ρ = upd (upd (upd (upd xR 1 (pp b128 0)) 4 (pp b194 0)) 10 (.int .i64 qF)) 15 (.slice (aa b193 0) qF qF) ∧ Fresh w.heap.size [vG] ∧ St w w196 [.box b194 [.slice none 0 0] 118, rr (aa b193 0) qF qF 2 1 ((List.replicate qF (0 : Int)).map (Value.int .i64)), .box b128 [.slice xY xM xQ, .slice zy qF zu] 59, .box b125 [.slice xY xM xQ, .slice zy qF zu] 59, rr zy qF zu 22 1 vS, rr xY xM xQ 38 3 ve, .box b3 [.slice qV t.qA.length qP, .slice xk t.qE.length xf, .slice qK t.qy.length qJ] 38, .box b1 [.int .i64 s.qQ, .slice qC s.qw.length qB, .slice qL s.qx.length qI] 36] [zg true vG vS g_Next, zg true jM ve g_States, sF false qZ qC qB s.qw, sF false xC qL qI s.qx, sF false xK qV qP t.qA, sF false zC xk xf t.qE, sF false xB qK qJ t.qy]) 4 #[true, true, true, false, true, true, true, true, true, false, false, false] ?_ fun L195 => ?_
  ·skip
   rintro ρ w197 ⟨xR, b193, b194, rfl, N, H⟩
   refine vW [3, 9] qh qm (jF rfl ?_ (jF rfl ?_ vX))
   ·skip
    refine jA H Tryz.underlying118 ti3 qF rfl rfl qf qf qf fun b198 w199 H => ⟨H.pick [3, 4, 5, 6, 7, 8] [0, 1, 2, 3, 4, 5, 6], (ro 9 rfl (xH H ti22 [.slice none 0 0] fun b200 w201 H => ⟨H.pick [4, 5, 6, 7, 8, 9] [0, 1, 2, 3, 4, 5, 6], (ro 10 rfl (xU H 2 [.slice (aa b198 0) qF qF] Tryz.sizeOf118 fun w202 H => ⟨H.pick [4, 5, 6, 7, 8, 9] [0, 1, 2, 3, 4, 5, 6], (ro 11 rfl (xU H 0 [.slice (aa b193 0) qF qF] Tryz.sizeOf22 fun w203 H => ⟨H.pick [4, 5, 6, 7, 8, 9] [0, 1, 2, 3, 4, 5, 6], (xI qh (?_))⟩))⟩))⟩))⟩
    exact meet ⟨_, b194, b200, b193, b198, uE3, N, H.pick [0, 2, 3, 1, 4, 5, 6, 7, 8, 9] [0, 1, 2, 3, 4, 5, 6]⟩
   refine xH H ti22 [.slice none 0 0] fun b204 w205 H => ⟨H.pick [3, 4, 5, 6, 7, 8] [0, 1, 2, 3, 4, 5, 6], (ro 3 rfl (jA H Tryz.underlying118 ti3 qF rfl rfl qf qf qf fun b206 w207 H => ⟨H.pick [4, 5, 6, 7, 8, 9] [0, 1, 2, 3, 4, 5, 6], (ro 10 rfl (xU H 2 [.slice (aa b206 0) qF qF] Tryz.sizeOf118 fun w208 H => ⟨H.pick [4, 5, 6, 7, 8, 9] [0, 1, 2, 3, 4, 5, 6], (ro 11 rfl (xU H 1 [.slice (aa b193 0) qF qF] Tryz.sizeOf22 fun w209 H => ⟨H.pick [4, 5, 6, 7, 8, 9] [0, 1, 2, 3, 4, 5, 6], (xI qh (?_))⟩))⟩))⟩))⟩
   exact meet ⟨_, b194, b204, b193, b206, uE3, N, H.pick [1, 2, 3, 0, 4, 5, 6, 7, 8, 9] [0, 1, 2, 3, 4, 5, 6]⟩
  refine Xg (fun ρ w213 => ∃ (xR : Env) (b210 : Nat) (b211 : Nat), ρ = upd (upd (upd (upd xR 1 (pp b128 0)) 5 (pp b211 0)) 10 (.int .i64 qF)) 15 (.slice (aa b210 0) qF qF) ∧ Fresh w.heap.size [vG] ∧ St w w213 [.box b211 [.slice none 0 0] 22, rr (aa b210 0) qF qF 2 1 ((List.replicate qF (0 : Int)).map (Value.int .i64)), .box b128 [.slice xY xM xQ, .slice zy qF zu] 59, .box b125 [.slice xY xM xQ, .slice zy qF zu] 59, rr zy qF zu 22 1 vS, rr xY xM xQ 38 3 ve, .box b3 [.slice qV t.qA.length qP, .slice xk t.qE.length xf, .slice qK t.qy.length qJ] 38, .box b1 [.int .i64 s.qQ, .slice qC s.qw.length qB, .slice qL s.qx.length qI] 36] [zg true vG vS g_Next, zg true jM ve g_States, sF false qZ qC qB s.qw, sF false xC qL qI s.qx, sF false xK qV qP t.qA, sF false zC xk xf t.qE, sF false xB qK qJ t.qy]) 4 #[true, true, true, false, true, true, true, true, false, true, false, false] ?_ fun L212 => ?_
  ·skip
   rintro ρ w214 ⟨xR, b210, b211, rfl, N, H⟩
   refine vW [3, 8] qh qm (jF rfl ?_ (jF rfl ?_ vX))
   ·skip
    refine jA H Tryz.underlying118 ti3 qF rfl rfl qf qf qf fun b215 w216 H => ⟨H.pick [3, 4, 5, 6, 7, 8] [0, 1, 2, 3, 4, 5, 6], (ro 8 rfl (xH H ti118 [.slice none 0 0] fun b217 w218 H => ⟨H.pick [4, 5, 6, 7, 8, 9] [0, 1, 2, 3, 4, 5, 6], (ro 10 rfl (xU H 0 [.slice (aa b215 0) qF qF] Tryz.sizeOf118 fun w219 H => ⟨H.pick [4, 5, 6, 7, 8, 9] [0, 1, 2, 3, 4, 5, 6], (ro 11 rfl (xU H 2 [.slice (aa b210 0) qF qF] Tryz.sizeOf22 fun w220 H => ⟨H.pick [4, 5, 6, 7, 8, 9] [0, 1, 2, 3, 4, 5, 6], (xI qh (?_))⟩))⟩))⟩))⟩
    exact meet ⟨_, b217, b211, b210, b215, uE3, N, H.pick [2, 0, 3, 1, 4, 5, 6, 7, 8, 9] [0, 1, 2, 3, 4, 5, 6]⟩
   refine xH H ti118 [.slice none 0 0] fun b221 w222 H => ⟨H.pick [3, 4, 5, 6, 7, 8] [0, 1, 2, 3, 4, 5, 6], (ro 3 rfl (jA H Tryz.underlying118 ti3 qF rfl rfl qf qf qf fun b223 w224 H => ⟨H.pick [4, 5, 6, 7, 8, 9] [0, 1, 2, 3, 4, 5, 6], (ro 10 rfl (xU H 1 [.slice (aa b223 0) qF qF] Tryz.sizeOf118 fun w225 H => ⟨H.pick [4, 5, 6, 7, 8, 9] [0, 1, 2, 3, 4, 5, 6], (ro 11 rfl (xU H 2 [.slice (aa b210 0) qF qF] Tryz.sizeOf22 fun w226 H => ⟨H.pick [4, 5, 6, 7, 8, 9] [0, 1, 2, 3, 4, 5, 6], (xI qh (?_))⟩))⟩))⟩))⟩
   exact meet ⟨_, b221, b211, b210, b223, uE3, N, H.pick [2, 1, 3, 0, 4, 5, 6, 7, 8, 9] [0, 1, 2, 3, 4, 5, 6]⟩
  refine Xg (fun ρ w230 => ∃ (xR : Env) (b227 : Nat) (b228 : Nat), ρ = upd (upd (upd (upd (upd xR 1 (pp b128 0)) 4 (pp b227 0)) 5 (pp b228 0)) 10 (.int .i64 qF)) 14 (.int .i64 qF) ∧ Fresh w.heap.size [vG] ∧ St w w230 [.box b228 [.slice none 0 0] 22, .box b227 [.slice none 0 0] 118, .box b128 [.slice xY xM xQ, .slice zy qF zu] 59, .box b125 [.slice xY xM xQ, .slice zy qF zu] 59, rr zy qF zu 22 1 vS, rr xY xM xQ 38 3 ve, .box b3 [.slice qV t.qA.length qP, .slice xk t.qE.length xf, .slice qK t.qy.length qJ] 38, .box b1 [.int .i64 s.qQ, .slice qC s.qw.length qB, .slice qL s.qx.length qI] 36] [zg true vG vS g_Next, zg true jM ve g_States, sF false qZ qC qB s.qw, sF false xC qL qI s.qx, sF false xK qV qP t.qA, sF false zC xk xf t.qE, sF false xB qK qJ t.qy]) 4 #[true, true, true, false, true, true, true, false, true, true, false, false] ?_ fun L229 => ?_
  ·skip
   rintro ρ w231 ⟨xR, b227, b228, rfl, N, H⟩
   refine vW [3, 7] qh qm (jF rfl ?_ (jF rfl ?_ vX))
   ·skip
    refine jA H Tryz.underlying118 ti3 qF rfl rfl qf qf qf fun b232 w233 H => ⟨H.pick [3, 4, 5, 6, 7, 8] [0, 1, 2, 3, 4, 5, 6], (y9 L139 ⟨_, b232, b227, b228, uE5, N, H.pick [1, 2, 0, 3, 4, 5, 6, 7, 8] [0, 1, 2, 3, 4, 5, 6]⟩)⟩
   refine jA H Tryz.underlying22 ti2 qF rfl rfl qf qf qf fun b234 w235 H => ⟨H.pick [3, 4, 5, 6, 7, 8] [0, 1, 2, 3, 4, 5, 6], (ro 3 rfl (jA H Tryz.underlying118 ti3 qF rfl rfl qf qf qf fun b236 w237 H => ⟨H.pick [4, 5, 6, 7, 8, 9] [0, 1, 2, 3, 4, 5, 6], (ro 10 rfl (xU H 3 [.slice (aa b236 0) qF qF] Tryz.sizeOf118 fun w238 H => ⟨H.pick [4, 5, 6, 7, 8, 9] [0, 1, 2, 3, 4, 5, 6], (ro 11 rfl (xU H 2 [.slice (aa b234 0) qF qF] Tryz.sizeOf22 fun w239 H => ⟨H.pick [4, 5, 6, 7, 8, 9] [0, 1, 2, 3, 4, 5, 6], (xI qh (?_))⟩))⟩))⟩))⟩
   exact meet ⟨_, b227, b228, b234, b236, uE3, N, H.pick [2, 3, 1, 0, 4, 5, 6, 7, 8, 9] [0, 1, 2, 3, 4, 5, 6]⟩
  refine tF 0 rfl rfl H ?_
  refine tL 1 rfl rfl (fun _ h => h.cell 0 rfl rfl) H ?_
  refine tN 2 rfl rfl H ?_
  refine tF 4 rfl rfl H ?_
  refine tL 5 rfl rfl (fun _ h => h.cell 0 rfl rfl) H ?_
  refine tN 6 rfl rfl H ?_
  refine vW [3, 7, 8, 9] qh qm (jF rfl ?_ (jF rfl ?_ (jF rfl ?_ (jF rfl ?_ vX))))
  ·skip
   refine jA H Tryz.underlying118 ti3 qF rfl rfl qf qf qf fun b240 w241 H => ⟨H.pick [1, 2, 3, 4, 5, 6] [0, 1, 2, 3, 4, 5, 6], (vW [7, 8, 9] qh qm (jF rfl ?_ (jF rfl ?_ (jF rfl ?_ vX))))⟩
   ·skip
    refine jA H Tryz.underlying22 ti2 qF rfl rfl qf qf qf fun b242 w243 H => ⟨H.pick [2, 3, 4, 5, 6, 7] [0, 1, 2, 3, 4, 5, 6], (y9 L152 ⟨_, b240, b242, uE3, N, H⟩)⟩
   ·skip
    refine xH H ti118 [.slice none 0 0] fun b244 w245 H => ⟨H.pick [2, 3, 4, 5, 6, 7] [0, 1, 2, 3, 4, 5, 6], (y9 L169 ⟨_, b240, b244, uE4, N, H⟩)⟩
   refine xH H ti22 [.slice none 0 0] fun b246 w247 H => ⟨H.pick [2, 3, 4, 5, 6, 7] [0, 1, 2, 3, 4, 5, 6], (y9 L182 ⟨_, b240, b246, uE4, N, H⟩)⟩
  ·skip
   refine jA H Tryz.underlying22 ti2 qF rfl rfl qf qf qf fun b248 w249 H => ⟨H.pick [1, 2, 3, 4, 5, 6] [0, 1, 2, 3, 4, 5, 6], (vW [3, 8, 9] qh qm (jF rfl ?_ (jF rfl ?_ (jF rfl ?_ vX))))⟩
   ·skip
    refine jA H Tryz.underlying118 ti3 qF rfl rfl qf qf qf fun b250 w251 H => ⟨H.pick [2, 3, 4, 5, 6, 7] [0, 1, 2, 3, 4, 5, 6], (y9 L152 ⟨_, b250, b248, uE3, N, H.pick [1, 0, 2, 3, 4, 5, 6, 7] [0, 1, 2, 3, 4, 5, 6]⟩)⟩
   ·skip
    refine xH H ti118 [.slice none 0 0] fun b252 w253 H => ⟨H.pick [2, 3, 4, 5, 6, 7] [0, 1, 2, 3, 4, 5, 6], (y9 L195 ⟨_, b248, b252, uE4, N, H⟩)⟩
   refine xH H ti22 [.slice none 0 0] fun b254 w255 H => ⟨H.pick [2, 3, 4, 5, 6, 7] [0, 1, 2, 3, 4, 5, 6], (y9 L212 ⟨_, b248, b254, uE4, N, H⟩)⟩
  ·skip
   refine xH H ti118 [.slice none 0 0] fun b256 w257 H => ⟨H.pick [1, 2, 3, 4, 5, 6] [0, 1, 2, 3, 4, 5, 6], (vW [3, 7, 9] qh qm (jF rfl ?_ (jF rfl ?_ (jF rfl ?_ vX))))⟩
   ·skip
    refine jA H Tryz.underlying118 ti3 qF rfl rfl qf qf qf fun b258 w259 H => ⟨H.pick [2, 3, 4, 5, 6, 7] [0, 1, 2, 3, 4, 5, 6], (y9 L169 ⟨_, b258, b256, uE4, N, H.pick [1, 0, 2, 3, 4, 5, 6, 7] [0, 1, 2, 3, 4, 5, 6]⟩)⟩
   ·skip
    refine jA H Tryz.underlying22 ti2 qF rfl rfl qf qf qf fun b260 w261 H => ⟨H.pick [2, 3, 4, 5, 6, 7] [0, 1, 2, 3, 4, 5, 6], (y9 L195 ⟨_, b260, b256, uE4, N, H.pick [1, 0, 2, 3, 4, 5, 6, 7] [0, 1, 2, 3, 4, 5, 6]⟩)⟩
   refine xH H ti22 [.slice none 0 0] fun b262 w263 H => ⟨H.pick [2, 3, 4, 5, 6, 7] [0, 1, 2, 3, 4, 5, 6], (y9 L229 ⟨_, b256, b262, uE5, N, H⟩)⟩
  refine xH H ti22 [.slice none 0 0] fun b264 w265 H => ⟨H.pick [1, 2, 3, 4, 5, 6] [0, 1, 2, 3, 4, 5, 6], (vW [3, 7, 8] qh qm (jF rfl ?_ (jF rfl ?_ (jF rfl ?_ vX))))⟩
  ·skip
   refine jA H Tryz.underlying118 ti3 qF rfl rfl qf qf qf fun b266 w267 H => ⟨H.pick [2, 3, 4, 5, 6, 7] [0, 1, 2, 3, 4, 5, 6], (y9 L182 ⟨_, b266, b264, uE4, N, H.pick [1, 0, 2, 3, 4, 5, 6, 7] [0, 1, 2, 3, 4, 5, 6]⟩)⟩
  ·skip
   refine jA H Tryz.underlying22 ti2 qF rfl rfl qf qf qf fun b268 w269 H => ⟨H.pick [2, 3, 4, 5, 6, 7] [0, 1, 2, 3, 4, 5, 6], (y9 L212 ⟨_, b268, b264, uE4, N, H.pick [1, 0, 2, 3, 4, 5, 6, 7] [0, 1, 2, 3, 4, 5, 6]⟩)⟩
  refine xH H ti118 [.slice none 0 0] fun b270 w271 H => ⟨H.pick [2, 3, 4, 5, 6, 7] [0, 1, 2, 3, 4, 5, 6], (y9 L229 ⟨_, b270, b264, uE5, N, H.pick [1, 0, 2, 3, 4, 5, 6, 7] [0, 1, 2, 3, 4, 5, 6]⟩)⟩
 clear H N
 rintro ρ w272 ⟨xR, b130, b131, b132, b133, rfl, N, H⟩
 refine t_n (zcr (sw (xH H ti139 [.nilFunc] fun b273 w274 H => zjc (sp (.func (.func 120) #[] #[pp b130 0, pp b128 0, pp b273 0, pp b131 0]) (sw (xU H 0 [.func (.func 120) #[] #[pp b130 0, pp b128 0, pp b273 0, pp b131 0]] Tryz.sizeOf139 fun w275 H => zjc (oL rfl (H.cell 0 rfl rfl) ?_)))))))
 have H0 := H
 obtain ⟨G276, hg278, hn277, H⟩ := H.QZ (α := List Int) 7 rfl 0 rfl qj
 replace N : Fresh w.heap.size [G276] := Fresh.ice N H0 7 hg278.1 hg278.2 (H0.yG [])
 clear H0
 replace H := H.unfreeI 0 rfl
 have hn279 := H.isLen 0 rfl
 have rin := ko.rowsIn qf qf
 have vi := VisI.start g_Next
 rw [show g_Next.length = qF by omega] at vi
 have v00 : (List.replicate qF (0 : Int))[(0 : Int).toNat]! = 0 := repAt1 (show 0 < qF by omega)
 have H1 : St w w275 [.box b130 [.slice (aa b133 0) qF qF] 118, .box b128 [.slice xY xM xQ, .slice zy g_Next.length zu] 59, .box b273 [.func (.func 120) #[] #[pp b130 0, pp b128 0, pp b273 0, pp b131 0]] 139, .box b131 [.slice (aa b132 0) qF qF] 22, .row (.slice (aa b133 0) qF qF) 3 1 qF ((List.replicate qF (0 : Int)).map (Value.int .i64)), .row (.slice (aa b132 0) qF qF) 2 1 qF ((List.replicate qF (0 : Int)).map (Value.int .i64)), .box b125 [.slice xY xM xQ, .slice zy qF zu] 59, .row (.slice none 0 0) 0 1 0 [], .row (.slice xY xM xQ) 38 3 xM ve, .box b3 [.slice qV t.qA.length qP, .slice xk t.qE.length xf, .slice qK t.qy.length qJ] 38, .box b1 [.int .i64 s.qQ, .slice qC s.qw.length qB, .slice qL s.qx.length qI] 36] [isF false G276 (.slice zy g_Next.length zu) g_Next, isF false G276 (.slice zy qF zu) g_Next, isF true G276 (.slice zy qF zu) g_Next, zg true vG vS g_Next, zg true jM ve g_States, isF false qZ (.slice qC s.qw.length qB) s.qw, isF false xC (.slice qL s.qx.length qI) s.qx, isF false xK (.slice qV t.qA.length qP) t.qA, isF false zC (.slice xk t.qE.length xf) t.qE, isF false xB (.slice qK t.qy.length qJ) t.qy] := by (try rw [← hn279]); exact H.pick [2, 5, 0, 1, 4, 3, 6, 7, 8, 9, 10] [0, 0, 1, 2, 3, 4, 5, 6, 7, 8]
 have N1 : Fresh _ [G276] := N
 have K1 : Kept [] [isF false G276 (.slice zy qF zu) g_Next, isF true G276 (.slice zy qF zu) g_Next, zg true vG vS g_Next, zg true jM ve g_States, sF false qZ qC qB s.qw, sF false xC qL qI s.qx, sF false xK qV qP t.qA, sF false zC xk xf t.qE, sF false xB qK qJ t.qy] := Kept.nil _
 replace K1 := K1.cons (F := G276) 0 rfl rfl
 refine sw (o_callF #[.int .i64 0, pp b130 0, pp b128 0, pp b273 0, pp b131 0] rfl rfl Tryz.call120 (args_eq (by first | rfl | rw [hn279]) (visit_ok 300 (0 : Int) (List.replicate qF (0 : Int)) (List.replicate qF (0 : Int)) g_Next xY xM xQ zy zu G276 b130 b128 b273 b131 (aa b133 0) qF qF (aa b132 0) qF qF H1 N1 K1 (by first | assumption | exact vi | exact v.vi) (by first | assumption | exact ⟨by omega, by omega⟩) ql ql (by first | assumption | exact v.open' qf p4 | exact fun j hj => (rep0 hj).elim) (by first | omega | exact rep_cnt qf))) ?_)
 clear H H1 N1 K1
 rintro _ w280 ⟨marks281, most281, hx282, hx283, hx284, rfl, N, H⟩
 refine sp (.bool (dec (Halts g_Next (0 : Int).toNat))) (zjc (oL rfl (H.cell 3 rfl rfl) (oI rfl rfl (oL rfl (H.rowInt 5 rfl (iv := 0) (i := 0) qf qf) (sps [.bool (dec (Halts g_Next (0 : Int).toNat)), .int .i64 (most281[0]!), .bool (dec (Halts g_Next (0 : Int).toNat))] (zjr (ret2 (.int .i64 (most281[0]!)) (.bool (dec (Halts g_Next (0 : Int).toNat))) rfl rfl rfl ⟨_, rfl, ?_⟩)))))))
 replace H := H.erases [7, 5, 4, 3, 2, 1, 0]
 dsimp only [vz, List.eraseIdx] at H
 refine sps [.tuple #[.int .i64 (most281[0]!), .bool (dec (Halts g_Next (0 : Int).toNat))], .int .i64 (most281[0]!), .bool (dec (Halts g_Next (0 : Int).toNat)), .int .i64 (most281[0]!), .bool (dec (Halts g_Next (0 : Int).toNat))] (zjcc (sps [.bool (dec (Halts g_Next (0 : Int).toNat)), .bool (!(dec (Halts g_Next (0 : Int).toNat)))] (zjn (cQ rfl (fun h285 => ?_) (fun h285 => ?_)))))
 ·skip
  refine zcr (sps [.int .i64 0, .int .i64 4] (zjr (t_r (ret2 (.int .i64 0) (.int .i64 4) rfl rfl rfl ⟨_, rfl, ?_, H.base⟩))))
  rw [lr_n k0 (kr.trans (gr_end qf)) ‹_›]
 refine qX (t_n (zcr (sps [.int .i64 (most281[0]!), .int .i64 (most281[0]!), .int .i64 0] (zjr (ret2 (.int .i64 (most281[0]!)) (.int .i64 0) rfl rfl rfl ⟨_, rfl, ?_, H.base⟩)))))
 rw [lr_y k0 (kr.trans (gr_end qf)) ((‹Halts g_Next _ → VisEnd g_Next _ _ _ _ _› ‹Halts g_Next _›).vi.fi 0 qf (‹Halts g_Next _ → VisEnd g_Next _ _ _ _ _› ‹Halts g_Next _›).me)]

theorem law_LongestRun (w : World) (aS : qM) (aT : qO) (XQ : Option Addr) (XJ : Nat) (FaSParents : List Nat) (aaSRules : Option Addr) (caSRules : Nat) (FaSRules : List Nat) (aaTAlive : Option Addr) (caTAlive : Nat) (FaTAlive : List Nat) (aaTBags : Option Addr) (caTBags : Nat) (FaTBags : List Nat) (aaTAround : Option Addr) (caTAround : Nat) (FaTAround : List Nat) (haSParents : qU.rep w FaSParents [.slice XQ aS.qw.length XJ] aS.qw) (haSRules : qU.rep w FaSRules [.slice aaSRules aS.qx.length caSRules] aS.qx) (haTAlive : qU.rep w FaTAlive [.slice aaTAlive aT.qA.length caTAlive] aT.qA) (haTBags : qU.rep w FaTBags [.slice aaTBags aT.qE.length caTBags] aT.qE) (haTAround : qU.rep w FaTAround [.slice aaTAround aT.qy.length caTAround] aT.qy) : Calls Tryz.prog 7 #[.agg #[.int .i64 aS.qQ, .slice XQ aS.qw.length XJ, .slice aaSRules aS.qx.length caSRules], .agg #[.slice aaTAlive aT.qA.length caTAlive, .slice aaTBags aT.qE.length caTBags, .slice aaTAround aT.qy.length caTAround]] w (Ret (fun v w' => v = .bool true) w) := by
 refine en Tryz.func7 Tryz.ntmps7 ?_
 have H := (((((St.start w).arg haTAround).arg haTBags).arg haTAlive).arg haSRules).arg haSParents
 have nhaSParents := qN haSParents
 have nhaSRules := qN haSRules
 have nhaTAlive := qN haTAlive
 have nhaTBags := qN haTBags
 have nhaTAround := qN haTAround
 clear haSParents haSRules haTAlive haTBags haTAround
 have N := Fresh.nil w.heap.size
 have A := H.ltN (L := [FaSParents, FaSRules, FaTAlive, FaTBags, FaTAround]) [0, 1, 2, 3, 4]
 have t1 := tot_SystemD aS
 have t2 := tot_StateD aT
 have c0 := XE aS.qw
 have c1 := XE aS.qx
 have c2 := XE aT.qA
 have c3 := XE aT.qE
 have c4 := XE aT.qy
 refine zcr (sw (vK H [.int .i64 aS.qQ, .slice XQ aS.qw.length XJ, .slice aaSRules aS.qx.length caSRules] fun b1 w2 H => sw (vK H [.slice aaTAlive aT.qA.length caTAlive, .slice aaTBags aT.qE.length caTBags, .slice aaTAround aT.qy.length caTAround] fun b3 w4 H => sp (.bool false) (zjc (sp (.int .i64 1048576) (zjc (sw (zq [.int .i64 aS.qQ, .slice XQ aS.qw.length XJ, .slice aaSRules aS.qx.length caSRules] Tryz.isAgg25 Tryz.sizeOf25 rfl (qH (H.cells 1 rfl) 0 3) (sp (.int .i64 1048576) ?_)))))))))
 refine sw (oq (szSystem_ok _ aS 1048576 (H.get 0 rfl).1 (H.get 1 rfl).1 qf) H fun w5 H => ?_)
 have := zO (tot aS) 1048576
 refine sp (.int .i64 (szR (tot aS) 1048576)) (zjcc (sps [.int .i64 (szR (tot aS) 1048576), .bool (decide ((szR (tot aS) 1048576 : Int) < 0))] (zjn (cD rfl (fun h7 => ?_) (fun h7 => ?_)))))
 ·skip
  refine zcr (sp (.bool true) (zjr (t_r (ret1 (.bool true) rfl rfl ⟨_, rfl, ?_, H.base⟩))))
  rfl
 refine qX (t_n (zcr (sw (zq [.slice aaTAlive aT.qA.length caTAlive, .slice aaTBags aT.qE.length caTBags, .slice aaTAround aT.qy.length caTAround] Tryz.isAgg29 Tryz.sizeOf29 rfl (qH (H.cells 0 rfl) 0 3) (sp (.int .i64 (szR (tot aS) 1048576)) (sw (oq (szState_ok _ aT (szR (tot aS) 1048576) (H.get 2 rfl).1 (H.get 3 rfl).1 (H.get 4 rfl).1 qf) H fun w8 H => ?_)))))))
 have := zO (tot aT) (szR (tot aS) 1048576)
 refine sp (.int .i64 (szR (tot aT) (szR (tot aS) 1048576))) (zjcc (sps [.int .i64 (szR (tot aT) (szR (tot aS) 1048576)), .bool (decide ((szR (tot aT) (szR (tot aS) 1048576) : Int) < 0))] (zjn (cD rfl (fun h10 => ?_) (fun h10 => ?_)))))
 ·skip
  refine zcr (sp (.bool true) (zjr (t_r (ret1 (.bool true) rfl rfl ⟨_, rfl, ?_, H.base⟩))))
  rfl
 refine qX (t_n (zf ?_))
 refine ji rfl H fun H => rt 0 (.agg #[.int .i64 aS.qQ, .slice XQ aS.qw.length XJ, .slice aaSRules aS.qx.length caSRules]) (Qh (cs := [.int .i64 aS.qQ, .slice XQ aS.qw.length XJ, .slice aaSRules aS.qx.length caSRules]) Tryz.isAgg25 Tryz.sizeOf25 rfl (fun _ h => qH (h.cells 1 rfl) 0 3)) H ?_
 refine rt 2 (.agg #[.slice aaTAlive aT.qA.length caTAlive, .slice aaTBags aT.qE.length caTBags, .slice aaTAround aT.qy.length caTAround]) (Qh (cs := [.slice aaTAlive aT.qA.length caTAlive, .slice aaTBags aT.qE.length caTBags, .slice aaTAround aT.qy.length caTAround]) Tryz.isAgg29 Tryz.sizeOf29 rfl (fun _ h => qH (h.cells 0 rfl) 0 3)) H ?_
 refine ro 1 rfl ?_
 have sz12 := H.base.size
 refine oc (toSystem_ok _ aS (H.get 0 rfl).1 (H.get 1 rfl).1 qg) ?_
 rintro v17 w15 r17 x16
 obtain ⟨a17Parents, c17Parents, F17Parents, a17Rules, c17Rules, F17Rules, rfl, f17, H⟩ := H.add_SystemD x16 r17
 replace N := N.cons f17 sz12 (by intro F hF; simp at hF)
 replace N := N.split
 refine ⟨H.pick [0, 1] [2, 3, 4, 5, 6], (ro 3 rfl ?_)⟩
 have sz18 := H.base.size
 have lt19 := H.ltN (L := [F17Parents, F17Rules]) [0, 1]
 refine oc (toState_ok _ aT (H.get 4 rfl).1 (H.get 5 rfl).1 (H.get 6 rfl).1 qg) ?_
 rintro v23 w21 r23 x22
 obtain ⟨a23Alive, c23Alive, F23Alive, a23Bags, c23Bags, F23Bags, a23Around, c23Around, F23Around, rfl, f23, H⟩ := H.add_StateD x22 r23
 replace N := N.cons f23 sz18 lt19
 replace N := N.split
 replace N := N.split
 refine ⟨H.pick [0, 1] [5, 6, 7, 8, 9], (ro 4 rfl (oq (specLR_ok _ aS aT (H.get 3 rfl).1 (H.get 4 rfl).1 (H.get 0 rfl).1 (H.get 1 rfl).1 (H.get 2 rfl).1) H fun w25 H => ⟨H.pick [0, 1] [5, 6, 7, 8, 9], ?_⟩))⟩
 have S := H.jW [0, 1] [5, 6, 7, 8, 9]
 refine rtp 5 (.tuple #[.int .i64 ((QU aS aT).1), .int .i64 ((QU aS aT).2)]) S ?_
 refine rtp 6 (.int .i64 ((QU aS aT).1)) S ?_
 refine rtp 7 (.int .i64 ((QU aS aT).2)) S ?_
 refine rtp 8 (.int .i64 ((QU aS aT).1)) S ?_
 refine rtp 9 (.int .i64 ((QU aS aT).2)) S ?_
 refine xI qh (t_n (zcr (sw (zq [.int .i64 aS.qQ, .slice XQ aS.qw.length XJ, .slice aaSRules aS.qx.length caSRules] Tryz.isAgg25 Tryz.sizeOf25 rfl (qH (H.cells 1 rfl) 0 3) ?_))))
 have sz27 := H.base.size
 have lt28 := H.ltN (L := [F23Alive, F23Bags, F23Around, F17Parents, F17Rules]) [0, 1, 2, 3, 4]
 refine sw (oc (toSystem_ok _ aS (H.get 5 rfl).1 (H.get 6 rfl).1 qg) ?_)
 rintro v32 w30 r32 x31
 obtain ⟨a32Parents, c32Parents, F32Parents, a32Rules, c32Rules, F32Rules, rfl, f32, H⟩ := H.add_SystemD x31 r32
 replace N := N.cons f32 sz27 lt28
 replace N := N.split
 refine sw (xH H ti36 [.int .i64 0, .slice none 0 0, .slice none 0 0] fun b33 w34 H => sw (zt H 0 [.int .i64 aS.qQ, .slice a32Parents aS.qw.length c32Parents, .slice a32Rules aS.qx.length c32Rules] Tryz.sizeOf36 fun w35 H => zjc (sw (zq [.slice aaTAlive aT.qA.length caTAlive, .slice aaTBags aT.qE.length caTBags, .slice aaTAround aT.qy.length caTAround] Tryz.isAgg29 Tryz.sizeOf29 rfl (qH (H.cells 1 rfl) 0 3) ?_))))
 have sz36 := H.base.size
 have lt37 := H.ltN (L := [F32Parents, F32Rules, F23Alive, F23Bags, F23Around, F17Parents, F17Rules]) [0, 1, 2, 3, 4, 5, 6]
 refine sw (oc (toState_ok _ aT (H.get 9 rfl).1 (H.get 10 rfl).1 (H.get 11 rfl).1 qg) ?_)
 rintro v41 w39 r41 x40
 obtain ⟨a41Alive, c41Alive, F41Alive, a41Bags, c41Bags, F41Bags, a41Around, c41Around, F41Around, rfl, f41, H⟩ := H.add_StateD x40 r41
 replace N := N.cons f41 sz36 lt37
 replace N := N.split
 replace N := N.split
 refine sw (xH H ti38 [.slice none 0 0, .slice none 0 0, .slice none 0 0] fun b42 w43 H => sw (zt H 0 [.slice a41Alive aT.qA.length c41Alive, .slice a41Bags aT.qE.length c41Bags, .slice a41Around aT.qy.length c41Around] Tryz.sizeOf38 fun w44 H => zjc (sw (zq [.int .i64 aS.qQ, .slice a32Parents aS.qw.length c32Parents, .slice a32Rules aS.qx.length c32Rules] Tryz.isAgg36 Tryz.sizeOf36 rfl (qH (H.cells 1 rfl) 0 3) ?_))))
 refine sw (zq [.slice a41Alive aT.qA.length c41Alive, .slice a41Bags aT.qE.length c41Bags, .slice a41Around aT.qy.length c41Around] Tryz.isAgg38 Tryz.sizeOf38 rfl (qH (H.cells 0 rfl) 0 3) (sw (oq (implLR_ok _ aS aT (H.get 3 rfl).1 (H.get 4 rfl).1 (H.get 0 rfl).1 (H.get 1 rfl).1 (H.get 2 rfl).1) H fun w46 H => sps [.tuple #[.int .i64 ((QU aS aT).1), .int .i64 ((QU aS aT).2)], .int .i64 ((QU aS aT).1), .int .i64 ((QU aS aT).2), .int .i64 ((QU aS aT).1), .int .i64 ((QU aS aT).2)] (zjcc ?_))))
 refine sps [.int .i64 ((QU aS aT).1), .int .i64 ((QU aS aT).1), .bool (((QU aS aT).1 : Int) != ((QU aS aT).1)), .bool (((QU aS aT).1 : Int) != ((QU aS aT).1))] ?_
 cases h48 : (((QU aS aT).1 : Int) != ((QU aS aT).1))
 ·skip
  replace h48 := xA h48
  refine qR 43 rfl rfl (sp (.int .i64 ((QU aS aT).2)) (qR 43 rfl rfl (sp (.int .i64 ((QU aS aT).2)) (qR 43 rfl rfl (sps [.bool (((QU aS aT).2 : Int) != ((QU aS aT).2)), .bool (((QU aS aT).2 : Int) != ((QU aS aT).2))] (zjn (xF (((QU aS aT).2 : Int) != ((QU aS aT).2)) rfl (fun h => absurd rfl (bne_iff_ne.1 h)) (fun h49 => ?_))))))))
  replace h49 := xA h49
  refine qX (t_n (zf (zf ?_)))
  refine ji rfl H fun H => rt 0 (.agg #[.int .i64 aS.qQ, .slice a32Parents aS.qw.length c32Parents, .slice a32Rules aS.qx.length c32Rules]) (Qh (cs := [.int .i64 aS.qQ, .slice a32Parents aS.qw.length c32Parents, .slice a32Rules aS.qx.length c32Rules]) Tryz.isAgg36 Tryz.sizeOf36 rfl (fun _ h => qH (h.cells 1 rfl) 0 3)) H ?_
  refine rt 1 (.agg #[.int .i64 aS.qQ, .slice XQ aS.qw.length XJ, .slice aaSRules aS.qx.length caSRules]) (Qh (cs := [.int .i64 aS.qQ, .slice XQ aS.qw.length XJ, .slice aaSRules aS.qx.length caSRules]) Tryz.isAgg25 Tryz.sizeOf25 rfl (fun _ h => qH (h.cells 3 rfl) 0 3)) H ?_
  refine ro 2 rfl ?_
  have sz51 := H.base.size
  have lt52 := H.ltN (L := [F41Alive, F41Bags, F41Around, F32Parents, F32Rules, F23Alive, F23Bags, F23Around, F17Parents, F17Rules]) [0, 1, 2, 3, 4, 5, 6, 7, 8, 9]
  refine oc (toSystem_ok _ aS (H.get 10 rfl).1 (H.get 11 rfl).1 qg) ?_
  rintro v56 w54 r56 x55
  obtain ⟨a56Parents, c56Parents, F56Parents, a56Rules, c56Rules, F56Rules, rfl, f56, H⟩ := H.add_SystemD x55 r56
  replace N := N.cons f56 sz51 lt52
  replace N := N.split
  refine ⟨H.pick [0, 1, 2, 3] [2, 3, 4, 5, 6, 7, 8, 9, 10, 11, 12, 13, 14, 15, 16], (ro 3 rfl (oq (eqSystem_ok _ aS aS (H.get 5 rfl).1 (H.get 6 rfl).1 (H.get 0 rfl).1 (H.get 1 rfl).1) H fun w57 H => ⟨H.pick [0, 1, 2, 3] [2, 3, 4, 5, 6, 7, 8, 9, 10, 11, 12, 13, 14, 15, 16], (rtp 4 (.bool (!(decide (aS = aS)))) (H.pick [0, 1, 2, 3] [2, 3, 4, 5, 6, 7, 8, 9, 10, 11, 12, 13, 14, 15, 16]) ?_)⟩))⟩
  refine xI qh (t_n (xF (!(decide (aS = aS))) rfl (fun h => absurd (xw h) qm) (fun h59 => ?_)))
  replace h59 := xn h59
  refine qX (t_n (zf (zf ?_)))
  refine ji rfl H fun H => rt 0 (.agg #[.slice a41Alive aT.qA.length c41Alive, .slice a41Bags aT.qE.length c41Bags, .slice a41Around aT.qy.length c41Around]) (Qh (cs := [.slice a41Alive aT.qA.length c41Alive, .slice a41Bags aT.qE.length c41Bags, .slice a41Around aT.qy.length c41Around]) Tryz.isAgg38 Tryz.sizeOf38 rfl (fun _ h => qH (h.cells 0 rfl) 0 3)) H ?_
  refine rt 1 (.agg #[.slice aaTAlive aT.qA.length caTAlive, .slice aaTBags aT.qE.length caTBags, .slice aaTAround aT.qy.length caTAround]) (Qh (cs := [.slice aaTAlive aT.qA.length caTAlive, .slice aaTBags aT.qE.length caTBags, .slice aaTAround aT.qy.length caTAround]) Tryz.isAgg29 Tryz.sizeOf29 rfl (fun _ h => qH (h.cells 2 rfl) 0 3)) H ?_
  refine ro 2 rfl ?_
  have sz61 := H.base.size
  have lt62 := H.ltN (L := [F56Parents, F56Rules, F41Alive, F41Bags, F41Around, F32Parents, F32Rules, F23Alive, F23Bags, F23Around, F17Parents, F17Rules]) [0, 1, 2, 3, 4, 5, 6, 7, 8, 9, 10, 11]
  refine oc (toState_ok _ aT (H.get 14 rfl).1 (H.get 15 rfl).1 (H.get 16 rfl).1 qg) ?_
  rintro v66 w64 r66 x65
  obtain ⟨a66Alive, c66Alive, F66Alive, a66Bags, c66Bags, F66Bags, a66Around, c66Around, F66Around, rfl, f66, H⟩ := H.add_StateD x65 r66
  replace N := N.cons f66 sz61 lt62
  replace N := N.split
  replace N := N.split
  refine ⟨H.pick [0, 1, 2, 3] [3, 4, 5, 6, 7, 8, 9, 10, 11, 12, 13, 14, 15, 16, 17, 18, 19], (ro 3 rfl (oq (eqState_ok _ aT aT (H.get 5 rfl).1 (H.get 6 rfl).1 (H.get 7 rfl).1 (H.get 0 rfl).1 (H.get 1 rfl).1 (H.get 2 rfl).1) H fun w67 H => ⟨H.pick [0, 1, 2, 3] [3, 4, 5, 6, 7, 8, 9, 10, 11, 12, 13, 14, 15, 16, 17, 18, 19], (rtp 4 (.bool (!(decide (aT = aT)))) (H.pick [0, 1, 2, 3] [3, 4, 5, 6, 7, 8, 9, 10, 11, 12, 13, 14, 15, 16, 17, 18, 19]) ?_)⟩))⟩
  refine xI qh (t_n (xF (!(decide (aT = aT))) rfl (fun h => absurd (xw h) qm) (fun h69 => ?_)))
  replace h69 := xn h69
  refine qX (t_n (zcr (sp (.bool true) (zjr (ret1 (.bool true) rfl rfl ⟨_, rfl, ?_, H.base⟩)))))
  rfl
 · exact absurd rfl (bne_iff_ne.1 h48)
end
end Go.Proofs.YtgjnaocffdhnbaaGreat
