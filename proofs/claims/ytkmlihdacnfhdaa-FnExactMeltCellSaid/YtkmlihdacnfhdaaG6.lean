/- Walks, printed by program (wip/tools/gv.py): what each function comes to, for all arguments. -/
import Derived.Test.YtkmlihdacnfhdaaG5
namespace Go.Proofs.Ytkmlihdacnfhdaa
open Go.Proofs.Ytkmlihdacnfhdaa.Tot (tot)
open Go.Proofs.Ytkmlihdacnfhdaa.Mark (cnt mrk mkd mkd_mark cnt_mark)
open Go.RowKit
set_option linter.unusedVariables false
set_option linter.unusedSimpArgs false
set_option maxRecDepth 100000
set_option maxHeartbeats 4000000



theorem isShell_ok (w : World) (s : SystemD) (asParents : Option Addr) (csParents : Nat) (FsParents : List Nat) (asRules : Option Addr) (csRules : Nat) (FsRules : List Nat) (hsParents : GoRep.rep w FsParents [.slice asParents s.fParents.length csParents] s.fParents) (hsRules : GoRep.rep w FsRules [.slice asRules s.fRules.length csRules] s.fRules) : Calls Try.prog 70 #[.agg #[.int .i64 s.fKinds, .slice asParents s.fParents.length csParents, .slice asRules s.fRules.length csRules]] w (Ret (fun v w' => v = .bool (dec (FrameOk s))) w) := by
 refine enter (n := 37) Try.func70 rfl Try.ntmps70 (Nat.le_of_ble_eq_true rfl) ?_
 have H := St.start w
 replace H := H.add (isF false FsRules (.slice asRules s.fRules.length csRules) s.fRules) ⟨hsRules, by simp⟩ (start_lt hsRules)
 replace H := H.add (isF false FsParents (.slice asParents s.fParents.length csParents) s.fParents) ⟨hsParents, by simp⟩ (start_lt hsParents)
 have nhsParents := rep_len hsParents
 have nhsRules := rep_len hsRules
 clear hsParents hsRules
 have N := Fresh.nil w.heap.size
 refine c_seq ?_
 refine c_reg ?_
 refine sw (o_box H (.agg #[.int .i64 s.fKinds, .slice asParents s.fParents.length csParents, .slice asRules s.fRules.length csRules]) rfl fun b1 w2 H => ?_)
 replace H : St _ _ [.box b1 [.int .i64 s.fKinds, .slice asParents s.fParents.length csParents, .slice asRules s.fRules.length csRules] 30] _ := H
 refine sp (.bool false) ?_
 refine c_nil (t_n ?_)
 refine c_seq ?_
 refine c_seq ?_
 refine c_reg ?_
 refine sw (o_field b1 (0) 0 Try.underlying30 rfl rfl Try.sizeOf2 rfl ?_)
 refine sw (o_load1 (.int .i64 s.fKinds) Try.isAgg2 rfl (H.cell 0 rfl rfl) ?_)
 refine sw (o_call #[.int .i64 s.fKinds, .int .i64 1, .int .i64 8] rfl rfl Try.call60 (inRange_ok w2 s.fKinds 1 8) ?_)
 rintro _ w3 rfl x4
 replace H := H.ext x4
 refine sp (.bool (!(inR s.fKinds 1 8))) ?_
 refine sp (.bool (!(inR s.fKinds 1 8))) ?_
 cases h5 : (!(inR s.fKinds 1 8))
 ·skip
  replace h5 := not_false_of h5
  replace h5 := inR_iff.1 h5
  refine g_take 9 rfl rfl ?_
  refine sw (o_field b1 (0) 1 Try.underlying30 rfl rfl Try.sizeOf22 rfl ?_)
  refine g_take 9 rfl rfl ?_
  refine sw (o_load1 (.slice asParents s.fParents.length csParents) Try.isAgg22 rfl (H.cell 0 rfl rfl) ?_)
  refine g_take 9 rfl rfl ?_
  refine sw (o_call #[.slice asParents s.fParents.length csParents] rfl rfl Try.call101 (sizeI_ok w3 s.fParents asParents csParents FsParents (H.get 0 rfl).1) ?_)
  rintro _ w6 rfl x7
  replace H := H.ext x7
  refine g_take 9 rfl rfl ?_
  refine sw (o_call #[.int .i64 (s.fParents.length : Int), .int .i64 1, .int .i64 6] rfl rfl Try.call60 (inRange_ok w6 (s.fParents.length : Int) 1 6) ?_)
  rintro _ w8 rfl x9
  replace H := H.ext x9
  refine g_take 9 rfl rfl ?_
  refine sp (.bool (!(inR (s.fParents.length : Int) 1 6))) ?_
  refine sp (.bool (!(inR (s.fParents.length : Int) 1 6))) ?_
  refine sp (.bool (!(inR (s.fParents.length : Int) 1 6))) ?_
  cases h10 : (!(inR (s.fParents.length : Int) 1 6))
  ·skip
   replace h10 := not_false_of h10
   replace h10 := inR_iff.1 h10
   refine g_take 16 rfl rfl ?_
   refine sw (o_field b1 (0) 1 Try.underlying30 rfl rfl Try.sizeOf22 rfl ?_)
   refine g_take 16 rfl rfl ?_
   refine sw (o_load1 (.slice asParents s.fParents.length csParents) Try.isAgg22 rfl (H.cell 0 rfl rfl) ?_)
   refine g_take 16 rfl rfl ?_
   obtain ⟨b11, o12, rfl⟩ := H.addr 0 rfl (by omega)
   refine sw (o_idxAt 0 Try.underlying22 ti2 rfl rfl (by omega) (by omega) ?_)
   refine g_take 16 rfl rfl ?_
   refine sw (o_load1 (.int .i64 (s.fParents[0]!)) Try.isAgg2 rfl (H.elemInt 0 rfl 0 (by omega) (by omega)) ?_)
   refine g_take 16 rfl rfl ?_
   refine sp (.bool ((s.fParents[0]! : Int) != (-1))) ?_
   refine sp (.bool ((s.fParents[0]! : Int) != (-1))) ?_
   refine c_nil (t_n ?_)
   refine c_cond ((s.fParents[0]! : Int) != (-1)) rfl (fun h14 => ?_) (fun h14 => ?_)
   ·skip
    replace h14 := bne_iff_ne.1 h14
    refine c_seq ?_
    refine c_reg ?_
    refine sp (.bool false) ?_
    refine c_nil (t_n ?_)
    refine c_ret (t_r (?_))
    refine ret1 (.bool false) rfl rfl ⟨_, rfl, ?_, H.base⟩
    rw [dec_false (fun h => by obtain ⟨h1, h2, h3, h4⟩ := h; first | omega | (have := h4 (c + 1) (by omega) (by omega); rw [← dg (by omega)] at this; omega))]
   ·skip
    replace h14 := eq_of_bne_false h14
    refine c_skip (t_n ?_)
    refine c_seq ?_
    refine c_seq ?_
    refine c_reg ?_
    refine sw (o_field b1 (0) 1 Try.underlying30 rfl rfl Try.sizeOf22 rfl ?_)
    refine sw (o_load1 (.slice (some ⟨b11, o12, none⟩) s.fParents.length csParents) Try.isAgg22 rfl (H.cell 0 rfl rfl) ?_)
    refine sw (o_tail H 0 rfl 1 Try.underlying22 ti2 rfl (by omega) fun a15 G16 hG17 H => ?_)
    have hl18 : (s.fParents.drop 1).length = s.fParents.length - 1 := List.length_drop
    refine sw (o_len Try.underlying22 a15 ((s.fParents.drop 1).length) (csParents - 1) rfl ?_)
    refine sp (.int .i64 0) ?_
    refine c_nil (t_n ?_)
    refine c_block ?_
    refine c_loop (fun m' ρ w19 => ∃ (junk : Env) (c : Nat), ρ = upd (upd (upd junk 25 (.slice a15 ((s.fParents.drop 1).length) (csParents - 1))) 26 (.int .i64 ((s.fParents.drop 1).length))) 27 (.int .i64 c) ∧ ((c : Int) ≤ ((s.fParents.drop 1).length)) ∧ (FrameTo s (c + 1)) ∧ m' = (((s.fParents.drop 1).length) - (c : Int)).toNat ∧ Fresh w.heap.size [] ∧ St w w19 [.box b1 [.int .i64 s.fKinds, .slice (some ⟨b11, o12, none⟩) s.fParents.length csParents, .slice asRules s.fRules.length csRules] 30] [isF false G16 (.slice a15 ((s.fParents.drop 1).length) (csParents - 1)) (s.fParents.drop 1), isF false FsParents (.slice (some ⟨b11, o12, none⟩) s.fParents.length csParents) s.fParents, isF false FsRules (.slice asRules s.fRules.length csRules) s.fRules]) ((((s.fParents.drop 1).length) - (0 : Int)).toNat) ⟨_, 0, (by exact upd_eq (upd_eq (upd_eq (rfl) rfl) rfl) rfl), (by omega), (by exact FrameTo.one s), rfl, N, H⟩ ?_
    clear H N
    rintro m' ρ w20 ⟨junk, c, rfl, i0, i1, rfl, N, H⟩
    have dg := drop_get (l := s.fParents) (k := c)
    refine c_seq ?_
    refine c_reg ?_
    refine sp (.bool (decide ((c : Int) < ((s.fParents.drop 1).length)))) ?_
    refine c_nil (t_n ?_)
    refine c_seq ?_
    refine c_cond (decide ((c : Int) < ((s.fParents.drop 1).length))) rfl (fun h21 => ?_) (fun h21 => ?_)
    ·skip
     replace h21 := of_decide_eq_true h21
     refine c_skip (t_n ?_)
     refine c_seq ?_
     refine c_block ?_
     refine c_seq ?_
     refine c_reg ?_
     refine sp (.int .i64 c) ?_
     obtain ⟨b22, o23, rfl⟩ := H.addr 0 rfl (by omega)
     refine sw (o_idxAt c Try.underlying22 ti2 rfl rfl (by omega) (by omega) ?_)
     refine sw (o_load1 (.int .i64 ((s.fParents.drop 1)[c]!)) Try.isAgg2 rfl (H.elemInt 0 rfl c (by omega) (by omega)) ?_)
     refine sp (.int .i64 c) ?_
     refine sp (.int .i64 ((s.fParents.drop 1)[c]!)) ?_
     refine c_nil (t_n ?_)
     refine c_seq ?_
     refine c_reg ?_
     refine sp (.int .i64 ((s.fParents.drop 1)[c]!)) ?_
     refine sp (.int .i64 c) ?_
     refine sw (o_call #[.int .i64 ((s.fParents.drop 1)[c]!), .int .i64 0, .int .i64 c] rfl rfl Try.call60 (inRange_ok w20 ((s.fParents.drop 1)[c]!) 0 c) ?_)
     rintro _ w25 rfl x26
     replace H := H.ext x26
     refine sp (.bool (!(inR ((s.fParents.drop 1)[c]!) 0 c))) ?_
     refine c_nil (t_n ?_)
     refine c_cond (!(inR ((s.fParents.drop 1)[c]!) 0 c)) rfl (fun h27 => ?_) (fun h27 => ?_)
     ·skip
      replace h27 := not_true_of h27
      replace h27 := inR_not h27
      refine c_seq ?_
      refine c_reg ?_
      refine sp (.bool false) ?_
      refine c_nil (t_n ?_)
      refine c_ret (b_r (t_r (t_r (b_r (t_r (?_))))))
      refine ret1 (.bool false) rfl rfl ⟨_, rfl, ?_, H.base⟩
      rw [dec_false (fun h => by obtain ⟨h1, h2, h3, h4⟩ := h; first | omega | (have := h4 (c + 1) (by omega) (by omega); rw [← dg (by omega)] at this; omega))]
     ·skip
      replace h27 := not_false_of h27
      replace h27 := inR_iff.1 h27
      refine c_skip (b_n (t_n ?_))
      refine c_reg ?_
      refine sw (o_add c 1 rfl rfl (by omega) ?_)
      refine sp (.int .i64 (c + 1)) ?_
      refine c_nil (?_)
      refine loop_end (m' := (((s.fParents.drop 1).length) - ((c + 1) : Int)).toNat) (by omega) ⟨_, c + 1, (by exact upd_eq (upd_eq (upd_eq (rfl) rfl) rfl) rfl), ?_, ?_, rfl, N, H⟩
      · omega
      · exact i1.succ (by rw [← dg (by omega)]; omega)
    ·skip
     replace h21 := of_decide_eq_false h21
     refine c_exit (t_x (t_x (b_x (t_n ?_))))
     refine c_seq ?_
     refine c_reg ?_
     refine sp (.bool true) ?_
     refine c_nil (t_n ?_)
     refine c_ret (?_)
     refine ret1 (.bool true) rfl rfl ⟨_, rfl, ?_, H.base⟩
     rw [dec_true ⟨by omega, by omega, by omega, (show s.fParents.length = c + 1 by omega) ▸ i1⟩]
  ·skip
   replace h10 := not_true_of h10
   replace h10 := inR_not h10
   refine g_skips [17, 18, 19, 20, 21] ?_
   refine sp (.bool true) ?_
   refine c_nil (t_n ?_)
   refine c_cond true rfl (fun _ => ?_) (fun h => absurd h (by decide))
   refine c_seq ?_
   refine c_reg ?_
   refine sp (.bool false) ?_
   refine c_nil (t_n ?_)
   refine c_ret (t_r (?_))
   refine ret1 (.bool false) rfl rfl ⟨_, rfl, ?_, H.base⟩
   rw [dec_false (fun h => by obtain ⟨h1, h2, h3, h4⟩ := h; first | omega | (have := h4 (c + 1) (by omega) (by omega); rw [← dg (by omega)] at this; omega))]
 ·skip
  replace h5 := not_true_of h5
  replace h5 := inR_not h5
  refine g_skips [10, 11, 12, 13, 14] ?_
  refine sp (.bool true) ?_
  refine sp (.bool true) ?_
  refine g_skips [17, 18, 19, 20, 21] ?_
  refine sp (.bool true) ?_
  refine c_nil (t_n ?_)
  refine c_cond true rfl (fun _ => ?_) (fun h => absurd h (by decide))
  refine c_seq ?_
  refine c_reg ?_
  refine sp (.bool false) ?_
  refine c_nil (t_n ?_)
  refine c_ret (t_r (?_))
  refine ret1 (.bool false) rfl rfl ⟨_, rfl, ?_, H.base⟩
  rw [dec_false (fun h => by obtain ⟨h1, h2, h3, h4⟩ := h; first | omega | (have := h4 (c + 1) (by omega) (by omega); rw [← dg (by omega)] at this; omega))]

theorem isCell_ok (w : World) (s : SystemD) (c : Int) (asParents : Option Addr) (csParents : Nat) (FsParents : List Nat) (asRules : Option Addr) (csRules : Nat) (FsRules : List Nat) (hsParents : GoRep.rep w FsParents [.slice asParents s.fParents.length csParents] s.fParents) (hsRules : GoRep.rep w FsRules [.slice asRules s.fRules.length csRules] s.fRules) : Calls Try.prog 80 #[.agg #[.int .i64 s.fKinds, .slice asParents s.fParents.length csParents, .slice asRules s.fRules.length csRules], .int .i64 c] w (Ret (fun v w' => v = .bool (inR c 0 ((s.fParents.length : Int) - 1))) w) := by
 refine enter (n := 11) Try.func80 rfl Try.ntmps80 (Nat.le_of_ble_eq_true rfl) ?_
 have H := St.start w
 replace H := H.add (isF false FsRules (.slice asRules s.fRules.length csRules) s.fRules) ⟨hsRules, by simp⟩ (start_lt hsRules)
 replace H := H.add (isF false FsParents (.slice asParents s.fParents.length csParents) s.fParents) ⟨hsParents, by simp⟩ (start_lt hsParents)
 have nhsParents := rep_len hsParents
 have nhsRules := rep_len hsRules
 clear hsParents hsRules
 have N := Fresh.nil w.heap.size
 refine c_seq ?_
 refine c_reg ?_
 refine sw (o_box H (.agg #[.int .i64 s.fKinds, .slice asParents s.fParents.length csParents, .slice asRules s.fRules.length csRules]) rfl fun b1 w2 H => ?_)
 replace H : St _ _ [.box b1 [.int .i64 s.fKinds, .slice asParents s.fParents.length csParents, .slice asRules s.fRules.length csRules] 30] _ := H
 refine sp (.bool false) ?_
 refine c_nil (t_n ?_)
 refine c_seq ?_
 refine c_reg ?_
 refine sp (.int .i64 c) ?_
 refine sw (o_field b1 (0) 1 Try.underlying30 rfl rfl Try.sizeOf22 rfl ?_)
 refine sw (o_load1 (.slice asParents s.fParents.length csParents) Try.isAgg22 rfl (H.cell 0 rfl rfl) ?_)
 refine sw (o_call #[.slice asParents s.fParents.length csParents] rfl rfl Try.call101 (sizeI_ok w2 s.fParents asParents csParents FsParents (H.get 0 rfl).1) ?_)
 rintro _ w3 rfl x4
 replace H := H.ext x4
 refine sw (o_sub (s.fParents.length : Int) 1 rfl rfl (by omega) ?_)
 refine sw (o_call #[.int .i64 c, .int .i64 0, .int .i64 ((s.fParents.length : Int) - 1)] rfl rfl Try.call60 (inRange_ok w3 c 0 ((s.fParents.length : Int) - 1)) ?_)
 rintro _ w5 rfl x6
 replace H := H.ext x6
 refine sp (.bool (inR c 0 ((s.fParents.length : Int) - 1))) ?_
 refine c_nil (t_n ?_)
 refine c_ret (?_)
 refine ret1 (.bool (inR c 0 ((s.fParents.length : Int) - 1))) rfl rfl ⟨_, rfl, ?_, H.base⟩
 rfl

theorem lies_ok (w : World) (s : SystemD) (c : Int) (within : Int) (asParents : Option Addr) (csParents : Nat) (FsParents : List Nat) (asRules : Option Addr) (csRules : Nat) (FsRules : List Nat) (hsParents : GoRep.rep w FsParents [.slice asParents s.fParents.length csParents] s.fParents) (hsRules : GoRep.rep w FsRules [.slice asRules s.fRules.length csRules] s.fRules) (p0 : FrameOk s) (p1 : CellIn s c) : Calls Try.prog 102 #[.agg #[.int .i64 s.fKinds, .slice asParents s.fParents.length csParents, .slice asRules s.fRules.length csRules], .int .i64 c, .int .i64 within] w (Ret (fun v w' => v = .bool (dec (Lies s.fParents within c))) w) := by
 refine enter (n := 22) Try.func102 rfl Try.ntmps102 (Nat.le_of_ble_eq_true rfl) ?_
 have H := St.start w
 replace H := H.add (isF false FsRules (.slice asRules s.fRules.length csRules) s.fRules) ⟨hsRules, by simp⟩ (start_lt hsRules)
 replace H := H.add (isF false FsParents (.slice asParents s.fParents.length csParents) s.fParents) ⟨hsParents, by simp⟩ (start_lt hsParents)
 have nhsParents := rep_len hsParents
 have nhsRules := rep_len hsRules
 clear hsParents hsRules
 have N := Fresh.nil w.heap.size
 have p2 := p0.step p1.1 p1.2
 refine c_seq ?_
 refine c_reg ?_
 refine sw (o_box H (.agg #[.int .i64 s.fKinds, .slice asParents s.fParents.length csParents, .slice asRules s.fRules.length csRules]) rfl fun b1 w2 H => ?_)
 replace H : St _ _ [.box b1 [.int .i64 s.fKinds, .slice asParents s.fParents.length csParents, .slice asRules s.fRules.length csRules] 30] _ := H
 refine sp (.bool false) ?_
 refine c_nil (t_n ?_)
 refine c_seq ?_
 refine c_seq ?_
 refine c_reg ?_
 refine sw (o_field b1 (0) 1 Try.underlying30 rfl rfl Try.sizeOf22 rfl ?_)
 refine sw (o_load1 (.slice asParents s.fParents.length csParents) Try.isAgg22 rfl (H.cell 0 rfl rfl) ?_)
 refine sp (.int .i64 c) ?_
 obtain ⟨b3, o4, rfl⟩ := H.addr 0 rfl (by omega)
 refine sw (o_idxAt c Try.underlying22 ti2 rfl rfl (by omega) (by omega) ?_)
 refine sw (o_load1 (.int .i64 (s.fParents[c.toNat]!)) Try.isAgg2 rfl (H.elemInt 0 rfl c (by omega) (by omega)) ?_)
 refine sp (.int .i64 (s.fParents[c.toNat]!)) ?_
 refine c_nil (t_n ?_)
 refine c_block ?_
 refine c_loop (fun m' ρ w6 => ∃ (junk : Env) (c_1 : Int), ρ = upd (upd (upd junk 1 (.int .i64 c_1)) 2 (.int .i64 within)) 3 (.pointer (some ⟨b1, 0, none⟩)) ∧ (-1 ≤ c_1 ∧ c_1 ≤ (s.fParents.length : Int) - 1) ∧ (Lies s.fParents within c ↔ 0 ≤ c_1 ∧ (c_1 = within ∨ Lies s.fParents within c_1)) ∧ m' = (c_1 + 1).toNat ∧ Fresh w.heap.size [] ∧ St w w6 [.box b1 [.int .i64 s.fKinds, .slice (some ⟨b3, o4, none⟩) s.fParents.length csParents, .slice asRules s.fRules.length csRules] 30] [isF false FsParents (.slice (some ⟨b3, o4, none⟩) s.fParents.length csParents) s.fParents, isF false FsRules (.slice asRules s.fRules.length csRules) s.fRules]) (((s.fParents[c.toNat]!) + 1).toNat) ⟨_, s.fParents[c.toNat]!, (by exact upd_eq (upd_eq (upd_eq (rfl) rfl) rfl) rfl), (by omega), (by exact lies_up p0 p1), rfl, N, H⟩ ?_
 clear H N
 rintro m' ρ w7 ⟨junk, c_1, rfl, i0, i1, rfl, N, H⟩
 have up := fun h => p0.step (c := c_1) h i0.2
 refine c_seq ?_
 refine c_seq ?_
 refine c_reg ?_
 refine sp (.int .i64 c_1) ?_
 refine sp (.bool (decide ((c_1 : Int) ≥ 0))) ?_
 refine c_nil (t_n ?_)
 refine c_cond (decide ((c_1 : Int) ≥ 0)) rfl (fun h8 => ?_) (fun h8 => ?_)
 ·skip
  replace h8 := of_decide_eq_true h8
  refine c_skip (t_n ?_)
  refine c_seq ?_
  refine c_block ?_
  refine c_seq ?_
  refine c_reg ?_
  refine sp (.int .i64 c_1) ?_
  refine sp (.int .i64 within) ?_
  refine sp (.bool ((c_1 : Int) == within)) ?_
  refine c_nil (t_n ?_)
  refine c_cond ((c_1 : Int) == within) rfl (fun h9 => ?_) (fun h9 => ?_)
  ·skip
   replace h9 := eq_of_beq h9
   refine c_seq ?_
   refine c_reg ?_
   refine sp (.bool true) ?_
   refine c_nil (t_n ?_)
   refine c_ret (b_r (t_r (t_r (b_r (t_r (?_))))))
   refine ret1 (.bool true) rfl rfl ⟨_, rfl, ?_, H.base⟩
   rw [dec_true (i1.2 ⟨by omega, .inl ‹_›⟩)]
  ·skip
   replace h9 := ne_of_beq_false h9
   refine c_skip (b_n (t_n ?_))
   refine c_reg ?_
   refine sw (o_field b1 (0) 1 Try.underlying30 rfl rfl Try.sizeOf22 rfl ?_)
   refine sw (o_load1 (.slice (some ⟨b3, o4, none⟩) s.fParents.length csParents) Try.isAgg22 rfl (H.cell 0 rfl rfl) ?_)
   refine sp (.int .i64 c_1) ?_
   refine sw (o_idxAt c_1 Try.underlying22 ti2 rfl rfl (by omega) (by omega) ?_)
   refine sw (o_load1 (.int .i64 (s.fParents[c_1.toNat]!)) Try.isAgg2 rfl (H.elemInt 0 rfl c_1 (by omega) (by omega)) ?_)
   refine sp (.int .i64 (s.fParents[c_1.toNat]!)) ?_
   refine c_nil (?_)
   have up1 := up (by omega)
   refine loop_end (m' := ((s.fParents[c_1.toNat]!) + 1).toNat) (by omega) ⟨_, s.fParents[c_1.toNat]!, (by exact upd_eq (upd_eq (upd_eq (rfl) rfl) rfl) rfl), ?_, ?_, rfl, N, H⟩
   · omega
   · exact i1.trans ⟨fun h => (lies_up p0 ⟨by omega, by omega⟩).1 (h.2.resolve_left ‹_›), fun h => ⟨by omega, .inr ((lies_up p0 ⟨by omega, by omega⟩).2 h)⟩⟩
 ·skip
  replace h8 := of_decide_eq_false h8
  refine c_exit (t_x (t_x (b_x (t_n ?_))))
  refine c_seq ?_
  refine c_reg ?_
  refine sp (.bool false) ?_
  refine c_nil (t_n ?_)
  refine c_ret (?_)
  refine ret1 (.bool false) rfl rfl ⟨_, rfl, ?_, H.base⟩
  rw [dec_false (fun h => by have := (i1.1 h).1; omega)]

theorem isRule_ok (w : World) (s : SystemD) (r : RuleD) (asParents : Option Addr) (csParents : Nat) (FsParents : List Nat) (asRules : Option Addr) (csRules : Nat) (FsRules : List Nat) (arNeed : Option Addr) (crNeed : Nat) (FrNeed : List Nat) (arHave : Option Addr) (crHave : Nat) (FrHave : List Nat) (arLack : Option Addr) (crLack : Nat) (FrLack : List Nat) (arHere : Option Addr) (crHere : Nat) (FrHere : List Nat) (arOut : Option Addr) (crOut : Nat) (FrOut : List Nat) (arInto : Option Addr) (crInto : Nat) (FrInto : List Nat) (hsParents : GoRep.rep w FsParents [.slice asParents s.fParents.length csParents] s.fParents) (hsRules : GoRep.rep w FsRules [.slice asRules s.fRules.length csRules] s.fRules) (hrNeed : GoRep.rep w FrNeed [.slice arNeed r.fNeed.length crNeed] r.fNeed) (hrHave : GoRep.rep w FrHave [.slice arHave r.fHave.length crHave] r.fHave) (hrLack : GoRep.rep w FrLack [.slice arLack r.fLack.length crLack] r.fLack) (hrHere : GoRep.rep w FrHere [.slice arHere r.fHere.length crHere] r.fHere) (hrOut : GoRep.rep w FrOut [.slice arOut r.fOut.length crOut] r.fOut) (hrInto : GoRep.rep w FrInto [.slice arInto r.fInto.length crInto] r.fInto) (p0 : FrameOk s) : Calls Try.prog 71 #[.agg #[.int .i64 s.fKinds, .slice asParents s.fParents.length csParents, .slice asRules s.fRules.length csRules], .agg #[.int .i64 r.fCell, .int .i64 r.fRank, .slice arNeed r.fNeed.length crNeed, .slice arHave r.fHave.length crHave, .slice arLack r.fLack.length crLack, .slice arHere r.fHere.length crHere, .slice arOut r.fOut.length crOut, .slice arInto r.fInto.length crInto, .bool r.fMelts]] w (Ret (fun v w' => v = .bool (dec (RuleOk s r))) w) := by
 refine enter (n := 114) Try.func71 rfl Try.ntmps71 (Nat.le_of_ble_eq_true rfl) ?_
 have H := St.start w
 replace H := H.add (isF false FrInto (.slice arInto r.fInto.length crInto) r.fInto) ⟨hrInto, by simp⟩ (start_lt hrInto)
 replace H := H.add (isF false FrOut (.slice arOut r.fOut.length crOut) r.fOut) ⟨hrOut, by simp⟩ (start_lt hrOut)
 replace H := H.add (isF false FrHere (.slice arHere r.fHere.length crHere) r.fHere) ⟨hrHere, by simp⟩ (start_lt hrHere)
 replace H := H.add (isF false FrLack (.slice arLack r.fLack.length crLack) r.fLack) ⟨hrLack, by simp⟩ (start_lt hrLack)
 replace H := H.add (isF false FrHave (.slice arHave r.fHave.length crHave) r.fHave) ⟨hrHave, by simp⟩ (start_lt hrHave)
 replace H := H.add (isF false FrNeed (.slice arNeed r.fNeed.length crNeed) r.fNeed) ⟨hrNeed, by simp⟩ (start_lt hrNeed)
 replace H := H.add (isF false FsRules (.slice asRules s.fRules.length csRules) s.fRules) ⟨hsRules, by simp⟩ (start_lt hsRules)
 replace H := H.add (isF false FsParents (.slice asParents s.fParents.length csParents) s.fParents) ⟨hsParents, by simp⟩ (start_lt hsParents)
 have nhsParents := rep_len hsParents
 have nhsRules := rep_len hsRules
 have nhrNeed := rep_len hrNeed
 have nhrHave := rep_len hrHave
 have nhrLack := rep_len hrLack
 have nhrHere := rep_len hrHere
 have nhrOut := rep_len hrOut
 have nhrInto := rep_len hrInto
 clear hsParents hsRules hrNeed hrHave hrLack hrHere hrOut hrInto
 have N := Fresh.nil w.heap.size
 refine c_seq ?_
 refine c_reg ?_
 refine sw (o_box H (.agg #[.int .i64 s.fKinds, .slice asParents s.fParents.length csParents, .slice asRules s.fRules.length csRules]) rfl fun b1 w2 H => ?_)
 replace H : St _ _ [.box b1 [.int .i64 s.fKinds, .slice asParents s.fParents.length csParents, .slice asRules s.fRules.length csRules] 30] _ := H
 refine sw (o_box H (.agg #[.int .i64 r.fCell, .int .i64 r.fRank, .slice arNeed r.fNeed.length crNeed, .slice arHave r.fHave.length crHave, .slice arLack r.fLack.length crLack, .slice arHere r.fHere.length crHere, .slice arOut r.fOut.length crOut, .slice arInto r.fInto.length crInto, .bool r.fMelts]) rfl fun b3 w4 H => ?_)
 replace H : St _ _ [.box b3 [.int .i64 r.fCell, .int .i64 r.fRank, .slice arNeed r.fNeed.length crNeed, .slice arHave r.fHave.length crHave, .slice arLack r.fLack.length crLack, .slice arHere r.fHere.length crHere, .slice arOut r.fOut.length crOut, .slice arInto r.fInto.length crInto, .bool r.fMelts] 92, .box b1 [.int .i64 s.fKinds, .slice asParents s.fParents.length csParents, .slice asRules s.fRules.length csRules] 30] _ := H
 refine sp (.bool false) ?_
 refine c_nil (t_n ?_)
 refine c_seq ?_
 refine c_seq ?_
 refine c_reg ?_
 refine sw (o_loadN [.int .i64 s.fKinds, .slice asParents s.fParents.length csParents, .slice asRules s.fRules.length csRules] Try.isAgg30 Try.sizeOf30 rfl (cellsAt_sub (H.cells 1 rfl) 0 3) ?_)
 refine sw (o_field b3 (0) 0 Try.underlying92 rfl rfl Try.sizeOf2 rfl ?_)
 refine sw (o_load1 (.int .i64 r.fCell) Try.isAgg2 rfl (H.cell 0 rfl rfl) ?_)
 refine sw (o_call #[.agg #[.int .i64 s.fKinds, .slice asParents s.fParents.length csParents, .slice asRules s.fRules.length csRules], .int .i64 r.fCell] rfl rfl Try.call80 (isCell_ok w4 s r.fCell asParents csParents FsParents asRules csRules FsRules (H.get 0 rfl).1 (H.get 1 rfl).1) ?_)
 rintro _ w6 rfl x7
 replace H := H.ext x7
 refine sp (.bool (!(inR r.fCell 0 ((s.fParents.length : Int) - 1)))) ?_
 refine sp (.bool (!(inR r.fCell 0 ((s.fParents.length : Int) - 1)))) ?_
 cases h8 : (!(inR r.fCell 0 ((s.fParents.length : Int) - 1)))
 ·skip
  replace h8 := not_false_of h8
  replace h8 := inR_iff.1 h8
  refine g_take 14 rfl rfl ?_
  refine sw (o_field b3 (0) 1 Try.underlying92 rfl rfl Try.sizeOf2 rfl ?_)
  refine g_take 14 rfl rfl ?_
  refine sw (o_load1 (.int .i64 r.fRank) Try.isAgg2 rfl (H.cell 0 rfl rfl) ?_)
  refine g_take 14 rfl rfl ?_
  refine sw (o_call #[.int .i64 r.fRank, .int .i64 0, .int .i64 9] rfl rfl Try.call60 (inRange_ok w6 r.fRank 0 9) ?_)
  rintro _ w9 rfl x10
  replace H := H.ext x10
  refine g_take 14 rfl rfl ?_
  refine sp (.bool (!(inR r.fRank 0 9))) ?_
  refine sp (.bool (!(inR r.fRank 0 9))) ?_
  refine sp (.bool (!(inR r.fRank 0 9))) ?_
  cases h11 : (!(inR r.fRank 0 9))
  ·skip
   replace h11 := not_false_of h11
   replace h11 := inR_iff.1 h11
   refine g_take 20 rfl rfl ?_
   refine sw (o_field b3 (0) 8 Try.underlying92 rfl rfl Try.sizeOf4 rfl ?_)
   refine g_take 20 rfl rfl ?_
   refine sw (o_load1 (.bool r.fMelts) Try.isAgg4 rfl (H.cell 0 rfl rfl) ?_)
   refine g_take 20 rfl rfl ?_
   refine sp (.bool r.fMelts) ?_
   cases h12 : (r.fMelts)
   ·skip
    rw [h12] at H
    refine g_skips [24, 25, 26] ?_
    refine g_take 20 rfl rfl ?_
    refine sp (.bool false) ?_
    refine sp (.bool false) ?_
    refine sp (.bool false) ?_
    refine g_take 29 rfl rfl ?_
    refine sw (o_field b3 (0) 7 Try.underlying92 rfl rfl Try.sizeOf90 rfl ?_)
    refine g_take 29 rfl rfl ?_
    refine sw (o_load1 (.slice arInto r.fInto.length crInto) Try.isAgg90 rfl (H.cell 0 rfl rfl) ?_)
    refine g_take 29 rfl rfl ?_
    refine sw (o_len Try.underlying90 arInto r.fInto.length crInto rfl ?_)
    refine g_take 29 rfl rfl ?_
    refine sp (.bool (decide ((r.fInto.length : Int) > 3))) ?_
    refine sp (.bool (decide ((r.fInto.length : Int) > 3))) ?_
    refine c_nil (t_n ?_)
    refine c_cond (decide ((r.fInto.length : Int) > 3)) rfl (fun h13 => ?_) (fun h13 => ?_)
    ·skip
     replace h13 := of_decide_eq_true h13
     refine c_seq ?_
     refine c_reg ?_
     refine sp (.bool false) ?_
     refine c_nil (t_n ?_)
     refine c_ret (t_r (?_))
     refine ret1 (.bool false) rfl rfl ⟨_, rfl, ?_, H.base⟩
     rw [dec_false (fun h => by obtain ⟨h1, h2, h3, h4, h5, h6, h7, h8, h9, h10, h11⟩ := h; first | contradiction | omega | exact h3 ⟨‹_›, ‹_›⟩ | (obtain ⟨q1, q2, q3, q4, q5⟩ := h11 i (by omega); first | contradiction | omega | (have := q5 (by omega); omega)) | (refine absurd ?_ ‹¬ BagOk _ _›; rcases (show k = 0 ∨ k = 1 ∨ k = 2 ∨ k = 3 ∨ k = 4 by omega) with e | e | e | e | e <;> subst e <;> assumption))]
    ·skip
     replace h13 := of_decide_eq_false h13
     refine c_skip (t_n ?_)
     refine c_seq ?_
     refine c_seq ?_
     refine c_reg ?_
     refine sw (o_field b3 (0) 2 Try.underlying92 rfl rfl Try.sizeOf22 rfl ?_)
     refine sw (o_load1 (.slice arNeed r.fNeed.length crNeed) Try.isAgg22 rfl (H.cell 0 rfl rfl) ?_)
     refine sw (o_field b3 (0) 3 Try.underlying92 rfl rfl Try.sizeOf22 rfl ?_)
     refine sw (o_load1 (.slice arHave r.fHave.length crHave) Try.isAgg22 rfl (H.cell 0 rfl rfl) ?_)
     refine sw (o_field b3 (0) 4 Try.underlying92 rfl rfl Try.sizeOf22 rfl ?_)
     refine sw (o_load1 (.slice arLack r.fLack.length crLack) Try.isAgg22 rfl (H.cell 0 rfl rfl) ?_)
     refine sw (o_field b3 (0) 5 Try.underlying92 rfl rfl Try.sizeOf22 rfl ?_)
     refine sw (o_load1 (.slice arHere r.fHere.length crHere) Try.isAgg22 rfl (H.cell 0 rfl rfl) ?_)
     refine sw (o_field b3 (0) 6 Try.underlying92 rfl rfl Try.sizeOf22 rfl ?_)
     refine sw (o_load1 (.slice arOut r.fOut.length crOut) Try.isAgg22 rfl (H.cell 0 rfl rfl) ?_)
     refine sw (o_buildF H Try.underlying37 ti22 [.slice arNeed r.fNeed.length crNeed, .slice arHave r.fHave.length crHave, .slice arLack r.fLack.length crLack, .slice arHere r.fHere.length crHere, .slice arOut r.fOut.length crOut] rfl (by simp [Value.cells]) rfl (by decide) (by decide) fun b14 w15 H => ?_)
     replace H : St _ _ [.box b14 [.slice arNeed r.fNeed.length crNeed, .slice arHave r.fHave.length crHave, .slice arLack r.fLack.length crLack, .slice arHere r.fHere.length crHere, .slice arOut r.fOut.length crOut] 22, .box b3 [.int .i64 r.fCell, .int .i64 r.fRank, .slice arNeed r.fNeed.length crNeed, .slice arHave r.fHave.length crHave, .slice arLack r.fLack.length crLack, .slice arHere r.fHere.length crHere, .slice arOut r.fOut.length crOut, .slice arInto r.fInto.length crInto, .bool false] 92, .box b1 [.int .i64 s.fKinds, .slice asParents s.fParents.length csParents, .slice asRules s.fRules.length csRules] 30] _ := H
     refine sw (o_len Try.underlying37 (some ⟨b14, 0, none⟩) 5 5 rfl ?_)
     refine sp (.int .i64 0) ?_
     refine c_nil (t_n ?_)
     refine c_block ?_
     replace H := H.boxRow 0 rfl 1 5 rfl (by decide)
     replace H := H.repsNil (α := List Int)
     replace H := H.repsCons false 7 rfl 0 rfl (by simp)
     replace H := H.repsCons false 7 rfl 0 rfl (by simp)
     replace H := H.repsCons false 7 rfl 0 rfl (by simp)
     replace H := H.repsCons false 7 rfl 0 rfl (by simp)
     replace H := H.repsCons false 7 rfl 0 rfl (by simp)
     replace H : St _ _ [.row (.slice (some ⟨b14, 0, none⟩) 5 5) 22 1 5 [.slice arNeed r.fNeed.length crNeed, .slice arHave r.fHave.length crHave, .slice arLack r.fLack.length crLack, .slice arHere r.fHere.length crHere, .slice arOut r.fOut.length crOut], .box b3 [.int .i64 r.fCell, .int .i64 r.fRank, .slice arNeed r.fNeed.length crNeed, .slice arHave r.fHave.length crHave, .slice arLack r.fLack.length crLack, .slice arHere r.fHere.length crHere, .slice arOut r.fOut.length crOut, .slice arInto r.fInto.length crInto, .bool false] 92, .box b1 [.int .i64 s.fKinds, .slice asParents s.fParents.length csParents, .slice asRules s.fRules.length csRules] 30] _ := H
     refine c_loop (fun m' ρ w16 => ∃ (junk : Env) (k : Nat), ρ = upd (upd (upd (upd (upd junk 2 (.pointer (some ⟨b1, 0, none⟩))) 3 (.pointer (some ⟨b3, 0, none⟩))) 45 (.slice (some ⟨b14, 0, none⟩) 5 5)) 46 (.int .i64 5)) 47 (.int .i64 k) ∧ ((k : Int) ≤ 5) ∧ (∀ j, j < k → BagOk s.fKinds ([r.fNeed, r.fHave, r.fLack, r.fHere, r.fOut][j]!)) ∧ m' = (5 - (k : Int)).toNat ∧ Fresh w.heap.size [] ∧ St w w16 [.row (.slice (some ⟨b14, 0, none⟩) 5 5) 22 1 5 [.slice arNeed r.fNeed.length crNeed, .slice arHave r.fHave.length crHave, .slice arLack r.fLack.length crLack, .slice arHere r.fHere.length crHere, .slice arOut r.fOut.length crOut], .box b3 [.int .i64 r.fCell, .int .i64 r.fRank, .slice arNeed r.fNeed.length crNeed, .slice arHave r.fHave.length crHave, .slice arLack r.fLack.length crLack, .slice arHere r.fHere.length crHere, .slice arOut r.fOut.length crOut, .slice arInto r.fInto.length crInto, .bool false] 92, .box b1 [.int .i64 s.fKinds, .slice asParents s.fParents.length csParents, .slice asRules s.fRules.length csRules] 30] [repsF false (FrNeed ++ (FrHave ++ (FrLack ++ (FrHere ++ (FrOut ++ []))))) [.slice arNeed r.fNeed.length crNeed, .slice arHave r.fHave.length crHave, .slice arLack r.fLack.length crLack, .slice arHere r.fHere.length crHere, .slice arOut r.fOut.length crOut] [r.fNeed, r.fHave, r.fLack, r.fHere, r.fOut], isF false FsParents (.slice asParents s.fParents.length csParents) s.fParents, isF false FsRules (.slice asRules s.fRules.length csRules) s.fRules, isF false FrNeed (.slice arNeed r.fNeed.length crNeed) r.fNeed, isF false FrHave (.slice arHave r.fHave.length crHave) r.fHave, isF false FrLack (.slice arLack r.fLack.length crLack) r.fLack, isF false FrHere (.slice arHere r.fHere.length crHere) r.fHere, isF false FrOut (.slice arOut r.fOut.length crOut) r.fOut, isF false FrInto (.slice arInto r.fInto.length crInto) r.fInto]) ((5 - (0 : Int)).toNat) ⟨_, 0, (by exact upd_eq (upd_eq (upd_eq (upd_eq (upd_eq (rfl) rfl) rfl) rfl) rfl) rfl), (by omega), (by intro j hj; omega), rfl, N, H.pick [0, 1, 2] [0, 6, 7, 8, 9, 10, 11, 12, 13]⟩ ?_
     clear H N
     rintro m' ρ w17 ⟨junk, k, rfl, i0, i1, rfl, N, H⟩
     refine c_seq ?_
     refine c_reg ?_
     refine sp (.bool (decide ((k : Int) < 5))) ?_
     refine c_nil (t_n ?_)
     refine c_seq ?_
     refine c_cond (decide ((k : Int) < 5)) rfl (fun h18 => ?_) (fun h18 => ?_)
     ·skip
      replace h18 := of_decide_eq_true h18
      refine c_skip (t_n ?_)
      refine c_seq ?_
      refine c_block ?_
      refine c_seq ?_
      refine c_reg ?_
      refine sw (o_idxAt k Try.underlying37 ti22 rfl rfl (by omega) (by omega) ?_)
      obtain ⟨a19, c20, G21, s22, h23, H⟩ := H.rowElemL 0 rfl 0 rfl (iv := k) k (by omega) (by omega)
      refine sw (o_load1 (.slice a19 (([r.fNeed, r.fHave, r.fLack, r.fHere, r.fOut][k]!).length) c20) Try.isAgg22 rfl (h23) ?_)
      refine sp (.slice a19 (([r.fNeed, r.fHave, r.fLack, r.fHere, r.fOut][k]!).length) c20) ?_
      refine c_nil (t_n ?_)
      refine c_seq ?_
      refine c_reg ?_
      refine sw (o_field b1 (0) 0 Try.underlying30 rfl rfl Try.sizeOf2 rfl ?_)
      refine sw (o_load1 (.int .i64 s.fKinds) Try.isAgg2 rfl (H.cell 2 rfl rfl) ?_)
      refine sp (.slice a19 (([r.fNeed, r.fHave, r.fLack, r.fHere, r.fOut][k]!).length) c20) ?_
      refine sw (o_call #[.int .i64 s.fKinds, .slice a19 (([r.fNeed, r.fHave, r.fLack, r.fHere, r.fOut][k]!).length) c20] rfl rfl Try.call89 (validBag_ok w17 s.fKinds ([r.fNeed, r.fHave, r.fLack, r.fHere, r.fOut][k]!) a19 c20 G21 (H.get 0 rfl).1) ?_)
      rintro _ w24 rfl x25
      replace H := H.ext x25
      refine sp (.bool (!(dec (BagOk s.fKinds ([r.fNeed, r.fHave, r.fLack, r.fHere, r.fOut][k]!))))) ?_
      refine c_nil (t_n ?_)
      refine c_cond (!(dec (BagOk s.fKinds ([r.fNeed, r.fHave, r.fLack, r.fHere, r.fOut][k]!)))) rfl (fun h26 => ?_) (fun h26 => ?_)
      ·skip
       replace h26 := not_true_of h26
       replace h26 := not_of_dec h26
       refine c_seq ?_
       refine c_reg ?_
       refine sp (.bool false) ?_
       refine c_nil (t_n ?_)
       refine c_ret (b_r (t_r (t_r (b_r (t_r (?_))))))
       refine ret1 (.bool false) rfl rfl ⟨_, rfl, ?_, H.base⟩
       rw [dec_false (fun h => by obtain ⟨h1, h2, h3, h4, h5, h6, h7, h8, h9, h10, h11⟩ := h; first | contradiction | omega | exact h3 ⟨‹_›, ‹_›⟩ | (obtain ⟨q1, q2, q3, q4, q5⟩ := h11 i (by omega); first | contradiction | omega | (have := q5 (by omega); omega)) | (refine absurd ?_ ‹¬ BagOk _ _›; rcases (show k = 0 ∨ k = 1 ∨ k = 2 ∨ k = 3 ∨ k = 4 by omega) with e | e | e | e | e <;> subst e <;> assumption))]
      ·skip
       replace h26 := not_false_of h26
       replace h26 := of_dec h26
       refine c_skip (b_n (t_n ?_))
       refine c_reg ?_
       refine sw (o_add k 1 rfl rfl (by omega) ?_)
       refine sp (.int .i64 (k + 1)) ?_
       refine c_nil (?_)
       refine loop_end (m' := (5 - ((k + 1) : Int)).toNat) (by omega) ⟨_, k + 1, (by exact upd_eq (upd_eq (upd_eq (upd_eq (upd_eq (rfl) rfl) rfl) rfl) rfl) rfl), ?_, ?_, rfl, N, H.pick [0, 1, 2] [1, 2, 3, 4, 5, 6, 7, 8, 9]⟩
       · omega
       · intro j hj; by_cases e : j = k; (subst e; assumption); exact i1 j (by omega)
     ·skip
      replace h18 := of_decide_eq_false h18
      refine c_exit (t_x (t_x (b_x (t_n ?_))))
      refine c_seq ?_
      refine c_seq ?_
      refine c_reg ?_
      refine sw (o_field b3 (0) 7 Try.underlying92 rfl rfl Try.sizeOf90 rfl ?_)
      refine sw (o_load1 (.slice arInto r.fInto.length crInto) Try.isAgg90 rfl (H.cell 1 rfl rfl) ?_)
      refine sw (o_len Try.underlying90 arInto r.fInto.length crInto rfl ?_)
      refine sp (.int .i64 0) ?_
      refine c_nil (t_n ?_)
      refine c_block ?_
      have n1 : BagOk s.fKinds r.fNeed := i1 0 (by omega)
      have n2 : BagOk s.fKinds r.fHave := i1 1 (by omega)
      have n3 : BagOk s.fKinds r.fLack := i1 2 (by omega)
      have n4 : BagOk s.fKinds r.fHere := i1 3 (by omega)
      have n5 : BagOk s.fKinds r.fOut := i1 4 (by omega)
      refine c_loop (fun m' ρ w27 => ∃ (junk : Env) (i : Nat), ρ = upd (upd (upd (upd (upd junk 2 (.pointer (some ⟨b1, 0, none⟩))) 3 (.pointer (some ⟨b3, 0, none⟩))) 58 (.slice arInto r.fInto.length crInto)) 59 (.int .i64 r.fInto.length)) 60 (.int .i64 i) ∧ ((i : Int) ≤ r.fInto.length) ∧ (IntosTo s r i) ∧ m' = (r.fInto.length - (i : Int)).toNat ∧ Fresh w.heap.size [] ∧ St w w27 [.row (.slice (some ⟨b14, 0, none⟩) 5 5) 22 1 5 [.slice arNeed r.fNeed.length crNeed, .slice arHave r.fHave.length crHave, .slice arLack r.fLack.length crLack, .slice arHere r.fHere.length crHere, .slice arOut r.fOut.length crOut], .box b3 [.int .i64 r.fCell, .int .i64 r.fRank, .slice arNeed r.fNeed.length crNeed, .slice arHave r.fHave.length crHave, .slice arLack r.fLack.length crLack, .slice arHere r.fHere.length crHere, .slice arOut r.fOut.length crOut, .slice arInto r.fInto.length crInto, .bool false] 92, .box b1 [.int .i64 s.fKinds, .slice asParents s.fParents.length csParents, .slice asRules s.fRules.length csRules] 30] [repsF false (FrNeed ++ (FrHave ++ (FrLack ++ (FrHere ++ (FrOut ++ []))))) [.slice arNeed r.fNeed.length crNeed, .slice arHave r.fHave.length crHave, .slice arLack r.fLack.length crLack, .slice arHere r.fHere.length crHere, .slice arOut r.fOut.length crOut] [r.fNeed, r.fHave, r.fLack, r.fHere, r.fOut], isF false FsParents (.slice asParents s.fParents.length csParents) s.fParents, isF false FsRules (.slice asRules s.fRules.length csRules) s.fRules, isF false FrNeed (.slice arNeed r.fNeed.length crNeed) r.fNeed, isF false FrHave (.slice arHave r.fHave.length crHave) r.fHave, isF false FrLack (.slice arLack r.fLack.length crLack) r.fLack, isF false FrHere (.slice arHere r.fHere.length crHere) r.fHere, isF false FrOut (.slice arOut r.fOut.length crOut) r.fOut, isF false FrInto (.slice arInto r.fInto.length crInto) r.fInto]) ((r.fInto.length - (0 : Int)).toNat) ⟨_, 0, (by exact upd_eq (upd_eq (upd_eq (upd_eq (upd_eq (rfl) rfl) rfl) rfl) rfl) rfl), (by omega), (by exact fun j hj => by omega), rfl, N, H⟩ ?_
      clear H N
      rintro m' ρ w28 ⟨junk, i, rfl, i0, i2, rfl, N, H⟩
      refine c_seq ?_
      refine c_reg ?_
      refine sp (.bool (decide ((i : Int) < r.fInto.length))) ?_
      refine c_nil (t_n ?_)
      refine c_seq ?_
      refine c_cond (decide ((i : Int) < r.fInto.length)) rfl (fun h29 => ?_) (fun h29 => ?_)
      ·skip
       replace h29 := of_decide_eq_true h29
       refine c_skip (t_n ?_)
       refine c_seq ?_
       refine c_block ?_
       refine c_seq ?_
       refine c_reg ?_
       refine sp (.int .i64 i) ?_
       obtain ⟨b30, o31, rfl⟩ := H.addr 8 rfl (by omega)
       obtain ⟨ae33Bag, ce33Bag, Fe33Bag, H⟩ := H.elem_IntoD 8 rfl i i (by omega) (by omega) (by omega)
       refine sw (o_idxAt i Try.underlying90 ti108 rfl rfl (by omega) (by omega) ?_)
       refine sw (o_loadN [.int .i64 ((r.fInto[i]!).fCell), .slice ae33Bag (((r.fInto[i]!).fBag).length) ce33Bag] Try.isAgg108 Try.sizeOf108 rfl (cellsAt_sub (H.get 1 rfl) 0 2) ?_)
       refine sw (o_alloc H ti108 fun b34 w35 H => ?_)
       replace H : St _ _ [.box b34 [.int .i64 0, .slice none 0 0] 108, .row (.slice (some ⟨b14, 0, none⟩) 5 5) 22 1 5 [.slice arNeed r.fNeed.length crNeed, .slice arHave r.fHave.length crHave, .slice arLack r.fLack.length crLack, .slice arHere r.fHere.length crHere, .slice arOut r.fOut.length crOut], .box b3 [.int .i64 r.fCell, .int .i64 r.fRank, .slice arNeed r.fNeed.length crNeed, .slice arHave r.fHave.length crHave, .slice arLack r.fLack.length crLack, .slice arHere r.fHere.length crHere, .slice arOut r.fOut.length crOut, .slice (some ⟨b30, o31, none⟩) r.fInto.length crInto, .bool false] 92, .box b1 [.int .i64 s.fKinds, .slice asParents s.fParents.length csParents, .slice asRules s.fRules.length csRules] 30] _ := H
       refine sp (.int .i64 i) ?_
       refine sw (o_store H 0 rfl (.agg #[.int .i64 ((r.fInto[i]!).fCell), .slice ae33Bag (((r.fInto[i]!).fBag).length) ce33Bag]) Try.sizeOf108 rfl rfl (by simp [Value.oneCell', Value.cells]) (Nat.le_of_ble_eq_true rfl) fun w36 H => ?_)
       replace H : St _ _ [.box b34 [.int .i64 ((r.fInto[i]!).fCell), .slice ae33Bag (((r.fInto[i]!).fBag).length) ce33Bag] 108, .row (.slice (some ⟨b14, 0, none⟩) 5 5) 22 1 5 [.slice arNeed r.fNeed.length crNeed, .slice arHave r.fHave.length crHave, .slice arLack r.fLack.length crLack, .slice arHere r.fHere.length crHere, .slice arOut r.fOut.length crOut], .box b3 [.int .i64 r.fCell, .int .i64 r.fRank, .slice arNeed r.fNeed.length crNeed, .slice arHave r.fHave.length crHave, .slice arLack r.fLack.length crLack, .slice arHere r.fHere.length crHere, .slice arOut r.fOut.length crOut, .slice (some ⟨b30, o31, none⟩) r.fInto.length crInto, .bool false] 92, .box b1 [.int .i64 s.fKinds, .slice asParents s.fParents.length csParents, .slice asRules s.fRules.length csRules] 30] _ := H
       refine c_nil (t_n ?_)
       refine c_seq ?_
       refine c_drawH rfl H fun H => ?_
       refine rt 0 (.agg #[.int .i64 s.fKinds, .slice asParents s.fParents.length csParents, .slice asRules s.fRules.length csRules]) (y_loadN (cs := [.int .i64 s.fKinds, .slice asParents s.fParents.length csParents, .slice asRules s.fRules.length csRules]) Try.isAgg30 Try.sizeOf30 rfl (fun _ h => cellsAt_sub (h.cells 3 rfl) 0 3)) H ?_
       refine rt 1 (.pointer (some ⟨b34, 0 + 0, none⟩)) (y_field b34 (0) 0 Try.underlying108 rfl rfl Try.sizeOf2 rfl) H ?_
       refine rt 2 (.int .i64 ((r.fInto[i]!).fCell)) (y_load1 Try.isAgg2 rfl (fun _ h => h.cell 0 rfl rfl)) H ?_
       refine r_ops [3] (by kernel_rfl) (by simp) (r_op rfl ?_ r_nil)
       refine o_call #[.agg #[.int .i64 s.fKinds, .slice asParents s.fParents.length csParents, .slice asRules s.fRules.length csRules], .int .i64 ((r.fInto[i]!).fCell)] rfl rfl Try.call80 (isCell_ok w36.drew s ((r.fInto[i]!).fCell) asParents csParents FsParents asRules csRules FsRules (H.get 3 rfl).1 (H.get 4 rfl).1) ?_
       rintro _ w39 rfl x40
       replace H := H.ext x40
       refine ⟨H, ?_⟩
       refine rtp 4 (.bool (!(inR ((r.fInto[i]!).fCell) 0 ((s.fParents.length : Int) - 1)))) H ?_
       refine rtp 5 (.bool (!(inR ((r.fInto[i]!).fCell) 0 ((s.fParents.length : Int) - 1)))) H ?_
       cases h41 : (!(inR ((r.fInto[i]!).fCell) 0 ((s.fParents.length : Int) - 1)))
       ·skip
        replace h41 := not_false_of h41
        replace h41 := inR_iff.1 h41
        refine rg 6 (.agg #[.int .i64 s.fKinds, .slice asParents s.fParents.length csParents, .slice asRules s.fRules.length csRules]) 70 (y_loadN (cs := [.int .i64 s.fKinds, .slice asParents s.fParents.length csParents, .slice asRules s.fRules.length csRules]) Try.isAgg30 Try.sizeOf30 rfl (fun _ h => cellsAt_sub (h.cells 3 rfl) 0 3)) H ?_
        refine rg 7 (.pointer (some ⟨b34, 0 + 0, none⟩)) 70 (y_field b34 (0) 0 Try.underlying108 rfl rfl Try.sizeOf2 rfl) H ?_
        refine rg 8 (.int .i64 ((r.fInto[i]!).fCell)) 70 (y_load1 Try.isAgg2 rfl (fun _ h => h.cell 0 rfl rfl)) H ?_
        refine rg 9 (.pointer (some ⟨b3, 0 + 0, none⟩)) 70 (y_field b3 (0) 0 Try.underlying92 rfl rfl Try.sizeOf2 rfl) H ?_
        refine rg 10 (.int .i64 r.fCell) 70 (y_load1 Try.isAgg2 rfl (fun _ h => h.cell 2 rfl rfl)) H ?_
        refine r_ops [11] (by kernel_rfl) (by simp) (r_opG rfl (e := 70) rfl rfl ?_ r_nil)
        refine o_call #[.agg #[.int .i64 s.fKinds, .slice asParents s.fParents.length csParents, .slice asRules s.fRules.length csRules], .int .i64 ((r.fInto[i]!).fCell), .int .i64 r.fCell] rfl rfl Try.call102 (lies_ok w39 s ((r.fInto[i]!).fCell) r.fCell asParents csParents FsParents asRules csRules FsRules (H.get 3 rfl).1 (H.get 4 rfl).1 (by first | assumption | omega) (by first | assumption | omega)) ?_
        rintro _ w43 rfl x44
        replace H := H.ext x44
        refine ⟨H, ?_⟩
        refine rgp 12 (.bool (!(dec (Lies s.fParents r.fCell ((r.fInto[i]!).fCell))))) 70 H ?_
        refine rtp 13 (.bool (!(dec (Lies s.fParents r.fCell ((r.fInto[i]!).fCell))))) H ?_
        refine rtp 14 (.bool (!(dec (Lies s.fParents r.fCell ((r.fInto[i]!).fCell))))) H ?_
        cases h45 : (!(dec (Lies s.fParents r.fCell ((r.fInto[i]!).fCell))))
        ·skip
         replace h45 := not_false_of h45
         replace h45 := of_dec h45
         refine rg 15 (.pointer (some ⟨b1, 0 + 0, none⟩)) 79 (y_field b1 (0) 0 Try.underlying30 rfl rfl Try.sizeOf2 rfl) H ?_
         refine rg 16 (.int .i64 s.fKinds) 79 (y_load1 Try.isAgg2 rfl (fun _ h => h.cell 3 rfl rfl)) H ?_
         refine rg 17 (.pointer (some ⟨b34, 0 + 1, none⟩)) 79 (y_field b34 (0) 1 Try.underlying108 rfl rfl Try.sizeOf22 rfl) H ?_
         refine rg 18 (.slice ae33Bag (((r.fInto[i]!).fBag).length) ce33Bag) 79 (y_load1 Try.isAgg22 rfl (fun _ h => h.cell 0 rfl rfl)) H ?_
         refine r_ops [19] (by kernel_rfl) (by simp) (r_opG rfl (e := 79) rfl rfl ?_ r_nil)
         refine o_call #[.int .i64 s.fKinds, .slice ae33Bag (((r.fInto[i]!).fBag).length) ce33Bag] rfl rfl Try.call89 (validBag_ok w43 s.fKinds ((r.fInto[i]!).fBag) ae33Bag ce33Bag Fe33Bag (H.get 0 rfl).1) ?_
         rintro _ w46 rfl x47
         replace H := H.ext x47
         refine ⟨H, ?_⟩
         refine rgp 20 (.bool (!(dec (BagOk s.fKinds ((r.fInto[i]!).fBag))))) 79 H ?_
         refine rtp 21 (.bool (!(dec (BagOk s.fKinds ((r.fInto[i]!).fBag))))) H ?_
         refine rtp 22 (.bool (!(dec (BagOk s.fKinds ((r.fInto[i]!).fBag))))) H ?_
         cases h48 : (!(dec (BagOk s.fKinds ((r.fInto[i]!).fBag))))
         ·skip
          replace h48 := not_false_of h48
          replace h48 := of_dec h48
          refine rg 23 (.pointer (some ⟨b34, 0 + 1, none⟩)) 87 (y_field b34 (0) 1 Try.underlying108 rfl rfl Try.sizeOf22 rfl) H ?_
          refine rg 24 (.slice ae33Bag (((r.fInto[i]!).fBag).length) ce33Bag) 87 (y_load1 Try.isAgg22 rfl (fun _ h => h.cell 0 rfl rfl)) H ?_
          refine r_ops [25] (by kernel_rfl) (by simp) (r_opG rfl (e := 87) rfl rfl ?_ r_nil)
          have sm : Small ((r.fInto[i]!).fBag) := bagOk_small (by first | assumption | exact i1 0 (by omega))
          refine o_call #[.slice ae33Bag (((r.fInto[i]!).fBag).length) ce33Bag] rfl rfl Try.call90 (bagSize_ok w46 ((r.fInto[i]!).fBag) ae33Bag ce33Bag Fe33Bag (H.get 0 rfl).1 (by first | assumption | exact bagOk_small (by assumption) | exact bag_small (by assumption))) ?_
          rintro _ w49 rfl x50
          replace H := H.ext x50
          refine ⟨H, ?_⟩
          refine rgp 26 (.bool ((sumL ((r.fInto[i]!).fBag) : Int) == 0)) 87 H ?_
          refine rtp 27 (.bool ((sumL ((r.fInto[i]!).fBag) : Int) == 0)) H ?_
          refine rtp 28 (.bool ((sumL ((r.fInto[i]!).fBag) : Int) == 0)) H ?_
          cases h51 : ((sumL ((r.fInto[i]!).fBag) : Int) == 0)
          ·skip
           replace h51 := ne_of_beq_false h51
           refine rgp 29 (.int .i64 i) 93 H ?_
           refine rgp 30 (.bool (decide ((i : Int) > 0))) 93 H ?_
           refine rgp 31 (.bool (decide ((i : Int) > 0))) 93 H ?_
           cases h52 : (decide ((i : Int) > 0))
           ·skip
            replace h52 := of_decide_eq_false h52
            refine r_skips [32, 33, 34, 35, 36, 37, 38, 39, 40, 41] 10 (H) ?_
            refine rgp 42 (.bool false) 93 H ?_
            refine rtp 43 (.bool false) H ?_
            refine r_done (by kernel_rfl) (t_n ?_)
            refine c_cond false rfl (fun h => absurd h (by decide)) (fun _ => ?_)
            refine c_skip (b_n (t_n ?_))
            refine c_reg ?_
            refine sw (o_add i 1 rfl rfl (by omega) ?_)
            refine sp (.int .i64 (i + 1)) ?_
            refine c_nil (?_)
            refine loop_end (m' := (r.fInto.length - ((i + 1) : Int)).toNat) (by omega) ⟨_, i + 1, (by exact upd_eq (upd_eq (upd_eq (upd_eq (upd_eq (rfl) rfl) rfl) rfl) rfl) rfl), ?_, ?_, rfl, N, H.pick [1, 2, 3] [2, 3, 4, 5, 6, 7, 8, 9, 10]⟩
            · omega
            · exact i2.succ ⟨‹_›, ‹_›, ‹_›, ‹_›, fun hk => by omega⟩
           ·skip
            replace h52 := of_decide_eq_true h52
            refine rg 32 (.pointer (some ⟨b34, 0 + 0, none⟩)) 96 (y_field b34 (0) 0 Try.underlying108 rfl rfl Try.sizeOf2 rfl) H ?_
            refine rg 33 (.int .i64 ((r.fInto[i]!).fCell)) 96 (y_load1 Try.isAgg2 rfl (fun _ h => h.cell 0 rfl rfl)) H ?_
            refine rg 34 (.pointer (some ⟨b3, 0 + 7, none⟩)) 96 (y_field b3 (0) 7 Try.underlying92 rfl rfl Try.sizeOf90 rfl) H ?_
            refine rg 35 (.slice (some ⟨b30, o31, none⟩) r.fInto.length crInto) 96 (y_load1 Try.isAgg90 rfl (fun _ h => h.cell 2 rfl rfl)) H ?_
            refine rgp 36 (.int .i64 i) 96 H ?_
            refine rg 37 (.int .i64 (i - 1)) 96 (y_sub i 1 rfl rfl (by omega)) H ?_
            obtain ⟨ae53Bag, ce53Bag, Fe53Bag, H⟩ := H.elem_IntoD 10 rfl (i - 1) (i - 1) (by omega) (by omega) (by omega)
            refine rg 38 (.pointer (some ⟨b30, o31 + (i - 1 : Int).toNat * 2, none⟩)) 96 (y_idxAt b30 (o31) r.fInto.length crInto (i - 1) Try.underlying90 ti108 rfl rfl (by omega) (by omega)) (H.pick [0, 1, 2, 3] [2, 3, 4, 5, 6, 7, 8, 9, 10, 11, 12]) ?_
            refine rg 39 (.pointer (some ⟨b30, o31 + (i - 1 : Int).toNat * 2 + 0, none⟩)) 96 (y_field b30 (o31 + (i - 1 : Int).toNat * 2) 0 Try.underlying108 rfl rfl Try.sizeOf2 rfl) (H.pick [0, 1, 2, 3] [2, 3, 4, 5, 6, 7, 8, 9, 10, 11, 12]) ?_
            refine r_ops [40] (by kernel_rfl) (by simp) (r_opG rfl (e := 96) rfl rfl ?_ r_nil)
            refine o_load1 (.int .i64 ((r.fInto[i - 1]!).fCell)) Try.isAgg2 rfl (H.cellF 1 rfl 0 rfl) ?_
            refine ⟨H.pick [0, 1, 2, 3] [2, 3, 4, 5, 6, 7, 8, 9, 10, 11, 12], ?_⟩
            refine rgp 41 (.bool (decide (((r.fInto[i]!).fCell : Int) ≤ ((r.fInto[i - 1]!).fCell)))) 96 (H.pick [0, 1, 2, 3] [2, 3, 4, 5, 6, 7, 8, 9, 10, 11, 12]) ?_
            refine rgp 42 (.bool (decide (((r.fInto[i]!).fCell : Int) ≤ ((r.fInto[i - 1]!).fCell)))) 93 (H.pick [0, 1, 2, 3] [2, 3, 4, 5, 6, 7, 8, 9, 10, 11, 12]) ?_
            refine rtp 43 (.bool (decide (((r.fInto[i]!).fCell : Int) ≤ ((r.fInto[i - 1]!).fCell)))) (H.pick [0, 1, 2, 3] [2, 3, 4, 5, 6, 7, 8, 9, 10, 11, 12]) ?_
            refine r_done (by kernel_rfl) (t_n ?_)
            refine c_cond (decide (((r.fInto[i]!).fCell : Int) ≤ ((r.fInto[i - 1]!).fCell))) rfl (fun h54 => ?_) (fun h54 => ?_)
            ·skip
             replace h54 := of_decide_eq_true h54
             refine c_seq ?_
             refine c_reg ?_
             refine sp (.bool false) ?_
             refine c_nil (t_n ?_)
             refine c_ret (b_r (t_r (t_r (b_r (t_r (?_))))))
             refine ret1 (.bool false) rfl rfl ⟨_, rfl, ?_, H.base⟩
             rw [dec_false (fun h => by obtain ⟨h1, h2, h3, h4, h5, h6, h7, h8, h9, h10, h11⟩ := h; first | contradiction | omega | exact h3 ⟨‹_›, ‹_›⟩ | (obtain ⟨q1, q2, q3, q4, q5⟩ := h11 i (by omega); first | contradiction | omega | (have := q5 (by omega); omega)) | (refine absurd ?_ ‹¬ BagOk _ _›; rcases (show k = 0 ∨ k = 1 ∨ k = 2 ∨ k = 3 ∨ k = 4 by omega) with e | e | e | e | e <;> subst e <;> assumption))]
            ·skip
             replace h54 := of_decide_eq_false h54
             refine c_skip (b_n (t_n ?_))
             refine c_reg ?_
             refine sw (o_add i 1 rfl rfl (by omega) ?_)
             refine sp (.int .i64 (i + 1)) ?_
             refine c_nil (?_)
             refine loop_end (m' := (r.fInto.length - ((i + 1) : Int)).toNat) (by omega) ⟨_, i + 1, (by exact upd_eq (upd_eq (upd_eq (upd_eq (upd_eq (rfl) rfl) rfl) rfl) rfl) rfl), ?_, ?_, rfl, N, H.pick [1, 2, 3] [4, 5, 6, 7, 8, 9, 10, 11, 12]⟩
             · omega
             · exact i2.succ ⟨‹_›, ‹_›, ‹_›, ‹_›, fun hk => by omega⟩
          ·skip
           replace h51 := eq_of_beq h51
           refine r_skips [29, 30, 31, 32, 33, 34, 35, 36, 37, 38, 39, 40, 41, 42] 14 (H) ?_
           refine rtp 43 (.bool true) H ?_
           refine r_done (by kernel_rfl) (t_n ?_)
           refine c_cond true rfl (fun _ => ?_) (fun h => absurd h (by decide))
           refine c_seq ?_
           refine c_reg ?_
           refine sp (.bool false) ?_
           refine c_nil (t_n ?_)
           refine c_ret (b_r (t_r (t_r (b_r (t_r (?_))))))
           refine ret1 (.bool false) rfl rfl ⟨_, rfl, ?_, H.base⟩
           rw [dec_false (fun h => by obtain ⟨h1, h2, h3, h4, h5, h6, h7, h8, h9, h10, h11⟩ := h; first | contradiction | omega | exact h3 ⟨‹_›, ‹_›⟩ | (obtain ⟨q1, q2, q3, q4, q5⟩ := h11 i (by omega); first | contradiction | omega | (have := q5 (by omega); omega)) | (refine absurd ?_ ‹¬ BagOk _ _›; rcases (show k = 0 ∨ k = 1 ∨ k = 2 ∨ k = 3 ∨ k = 4 by omega) with e | e | e | e | e <;> subst e <;> assumption))]
         ·skip
          replace h48 := not_true_of h48
          replace h48 := not_of_dec h48
          refine r_skips [23, 24, 25, 26] 4 (H) ?_
          refine rtp 27 (.bool true) H ?_
          refine rtp 28 (.bool true) H ?_
          refine r_skips [29, 30, 31, 32, 33, 34, 35, 36, 37, 38, 39, 40, 41, 42] 14 (H) ?_
          refine rtp 43 (.bool true) H ?_
          refine r_done (by kernel_rfl) (t_n ?_)
          refine c_cond true rfl (fun _ => ?_) (fun h => absurd h (by decide))
          refine c_seq ?_
          refine c_reg ?_
          refine sp (.bool false) ?_
          refine c_nil (t_n ?_)
          refine c_ret (b_r (t_r (t_r (b_r (t_r (?_))))))
          refine ret1 (.bool false) rfl rfl ⟨_, rfl, ?_, H.base⟩
          rw [dec_false (fun h => by obtain ⟨h1, h2, h3, h4, h5, h6, h7, h8, h9, h10, h11⟩ := h; first | contradiction | omega | exact h3 ⟨‹_›, ‹_›⟩ | (obtain ⟨q1, q2, q3, q4, q5⟩ := h11 i (by omega); first | contradiction | omega | (have := q5 (by omega); omega)) | (refine absurd ?_ ‹¬ BagOk _ _›; rcases (show k = 0 ∨ k = 1 ∨ k = 2 ∨ k = 3 ∨ k = 4 by omega) with e | e | e | e | e <;> subst e <;> assumption))]
        ·skip
         replace h45 := not_true_of h45
         replace h45 := not_of_dec h45
         refine r_skips [15, 16, 17, 18, 19, 20] 6 (H) ?_
         refine rtp 21 (.bool true) H ?_
         refine rtp 22 (.bool true) H ?_
         refine r_skips [23, 24, 25, 26] 4 (H) ?_
         refine rtp 27 (.bool true) H ?_
         refine rtp 28 (.bool true) H ?_
         refine r_skips [29, 30, 31, 32, 33, 34, 35, 36, 37, 38, 39, 40, 41, 42] 14 (H) ?_
         refine rtp 43 (.bool true) H ?_
         refine r_done (by kernel_rfl) (t_n ?_)
         refine c_cond true rfl (fun _ => ?_) (fun h => absurd h (by decide))
         refine c_seq ?_
         refine c_reg ?_
         refine sp (.bool false) ?_
         refine c_nil (t_n ?_)
         refine c_ret (b_r (t_r (t_r (b_r (t_r (?_))))))
         refine ret1 (.bool false) rfl rfl ⟨_, rfl, ?_, H.base⟩
         rw [dec_false (fun h => by obtain ⟨h1, h2, h3, h4, h5, h6, h7, h8, h9, h10, h11⟩ := h; first | contradiction | omega | exact h3 ⟨‹_›, ‹_›⟩ | (obtain ⟨q1, q2, q3, q4, q5⟩ := h11 i (by omega); first | contradiction | omega | (have := q5 (by omega); omega)) | (refine absurd ?_ ‹¬ BagOk _ _›; rcases (show k = 0 ∨ k = 1 ∨ k = 2 ∨ k = 3 ∨ k = 4 by omega) with e | e | e | e | e <;> subst e <;> assumption))]
       ·skip
        replace h41 := not_true_of h41
        replace h41 := inR_not h41
        refine r_skips [6, 7, 8, 9, 10, 11, 12] 7 (H) ?_
        refine rtp 13 (.bool true) H ?_
        refine rtp 14 (.bool true) H ?_
        refine r_skips [15, 16, 17, 18, 19, 20] 6 (H) ?_
        refine rtp 21 (.bool true) H ?_
        refine rtp 22 (.bool true) H ?_
        refine r_skips [23, 24, 25, 26] 4 (H) ?_
        refine rtp 27 (.bool true) H ?_
        refine rtp 28 (.bool true) H ?_
        refine r_skips [29, 30, 31, 32, 33, 34, 35, 36, 37, 38, 39, 40, 41, 42] 14 (H) ?_
        refine rtp 43 (.bool true) H ?_
        refine r_done (by kernel_rfl) (t_n ?_)
        refine c_cond true rfl (fun _ => ?_) (fun h => absurd h (by decide))
        refine c_seq ?_
        refine c_reg ?_
        refine sp (.bool false) ?_
        refine c_nil (t_n ?_)
        refine c_ret (b_r (t_r (t_r (b_r (t_r (?_))))))
        refine ret1 (.bool false) rfl rfl ⟨_, rfl, ?_, H.base⟩
        rw [dec_false (fun h => by obtain ⟨h1, h2, h3, h4, h5, h6, h7, h8, h9, h10, h11⟩ := h; first | contradiction | omega | exact h3 ⟨‹_›, ‹_›⟩ | (obtain ⟨q1, q2, q3, q4, q5⟩ := h11 i (by omega); first | contradiction | omega | (have := q5 (by omega); omega)) | (refine absurd ?_ ‹¬ BagOk _ _›; rcases (show k = 0 ∨ k = 1 ∨ k = 2 ∨ k = 3 ∨ k = 4 by omega) with e | e | e | e | e <;> subst e <;> assumption))]
      ·skip
       replace h29 := of_decide_eq_false h29
       refine c_exit (t_x (t_x (b_x (t_n ?_))))
       refine c_seq ?_
       refine c_reg ?_
       refine sw (o_field b3 (0) 2 Try.underlying92 rfl rfl Try.sizeOf22 rfl ?_)
       refine sw (o_load1 (.slice arNeed r.fNeed.length crNeed) Try.isAgg22 rfl (H.cell 1 rfl rfl) ?_)
       have sm : Small r.fNeed := bagOk_small (by first | assumption | exact i1 0 (by omega))
       refine sw (o_call #[.slice arNeed r.fNeed.length crNeed] rfl rfl Try.call90 (bagSize_ok w28 r.fNeed arNeed crNeed FrNeed (H.get 3 rfl).1 (by first | assumption | exact bagOk_small (by assumption) | exact bag_small (by assumption))) ?_)
       rintro _ w55 rfl x56
       replace H := H.ext x56
       refine sp (.bool (decide ((sumL r.fNeed : Int) > 0))) ?_
       refine sp (.bool (decide ((sumL r.fNeed : Int) > 0))) ?_
       refine c_nil (t_n ?_)
       refine c_ret (?_)
       refine ret1 (.bool (decide ((sumL r.fNeed : Int) > 0))) rfl rfl ⟨_, rfl, ?_, H.base⟩
       refine congrArg Value.bool (dec_eq ?_)
       rw [decide_eq_true_iff]
       exact ⟨fun h => ⟨by omega, by omega, by simp_all, by omega, n1, n2, n3, n4, n5, by omega, (show i = r.fInto.length by omega) ▸ i2⟩, fun h => by have := h.2.2.2.2.2.2.2.2.2.1; have := sum_nonneg n1.1; omega⟩
   ·skip
    rw [h12] at H
    refine g_take 23 rfl rfl ?_
    refine sw (o_field b3 (0) 0 Try.underlying92 rfl rfl Try.sizeOf2 rfl ?_)
    refine g_take 23 rfl rfl ?_
    refine sw (o_load1 (.int .i64 r.fCell) Try.isAgg2 rfl (H.cell 0 rfl rfl) ?_)
    refine g_take 23 rfl rfl ?_
    refine sp (.bool ((r.fCell : Int) == 0)) ?_
    refine g_take 20 rfl rfl ?_
    refine sp (.bool ((r.fCell : Int) == 0)) ?_
    refine sp (.bool ((r.fCell : Int) == 0)) ?_
    refine sp (.bool ((r.fCell : Int) == 0)) ?_
    cases h57 : ((r.fCell : Int) == 0)
    ·skip
     replace h57 := ne_of_beq_false h57
     refine g_take 29 rfl rfl ?_
     refine sw (o_field b3 (0) 7 Try.underlying92 rfl rfl Try.sizeOf90 rfl ?_)
     refine g_take 29 rfl rfl ?_
     refine sw (o_load1 (.slice arInto r.fInto.length crInto) Try.isAgg90 rfl (H.cell 0 rfl rfl) ?_)
     refine g_take 29 rfl rfl ?_
     refine sw (o_len Try.underlying90 arInto r.fInto.length crInto rfl ?_)
     refine g_take 29 rfl rfl ?_
     refine sp (.bool (decide ((r.fInto.length : Int) > 3))) ?_
     refine sp (.bool (decide ((r.fInto.length : Int) > 3))) ?_
     refine c_nil (t_n ?_)
     refine c_cond (decide ((r.fInto.length : Int) > 3)) rfl (fun h58 => ?_) (fun h58 => ?_)
     ·skip
      replace h58 := of_decide_eq_true h58
      refine c_seq ?_
      refine c_reg ?_
      refine sp (.bool false) ?_
      refine c_nil (t_n ?_)
      refine c_ret (t_r (?_))
      refine ret1 (.bool false) rfl rfl ⟨_, rfl, ?_, H.base⟩
      rw [dec_false (fun h => by obtain ⟨h1, h2, h3, h4, h5, h6, h7, h8, h9, h10, h11⟩ := h; first | contradiction | omega | exact h3 ⟨‹_›, ‹_›⟩ | (obtain ⟨q1, q2, q3, q4, q5⟩ := h11 i (by omega); first | contradiction | omega | (have := q5 (by omega); omega)) | (refine absurd ?_ ‹¬ BagOk _ _›; rcases (show k = 0 ∨ k = 1 ∨ k = 2 ∨ k = 3 ∨ k = 4 by omega) with e | e | e | e | e <;> subst e <;> assumption))]
     ·skip
      replace h58 := of_decide_eq_false h58
      refine c_skip (t_n ?_)
      refine c_seq ?_
      refine c_seq ?_
      refine c_reg ?_
      refine sw (o_field b3 (0) 2 Try.underlying92 rfl rfl Try.sizeOf22 rfl ?_)
      refine sw (o_load1 (.slice arNeed r.fNeed.length crNeed) Try.isAgg22 rfl (H.cell 0 rfl rfl) ?_)
      refine sw (o_field b3 (0) 3 Try.underlying92 rfl rfl Try.sizeOf22 rfl ?_)
      refine sw (o_load1 (.slice arHave r.fHave.length crHave) Try.isAgg22 rfl (H.cell 0 rfl rfl) ?_)
      refine sw (o_field b3 (0) 4 Try.underlying92 rfl rfl Try.sizeOf22 rfl ?_)
      refine sw (o_load1 (.slice arLack r.fLack.length crLack) Try.isAgg22 rfl (H.cell 0 rfl rfl) ?_)
      refine sw (o_field b3 (0) 5 Try.underlying92 rfl rfl Try.sizeOf22 rfl ?_)
      refine sw (o_load1 (.slice arHere r.fHere.length crHere) Try.isAgg22 rfl (H.cell 0 rfl rfl) ?_)
      refine sw (o_field b3 (0) 6 Try.underlying92 rfl rfl Try.sizeOf22 rfl ?_)
      refine sw (o_load1 (.slice arOut r.fOut.length crOut) Try.isAgg22 rfl (H.cell 0 rfl rfl) ?_)
      refine sw (o_buildF H Try.underlying37 ti22 [.slice arNeed r.fNeed.length crNeed, .slice arHave r.fHave.length crHave, .slice arLack r.fLack.length crLack, .slice arHere r.fHere.length crHere, .slice arOut r.fOut.length crOut] rfl (by simp [Value.cells]) rfl (by decide) (by decide) fun b59 w60 H => ?_)
      replace H : St _ _ [.box b59 [.slice arNeed r.fNeed.length crNeed, .slice arHave r.fHave.length crHave, .slice arLack r.fLack.length crLack, .slice arHere r.fHere.length crHere, .slice arOut r.fOut.length crOut] 22, .box b3 [.int .i64 r.fCell, .int .i64 r.fRank, .slice arNeed r.fNeed.length crNeed, .slice arHave r.fHave.length crHave, .slice arLack r.fLack.length crLack, .slice arHere r.fHere.length crHere, .slice arOut r.fOut.length crOut, .slice arInto r.fInto.length crInto, .bool true] 92, .box b1 [.int .i64 s.fKinds, .slice asParents s.fParents.length csParents, .slice asRules s.fRules.length csRules] 30] _ := H
      refine sw (o_len Try.underlying37 (some ⟨b59, 0, none⟩) 5 5 rfl ?_)
      refine sp (.int .i64 0) ?_
      refine c_nil (t_n ?_)
      refine c_block ?_
      replace H := H.boxRow 0 rfl 1 5 rfl (by decide)
      replace H := H.repsNil (α := List Int)
      replace H := H.repsCons false 7 rfl 0 rfl (by simp)
      replace H := H.repsCons false 7 rfl 0 rfl (by simp)
      replace H := H.repsCons false 7 rfl 0 rfl (by simp)
      replace H := H.repsCons false 7 rfl 0 rfl (by simp)
      replace H := H.repsCons false 7 rfl 0 rfl (by simp)
      replace H : St _ _ [.row (.slice (some ⟨b59, 0, none⟩) 5 5) 22 1 5 [.slice arNeed r.fNeed.length crNeed, .slice arHave r.fHave.length crHave, .slice arLack r.fLack.length crLack, .slice arHere r.fHere.length crHere, .slice arOut r.fOut.length crOut], .box b3 [.int .i64 r.fCell, .int .i64 r.fRank, .slice arNeed r.fNeed.length crNeed, .slice arHave r.fHave.length crHave, .slice arLack r.fLack.length crLack, .slice arHere r.fHere.length crHere, .slice arOut r.fOut.length crOut, .slice arInto r.fInto.length crInto, .bool true] 92, .box b1 [.int .i64 s.fKinds, .slice asParents s.fParents.length csParents, .slice asRules s.fRules.length csRules] 30] _ := H
      refine c_loop (fun m' ρ w61 => ∃ (junk : Env) (k : Nat), ρ = upd (upd (upd (upd (upd junk 2 (.pointer (some ⟨b1, 0, none⟩))) 3 (.pointer (some ⟨b3, 0, none⟩))) 45 (.slice (some ⟨b59, 0, none⟩) 5 5)) 46 (.int .i64 5)) 47 (.int .i64 k) ∧ ((k : Int) ≤ 5) ∧ (∀ j, j < k → BagOk s.fKinds ([r.fNeed, r.fHave, r.fLack, r.fHere, r.fOut][j]!)) ∧ m' = (5 - (k : Int)).toNat ∧ Fresh w.heap.size [] ∧ St w w61 [.row (.slice (some ⟨b59, 0, none⟩) 5 5) 22 1 5 [.slice arNeed r.fNeed.length crNeed, .slice arHave r.fHave.length crHave, .slice arLack r.fLack.length crLack, .slice arHere r.fHere.length crHere, .slice arOut r.fOut.length crOut], .box b3 [.int .i64 r.fCell, .int .i64 r.fRank, .slice arNeed r.fNeed.length crNeed, .slice arHave r.fHave.length crHave, .slice arLack r.fLack.length crLack, .slice arHere r.fHere.length crHere, .slice arOut r.fOut.length crOut, .slice arInto r.fInto.length crInto, .bool true] 92, .box b1 [.int .i64 s.fKinds, .slice asParents s.fParents.length csParents, .slice asRules s.fRules.length csRules] 30] [repsF false (FrNeed ++ (FrHave ++ (FrLack ++ (FrHere ++ (FrOut ++ []))))) [.slice arNeed r.fNeed.length crNeed, .slice arHave r.fHave.length crHave, .slice arLack r.fLack.length crLack, .slice arHere r.fHere.length crHere, .slice arOut r.fOut.length crOut] [r.fNeed, r.fHave, r.fLack, r.fHere, r.fOut], isF false FsParents (.slice asParents s.fParents.length csParents) s.fParents, isF false FsRules (.slice asRules s.fRules.length csRules) s.fRules, isF false FrNeed (.slice arNeed r.fNeed.length crNeed) r.fNeed, isF false FrHave (.slice arHave r.fHave.length crHave) r.fHave, isF false FrLack (.slice arLack r.fLack.length crLack) r.fLack, isF false FrHere (.slice arHere r.fHere.length crHere) r.fHere, isF false FrOut (.slice arOut r.fOut.length crOut) r.fOut, isF false FrInto (.slice arInto r.fInto.length crInto) r.fInto]) ((5 - (0 : Int)).toNat) ⟨_, 0, (by exact upd_eq (upd_eq (upd_eq (upd_eq (upd_eq (rfl) rfl) rfl) rfl) rfl) rfl), (by omega), (by intro j hj; omega), rfl, N, H.pick [0, 1, 2] [0, 6, 7, 8, 9, 10, 11, 12, 13]⟩ ?_
      clear H N
      rintro m' ρ w62 ⟨junk, k, rfl, i0, i1, rfl, N, H⟩
      refine c_seq ?_
      refine c_reg ?_
      refine sp (.bool (decide ((k : Int) < 5))) ?_
      refine c_nil (t_n ?_)
      refine c_seq ?_
      refine c_cond (decide ((k : Int) < 5)) rfl (fun h63 => ?_) (fun h63 => ?_)
      ·skip
       replace h63 := of_decide_eq_true h63
       refine c_skip (t_n ?_)
       refine c_seq ?_
       refine c_block ?_
       refine c_seq ?_
       refine c_reg ?_
       refine sw (o_idxAt k Try.underlying37 ti22 rfl rfl (by omega) (by omega) ?_)
       obtain ⟨a64, c65, G66, s67, h68, H⟩ := H.rowElemL 0 rfl 0 rfl (iv := k) k (by omega) (by omega)
       refine sw (o_load1 (.slice a64 (([r.fNeed, r.fHave, r.fLack, r.fHere, r.fOut][k]!).length) c65) Try.isAgg22 rfl (h68) ?_)
       refine sp (.slice a64 (([r.fNeed, r.fHave, r.fLack, r.fHere, r.fOut][k]!).length) c65) ?_
       refine c_nil (t_n ?_)
       refine c_seq ?_
       refine c_reg ?_
       refine sw (o_field b1 (0) 0 Try.underlying30 rfl rfl Try.sizeOf2 rfl ?_)
       refine sw (o_load1 (.int .i64 s.fKinds) Try.isAgg2 rfl (H.cell 2 rfl rfl) ?_)
       refine sp (.slice a64 (([r.fNeed, r.fHave, r.fLack, r.fHere, r.fOut][k]!).length) c65) ?_
       refine sw (o_call #[.int .i64 s.fKinds, .slice a64 (([r.fNeed, r.fHave, r.fLack, r.fHere, r.fOut][k]!).length) c65] rfl rfl Try.call89 (validBag_ok w62 s.fKinds ([r.fNeed, r.fHave, r.fLack, r.fHere, r.fOut][k]!) a64 c65 G66 (H.get 0 rfl).1) ?_)
       rintro _ w69 rfl x70
       replace H := H.ext x70
       refine sp (.bool (!(dec (BagOk s.fKinds ([r.fNeed, r.fHave, r.fLack, r.fHere, r.fOut][k]!))))) ?_
       refine c_nil (t_n ?_)
       refine c_cond (!(dec (BagOk s.fKinds ([r.fNeed, r.fHave, r.fLack, r.fHere, r.fOut][k]!)))) rfl (fun h71 => ?_) (fun h71 => ?_)
       ·skip
        replace h71 := not_true_of h71
        replace h71 := not_of_dec h71
        refine c_seq ?_
        refine c_reg ?_
        refine sp (.bool false) ?_
        refine c_nil (t_n ?_)
        refine c_ret (b_r (t_r (t_r (b_r (t_r (?_))))))
        refine ret1 (.bool false) rfl rfl ⟨_, rfl, ?_, H.base⟩
        rw [dec_false (fun h => by obtain ⟨h1, h2, h3, h4, h5, h6, h7, h8, h9, h10, h11⟩ := h; first | contradiction | omega | exact h3 ⟨‹_›, ‹_›⟩ | (obtain ⟨q1, q2, q3, q4, q5⟩ := h11 i (by omega); first | contradiction | omega | (have := q5 (by omega); omega)) | (refine absurd ?_ ‹¬ BagOk _ _›; rcases (show k = 0 ∨ k = 1 ∨ k = 2 ∨ k = 3 ∨ k = 4 by omega) with e | e | e | e | e <;> subst e <;> assumption))]
       ·skip
        replace h71 := not_false_of h71
        replace h71 := of_dec h71
        refine c_skip (b_n (t_n ?_))
        refine c_reg ?_
        refine sw (o_add k 1 rfl rfl (by omega) ?_)
        refine sp (.int .i64 (k + 1)) ?_
        refine c_nil (?_)
        refine loop_end (m' := (5 - ((k + 1) : Int)).toNat) (by omega) ⟨_, k + 1, (by exact upd_eq (upd_eq (upd_eq (upd_eq (upd_eq (rfl) rfl) rfl) rfl) rfl) rfl), ?_, ?_, rfl, N, H.pick [0, 1, 2] [1, 2, 3, 4, 5, 6, 7, 8, 9]⟩
        · omega
        · intro j hj; by_cases e : j = k; (subst e; assumption); exact i1 j (by omega)
      ·skip
       replace h63 := of_decide_eq_false h63
       refine c_exit (t_x (t_x (b_x (t_n ?_))))
       refine c_seq ?_
       refine c_seq ?_
       refine c_reg ?_
       refine sw (o_field b3 (0) 7 Try.underlying92 rfl rfl Try.sizeOf90 rfl ?_)
       refine sw (o_load1 (.slice arInto r.fInto.length crInto) Try.isAgg90 rfl (H.cell 1 rfl rfl) ?_)
       refine sw (o_len Try.underlying90 arInto r.fInto.length crInto rfl ?_)
       refine sp (.int .i64 0) ?_
       refine c_nil (t_n ?_)
       refine c_block ?_
       have n1 : BagOk s.fKinds r.fNeed := i1 0 (by omega)
       have n2 : BagOk s.fKinds r.fHave := i1 1 (by omega)
       have n3 : BagOk s.fKinds r.fLack := i1 2 (by omega)
       have n4 : BagOk s.fKinds r.fHere := i1 3 (by omega)
       have n5 : BagOk s.fKinds r.fOut := i1 4 (by omega)
       refine c_loop (fun m' ρ w72 => ∃ (junk : Env) (i : Nat), ρ = upd (upd (upd (upd (upd junk 2 (.pointer (some ⟨b1, 0, none⟩))) 3 (.pointer (some ⟨b3, 0, none⟩))) 58 (.slice arInto r.fInto.length crInto)) 59 (.int .i64 r.fInto.length)) 60 (.int .i64 i) ∧ ((i : Int) ≤ r.fInto.length) ∧ (IntosTo s r i) ∧ m' = (r.fInto.length - (i : Int)).toNat ∧ Fresh w.heap.size [] ∧ St w w72 [.row (.slice (some ⟨b59, 0, none⟩) 5 5) 22 1 5 [.slice arNeed r.fNeed.length crNeed, .slice arHave r.fHave.length crHave, .slice arLack r.fLack.length crLack, .slice arHere r.fHere.length crHere, .slice arOut r.fOut.length crOut], .box b3 [.int .i64 r.fCell, .int .i64 r.fRank, .slice arNeed r.fNeed.length crNeed, .slice arHave r.fHave.length crHave, .slice arLack r.fLack.length crLack, .slice arHere r.fHere.length crHere, .slice arOut r.fOut.length crOut, .slice arInto r.fInto.length crInto, .bool true] 92, .box b1 [.int .i64 s.fKinds, .slice asParents s.fParents.length csParents, .slice asRules s.fRules.length csRules] 30] [repsF false (FrNeed ++ (FrHave ++ (FrLack ++ (FrHere ++ (FrOut ++ []))))) [.slice arNeed r.fNeed.length crNeed, .slice arHave r.fHave.length crHave, .slice arLack r.fLack.length crLack, .slice arHere r.fHere.length crHere, .slice arOut r.fOut.length crOut] [r.fNeed, r.fHave, r.fLack, r.fHere, r.fOut], isF false FsParents (.slice asParents s.fParents.length csParents) s.fParents, isF false FsRules (.slice asRules s.fRules.length csRules) s.fRules, isF false FrNeed (.slice arNeed r.fNeed.length crNeed) r.fNeed, isF false FrHave (.slice arHave r.fHave.length crHave) r.fHave, isF false FrLack (.slice arLack r.fLack.length crLack) r.fLack, isF false FrHere (.slice arHere r.fHere.length crHere) r.fHere, isF false FrOut (.slice arOut r.fOut.length crOut) r.fOut, isF false FrInto (.slice arInto r.fInto.length crInto) r.fInto]) ((r.fInto.length - (0 : Int)).toNat) ⟨_, 0, (by exact upd_eq (upd_eq (upd_eq (upd_eq (upd_eq (rfl) rfl) rfl) rfl) rfl) rfl), (by omega), (by exact fun j hj => by omega), rfl, N, H⟩ ?_
       clear H N
       rintro m' ρ w73 ⟨junk, i, rfl, i0, i2, rfl, N, H⟩
       refine c_seq ?_
       refine c_reg ?_
       refine sp (.bool (decide ((i : Int) < r.fInto.length))) ?_
       refine c_nil (t_n ?_)
       refine c_seq ?_
       refine c_cond (decide ((i : Int) < r.fInto.length)) rfl (fun h74 => ?_) (fun h74 => ?_)
       ·skip
        replace h74 := of_decide_eq_true h74
        refine c_skip (t_n ?_)
        refine c_seq ?_
        refine c_block ?_
        refine c_seq ?_
        refine c_reg ?_
        refine sp (.int .i64 i) ?_
        obtain ⟨b75, o76, rfl⟩ := H.addr 8 rfl (by omega)
        obtain ⟨ae78Bag, ce78Bag, Fe78Bag, H⟩ := H.elem_IntoD 8 rfl i i (by omega) (by omega) (by omega)
        refine sw (o_idxAt i Try.underlying90 ti108 rfl rfl (by omega) (by omega) ?_)
        refine sw (o_loadN [.int .i64 ((r.fInto[i]!).fCell), .slice ae78Bag (((r.fInto[i]!).fBag).length) ce78Bag] Try.isAgg108 Try.sizeOf108 rfl (cellsAt_sub (H.get 1 rfl) 0 2) ?_)
        refine sw (o_alloc H ti108 fun b79 w80 H => ?_)
        replace H : St _ _ [.box b79 [.int .i64 0, .slice none 0 0] 108, .row (.slice (some ⟨b59, 0, none⟩) 5 5) 22 1 5 [.slice arNeed r.fNeed.length crNeed, .slice arHave r.fHave.length crHave, .slice arLack r.fLack.length crLack, .slice arHere r.fHere.length crHere, .slice arOut r.fOut.length crOut], .box b3 [.int .i64 r.fCell, .int .i64 r.fRank, .slice arNeed r.fNeed.length crNeed, .slice arHave r.fHave.length crHave, .slice arLack r.fLack.length crLack, .slice arHere r.fHere.length crHere, .slice arOut r.fOut.length crOut, .slice (some ⟨b75, o76, none⟩) r.fInto.length crInto, .bool true] 92, .box b1 [.int .i64 s.fKinds, .slice asParents s.fParents.length csParents, .slice asRules s.fRules.length csRules] 30] _ := H
        refine sp (.int .i64 i) ?_
        refine sw (o_store H 0 rfl (.agg #[.int .i64 ((r.fInto[i]!).fCell), .slice ae78Bag (((r.fInto[i]!).fBag).length) ce78Bag]) Try.sizeOf108 rfl rfl (by simp [Value.oneCell', Value.cells]) (Nat.le_of_ble_eq_true rfl) fun w81 H => ?_)
        replace H : St _ _ [.box b79 [.int .i64 ((r.fInto[i]!).fCell), .slice ae78Bag (((r.fInto[i]!).fBag).length) ce78Bag] 108, .row (.slice (some ⟨b59, 0, none⟩) 5 5) 22 1 5 [.slice arNeed r.fNeed.length crNeed, .slice arHave r.fHave.length crHave, .slice arLack r.fLack.length crLack, .slice arHere r.fHere.length crHere, .slice arOut r.fOut.length crOut], .box b3 [.int .i64 r.fCell, .int .i64 r.fRank, .slice arNeed r.fNeed.length crNeed, .slice arHave r.fHave.length crHave, .slice arLack r.fLack.length crLack, .slice arHere r.fHere.length crHere, .slice arOut r.fOut.length crOut, .slice (some ⟨b75, o76, none⟩) r.fInto.length crInto, .bool true] 92, .box b1 [.int .i64 s.fKinds, .slice asParents s.fParents.length csParents, .slice asRules s.fRules.length csRules] 30] _ := H
        refine c_nil (t_n ?_)
        refine c_seq ?_
        refine c_drawH rfl H fun H => ?_
        refine rt 0 (.agg #[.int .i64 s.fKinds, .slice asParents s.fParents.length csParents, .slice asRules s.fRules.length csRules]) (y_loadN (cs := [.int .i64 s.fKinds, .slice asParents s.fParents.length csParents, .slice asRules s.fRules.length csRules]) Try.isAgg30 Try.sizeOf30 rfl (fun _ h => cellsAt_sub (h.cells 3 rfl) 0 3)) H ?_
        refine rt 1 (.pointer (some ⟨b79, 0 + 0, none⟩)) (y_field b79 (0) 0 Try.underlying108 rfl rfl Try.sizeOf2 rfl) H ?_
        refine rt 2 (.int .i64 ((r.fInto[i]!).fCell)) (y_load1 Try.isAgg2 rfl (fun _ h => h.cell 0 rfl rfl)) H ?_
        refine r_ops [3] (by kernel_rfl) (by simp) (r_op rfl ?_ r_nil)
        refine o_call #[.agg #[.int .i64 s.fKinds, .slice asParents s.fParents.length csParents, .slice asRules s.fRules.length csRules], .int .i64 ((r.fInto[i]!).fCell)] rfl rfl Try.call80 (isCell_ok w81.drew s ((r.fInto[i]!).fCell) asParents csParents FsParents asRules csRules FsRules (H.get 3 rfl).1 (H.get 4 rfl).1) ?_
        rintro _ w84 rfl x85
        replace H := H.ext x85
        refine ⟨H, ?_⟩
        refine rtp 4 (.bool (!(inR ((r.fInto[i]!).fCell) 0 ((s.fParents.length : Int) - 1)))) H ?_
        refine rtp 5 (.bool (!(inR ((r.fInto[i]!).fCell) 0 ((s.fParents.length : Int) - 1)))) H ?_
        cases h86 : (!(inR ((r.fInto[i]!).fCell) 0 ((s.fParents.length : Int) - 1)))
        ·skip
         replace h86 := not_false_of h86
         replace h86 := inR_iff.1 h86
         refine rg 6 (.agg #[.int .i64 s.fKinds, .slice asParents s.fParents.length csParents, .slice asRules s.fRules.length csRules]) 70 (y_loadN (cs := [.int .i64 s.fKinds, .slice asParents s.fParents.length csParents, .slice asRules s.fRules.length csRules]) Try.isAgg30 Try.sizeOf30 rfl (fun _ h => cellsAt_sub (h.cells 3 rfl) 0 3)) H ?_
         refine rg 7 (.pointer (some ⟨b79, 0 + 0, none⟩)) 70 (y_field b79 (0) 0 Try.underlying108 rfl rfl Try.sizeOf2 rfl) H ?_
         refine rg 8 (.int .i64 ((r.fInto[i]!).fCell)) 70 (y_load1 Try.isAgg2 rfl (fun _ h => h.cell 0 rfl rfl)) H ?_
         refine rg 9 (.pointer (some ⟨b3, 0 + 0, none⟩)) 70 (y_field b3 (0) 0 Try.underlying92 rfl rfl Try.sizeOf2 rfl) H ?_
         refine rg 10 (.int .i64 r.fCell) 70 (y_load1 Try.isAgg2 rfl (fun _ h => h.cell 2 rfl rfl)) H ?_
         refine r_ops [11] (by kernel_rfl) (by simp) (r_opG rfl (e := 70) rfl rfl ?_ r_nil)
         refine o_call #[.agg #[.int .i64 s.fKinds, .slice asParents s.fParents.length csParents, .slice asRules s.fRules.length csRules], .int .i64 ((r.fInto[i]!).fCell), .int .i64 r.fCell] rfl rfl Try.call102 (lies_ok w84 s ((r.fInto[i]!).fCell) r.fCell asParents csParents FsParents asRules csRules FsRules (H.get 3 rfl).1 (H.get 4 rfl).1 (by first | assumption | omega) (by first | assumption | omega)) ?_
         rintro _ w88 rfl x89
         replace H := H.ext x89
         refine ⟨H, ?_⟩
         refine rgp 12 (.bool (!(dec (Lies s.fParents r.fCell ((r.fInto[i]!).fCell))))) 70 H ?_
         refine rtp 13 (.bool (!(dec (Lies s.fParents r.fCell ((r.fInto[i]!).fCell))))) H ?_
         refine rtp 14 (.bool (!(dec (Lies s.fParents r.fCell ((r.fInto[i]!).fCell))))) H ?_
         cases h90 : (!(dec (Lies s.fParents r.fCell ((r.fInto[i]!).fCell))))
         ·skip
          replace h90 := not_false_of h90
          replace h90 := of_dec h90
          refine rg 15 (.pointer (some ⟨b1, 0 + 0, none⟩)) 79 (y_field b1 (0) 0 Try.underlying30 rfl rfl Try.sizeOf2 rfl) H ?_
          refine rg 16 (.int .i64 s.fKinds) 79 (y_load1 Try.isAgg2 rfl (fun _ h => h.cell 3 rfl rfl)) H ?_
          refine rg 17 (.pointer (some ⟨b79, 0 + 1, none⟩)) 79 (y_field b79 (0) 1 Try.underlying108 rfl rfl Try.sizeOf22 rfl) H ?_
          refine rg 18 (.slice ae78Bag (((r.fInto[i]!).fBag).length) ce78Bag) 79 (y_load1 Try.isAgg22 rfl (fun _ h => h.cell 0 rfl rfl)) H ?_
          refine r_ops [19] (by kernel_rfl) (by simp) (r_opG rfl (e := 79) rfl rfl ?_ r_nil)
          refine o_call #[.int .i64 s.fKinds, .slice ae78Bag (((r.fInto[i]!).fBag).length) ce78Bag] rfl rfl Try.call89 (validBag_ok w88 s.fKinds ((r.fInto[i]!).fBag) ae78Bag ce78Bag Fe78Bag (H.get 0 rfl).1) ?_
          rintro _ w91 rfl x92
          replace H := H.ext x92
          refine ⟨H, ?_⟩
          refine rgp 20 (.bool (!(dec (BagOk s.fKinds ((r.fInto[i]!).fBag))))) 79 H ?_
          refine rtp 21 (.bool (!(dec (BagOk s.fKinds ((r.fInto[i]!).fBag))))) H ?_
          refine rtp 22 (.bool (!(dec (BagOk s.fKinds ((r.fInto[i]!).fBag))))) H ?_
          cases h93 : (!(dec (BagOk s.fKinds ((r.fInto[i]!).fBag))))
          ·skip
           replace h93 := not_false_of h93
           replace h93 := of_dec h93
           refine rg 23 (.pointer (some ⟨b79, 0 + 1, none⟩)) 87 (y_field b79 (0) 1 Try.underlying108 rfl rfl Try.sizeOf22 rfl) H ?_
           refine rg 24 (.slice ae78Bag (((r.fInto[i]!).fBag).length) ce78Bag) 87 (y_load1 Try.isAgg22 rfl (fun _ h => h.cell 0 rfl rfl)) H ?_
           refine r_ops [25] (by kernel_rfl) (by simp) (r_opG rfl (e := 87) rfl rfl ?_ r_nil)
           have sm : Small ((r.fInto[i]!).fBag) := bagOk_small (by first | assumption | exact i1 0 (by omega))
           refine o_call #[.slice ae78Bag (((r.fInto[i]!).fBag).length) ce78Bag] rfl rfl Try.call90 (bagSize_ok w91 ((r.fInto[i]!).fBag) ae78Bag ce78Bag Fe78Bag (H.get 0 rfl).1 (by first | assumption | exact bagOk_small (by assumption) | exact bag_small (by assumption))) ?_
           rintro _ w94 rfl x95
           replace H := H.ext x95
           refine ⟨H, ?_⟩
           refine rgp 26 (.bool ((sumL ((r.fInto[i]!).fBag) : Int) == 0)) 87 H ?_
           refine rtp 27 (.bool ((sumL ((r.fInto[i]!).fBag) : Int) == 0)) H ?_
           refine rtp 28 (.bool ((sumL ((r.fInto[i]!).fBag) : Int) == 0)) H ?_
           cases h96 : ((sumL ((r.fInto[i]!).fBag) : Int) == 0)
           ·skip
            replace h96 := ne_of_beq_false h96
            refine rgp 29 (.int .i64 i) 93 H ?_
            refine rgp 30 (.bool (decide ((i : Int) > 0))) 93 H ?_
            refine rgp 31 (.bool (decide ((i : Int) > 0))) 93 H ?_
            cases h97 : (decide ((i : Int) > 0))
            ·skip
             replace h97 := of_decide_eq_false h97
             refine r_skips [32, 33, 34, 35, 36, 37, 38, 39, 40, 41] 10 (H) ?_
             refine rgp 42 (.bool false) 93 H ?_
             refine rtp 43 (.bool false) H ?_
             refine r_done (by kernel_rfl) (t_n ?_)
             refine c_cond false rfl (fun h => absurd h (by decide)) (fun _ => ?_)
             refine c_skip (b_n (t_n ?_))
             refine c_reg ?_
             refine sw (o_add i 1 rfl rfl (by omega) ?_)
             refine sp (.int .i64 (i + 1)) ?_
             refine c_nil (?_)
             refine loop_end (m' := (r.fInto.length - ((i + 1) : Int)).toNat) (by omega) ⟨_, i + 1, (by exact upd_eq (upd_eq (upd_eq (upd_eq (upd_eq (rfl) rfl) rfl) rfl) rfl) rfl), ?_, ?_, rfl, N, H.pick [1, 2, 3] [2, 3, 4, 5, 6, 7, 8, 9, 10]⟩
             · omega
             · exact i2.succ ⟨‹_›, ‹_›, ‹_›, ‹_›, fun hk => by omega⟩
            ·skip
             replace h97 := of_decide_eq_true h97
             refine rg 32 (.pointer (some ⟨b79, 0 + 0, none⟩)) 96 (y_field b79 (0) 0 Try.underlying108 rfl rfl Try.sizeOf2 rfl) H ?_
             refine rg 33 (.int .i64 ((r.fInto[i]!).fCell)) 96 (y_load1 Try.isAgg2 rfl (fun _ h => h.cell 0 rfl rfl)) H ?_
             refine rg 34 (.pointer (some ⟨b3, 0 + 7, none⟩)) 96 (y_field b3 (0) 7 Try.underlying92 rfl rfl Try.sizeOf90 rfl) H ?_
             refine rg 35 (.slice (some ⟨b75, o76, none⟩) r.fInto.length crInto) 96 (y_load1 Try.isAgg90 rfl (fun _ h => h.cell 2 rfl rfl)) H ?_
             refine rgp 36 (.int .i64 i) 96 H ?_
             refine rg 37 (.int .i64 (i - 1)) 96 (y_sub i 1 rfl rfl (by omega)) H ?_
             obtain ⟨ae98Bag, ce98Bag, Fe98Bag, H⟩ := H.elem_IntoD 10 rfl (i - 1) (i - 1) (by omega) (by omega) (by omega)
             refine rg 38 (.pointer (some ⟨b75, o76 + (i - 1 : Int).toNat * 2, none⟩)) 96 (y_idxAt b75 (o76) r.fInto.length crInto (i - 1) Try.underlying90 ti108 rfl rfl (by omega) (by omega)) (H.pick [0, 1, 2, 3] [2, 3, 4, 5, 6, 7, 8, 9, 10, 11, 12]) ?_
             refine rg 39 (.pointer (some ⟨b75, o76 + (i - 1 : Int).toNat * 2 + 0, none⟩)) 96 (y_field b75 (o76 + (i - 1 : Int).toNat * 2) 0 Try.underlying108 rfl rfl Try.sizeOf2 rfl) (H.pick [0, 1, 2, 3] [2, 3, 4, 5, 6, 7, 8, 9, 10, 11, 12]) ?_
             refine r_ops [40] (by kernel_rfl) (by simp) (r_opG rfl (e := 96) rfl rfl ?_ r_nil)
             refine o_load1 (.int .i64 ((r.fInto[i - 1]!).fCell)) Try.isAgg2 rfl (H.cellF 1 rfl 0 rfl) ?_
             refine ⟨H.pick [0, 1, 2, 3] [2, 3, 4, 5, 6, 7, 8, 9, 10, 11, 12], ?_⟩
             refine rgp 41 (.bool (decide (((r.fInto[i]!).fCell : Int) ≤ ((r.fInto[i - 1]!).fCell)))) 96 (H.pick [0, 1, 2, 3] [2, 3, 4, 5, 6, 7, 8, 9, 10, 11, 12]) ?_
             refine rgp 42 (.bool (decide (((r.fInto[i]!).fCell : Int) ≤ ((r.fInto[i - 1]!).fCell)))) 93 (H.pick [0, 1, 2, 3] [2, 3, 4, 5, 6, 7, 8, 9, 10, 11, 12]) ?_
             refine rtp 43 (.bool (decide (((r.fInto[i]!).fCell : Int) ≤ ((r.fInto[i - 1]!).fCell)))) (H.pick [0, 1, 2, 3] [2, 3, 4, 5, 6, 7, 8, 9, 10, 11, 12]) ?_
             refine r_done (by kernel_rfl) (t_n ?_)
             refine c_cond (decide (((r.fInto[i]!).fCell : Int) ≤ ((r.fInto[i - 1]!).fCell))) rfl (fun h99 => ?_) (fun h99 => ?_)
             ·skip
              replace h99 := of_decide_eq_true h99
              refine c_seq ?_
              refine c_reg ?_
              refine sp (.bool false) ?_
              refine c_nil (t_n ?_)
              refine c_ret (b_r (t_r (t_r (b_r (t_r (?_))))))
              refine ret1 (.bool false) rfl rfl ⟨_, rfl, ?_, H.base⟩
              rw [dec_false (fun h => by obtain ⟨h1, h2, h3, h4, h5, h6, h7, h8, h9, h10, h11⟩ := h; first | contradiction | omega | exact h3 ⟨‹_›, ‹_›⟩ | (obtain ⟨q1, q2, q3, q4, q5⟩ := h11 i (by omega); first | contradiction | omega | (have := q5 (by omega); omega)) | (refine absurd ?_ ‹¬ BagOk _ _›; rcases (show k = 0 ∨ k = 1 ∨ k = 2 ∨ k = 3 ∨ k = 4 by omega) with e | e | e | e | e <;> subst e <;> assumption))]
             ·skip
              replace h99 := of_decide_eq_false h99
              refine c_skip (b_n (t_n ?_))
              refine c_reg ?_
              refine sw (o_add i 1 rfl rfl (by omega) ?_)
              refine sp (.int .i64 (i + 1)) ?_
              refine c_nil (?_)
              refine loop_end (m' := (r.fInto.length - ((i + 1) : Int)).toNat) (by omega) ⟨_, i + 1, (by exact upd_eq (upd_eq (upd_eq (upd_eq (upd_eq (rfl) rfl) rfl) rfl) rfl) rfl), ?_, ?_, rfl, N, H.pick [1, 2, 3] [4, 5, 6, 7, 8, 9, 10, 11, 12]⟩
              · omega
              · exact i2.succ ⟨‹_›, ‹_›, ‹_›, ‹_›, fun hk => by omega⟩
           ·skip
            replace h96 := eq_of_beq h96
            refine r_skips [29, 30, 31, 32, 33, 34, 35, 36, 37, 38, 39, 40, 41, 42] 14 (H) ?_
            refine rtp 43 (.bool true) H ?_
            refine r_done (by kernel_rfl) (t_n ?_)
            refine c_cond true rfl (fun _ => ?_) (fun h => absurd h (by decide))
            refine c_seq ?_
            refine c_reg ?_
            refine sp (.bool false) ?_
            refine c_nil (t_n ?_)
            refine c_ret (b_r (t_r (t_r (b_r (t_r (?_))))))
            refine ret1 (.bool false) rfl rfl ⟨_, rfl, ?_, H.base⟩
            rw [dec_false (fun h => by obtain ⟨h1, h2, h3, h4, h5, h6, h7, h8, h9, h10, h11⟩ := h; first | contradiction | omega | exact h3 ⟨‹_›, ‹_›⟩ | (obtain ⟨q1, q2, q3, q4, q5⟩ := h11 i (by omega); first | contradiction | omega | (have := q5 (by omega); omega)) | (refine absurd ?_ ‹¬ BagOk _ _›; rcases (show k = 0 ∨ k = 1 ∨ k = 2 ∨ k = 3 ∨ k = 4 by omega) with e | e | e | e | e <;> subst e <;> assumption))]
          ·skip
           replace h93 := not_true_of h93
           replace h93 := not_of_dec h93
           refine r_skips [23, 24, 25, 26] 4 (H) ?_
           refine rtp 27 (.bool true) H ?_
           refine rtp 28 (.bool true) H ?_
           refine r_skips [29, 30, 31, 32, 33, 34, 35, 36, 37, 38, 39, 40, 41, 42] 14 (H) ?_
           refine rtp 43 (.bool true) H ?_
           refine r_done (by kernel_rfl) (t_n ?_)
           refine c_cond true rfl (fun _ => ?_) (fun h => absurd h (by decide))
           refine c_seq ?_
           refine c_reg ?_
           refine sp (.bool false) ?_
           refine c_nil (t_n ?_)
           refine c_ret (b_r (t_r (t_r (b_r (t_r (?_))))))
           refine ret1 (.bool false) rfl rfl ⟨_, rfl, ?_, H.base⟩
           rw [dec_false (fun h => by obtain ⟨h1, h2, h3, h4, h5, h6, h7, h8, h9, h10, h11⟩ := h; first | contradiction | omega | exact h3 ⟨‹_›, ‹_›⟩ | (obtain ⟨q1, q2, q3, q4, q5⟩ := h11 i (by omega); first | contradiction | omega | (have := q5 (by omega); omega)) | (refine absurd ?_ ‹¬ BagOk _ _›; rcases (show k = 0 ∨ k = 1 ∨ k = 2 ∨ k = 3 ∨ k = 4 by omega) with e | e | e | e | e <;> subst e <;> assumption))]
         ·skip
          replace h90 := not_true_of h90
          replace h90 := not_of_dec h90
          refine r_skips [15, 16, 17, 18, 19, 20] 6 (H) ?_
          refine rtp 21 (.bool true) H ?_
          refine rtp 22 (.bool true) H ?_
          refine r_skips [23, 24, 25, 26] 4 (H) ?_
          refine rtp 27 (.bool true) H ?_
          refine rtp 28 (.bool true) H ?_
          refine r_skips [29, 30, 31, 32, 33, 34, 35, 36, 37, 38, 39, 40, 41, 42] 14 (H) ?_
          refine rtp 43 (.bool true) H ?_
          refine r_done (by kernel_rfl) (t_n ?_)
          refine c_cond true rfl (fun _ => ?_) (fun h => absurd h (by decide))
          refine c_seq ?_
          refine c_reg ?_
          refine sp (.bool false) ?_
          refine c_nil (t_n ?_)
          refine c_ret (b_r (t_r (t_r (b_r (t_r (?_))))))
          refine ret1 (.bool false) rfl rfl ⟨_, rfl, ?_, H.base⟩
          rw [dec_false (fun h => by obtain ⟨h1, h2, h3, h4, h5, h6, h7, h8, h9, h10, h11⟩ := h; first | contradiction | omega | exact h3 ⟨‹_›, ‹_›⟩ | (obtain ⟨q1, q2, q3, q4, q5⟩ := h11 i (by omega); first | contradiction | omega | (have := q5 (by omega); omega)) | (refine absurd ?_ ‹¬ BagOk _ _›; rcases (show k = 0 ∨ k = 1 ∨ k = 2 ∨ k = 3 ∨ k = 4 by omega) with e | e | e | e | e <;> subst e <;> assumption))]
        ·skip
         replace h86 := not_true_of h86
         replace h86 := inR_not h86
         refine r_skips [6, 7, 8, 9, 10, 11, 12] 7 (H) ?_
         refine rtp 13 (.bool true) H ?_
         refine rtp 14 (.bool true) H ?_
         refine r_skips [15, 16, 17, 18, 19, 20] 6 (H) ?_
         refine rtp 21 (.bool true) H ?_
         refine rtp 22 (.bool true) H ?_
         refine r_skips [23, 24, 25, 26] 4 (H) ?_
         refine rtp 27 (.bool true) H ?_
         refine rtp 28 (.bool true) H ?_
         refine r_skips [29, 30, 31, 32, 33, 34, 35, 36, 37, 38, 39, 40, 41, 42] 14 (H) ?_
         refine rtp 43 (.bool true) H ?_
         refine r_done (by kernel_rfl) (t_n ?_)
         refine c_cond true rfl (fun _ => ?_) (fun h => absurd h (by decide))
         refine c_seq ?_
         refine c_reg ?_
         refine sp (.bool false) ?_
         refine c_nil (t_n ?_)
         refine c_ret (b_r (t_r (t_r (b_r (t_r (?_))))))
         refine ret1 (.bool false) rfl rfl ⟨_, rfl, ?_, H.base⟩
         rw [dec_false (fun h => by obtain ⟨h1, h2, h3, h4, h5, h6, h7, h8, h9, h10, h11⟩ := h; first | contradiction | omega | exact h3 ⟨‹_›, ‹_›⟩ | (obtain ⟨q1, q2, q3, q4, q5⟩ := h11 i (by omega); first | contradiction | omega | (have := q5 (by omega); omega)) | (refine absurd ?_ ‹¬ BagOk _ _›; rcases (show k = 0 ∨ k = 1 ∨ k = 2 ∨ k = 3 ∨ k = 4 by omega) with e | e | e | e | e <;> subst e <;> assumption))]
       ·skip
        replace h74 := of_decide_eq_false h74
        refine c_exit (t_x (t_x (b_x (t_n ?_))))
        refine c_seq ?_
        refine c_reg ?_
        refine sw (o_field b3 (0) 2 Try.underlying92 rfl rfl Try.sizeOf22 rfl ?_)
        refine sw (o_load1 (.slice arNeed r.fNeed.length crNeed) Try.isAgg22 rfl (H.cell 1 rfl rfl) ?_)
        have sm : Small r.fNeed := bagOk_small (by first | assumption | exact i1 0 (by omega))
        refine sw (o_call #[.slice arNeed r.fNeed.length crNeed] rfl rfl Try.call90 (bagSize_ok w73 r.fNeed arNeed crNeed FrNeed (H.get 3 rfl).1 (by first | assumption | exact bagOk_small (by assumption) | exact bag_small (by assumption))) ?_)
        rintro _ w100 rfl x101
        replace H := H.ext x101
        refine sp (.bool (decide ((sumL r.fNeed : Int) > 0))) ?_
        refine sp (.bool (decide ((sumL r.fNeed : Int) > 0))) ?_
        refine c_nil (t_n ?_)
        refine c_ret (?_)
        refine ret1 (.bool (decide ((sumL r.fNeed : Int) > 0))) rfl rfl ⟨_, rfl, ?_, H.base⟩
        refine congrArg Value.bool (dec_eq ?_)
        rw [decide_eq_true_iff]
        exact ⟨fun h => ⟨by omega, by omega, by simp_all, by omega, n1, n2, n3, n4, n5, by omega, (show i = r.fInto.length by omega) ▸ i2⟩, fun h => by have := h.2.2.2.2.2.2.2.2.2.1; have := sum_nonneg n1.1; omega⟩
    ·skip
     replace h57 := eq_of_beq h57
     refine g_skips [30, 31, 32, 33] ?_
     refine sp (.bool true) ?_
     refine c_nil (t_n ?_)
     refine c_cond true rfl (fun _ => ?_) (fun h => absurd h (by decide))
     refine c_seq ?_
     refine c_reg ?_
     refine sp (.bool false) ?_
     refine c_nil (t_n ?_)
     refine c_ret (t_r (?_))
     refine ret1 (.bool false) rfl rfl ⟨_, rfl, ?_, H.base⟩
     rw [dec_false (fun h => by obtain ⟨h1, h2, h3, h4, h5, h6, h7, h8, h9, h10, h11⟩ := h; first | contradiction | omega | exact h3 ⟨‹_›, ‹_›⟩ | (obtain ⟨q1, q2, q3, q4, q5⟩ := h11 i (by omega); first | contradiction | omega | (have := q5 (by omega); omega)) | (refine absurd ?_ ‹¬ BagOk _ _›; rcases (show k = 0 ∨ k = 1 ∨ k = 2 ∨ k = 3 ∨ k = 4 by omega) with e | e | e | e | e <;> subst e <;> assumption))]
  ·skip
   replace h11 := not_true_of h11
   replace h11 := inR_not h11
   refine g_skips [21, 22, 23, 24, 25, 26, 27] ?_
   refine sp (.bool true) ?_
   refine sp (.bool true) ?_
   refine g_skips [30, 31, 32, 33] ?_
   refine sp (.bool true) ?_
   refine c_nil (t_n ?_)
   refine c_cond true rfl (fun _ => ?_) (fun h => absurd h (by decide))
   refine c_seq ?_
   refine c_reg ?_
   refine sp (.bool false) ?_
   refine c_nil (t_n ?_)
   refine c_ret (t_r (?_))
   refine ret1 (.bool false) rfl rfl ⟨_, rfl, ?_, H.base⟩
   rw [dec_false (fun h => by obtain ⟨h1, h2, h3, h4, h5, h6, h7, h8, h9, h10, h11⟩ := h; first | contradiction | omega | exact h3 ⟨‹_›, ‹_›⟩ | (obtain ⟨q1, q2, q3, q4, q5⟩ := h11 i (by omega); first | contradiction | omega | (have := q5 (by omega); omega)) | (refine absurd ?_ ‹¬ BagOk _ _›; rcases (show k = 0 ∨ k = 1 ∨ k = 2 ∨ k = 3 ∨ k = 4 by omega) with e | e | e | e | e <;> subst e <;> assumption))]
 ·skip
  replace h8 := not_true_of h8
  replace h8 := inR_not h8
  refine g_skips [15, 16, 17, 18] ?_
  refine sp (.bool true) ?_
  refine sp (.bool true) ?_
  refine g_skips [21, 22, 23, 24, 25, 26, 27] ?_
  refine sp (.bool true) ?_
  refine sp (.bool true) ?_
  refine g_skips [30, 31, 32, 33] ?_
  refine sp (.bool true) ?_
  refine c_nil (t_n ?_)
  refine c_cond true rfl (fun _ => ?_) (fun h => absurd h (by decide))
  refine c_seq ?_
  refine c_reg ?_
  refine sp (.bool false) ?_
  refine c_nil (t_n ?_)
  refine c_ret (t_r (?_))
  refine ret1 (.bool false) rfl rfl ⟨_, rfl, ?_, H.base⟩
  rw [dec_false (fun h => by obtain ⟨h1, h2, h3, h4, h5, h6, h7, h8, h9, h10, h11⟩ := h; first | contradiction | omega | exact h3 ⟨‹_›, ‹_›⟩ | (obtain ⟨q1, q2, q3, q4, q5⟩ := h11 i (by omega); first | contradiction | omega | (have := q5 (by omega); omega)) | (refine absurd ?_ ‹¬ BagOk _ _›; rcases (show k = 0 ∨ k = 1 ∨ k = 2 ∨ k = 3 ∨ k = 4 by omega) with e | e | e | e | e <;> subst e <;> assumption))]

end Go.Proofs.Ytkmlihdacnfhdaa
