/- Walks, printed by program (wip/tools/gv.py): what each function comes to, for all arguments. -/
import Derived.Test.YtkmlihdacnfhdaaG6
namespace Go.Proofs.Ytkmlihdacnfhdaa
open Go.Proofs.Ytkmlihdacnfhdaa.Tot (tot)
open Go.Proofs.Ytkmlihdacnfhdaa.Mark (cnt mrk mkd mkd_mark cnt_mark)
open Go.RowKit
set_option linter.unusedVariables false
set_option linter.unusedSimpArgs false
set_option maxRecDepth 100000
set_option maxHeartbeats 4000000

theorem ti3 : TI Try.prog 3 (.int .i64 0) 1 8 := by unfold TI; kernel_rfl
theorem ti94 : TI Try.prog 94 (.agg #[.int .i64 0, .int .i64 0, .int .i64 0, .int .i64 0, .int .i64 0, .int .i64 0]) 6 48 := by unfold TI; kernel_rfl


theorem validSystem_ok (w : World) (s : SystemD) (asParents : Option Addr) (csParents : Nat) (FsParents : List Nat) (asRules : Option Addr) (csRules : Nat) (FsRules : List Nat) (hsParents : GoRep.rep w FsParents [.slice asParents s.fParents.length csParents] s.fParents) (hsRules : GoRep.rep w FsRules [.slice asRules s.fRules.length csRules] s.fRules) : Calls Try.prog 27 #[.agg #[.int .i64 s.fKinds, .slice asParents s.fParents.length csParents, .slice asRules s.fRules.length csRules]] w (Ret (fun v w' => v = .bool (dec (SysOk s))) w) := by
 refine enter (n := 39) Try.func27 rfl Try.ntmps27 (Nat.le_of_ble_eq_true rfl) ?_
 have H := St.start w
 replace H := H.add (isF false FsRules (.slice asRules s.fRules.length csRules) s.fRules) ⟨hsRules, by simp⟩ (start_lt hsRules)
 replace H := H.add (isF false FsParents (.slice asParents s.fParents.length csParents) s.fParents) ⟨hsParents, by simp⟩ (start_lt hsParents)
 have nhsParents := rep_len hsParents
 have nhsRules := rep_len hsRules
 clear hsParents hsRules
 have N := Fresh.nil w.heap.size
 have p1 := fun h : FrameOk s => h.2.1
 refine c_seq ?_
 refine c_reg ?_
 refine sw (o_box H (.agg #[.int .i64 s.fKinds, .slice asParents s.fParents.length csParents, .slice asRules s.fRules.length csRules]) rfl fun b1 w2 H => ?_)
 replace H : St _ _ [.box b1 [.int .i64 s.fKinds, .slice asParents s.fParents.length csParents, .slice asRules s.fRules.length csRules] 30] _ := H
 refine sp (.bool false) ?_
 refine c_nil (t_n ?_)
 refine c_seq ?_
 refine c_seq ?_
 refine c_reg ?_
 refine sw (o_loadN [.int .i64 s.fKinds, .slice asParents s.fParents.length csParents, .slice asRules s.fRules.length csRules] Try.isAgg30 Try.sizeOf30 rfl (cellsAt_sub (H.cells 0 rfl) 0 3) ?_)
 refine sw (o_call #[.agg #[.int .i64 s.fKinds, .slice asParents s.fParents.length csParents, .slice asRules s.fRules.length csRules]] rfl rfl Try.call70 (isShell_ok w2 s asParents csParents FsParents asRules csRules FsRules (H.get 0 rfl).1 (H.get 1 rfl).1) ?_)
 rintro _ w4 rfl x5
 replace H := H.ext x5
 refine sp (.bool (!(dec (FrameOk s)))) ?_
 refine sp (.bool (!(dec (FrameOk s)))) ?_
 cases h6 : (!(dec (FrameOk s)))
 ·skip
  replace h6 := not_false_of h6
  replace h6 := of_dec h6
  refine g_take 9 rfl rfl ?_
  refine sw (o_field b1 (0) 2 Try.underlying30 rfl rfl Try.sizeOf28 rfl ?_)
  refine g_take 9 rfl rfl ?_
  refine sw (o_load1 (.slice asRules s.fRules.length csRules) Try.isAgg28 rfl (H.cell 0 rfl rfl) ?_)
  refine g_take 9 rfl rfl ?_
  refine sw (o_len Try.underlying28 asRules s.fRules.length csRules rfl ?_)
  refine g_take 9 rfl rfl ?_
  refine sp (.bool (decide ((s.fRules.length : Int) > 16))) ?_
  refine sp (.bool (decide ((s.fRules.length : Int) > 16))) ?_
  refine c_nil (t_n ?_)
  refine c_cond (decide ((s.fRules.length : Int) > 16)) rfl (fun h7 => ?_) (fun h7 => ?_)
  ·skip
   replace h7 := of_decide_eq_true h7
   refine c_seq ?_
   refine c_reg ?_
   refine sp (.bool false) ?_
   refine c_nil (t_n ?_)
   refine c_ret (t_r (?_))
   refine ret1 (.bool false) rfl rfl ⟨_, rfl, ?_, H.base⟩
   rw [dec_false (fun h => by obtain ⟨h1, h2, h3⟩ := h; first | contradiction | omega | (obtain ⟨r1, r2⟩ := h3 k (by omega); first | contradiction | (have := counts6_get (s := s) (k := k + 1) q1 q2; omega)))]
  ·skip
   replace h7 := of_decide_eq_false h7
   refine c_skip (t_n ?_)
   refine c_seq ?_
   refine c_reg ?_
   refine sw (o_build [.int .i64 0, .int .i64 0, .int .i64 0, .int .i64 0, .int .i64 0, .int .i64 0] [] ?_)
   refine sw (o_alloc H ti94 fun b8 w9 H => ?_)
   replace H : St _ _ [.box b8 [.int .i64 0, .int .i64 0, .int .i64 0, .int .i64 0, .int .i64 0, .int .i64 0] 94, .box b1 [.int .i64 s.fKinds, .slice asParents s.fParents.length csParents, .slice asRules s.fRules.length csRules] 30] _ := H
   refine sw (o_store H 0 rfl (.agg #[.int .i64 0, .int .i64 0, .int .i64 0, .int .i64 0, .int .i64 0, .int .i64 0]) Try.sizeOf94 rfl rfl (by simp [Value.oneCell', Value.cells]) (Nat.le_of_ble_eq_true rfl) fun w10 H => ?_)
   replace H : St _ _ [.box b8 [.int .i64 0, .int .i64 0, .int .i64 0, .int .i64 0, .int .i64 0, .int .i64 0] 94, .box b1 [.int .i64 s.fKinds, .slice asParents s.fParents.length csParents, .slice asRules s.fRules.length csRules] 30] _ := H
   refine c_nil (t_n ?_)
   refine c_seq ?_
   refine c_seq ?_
   refine c_reg ?_
   refine sw (o_field b1 (0) 2 Try.underlying30 rfl rfl Try.sizeOf28 rfl ?_)
   refine sw (o_load1 (.slice asRules s.fRules.length csRules) Try.isAgg28 rfl (H.cell 1 rfl rfl) ?_)
   refine sw (o_len Try.underlying28 asRules s.fRules.length csRules rfl ?_)
   refine sp (.int .i64 0) ?_
   refine c_nil (t_n ?_)
   refine c_block ?_
   replace H : St _ _ [.box b8 ([0, 0, 0, 0, 0, 0].map (Value.int .i64)) 94, .box b1 [.int .i64 s.fKinds, .slice asParents s.fParents.length csParents, .slice asRules s.fRules.length csRules] 30] _ := H
   have p2 := p1 ‹_›
   refine c_loop (fun m' ρ w11 => ∃ (junk : Env) (k : Nat) (many : List Int), ρ = upd (upd (upd (upd (upd junk 1 (.pointer (some ⟨b1, 0, none⟩))) 3 (.pointer (some ⟨b8, 0, none⟩))) 17 (.slice asRules s.fRules.length csRules)) 18 (.int .i64 s.fRules.length)) 19 (.int .i64 k) ∧ many = counts6 s k ∧ ((k : Int) ≤ s.fRules.length) ∧ (RulesTo s k) ∧ m' = (s.fRules.length - (k : Int)).toNat ∧ Fresh w.heap.size [] ∧ St w w11 [.box b8 (many.map (Value.int .i64)) 94, .box b1 [.int .i64 s.fKinds, .slice asParents s.fParents.length csParents, .slice asRules s.fRules.length csRules] 30] [isF false FsParents (.slice asParents s.fParents.length csParents) s.fParents, isF false FsRules (.slice asRules s.fRules.length csRules) s.fRules]) ((s.fRules.length - (0 : Int)).toNat) ⟨_, 0, [0, 0, 0, 0, 0, 0], (by exact upd_eq (upd_eq (upd_eq (upd_eq (upd_eq (rfl) rfl) rfl) rfl) rfl) rfl), (by exact counts6_zero s), (by omega), (by exact fun j hj => by omega), rfl, N, H⟩ ?_
   clear H N
   rintro m' ρ w12 ⟨junk, k, many, rfl, rfl, i0, i1, rfl, N, H⟩
   refine c_seq ?_
   refine c_reg ?_
   refine sp (.bool (decide ((k : Int) < s.fRules.length))) ?_
   refine c_nil (t_n ?_)
   refine c_seq ?_
   refine c_cond (decide ((k : Int) < s.fRules.length)) rfl (fun h13 => ?_) (fun h13 => ?_)
   ·skip
    replace h13 := of_decide_eq_true h13
    refine c_skip (t_n ?_)
    refine c_seq ?_
    refine c_block ?_
    refine c_seq ?_
    refine c_reg ?_
    obtain ⟨b14, o15, rfl⟩ := H.addr 1 rfl (by omega)
    obtain ⟨ae17Need, ce17Need, Fe17Need, ae17Have, ce17Have, Fe17Have, ae17Lack, ce17Lack, Fe17Lack, ae17Here, ce17Here, Fe17Here, ae17Out, ce17Out, Fe17Out, ae17Into, ce17Into, Fe17Into, H⟩ := H.elem_RuleD 1 rfl k k (by omega) (by omega) (by omega)
    refine sw (o_idxAt k Try.underlying28 ti92 rfl rfl (by omega) (by omega) ?_)
    refine sw (o_loadN [.int .i64 ((s.fRules[k]!).fCell), .int .i64 ((s.fRules[k]!).fRank), .slice ae17Need (((s.fRules[k]!).fNeed).length) ce17Need, .slice ae17Have (((s.fRules[k]!).fHave).length) ce17Have, .slice ae17Lack (((s.fRules[k]!).fLack).length) ce17Lack, .slice ae17Here (((s.fRules[k]!).fHere).length) ce17Here, .slice ae17Out (((s.fRules[k]!).fOut).length) ce17Out, .slice ae17Into (((s.fRules[k]!).fInto).length) ce17Into, .bool ((s.fRules[k]!).fMelts)] Try.isAgg92 Try.sizeOf92 rfl (cellsAt_sub (H.get 6 rfl) 0 9) ?_)
    refine sw (o_alloc H ti92 fun b18 w19 H => ?_)
    replace H : St _ _ [.box b18 [.int .i64 0, .int .i64 0, .slice none 0 0, .slice none 0 0, .slice none 0 0, .slice none 0 0, .slice none 0 0, .slice none 0 0, .bool false] 92, .box b8 ((counts6 s k).map (Value.int .i64)) 94, .box b1 [.int .i64 s.fKinds, .slice asParents s.fParents.length csParents, .slice (some ⟨b14, o15, none⟩) s.fRules.length csRules] 30] _ := H
    refine sw (o_store H 0 rfl (.agg #[.int .i64 ((s.fRules[k]!).fCell), .int .i64 ((s.fRules[k]!).fRank), .slice ae17Need (((s.fRules[k]!).fNeed).length) ce17Need, .slice ae17Have (((s.fRules[k]!).fHave).length) ce17Have, .slice ae17Lack (((s.fRules[k]!).fLack).length) ce17Lack, .slice ae17Here (((s.fRules[k]!).fHere).length) ce17Here, .slice ae17Out (((s.fRules[k]!).fOut).length) ce17Out, .slice ae17Into (((s.fRules[k]!).fInto).length) ce17Into, .bool ((s.fRules[k]!).fMelts)]) Try.sizeOf92 rfl rfl (by simp [Value.oneCell', Value.cells]) (Nat.le_of_ble_eq_true rfl) fun w20 H => ?_)
    replace H : St _ _ [.box b18 [.int .i64 ((s.fRules[k]!).fCell), .int .i64 ((s.fRules[k]!).fRank), .slice ae17Need (((s.fRules[k]!).fNeed).length) ce17Need, .slice ae17Have (((s.fRules[k]!).fHave).length) ce17Have, .slice ae17Lack (((s.fRules[k]!).fLack).length) ce17Lack, .slice ae17Here (((s.fRules[k]!).fHere).length) ce17Here, .slice ae17Out (((s.fRules[k]!).fOut).length) ce17Out, .slice ae17Into (((s.fRules[k]!).fInto).length) ce17Into, .bool ((s.fRules[k]!).fMelts)] 92, .box b8 ((counts6 s k).map (Value.int .i64)) 94, .box b1 [.int .i64 s.fKinds, .slice asParents s.fParents.length csParents, .slice (some ⟨b14, o15, none⟩) s.fRules.length csRules] 30] _ := H
    refine c_nil (t_n ?_)
    refine c_seq ?_
    refine c_seq ?_
    refine c_reg ?_
    refine sw (o_loadN [.int .i64 s.fKinds, .slice asParents s.fParents.length csParents, .slice (some ⟨b14, o15, none⟩) s.fRules.length csRules] Try.isAgg30 Try.sizeOf30 rfl (cellsAt_sub (H.cells 2 rfl) 0 3) ?_)
    refine sw (o_loadN [.int .i64 ((s.fRules[k]!).fCell), .int .i64 ((s.fRules[k]!).fRank), .slice ae17Need (((s.fRules[k]!).fNeed).length) ce17Need, .slice ae17Have (((s.fRules[k]!).fHave).length) ce17Have, .slice ae17Lack (((s.fRules[k]!).fLack).length) ce17Lack, .slice ae17Here (((s.fRules[k]!).fHere).length) ce17Here, .slice ae17Out (((s.fRules[k]!).fOut).length) ce17Out, .slice ae17Into (((s.fRules[k]!).fInto).length) ce17Into, .bool ((s.fRules[k]!).fMelts)] Try.isAgg92 Try.sizeOf92 rfl (cellsAt_sub (H.cells 0 rfl) 0 9) ?_)
    refine sw (o_call #[.agg #[.int .i64 s.fKinds, .slice asParents s.fParents.length csParents, .slice (some ⟨b14, o15, none⟩) s.fRules.length csRules], .agg #[.int .i64 ((s.fRules[k]!).fCell), .int .i64 ((s.fRules[k]!).fRank), .slice ae17Need (((s.fRules[k]!).fNeed).length) ce17Need, .slice ae17Have (((s.fRules[k]!).fHave).length) ce17Have, .slice ae17Lack (((s.fRules[k]!).fLack).length) ce17Lack, .slice ae17Here (((s.fRules[k]!).fHere).length) ce17Here, .slice ae17Out (((s.fRules[k]!).fOut).length) ce17Out, .slice ae17Into (((s.fRules[k]!).fInto).length) ce17Into, .bool ((s.fRules[k]!).fMelts)]] rfl rfl Try.call71 (isRule_ok w20 s (s.fRules[k]!) asParents csParents FsParents (some ⟨b14, o15, none⟩) csRules FsRules ae17Need ce17Need Fe17Need ae17Have ce17Have Fe17Have ae17Lack ce17Lack Fe17Lack ae17Here ce17Here Fe17Here ae17Out ce17Out Fe17Out ae17Into ce17Into Fe17Into (H.get 7 rfl).1 (H.get 8 rfl).1 (H.get 0 rfl).1 (H.get 1 rfl).1 (H.get 2 rfl).1 (H.get 3 rfl).1 (H.get 4 rfl).1 (H.get 5 rfl).1 (by first | assumption | omega)) ?_)
    rintro _ w22 rfl x23
    replace H := H.ext x23
    have q := fun h : RuleOk s (s.fRules[k]!) => (show 0 ≤ (s.fRules[k]!).fCell ∧ (s.fRules[k]!).fCell ≤ 5 from ⟨h.1.1, by have := h.1.2; omega⟩)
    refine sp (.bool (!(dec (RuleOk s (s.fRules[k]!))))) ?_
    refine c_nil (t_n ?_)
    refine c_cond (!(dec (RuleOk s (s.fRules[k]!)))) rfl (fun h24 => ?_) (fun h24 => ?_)
    ·skip
     replace h24 := not_true_of h24
     replace h24 := not_of_dec h24
     refine c_seq ?_
     refine c_reg ?_
     refine sp (.bool false) ?_
     refine c_nil (t_n ?_)
     refine c_ret (t_r (b_r (t_r (t_r (b_r (t_r (?_)))))))
     refine ret1 (.bool false) rfl rfl ⟨_, rfl, ?_, H.base⟩
     rw [dec_false (fun h => by obtain ⟨h1, h2, h3⟩ := h; first | contradiction | omega | (obtain ⟨r1, r2⟩ := h3 k (by omega); first | contradiction | (have := counts6_get (s := s) (k := k + 1) q1 q2; omega)))]
    ·skip
     replace h24 := not_false_of h24
     replace h24 := of_dec h24
     obtain ⟨q1, q2⟩ := q ‹_›
     have q3 := counts6_get (s := s) (k := k) q1 q2
     have q4 := ofCell_bd s.fRules (s.fRules[k]!).fCell k
     refine c_skip (t_n ?_)
     refine c_seq ?_
     refine c_reg ?_
     refine sw (o_field b18 (0) 0 Try.underlying92 rfl rfl Try.sizeOf2 rfl ?_)
     refine sw (o_load1 (.int .i64 ((s.fRules[k]!).fCell)) Try.isAgg2 rfl (H.cell 0 rfl rfl) ?_)
     refine sw (o_idxArr ((s.fRules[k]!).fCell) Try.underlying94 ti3 rfl rfl (by omega) (by omega) ?_)
     refine sw (o_load1 (.int .i64 ((counts6 s k)[((s.fRules[k]!).fCell).toNat]!)) Try.isAgg3 rfl (H.cell 1 rfl (ints_at (i := (((s.fRules[k]!).fCell).toNat)) (by omega) (by simp only [List.length_set, List.length_cons, List.length_nil, counts6_len]; omega))) ?_)
     refine sw (o_add ((counts6 s k)[((s.fRules[k]!).fCell).toNat]!) 1 rfl rfl (by omega) ?_)
     refine sw (o_idxArr ((s.fRules[k]!).fCell) Try.underlying94 ti3 rfl rfl (by omega) (by omega) ?_)
     refine sw (o_storeArr H 1 rfl (((counts6 s k)[((s.fRules[k]!).fCell).toNat]!) + 1) Try.sizeOf3 rfl rfl (i := (((s.fRules[k]!).fCell).toNat)) (by omega) (by simp only [List.length_set, List.length_cons, List.length_nil, counts6_len]; omega) fun w25 H => ?_)
     rw [counts6_succ q1 q2] at H
     replace H : St _ _ [.box b18 [.int .i64 ((s.fRules[k]!).fCell), .int .i64 ((s.fRules[k]!).fRank), .slice ae17Need (((s.fRules[k]!).fNeed).length) ce17Need, .slice ae17Have (((s.fRules[k]!).fHave).length) ce17Have, .slice ae17Lack (((s.fRules[k]!).fLack).length) ce17Lack, .slice ae17Here (((s.fRules[k]!).fHere).length) ce17Here, .slice ae17Out (((s.fRules[k]!).fOut).length) ce17Out, .slice ae17Into (((s.fRules[k]!).fInto).length) ce17Into, .bool ((s.fRules[k]!).fMelts)] 92, .box b8 ((counts6 s (k + 1)).map (Value.int .i64)) 94, .box b1 [.int .i64 s.fKinds, .slice asParents s.fParents.length csParents, .slice (some ⟨b14, o15, none⟩) s.fRules.length csRules] 30] _ := H
     refine c_nil (t_n ?_)
     refine c_seq ?_
     refine c_reg ?_
     refine sw (o_field b18 (0) 0 Try.underlying92 rfl rfl Try.sizeOf2 rfl ?_)
     refine sw (o_load1 (.int .i64 ((s.fRules[k]!).fCell)) Try.isAgg2 rfl (H.cell 0 rfl rfl) ?_)
     refine sw (o_idxArr ((s.fRules[k]!).fCell) Try.underlying94 ti3 rfl rfl (by omega) (by omega) ?_)
     refine sw (o_load1 (.int .i64 ((counts6 s (k + 1))[((s.fRules[k]!).fCell).toNat]!)) Try.isAgg3 rfl (H.cell 1 rfl (ints_at (i := (((s.fRules[k]!).fCell).toNat)) (by omega) (by simp only [List.length_set, List.length_cons, List.length_nil, counts6_len]; omega))) ?_)
     refine sp (.bool (decide (((counts6 s (k + 1))[((s.fRules[k]!).fCell).toNat]! : Int) > 8))) ?_
     refine c_nil (t_n ?_)
     refine c_cond (decide (((counts6 s (k + 1))[((s.fRules[k]!).fCell).toNat]! : Int) > 8)) rfl (fun h26 => ?_) (fun h26 => ?_)
     ·skip
      replace h26 := of_decide_eq_true h26
      refine c_seq ?_
      refine c_reg ?_
      refine sp (.bool false) ?_
      refine c_nil (t_n ?_)
      refine c_ret (b_r (t_r (t_r (b_r (t_r (?_))))))
      refine ret1 (.bool false) rfl rfl ⟨_, rfl, ?_, H.base⟩
      rw [dec_false (fun h => by obtain ⟨h1, h2, h3⟩ := h; first | contradiction | omega | (obtain ⟨r1, r2⟩ := h3 k (by omega); first | contradiction | (have := counts6_get (s := s) (k := k + 1) q1 q2; omega)))]
     ·skip
      replace h26 := of_decide_eq_false h26
      refine c_skip (b_n (t_n ?_))
      refine c_reg ?_
      refine sw (o_add k 1 rfl rfl (by omega) ?_)
      refine sp (.int .i64 (k + 1)) ?_
      refine c_nil (?_)
      refine loop_end (m' := (s.fRules.length - ((k + 1) : Int)).toNat) (by omega) ⟨_, k + 1, counts6 s (k + 1), (by exact upd_eq (upd_eq (upd_eq (upd_eq (upd_eq (rfl) rfl) rfl) rfl) rfl) rfl), ?_, ?_, ?_, rfl, N, H.pick [1, 2] [7, 8]⟩
      · rfl
      · omega
      · exact i1.succ ‹_› (by have := counts6_get (s := s) (k := k + 1) q1 q2; omega)
   ·skip
    replace h13 := of_decide_eq_false h13
    refine c_exit (t_x (t_x (b_x (t_n ?_))))
    refine c_seq ?_
    refine c_reg ?_
    refine sp (.bool true) ?_
    refine c_nil (t_n ?_)
    refine c_ret (?_)
    refine ret1 (.bool true) rfl rfl ⟨_, rfl, ?_, H.base⟩
    rw [dec_true ⟨by assumption, by omega, (show s.fRules.length = k by omega) ▸ i1⟩]
 ·skip
  replace h6 := not_true_of h6
  replace h6 := not_of_dec h6
  refine g_skips [10, 11, 12, 13] ?_
  refine sp (.bool true) ?_
  refine c_nil (t_n ?_)
  refine c_cond true rfl (fun _ => ?_) (fun h => absurd h (by decide))
  refine c_seq ?_
  refine c_reg ?_
  refine sp (.bool false) ?_
  refine c_nil (t_n ?_)
  refine c_ret (t_r (?_))
  refine ret1 (.bool false) rfl rfl ⟨_, rfl, ?_, H.base⟩
  rw [dec_false (fun h => by obtain ⟨h1, h2, h3⟩ := h; first | contradiction | omega | (obtain ⟨r1, r2⟩ := h3 k (by omega); first | contradiction | (have := counts6_get (s := s) (k := k + 1) q1 q2; omega)))]

theorem validState_ok (w : World) (s : SystemD) (t : StateD) (asParents : Option Addr) (csParents : Nat) (FsParents : List Nat) (asRules : Option Addr) (csRules : Nat) (FsRules : List Nat) (atAlive : Option Addr) (ctAlive : Nat) (FtAlive : List Nat) (atBags : Option Addr) (ctBags : Nat) (FtBags : List Nat) (atAround : Option Addr) (ctAround : Nat) (FtAround : List Nat) (hsParents : GoRep.rep w FsParents [.slice asParents s.fParents.length csParents] s.fParents) (hsRules : GoRep.rep w FsRules [.slice asRules s.fRules.length csRules] s.fRules) (htAlive : GoRep.rep w FtAlive [.slice atAlive t.fAlive.length ctAlive] t.fAlive) (htBags : GoRep.rep w FtBags [.slice atBags t.fBags.length ctBags] t.fBags) (htAround : GoRep.rep w FtAround [.slice atAround t.fAround.length ctAround] t.fAround) : Calls Try.prog 59 #[.agg #[.int .i64 s.fKinds, .slice asParents s.fParents.length csParents, .slice asRules s.fRules.length csRules], .agg #[.slice atAlive t.fAlive.length ctAlive, .slice atBags t.fBags.length ctBags, .slice atAround t.fAround.length ctAround]] w (Ret (fun v w' => v = .bool (dec (SysOk s ∧ StateOk s t))) w) := by
 refine enter (n := 70) Try.func59 rfl Try.ntmps59 (Nat.le_of_ble_eq_true rfl) ?_
 have H := St.start w
 replace H := H.add (isF false FtAround (.slice atAround t.fAround.length ctAround) t.fAround) ⟨htAround, by simp⟩ (start_lt htAround)
 replace H := H.add (isF false FtBags (.slice atBags t.fBags.length ctBags) t.fBags) ⟨htBags, by simp⟩ (start_lt htBags)
 replace H := H.add (isF false FtAlive (.slice atAlive t.fAlive.length ctAlive) t.fAlive) ⟨htAlive, by simp⟩ (start_lt htAlive)
 replace H := H.add (isF false FsRules (.slice asRules s.fRules.length csRules) s.fRules) ⟨hsRules, by simp⟩ (start_lt hsRules)
 replace H := H.add (isF false FsParents (.slice asParents s.fParents.length csParents) s.fParents) ⟨hsParents, by simp⟩ (start_lt hsParents)
 have nhsParents := rep_len hsParents
 have nhsRules := rep_len hsRules
 have nhtAlive := rep_len htAlive
 have nhtBags := rep_len htBags
 have nhtAround := rep_len htAround
 clear hsParents hsRules htAlive htBags htAround
 have N := Fresh.nil w.heap.size
 refine c_seq ?_
 refine c_reg ?_
 refine sw (o_box H (.agg #[.int .i64 s.fKinds, .slice asParents s.fParents.length csParents, .slice asRules s.fRules.length csRules]) rfl fun b1 w2 H => ?_)
 replace H : St _ _ [.box b1 [.int .i64 s.fKinds, .slice asParents s.fParents.length csParents, .slice asRules s.fRules.length csRules] 30] _ := H
 refine sw (o_box H (.agg #[.slice atAlive t.fAlive.length ctAlive, .slice atBags t.fBags.length ctBags, .slice atAround t.fAround.length ctAround]) rfl fun b3 w4 H => ?_)
 replace H : St _ _ [.box b3 [.slice atAlive t.fAlive.length ctAlive, .slice atBags t.fBags.length ctBags, .slice atAround t.fAround.length ctAround] 41, .box b1 [.int .i64 s.fKinds, .slice asParents s.fParents.length csParents, .slice asRules s.fRules.length csRules] 30] _ := H
 refine sp (.bool false) ?_
 refine c_nil (t_n ?_)
 refine c_seq ?_
 refine c_seq ?_
 refine c_reg ?_
 refine sw (o_loadN [.int .i64 s.fKinds, .slice asParents s.fParents.length csParents, .slice asRules s.fRules.length csRules] Try.isAgg30 Try.sizeOf30 rfl (cellsAt_sub (H.cells 1 rfl) 0 3) ?_)
 refine sw (o_call #[.agg #[.int .i64 s.fKinds, .slice asParents s.fParents.length csParents, .slice asRules s.fRules.length csRules]] rfl rfl Try.call27 (validSystem_ok w4 s asParents csParents FsParents asRules csRules FsRules (H.get 0 rfl).1 (H.get 1 rfl).1) ?_)
 rintro _ w6 rfl x7
 replace H := H.ext x7
 refine sp (.bool (!(dec (SysOk s)))) ?_
 refine sp (.bool (!(dec (SysOk s)))) ?_
 cases h8 : (!(dec (SysOk s)))
 ·skip
  replace h8 := not_false_of h8
  replace h8 := of_dec h8
  have z1 := (‹SysOk s› : SysOk s).1.2.1
  refine g_take 10 rfl rfl ?_
  refine sw (o_field b3 (0) 0 Try.underlying41 rfl rfl Try.sizeOf36 rfl ?_)
  refine g_take 10 rfl rfl ?_
  refine sw (o_load1 (.slice atAlive t.fAlive.length ctAlive) Try.isAgg36 rfl (H.cell 0 rfl rfl) ?_)
  refine g_take 10 rfl rfl ?_
  refine sw (o_len Try.underlying36 atAlive t.fAlive.length ctAlive rfl ?_)
  refine g_take 10 rfl rfl ?_
  refine sw (o_field b1 (0) 1 Try.underlying30 rfl rfl Try.sizeOf22 rfl ?_)
  refine g_take 10 rfl rfl ?_
  refine sw (o_load1 (.slice asParents s.fParents.length csParents) Try.isAgg22 rfl (H.cell 1 rfl rfl) ?_)
  refine g_take 10 rfl rfl ?_
  refine sw (o_len Try.underlying22 asParents s.fParents.length csParents rfl ?_)
  refine g_take 10 rfl rfl ?_
  refine sp (.bool ((t.fAlive.length : Int) != s.fParents.length)) ?_
  refine sp (.bool ((t.fAlive.length : Int) != s.fParents.length)) ?_
  refine sp (.bool ((t.fAlive.length : Int) != s.fParents.length)) ?_
  cases h9 : ((t.fAlive.length : Int) != s.fParents.length)
  ·skip
   replace h9 := eq_of_bne_false h9
   refine g_take 19 rfl rfl ?_
   refine sw (o_field b3 (0) 1 Try.underlying41 rfl rfl Try.sizeOf37 rfl ?_)
   refine g_take 19 rfl rfl ?_
   refine sw (o_load1 (.slice atBags t.fBags.length ctBags) Try.isAgg37 rfl (H.cell 0 rfl rfl) ?_)
   refine g_take 19 rfl rfl ?_
   refine sw (o_len Try.underlying37 atBags t.fBags.length ctBags rfl ?_)
   refine g_take 19 rfl rfl ?_
   refine sw (o_field b1 (0) 1 Try.underlying30 rfl rfl Try.sizeOf22 rfl ?_)
   refine g_take 19 rfl rfl ?_
   refine sw (o_load1 (.slice asParents s.fParents.length csParents) Try.isAgg22 rfl (H.cell 1 rfl rfl) ?_)
   refine g_take 19 rfl rfl ?_
   refine sw (o_len Try.underlying22 asParents s.fParents.length csParents rfl ?_)
   refine g_take 19 rfl rfl ?_
   refine sp (.bool ((t.fBags.length : Int) != s.fParents.length)) ?_
   refine sp (.bool ((t.fBags.length : Int) != s.fParents.length)) ?_
   refine sp (.bool ((t.fBags.length : Int) != s.fParents.length)) ?_
   cases h10 : ((t.fBags.length : Int) != s.fParents.length)
   ·skip
    replace h10 := eq_of_bne_false h10
    refine g_take 28 rfl rfl ?_
    refine sw (o_field b3 (0) 0 Try.underlying41 rfl rfl Try.sizeOf36 rfl ?_)
    refine g_take 28 rfl rfl ?_
    refine sw (o_load1 (.slice atAlive t.fAlive.length ctAlive) Try.isAgg36 rfl (H.cell 0 rfl rfl) ?_)
    refine g_take 28 rfl rfl ?_
    obtain ⟨b11, o12, rfl⟩ := H.addr 2 rfl (by omega)
    refine sw (o_idxAt 0 Try.underlying36 ti4 rfl rfl (by omega) (by omega) ?_)
    refine g_take 28 rfl rfl ?_
    refine sw (o_load1 (.bool (t.fAlive[0]!)) Try.isAgg4 rfl (H.elemBool 2 rfl 0 (by omega) (by omega)) ?_)
    refine g_take 28 rfl rfl ?_
    refine sp (.bool (!(t.fAlive[0]!))) ?_
    refine sp (.bool (!(t.fAlive[0]!))) ?_
    refine sp (.bool (!(t.fAlive[0]!))) ?_
    cases h14 : (!(t.fAlive[0]!))
    ·skip
     replace h14 := not_false_of h14
     refine g_take 35 rfl rfl ?_
     refine sw (o_field b1 (0) 0 Try.underlying30 rfl rfl Try.sizeOf2 rfl ?_)
     refine g_take 35 rfl rfl ?_
     refine sw (o_load1 (.int .i64 s.fKinds) Try.isAgg2 rfl (H.cell 1 rfl rfl) ?_)
     refine g_take 35 rfl rfl ?_
     refine sw (o_field b3 (0) 2 Try.underlying41 rfl rfl Try.sizeOf22 rfl ?_)
     refine g_take 35 rfl rfl ?_
     refine sw (o_load1 (.slice atAround t.fAround.length ctAround) Try.isAgg22 rfl (H.cell 0 rfl rfl) ?_)
     refine g_take 35 rfl rfl ?_
     refine sw (o_call #[.int .i64 s.fKinds, .slice atAround t.fAround.length ctAround] rfl rfl Try.call89 (validBag_ok w6 s.fKinds t.fAround atAround ctAround FtAround (H.get 4 rfl).1) ?_)
     rintro _ w15 rfl x16
     replace H := H.ext x16
     refine g_take 35 rfl rfl ?_
     refine sp (.bool (!(dec (BagOk s.fKinds t.fAround)))) ?_
     refine sp (.bool (!(dec (BagOk s.fKinds t.fAround)))) ?_
     refine c_nil (t_n ?_)
     refine c_cond (!(dec (BagOk s.fKinds t.fAround))) rfl (fun h17 => ?_) (fun h17 => ?_)
     ·skip
      replace h17 := not_true_of h17
      replace h17 := not_of_dec h17
      refine c_seq ?_
      refine c_reg ?_
      refine sp (.bool false) ?_
      refine c_nil (t_n ?_)
      refine c_ret (t_r (?_))
      refine ret1 (.bool false) rfl rfl ⟨_, rfl, ?_, H.base⟩
      rw [dec_false (fun h => by obtain ⟨h0, h1, h2, h3, h4, h5⟩ := h; first | contradiction | omega | (simp_all; done) | (obtain ⟨q1, q2⟩ := h5 c (by omega); first | contradiction | (have := q2 (by assumption); omega)))]
     ·skip
      replace h17 := not_false_of h17
      replace h17 := of_dec h17
      refine c_skip (t_n ?_)
      refine c_seq ?_
      refine c_seq ?_
      refine c_reg ?_
      refine sw (o_field b3 (0) 1 Try.underlying41 rfl rfl Try.sizeOf37 rfl ?_)
      refine sw (o_load1 (.slice atBags t.fBags.length ctBags) Try.isAgg37 rfl (H.cell 0 rfl rfl) ?_)
      refine sw (o_len Try.underlying37 atBags t.fBags.length ctBags rfl ?_)
      refine sp (.int .i64 0) ?_
      refine c_nil (t_n ?_)
      refine c_block ?_
      refine c_loop (fun m' ρ w18 => ∃ (junk : Env) (c : Nat), ρ = upd (upd (upd (upd (upd junk 2 (.pointer (some ⟨b1, 0, none⟩))) 3 (.pointer (some ⟨b3, 0, none⟩))) 44 (.slice atBags t.fBags.length ctBags)) 45 (.int .i64 t.fBags.length)) 46 (.int .i64 c) ∧ ((c : Int) ≤ t.fBags.length) ∧ (BagsTo s t c) ∧ m' = (t.fBags.length - (c : Int)).toNat ∧ Fresh w.heap.size [] ∧ St w w18 [.box b3 [.slice (some ⟨b11, o12, none⟩) t.fAlive.length ctAlive, .slice atBags t.fBags.length ctBags, .slice atAround t.fAround.length ctAround] 41, .box b1 [.int .i64 s.fKinds, .slice asParents s.fParents.length csParents, .slice asRules s.fRules.length csRules] 30] [isF false FsParents (.slice asParents s.fParents.length csParents) s.fParents, isF false FsRules (.slice asRules s.fRules.length csRules) s.fRules, isF false FtAlive (.slice (some ⟨b11, o12, none⟩) t.fAlive.length ctAlive) t.fAlive, isF false FtBags (.slice atBags t.fBags.length ctBags) t.fBags, isF false FtAround (.slice atAround t.fAround.length ctAround) t.fAround]) ((t.fBags.length - (0 : Int)).toNat) ⟨_, 0, (by exact upd_eq (upd_eq (upd_eq (upd_eq (upd_eq (rfl) rfl) rfl) rfl) rfl) rfl), (by omega), (by exact fun j hj => by omega), rfl, N, H⟩ ?_
      clear H N
      rintro m' ρ w19 ⟨junk, c, rfl, i0, i1, rfl, N, H⟩
      refine c_seq ?_
      refine c_reg ?_
      refine sp (.bool (decide ((c : Int) < t.fBags.length))) ?_
      refine c_nil (t_n ?_)
      refine c_seq ?_
      refine c_cond (decide ((c : Int) < t.fBags.length)) rfl (fun h20 => ?_) (fun h20 => ?_)
      ·skip
       replace h20 := of_decide_eq_true h20
       refine c_skip (t_n ?_)
       refine c_seq ?_
       refine c_block ?_
       refine c_seq ?_
       refine c_reg ?_
       refine sp (.int .i64 c) ?_
       obtain ⟨b21, o22, rfl⟩ := H.addr 3 rfl (by omega)
       obtain ⟨ae24, ce24, Fe24, H⟩ := H.elemList 3 rfl c c (by omega) (by omega) (by omega)
       refine sw (o_idxAt c Try.underlying37 ti22 rfl rfl (by omega) (by omega) ?_)
       refine sw (o_load1 (.slice ae24 ((t.fBags[c]!).length) ce24) Try.isAgg22 rfl (H.cellF 1 rfl 0 rfl) ?_)
       refine sp (.int .i64 c) ?_
       refine sp (.slice ae24 ((t.fBags[c]!).length) ce24) ?_
       refine c_nil (t_n ?_)
       refine c_seq ?_
       refine c_reg ?_
       refine sw (o_field b1 (0) 0 Try.underlying30 rfl rfl Try.sizeOf2 rfl ?_)
       refine sw (o_load1 (.int .i64 s.fKinds) Try.isAgg2 rfl (H.cell 1 rfl rfl) ?_)
       refine sp (.slice ae24 ((t.fBags[c]!).length) ce24) ?_
       refine sw (o_call #[.int .i64 s.fKinds, .slice ae24 ((t.fBags[c]!).length) ce24] rfl rfl Try.call89 (validBag_ok w19 s.fKinds (t.fBags[c]!) ae24 ce24 Fe24 (H.get 0 rfl).1) ?_)
       rintro _ w25 rfl x26
       replace H := H.ext x26
       refine sp (.bool (!(dec (BagOk s.fKinds (t.fBags[c]!))))) ?_
       refine sp (.bool (!(dec (BagOk s.fKinds (t.fBags[c]!))))) ?_
       cases h27 : (!(dec (BagOk s.fKinds (t.fBags[c]!))))
       ·skip
        replace h27 := not_false_of h27
        replace h27 := of_dec h27
        refine g_take 56 rfl rfl ?_
        refine sw (o_field b3 (0) 0 Try.underlying41 rfl rfl Try.sizeOf36 rfl ?_)
        refine g_take 56 rfl rfl ?_
        refine sw (o_load1 (.slice (some ⟨b11, o12, none⟩) t.fAlive.length ctAlive) Try.isAgg36 rfl (H.cell 0 rfl rfl) ?_)
        refine g_take 56 rfl rfl ?_
        refine sp (.int .i64 c) ?_
        refine g_take 56 rfl rfl ?_
        refine sw (o_idxAt c Try.underlying36 ti4 rfl rfl (by omega) (by omega) ?_)
        refine g_take 56 rfl rfl ?_
        refine sw (o_load1 (.bool (t.fAlive[c]!)) Try.isAgg4 rfl (H.elemBool 4 rfl c (by omega) (by omega)) ?_)
        refine g_take 56 rfl rfl ?_
        refine sp (.bool (!(t.fAlive[c]!))) ?_
        refine g_take 56 rfl rfl ?_
        refine sp (.bool (!(t.fAlive[c]!))) ?_
        cases h28 : (!(t.fAlive[c]!))
        ·skip
         replace h28 := not_false_of h28
         refine g_skips [64, 65, 66] ?_
         refine g_take 56 rfl rfl ?_
         refine sp (.bool false) ?_
         refine sp (.bool false) ?_
         refine c_nil (t_n ?_)
         refine c_cond false rfl (fun h => absurd h (by decide)) (fun _ => ?_)
         refine c_skip (b_n (t_n ?_))
         refine c_reg ?_
         refine sw (o_add c 1 rfl rfl (by omega) ?_)
         refine sp (.int .i64 (c + 1)) ?_
         refine c_nil (?_)
         refine loop_end (m' := (t.fBags.length - ((c + 1) : Int)).toNat) (by omega) ⟨_, c + 1, (by exact upd_eq (upd_eq (upd_eq (upd_eq (upd_eq (rfl) rfl) rfl) rfl) rfl) rfl), ?_, ?_, rfl, N, H.pick [0, 1] [2, 3, 4, 5, 6]⟩
         · omega
         · exact i1.succ ‹_› (fun hk => by first | omega | simp_all)
        ·skip
         replace h28 := not_true_of h28
         refine g_take 63 rfl rfl ?_
         refine sp (.slice ae24 ((t.fBags[c]!).length) ce24) ?_
         refine g_take 63 rfl rfl ?_
         refine sw (o_call #[.slice ae24 ((t.fBags[c]!).length) ce24] rfl rfl Try.call90 (bagSize_ok w25 (t.fBags[c]!) ae24 ce24 Fe24 (H.get 0 rfl).1 (by first | assumption | exact bagOk_small (by assumption) | exact bag_small (by assumption))) ?_)
         rintro _ w29 rfl x30
         replace H := H.ext x30
         refine g_take 63 rfl rfl ?_
         refine sp (.bool (decide ((sumL (t.fBags[c]!) : Int) > 0))) ?_
         refine g_take 56 rfl rfl ?_
         refine sp (.bool (decide ((sumL (t.fBags[c]!) : Int) > 0))) ?_
         refine sp (.bool (decide ((sumL (t.fBags[c]!) : Int) > 0))) ?_
         refine c_nil (t_n ?_)
         refine c_cond (decide ((sumL (t.fBags[c]!) : Int) > 0)) rfl (fun h31 => ?_) (fun h31 => ?_)
         ·skip
          replace h31 := of_decide_eq_true h31
          refine c_seq ?_
          refine c_reg ?_
          refine sp (.bool false) ?_
          refine c_nil (t_n ?_)
          refine c_ret (b_r (t_r (t_r (b_r (t_r (?_))))))
          refine ret1 (.bool false) rfl rfl ⟨_, rfl, ?_, H.base⟩
          rw [dec_false (fun h => by obtain ⟨h0, h1, h2, h3, h4, h5⟩ := h; first | contradiction | omega | (simp_all; done) | (obtain ⟨q1, q2⟩ := h5 c (by omega); first | contradiction | (have := q2 (by assumption); omega)))]
         ·skip
          replace h31 := of_decide_eq_false h31
          refine c_skip (b_n (t_n ?_))
          refine c_reg ?_
          refine sw (o_add c 1 rfl rfl (by omega) ?_)
          refine sp (.int .i64 (c + 1)) ?_
          refine c_nil (?_)
          refine loop_end (m' := (t.fBags.length - ((c + 1) : Int)).toNat) (by omega) ⟨_, c + 1, (by exact upd_eq (upd_eq (upd_eq (upd_eq (upd_eq (rfl) rfl) rfl) rfl) rfl) rfl), ?_, ?_, rfl, N, H.pick [0, 1] [2, 3, 4, 5, 6]⟩
          · omega
          · exact i1.succ ‹_› (fun hk => by first | omega | simp_all)
       ·skip
        replace h27 := not_true_of h27
        replace h27 := not_of_dec h27
        refine g_skips [57, 58, 59, 60, 61, 62, 63, 64, 65, 66, 67] ?_
        refine sp (.bool true) ?_
        refine c_nil (t_n ?_)
        refine c_cond true rfl (fun _ => ?_) (fun h => absurd h (by decide))
        refine c_seq ?_
        refine c_reg ?_
        refine sp (.bool false) ?_
        refine c_nil (t_n ?_)
        refine c_ret (b_r (t_r (t_r (b_r (t_r (?_))))))
        refine ret1 (.bool false) rfl rfl ⟨_, rfl, ?_, H.base⟩
        rw [dec_false (fun h => by obtain ⟨h0, h1, h2, h3, h4, h5⟩ := h; first | contradiction | omega | (simp_all; done) | (obtain ⟨q1, q2⟩ := h5 c (by omega); first | contradiction | (have := q2 (by assumption); omega)))]
      ·skip
       replace h20 := of_decide_eq_false h20
       refine c_exit (t_x (t_x (b_x (t_n ?_))))
       refine c_seq ?_
       refine c_reg ?_
       refine sp (.bool true) ?_
       refine c_nil (t_n ?_)
       refine c_ret (?_)
       refine ret1 (.bool true) rfl rfl ⟨_, rfl, ?_, H.base⟩
       rw [dec_true ⟨by assumption, by omega, by omega, by first | assumption | simp_all, by assumption, (show t.fBags.length = c by omega) ▸ i1⟩]
    ·skip
     replace h14 := not_true_of h14
     refine g_skips [36, 37, 38, 39, 40, 41] ?_
     refine sp (.bool true) ?_
     refine c_nil (t_n ?_)
     refine c_cond true rfl (fun _ => ?_) (fun h => absurd h (by decide))
     refine c_seq ?_
     refine c_reg ?_
     refine sp (.bool false) ?_
     refine c_nil (t_n ?_)
     refine c_ret (t_r (?_))
     refine ret1 (.bool false) rfl rfl ⟨_, rfl, ?_, H.base⟩
     rw [dec_false (fun h => by obtain ⟨h0, h1, h2, h3, h4, h5⟩ := h; first | contradiction | omega | (simp_all; done) | (obtain ⟨q1, q2⟩ := h5 c (by omega); first | contradiction | (have := q2 (by assumption); omega)))]
   ·skip
    replace h10 := bne_iff_ne.1 h10
    refine g_skips [29, 30, 31, 32, 33] ?_
    refine sp (.bool true) ?_
    refine sp (.bool true) ?_
    refine g_skips [36, 37, 38, 39, 40, 41] ?_
    refine sp (.bool true) ?_
    refine c_nil (t_n ?_)
    refine c_cond true rfl (fun _ => ?_) (fun h => absurd h (by decide))
    refine c_seq ?_
    refine c_reg ?_
    refine sp (.bool false) ?_
    refine c_nil (t_n ?_)
    refine c_ret (t_r (?_))
    refine ret1 (.bool false) rfl rfl ⟨_, rfl, ?_, H.base⟩
    rw [dec_false (fun h => by obtain ⟨h0, h1, h2, h3, h4, h5⟩ := h; first | contradiction | omega | (simp_all; done) | (obtain ⟨q1, q2⟩ := h5 c (by omega); first | contradiction | (have := q2 (by assumption); omega)))]
  ·skip
   replace h9 := bne_iff_ne.1 h9
   refine g_skips [20, 21, 22, 23, 24, 25, 26] ?_
   refine sp (.bool true) ?_
   refine sp (.bool true) ?_
   refine g_skips [29, 30, 31, 32, 33] ?_
   refine sp (.bool true) ?_
   refine sp (.bool true) ?_
   refine g_skips [36, 37, 38, 39, 40, 41] ?_
   refine sp (.bool true) ?_
   refine c_nil (t_n ?_)
   refine c_cond true rfl (fun _ => ?_) (fun h => absurd h (by decide))
   refine c_seq ?_
   refine c_reg ?_
   refine sp (.bool false) ?_
   refine c_nil (t_n ?_)
   refine c_ret (t_r (?_))
   refine ret1 (.bool false) rfl rfl ⟨_, rfl, ?_, H.base⟩
   rw [dec_false (fun h => by obtain ⟨h0, h1, h2, h3, h4, h5⟩ := h; first | contradiction | omega | (simp_all; done) | (obtain ⟨q1, q2⟩ := h5 c (by omega); first | contradiction | (have := q2 (by assumption); omega)))]
 ·skip
  replace h8 := not_true_of h8
  replace h8 := not_of_dec h8
  refine g_skips [11, 12, 13, 14, 15, 16, 17] ?_
  refine sp (.bool true) ?_
  refine sp (.bool true) ?_
  refine g_skips [20, 21, 22, 23, 24, 25, 26] ?_
  refine sp (.bool true) ?_
  refine sp (.bool true) ?_
  refine g_skips [29, 30, 31, 32, 33] ?_
  refine sp (.bool true) ?_
  refine sp (.bool true) ?_
  refine g_skips [36, 37, 38, 39, 40, 41] ?_
  refine sp (.bool true) ?_
  refine c_nil (t_n ?_)
  refine c_cond true rfl (fun _ => ?_) (fun h => absurd h (by decide))
  refine c_seq ?_
  refine c_reg ?_
  refine sp (.bool false) ?_
  refine c_nil (t_n ?_)
  refine c_ret (t_r (?_))
  refine ret1 (.bool false) rfl rfl ⟨_, rfl, ?_, H.base⟩
  rw [dec_false (fun h => by obtain ⟨h0, h1, h2, h3, h4, h5⟩ := h; first | contradiction | omega | (simp_all; done) | (obtain ⟨q1, q2⟩ := h5 c (by omega); first | contradiction | (have := q2 (by assumption); omega)))]

theorem cellCode_ok (w : World) (s : SystemD) (t : StateD) (c : Int) (asParents : Option Addr) (csParents : Nat) (FsParents : List Nat) (asRules : Option Addr) (csRules : Nat) (FsRules : List Nat) (atAlive : Option Addr) (ctAlive : Nat) (FtAlive : List Nat) (atBags : Option Addr) (ctBags : Nat) (FtBags : List Nat) (atAround : Option Addr) (ctAround : Nat) (FtAround : List Nat) (hsParents : GoRep.rep w FsParents [.slice asParents s.fParents.length csParents] s.fParents) (hsRules : GoRep.rep w FsRules [.slice asRules s.fRules.length csRules] s.fRules) (htAlive : GoRep.rep w FtAlive [.slice atAlive t.fAlive.length ctAlive] t.fAlive) (htBags : GoRep.rep w FtBags [.slice atBags t.fBags.length ctBags] t.fBags) (htAround : GoRep.rep w FtAround [.slice atAround t.fAround.length ctAround] t.fAround) : Calls Try.prog 41 #[.agg #[.int .i64 s.fKinds, .slice asParents s.fParents.length csParents, .slice asRules s.fRules.length csRules], .agg #[.slice atAlive t.fAlive.length ctAlive, .slice atBags t.fBags.length ctBags, .slice atAround t.fAround.length ctAround], .int .i64 c] w (Ret (fun v w' => v = .int .i64 (cellCodeOf s t c)) w) := by
 refine enter (n := 24) Try.func41 rfl Try.ntmps41 (Nat.le_of_ble_eq_true rfl) ?_
 have H := St.start w
 replace H := H.add (isF false FtAround (.slice atAround t.fAround.length ctAround) t.fAround) ⟨htAround, by simp⟩ (start_lt htAround)
 replace H := H.add (isF false FtBags (.slice atBags t.fBags.length ctBags) t.fBags) ⟨htBags, by simp⟩ (start_lt htBags)
 replace H := H.add (isF false FtAlive (.slice atAlive t.fAlive.length ctAlive) t.fAlive) ⟨htAlive, by simp⟩ (start_lt htAlive)
 replace H := H.add (isF false FsRules (.slice asRules s.fRules.length csRules) s.fRules) ⟨hsRules, by simp⟩ (start_lt hsRules)
 replace H := H.add (isF false FsParents (.slice asParents s.fParents.length csParents) s.fParents) ⟨hsParents, by simp⟩ (start_lt hsParents)
 have nhsParents := rep_len hsParents
 have nhsRules := rep_len hsRules
 have nhtAlive := rep_len htAlive
 have nhtBags := rep_len htBags
 have nhtAround := rep_len htAround
 clear hsParents hsRules htAlive htBags htAround
 have N := Fresh.nil w.heap.size
 refine c_seq ?_
 refine c_reg ?_
 refine sw (o_box H (.agg #[.int .i64 s.fKinds, .slice asParents s.fParents.length csParents, .slice asRules s.fRules.length csRules]) rfl fun b1 w2 H => ?_)
 replace H : St _ _ [.box b1 [.int .i64 s.fKinds, .slice asParents s.fParents.length csParents, .slice asRules s.fRules.length csRules] 30] _ := H
 refine sw (o_box H (.agg #[.slice atAlive t.fAlive.length ctAlive, .slice atBags t.fBags.length ctBags, .slice atAround t.fAround.length ctAround]) rfl fun b3 w4 H => ?_)
 replace H : St _ _ [.box b3 [.slice atAlive t.fAlive.length ctAlive, .slice atBags t.fBags.length ctBags, .slice atAround t.fAround.length ctAround] 41, .box b1 [.int .i64 s.fKinds, .slice asParents s.fParents.length csParents, .slice asRules s.fRules.length csRules] 30] _ := H
 refine sp (.int .i64 0) ?_
 refine c_nil (t_n ?_)
 refine c_seq ?_
 refine c_block ?_
 refine c_seq ?_
 refine c_reg ?_
 refine sw (o_loadN [.int .i64 s.fKinds, .slice asParents s.fParents.length csParents, .slice asRules s.fRules.length csRules] Try.isAgg30 Try.sizeOf30 rfl (cellsAt_sub (H.cells 1 rfl) 0 3) ?_)
 refine sw (o_loadN [.slice atAlive t.fAlive.length ctAlive, .slice atBags t.fBags.length ctBags, .slice atAround t.fAround.length ctAround] Try.isAgg41 Try.sizeOf41 rfl (cellsAt_sub (H.cells 0 rfl) 0 3) ?_)
 refine sw (o_call #[.agg #[.int .i64 s.fKinds, .slice asParents s.fParents.length csParents, .slice asRules s.fRules.length csRules], .agg #[.slice atAlive t.fAlive.length ctAlive, .slice atBags t.fBags.length ctBags, .slice atAround t.fAround.length ctAround]] rfl rfl Try.call59 (validState_ok w4 s t asParents csParents FsParents asRules csRules FsRules atAlive ctAlive FtAlive atBags ctBags FtBags atAround ctAround FtAround (H.get 0 rfl).1 (H.get 1 rfl).1 (H.get 2 rfl).1 (H.get 3 rfl).1 (H.get 4 rfl).1) ?_)
 rintro _ w6 rfl x7
 replace H := H.ext x7
 refine sp (.bool (!(dec (SysOk s ∧ StateOk s t)))) ?_
 refine sp (.bool (!(dec (SysOk s ∧ StateOk s t)))) ?_
 refine c_nil (t_n ?_)
 refine c_cond (!(dec (SysOk s ∧ StateOk s t))) rfl (fun h8 => ?_) (fun h8 => ?_)
 ·skip
  replace h8 := not_true_of h8
  replace h8 := not_of_dec h8
  refine c_seq ?_
  refine c_reg ?_
  refine sp (.int .i64 1) ?_
  refine c_nil (t_n ?_)
  refine c_ret (b_r (t_r (?_)))
  refine ret1 (.int .i64 1) rfl rfl ⟨_, rfl, ?_, H.base⟩
  rw [code_1 (by assumption)]
 ·skip
  replace h8 := not_false_of h8
  replace h8 := of_dec h8
  have z0 : SysOk s ∧ StateOk s t := ‹_›
  have z1 := z0.2.1
  refine c_seq ?_
  refine c_reg ?_
  refine sw (o_loadN [.int .i64 s.fKinds, .slice asParents s.fParents.length csParents, .slice asRules s.fRules.length csRules] Try.isAgg30 Try.sizeOf30 rfl (cellsAt_sub (H.cells 1 rfl) 0 3) ?_)
  refine sp (.int .i64 c) ?_
  refine sw (o_call #[.agg #[.int .i64 s.fKinds, .slice asParents s.fParents.length csParents, .slice asRules s.fRules.length csRules], .int .i64 c] rfl rfl Try.call80 (isCell_ok w6 s c asParents csParents FsParents asRules csRules FsRules (H.get 0 rfl).1 (H.get 1 rfl).1) ?_)
  rintro _ w10 rfl x11
  replace H := H.ext x11
  refine sp (.bool (!(inR c 0 ((s.fParents.length : Int) - 1)))) ?_
  refine sp (.bool (!(inR c 0 ((s.fParents.length : Int) - 1)))) ?_
  refine c_nil (t_n ?_)
  refine c_cond (!(inR c 0 ((s.fParents.length : Int) - 1))) rfl (fun h12 => ?_) (fun h12 => ?_)
  ·skip
   replace h12 := not_true_of h12
   replace h12 := inR_not h12
   refine c_seq ?_
   refine c_reg ?_
   refine sp (.int .i64 2) ?_
   refine c_nil (t_n ?_)
   refine c_ret (b_r (t_r (?_)))
   refine ret1 (.int .i64 2) rfl rfl ⟨_, rfl, ?_, H.base⟩
   rw [code_2 z0.1 z0.2 (by assumption)]
  ·skip
   replace h12 := not_false_of h12
   replace h12 := inR_iff.1 h12
   refine c_seq ?_
   refine c_reg ?_
   refine sw (o_field b3 (0) 0 Try.underlying41 rfl rfl Try.sizeOf36 rfl ?_)
   refine sw (o_load1 (.slice atAlive t.fAlive.length ctAlive) Try.isAgg36 rfl (H.cell 0 rfl rfl) ?_)
   refine sp (.int .i64 c) ?_
   obtain ⟨b13, o14, rfl⟩ := H.addr 2 rfl (by omega)
   refine sw (o_idxAt c Try.underlying36 ti4 rfl rfl (by omega) (by omega) ?_)
   refine sw (o_load1 (.bool (t.fAlive[c.toNat]!)) Try.isAgg4 rfl (H.elemBool 2 rfl c (by omega) (by omega)) ?_)
   refine sp (.bool (!(t.fAlive[c.toNat]!))) ?_
   refine sp (.bool (!(t.fAlive[c.toNat]!))) ?_
   refine c_nil (t_n ?_)
   refine c_cond (!(t.fAlive[c.toNat]!)) rfl (fun h16 => ?_) (fun h16 => ?_)
   ·skip
    replace h16 := not_true_of h16
    refine c_seq ?_
    refine c_reg ?_
    refine sp (.int .i64 4) ?_
    refine c_nil (t_n ?_)
    refine c_ret (b_r (t_r (?_)))
    refine ret1 (.int .i64 4) rfl rfl ⟨_, rfl, ?_, H.base⟩
    rw [code_4 z0.1 z0.2 (by assumption) (by first | assumption | simp_all)]
   ·skip
    replace h16 := not_false_of h16
    refine c_skip (b_n (t_n ?_))
    refine c_seq ?_
    refine c_reg ?_
    refine sp (.int .i64 0) ?_
    refine c_nil (t_n ?_)
    refine c_ret (?_)
    refine ret1 (.int .i64 0) rfl rfl ⟨_, rfl, ?_, H.base⟩
    rw [code_0 z0.1 z0.2 (by assumption) (by first | assumption | simp_all)]

theorem parentNow_ok (w : World) (s : SystemD) (t : StateD) (c : Int) (asParents : Option Addr) (csParents : Nat) (FsParents : List Nat) (asRules : Option Addr) (csRules : Nat) (FsRules : List Nat) (atAlive : Option Addr) (ctAlive : Nat) (FtAlive : List Nat) (atBags : Option Addr) (ctBags : Nat) (FtBags : List Nat) (atAround : Option Addr) (ctAround : Nat) (FtAround : List Nat) (hsParents : GoRep.rep w FsParents [.slice asParents s.fParents.length csParents] s.fParents) (hsRules : GoRep.rep w FsRules [.slice asRules s.fRules.length csRules] s.fRules) (htAlive : GoRep.rep w FtAlive [.slice atAlive t.fAlive.length ctAlive] t.fAlive) (htBags : GoRep.rep w FtBags [.slice atBags t.fBags.length ctBags] t.fBags) (htAround : GoRep.rep w FtAround [.slice atAround t.fAround.length ctAround] t.fAround) (p0 : FrameOk s) (p1 : CellIn s c) (p2 : t.fAlive.length = s.fParents.length) : Calls Try.prog 83 #[.agg #[.int .i64 s.fKinds, .slice asParents s.fParents.length csParents, .slice asRules s.fRules.length csRules], .agg #[.slice atAlive t.fAlive.length ctAlive, .slice atBags t.fBags.length ctBags, .slice atAround t.fAround.length ctAround], .int .i64 c] w (Ret (fun v w' => v = .int .i64 (parentNow s t c)) w) := by
 refine enter (n := 29) Try.func83 rfl Try.ntmps83 (Nat.le_of_ble_eq_true rfl) ?_
 have H := St.start w
 replace H := H.add (isF false FtAround (.slice atAround t.fAround.length ctAround) t.fAround) ⟨htAround, by simp⟩ (start_lt htAround)
 replace H := H.add (isF false FtBags (.slice atBags t.fBags.length ctBags) t.fBags) ⟨htBags, by simp⟩ (start_lt htBags)
 replace H := H.add (isF false FtAlive (.slice atAlive t.fAlive.length ctAlive) t.fAlive) ⟨htAlive, by simp⟩ (start_lt htAlive)
 replace H := H.add (isF false FsRules (.slice asRules s.fRules.length csRules) s.fRules) ⟨hsRules, by simp⟩ (start_lt hsRules)
 replace H := H.add (isF false FsParents (.slice asParents s.fParents.length csParents) s.fParents) ⟨hsParents, by simp⟩ (start_lt hsParents)
 have nhsParents := rep_len hsParents
 have nhsRules := rep_len hsRules
 have nhtAlive := rep_len htAlive
 have nhtBags := rep_len htBags
 have nhtAround := rep_len htAround
 clear hsParents hsRules htAlive htBags htAround
 have N := Fresh.nil w.heap.size
 have p3 := p0.step p1.1 p1.2
 refine c_seq ?_
 refine c_reg ?_
 refine sw (o_box H (.agg #[.int .i64 s.fKinds, .slice asParents s.fParents.length csParents, .slice asRules s.fRules.length csRules]) rfl fun b1 w2 H => ?_)
 replace H : St _ _ [.box b1 [.int .i64 s.fKinds, .slice asParents s.fParents.length csParents, .slice asRules s.fRules.length csRules] 30] _ := H
 refine sw (o_box H (.agg #[.slice atAlive t.fAlive.length ctAlive, .slice atBags t.fBags.length ctBags, .slice atAround t.fAround.length ctAround]) rfl fun b3 w4 H => ?_)
 replace H : St _ _ [.box b3 [.slice atAlive t.fAlive.length ctAlive, .slice atBags t.fBags.length ctBags, .slice atAround t.fAround.length ctAround] 41, .box b1 [.int .i64 s.fKinds, .slice asParents s.fParents.length csParents, .slice asRules s.fRules.length csRules] 30] _ := H
 refine sp (.int .i64 0) ?_
 refine c_nil (t_n ?_)
 refine c_seq ?_
 refine c_reg ?_
 refine sw (o_field b1 (0) 1 Try.underlying30 rfl rfl Try.sizeOf22 rfl ?_)
 refine sw (o_load1 (.slice asParents s.fParents.length csParents) Try.isAgg22 rfl (H.cell 1 rfl rfl) ?_)
 refine sp (.int .i64 c) ?_
 obtain ⟨b5, o6, rfl⟩ := H.addr 0 rfl (by omega)
 refine sw (o_idxAt c Try.underlying22 ti2 rfl rfl (by omega) (by omega) ?_)
 refine sw (o_load1 (.int .i64 (s.fParents[c.toNat]!)) Try.isAgg2 rfl (H.elemInt 0 rfl c (by omega) (by omega)) ?_)
 refine sp (.int .i64 (s.fParents[c.toNat]!)) ?_
 refine c_nil (t_n ?_)
 refine c_seq ?_
 refine c_block ?_
 refine c_loop (fun m' ρ w8 => ∃ (junk : Env) (p : Int) (n : Nat), ρ = upd (upd (upd junk 3 (.pointer (some ⟨b1, 0, none⟩))) 4 (.pointer (some ⟨b3, 0, none⟩))) 7 (.int .i64 p) ∧ (-1 ≤ p ∧ p ≤ (s.fParents.length : Int) - 1) ∧ (p < n) ∧ (parentNow s t c = climb s.fParents t.fAlive n p) ∧ m' = (p + 1).toNat ∧ Fresh w.heap.size [] ∧ St w w8 [.box b3 [.slice atAlive t.fAlive.length ctAlive, .slice atBags t.fBags.length ctBags, .slice atAround t.fAround.length ctAround] 41, .box b1 [.int .i64 s.fKinds, .slice (some ⟨b5, o6, none⟩) s.fParents.length csParents, .slice asRules s.fRules.length csRules] 30] [isF false FsParents (.slice (some ⟨b5, o6, none⟩) s.fParents.length csParents) s.fParents, isF false FsRules (.slice asRules s.fRules.length csRules) s.fRules, isF false FtAlive (.slice atAlive t.fAlive.length ctAlive) t.fAlive, isF false FtBags (.slice atBags t.fBags.length ctBags) t.fBags, isF false FtAround (.slice atAround t.fAround.length ctAround) t.fAround]) (((s.fParents[c.toNat]!) + 1).toNat) ⟨_, s.fParents[c.toNat]!, s.fParents.length, (by exact upd_eq (upd_eq (upd_eq (rfl) rfl) rfl) rfl), (by omega), (by omega), (by rfl), rfl, N, H⟩ ?_
 clear H N
 rintro m' ρ w9 ⟨junk, p, n, rfl, i0, i1, i2, rfl, N, H⟩
 have up := fun h => p0.step (c := p) h i0.2
 refine c_seq ?_
 refine c_seq ?_
 refine c_reg ?_
 refine sp (.int .i64 p) ?_
 refine sp (.bool (decide ((p : Int) ≥ 0))) ?_
 refine sp (.bool (decide ((p : Int) ≥ 0))) ?_
 cases h10 : (decide ((p : Int) ≥ 0))
 ·skip
  replace h10 := of_decide_eq_false h10
  refine g_skips [16, 17, 18, 19, 20, 21] ?_
  refine sp (.bool false) ?_
  refine c_nil (t_n ?_)
  refine c_cond false rfl (fun h => absurd h (by decide)) (fun _ => ?_)
  refine c_exit (t_x (t_x (b_x (t_n ?_))))
  refine c_seq ?_
  refine c_reg ?_
  refine sp (.int .i64 p) ?_
  refine sp (.int .i64 p) ?_
  refine c_nil (t_n ?_)
  refine c_ret (?_)
  refine ret1 (.int .i64 p) rfl rfl ⟨_, rfl, ?_, H.base⟩
  rw [i2, climb_end (by first | omega | simp_all)]
 ·skip
  replace h10 := of_decide_eq_true h10
  refine g_take 15 rfl rfl ?_
  refine sw (o_field b3 (0) 0 Try.underlying41 rfl rfl Try.sizeOf36 rfl ?_)
  refine g_take 15 rfl rfl ?_
  refine sw (o_load1 (.slice atAlive t.fAlive.length ctAlive) Try.isAgg36 rfl (H.cell 0 rfl rfl) ?_)
  refine g_take 15 rfl rfl ?_
  refine sp (.int .i64 p) ?_
  refine g_take 15 rfl rfl ?_
  obtain ⟨b11, o12, rfl⟩ := H.addr 2 rfl (by omega)
  refine sw (o_idxAt p Try.underlying36 ti4 rfl rfl (by omega) (by omega) ?_)
  refine g_take 15 rfl rfl ?_
  refine sw (o_load1 (.bool (t.fAlive[p.toNat]!)) Try.isAgg4 rfl (H.elemBool 2 rfl p (by omega) (by omega)) ?_)
  refine g_take 15 rfl rfl ?_
  refine sp (.bool (!(t.fAlive[p.toNat]!))) ?_
  refine sp (.bool (!(t.fAlive[p.toNat]!))) ?_
  refine c_nil (t_n ?_)
  refine c_cond (!(t.fAlive[p.toNat]!)) rfl (fun h14 => ?_) (fun h14 => ?_)
  ·skip
   replace h14 := not_true_of h14
   refine c_skip (t_n ?_)
   refine c_block ?_
   refine c_reg ?_
   refine sw (o_field b1 (0) 1 Try.underlying30 rfl rfl Try.sizeOf22 rfl ?_)
   refine sw (o_load1 (.slice (some ⟨b5, o6, none⟩) s.fParents.length csParents) Try.isAgg22 rfl (H.cell 1 rfl rfl) ?_)
   refine sp (.int .i64 p) ?_
   refine sw (o_idxAt p Try.underlying22 ti2 rfl rfl (by omega) (by omega) ?_)
   refine sw (o_load1 (.int .i64 (s.fParents[p.toNat]!)) Try.isAgg2 rfl (H.elemInt 0 rfl p (by omega) (by omega)) ?_)
   refine sp (.int .i64 (s.fParents[p.toNat]!)) ?_
   refine c_nil (b_n (?_))
   have up1 := up (by omega)
   refine loop_end (m' := ((s.fParents[p.toNat]!) + 1).toNat) (by omega) ⟨_, s.fParents[p.toNat]!, n - 1, (by exact upd_eq (upd_eq (upd_eq (rfl) rfl) rfl) rfl), ?_, ?_, ?_, rfl, N, H⟩
   · omega
   · omega
   · exact i2.trans (climb_go (by omega) (by omega) ‹_›)
  ·skip
   replace h14 := not_false_of h14
   refine c_exit (t_x (t_x (b_x (t_n ?_))))
   refine c_seq ?_
   refine c_reg ?_
   refine sp (.int .i64 p) ?_
   refine sp (.int .i64 p) ?_
   refine c_nil (t_n ?_)
   refine c_ret (?_)
   refine ret1 (.int .i64 p) rfl rfl ⟨_, rfl, ?_, H.base⟩
   rw [i2, climb_end (by first | omega | simp_all)]

theorem copied_ok (w : World) (t : StateD) (atAlive : Option Addr) (ctAlive : Nat) (FtAlive : List Nat) (atBags : Option Addr) (ctBags : Nat) (FtBags : List Nat) (atAround : Option Addr) (ctAround : Nat) (FtAround : List Nat) (htAlive : GoRep.rep w FtAlive [.slice atAlive t.fAlive.length ctAlive] t.fAlive) (htBags : GoRep.rep w FtBags [.slice atBags t.fBags.length ctBags] t.fBags) (htAround : GoRep.rep w FtAround [.slice atAround t.fAround.length ctAround] t.fAround) (p0 : t.fAlive.length ≤ 1000000) (p1 : t.fAround.length ≤ 1000000) (p2 : t.fBags.length ≤ 1000000) (p3 : ∀ j, j < t.fBags.length → (t.fBags[j]!).length ≤ 1000000) : Calls Try.prog 42 #[.agg #[.slice atAlive t.fAlive.length ctAlive, .slice atBags t.fBags.length ctBags, .slice atAround t.fAround.length ctAround]] w (Ret (fun v w' => ∃ (raAlive : Option Addr) (rnAlive : Nat) (rcAlive : Nat) (raBags : Option Addr) (rnBags : Nat) (rcBags : Nat) (rxBags : List Value) (rFBags : List Nat) (raAround : Option Addr) (rnAround : Nat) (rcAround : Nat), v = .agg #[.slice raAlive rnAlive rcAlive, .slice raBags rnBags rcBags, .slice raAround rnAround rcAround] ∧ Fresh w.heap.size [rFBags] ∧ St w w' [.row (.slice raAlive rnAlive rcAlive) 4 1 rnAlive (t.fAlive.map (Value.bool)), .row (.slice raBags rnBags rcBags) 22 1 rnBags rxBags, .row (.slice raAround rnAround rcAround) 2 1 rnAround (t.fAround.map (Value.int .i64))] [repsF true rFBags rxBags t.fBags]) w) := by
 refine enter (n := 29) Try.func42 rfl Try.ntmps42 (Nat.le_of_ble_eq_true rfl) ?_
 have H := St.start w
 replace H := H.add (isF false FtAround (.slice atAround t.fAround.length ctAround) t.fAround) ⟨htAround, by simp⟩ (start_lt htAround)
 replace H := H.add (isF false FtBags (.slice atBags t.fBags.length ctBags) t.fBags) ⟨htBags, by simp⟩ (start_lt htBags)
 replace H := H.add (isF false FtAlive (.slice atAlive t.fAlive.length ctAlive) t.fAlive) ⟨htAlive, by simp⟩ (start_lt htAlive)
 have nhtAlive := rep_len htAlive
 have nhtBags := rep_len htBags
 have nhtAround := rep_len htAround
 clear htAlive htBags htAround
 have N := Fresh.nil w.heap.size
 refine c_seq ?_
 refine c_reg ?_
 refine sw (o_box H (.agg #[.slice atAlive t.fAlive.length ctAlive, .slice atBags t.fBags.length ctBags, .slice atAround t.fAround.length ctAround]) rfl fun b1 w2 H => ?_)
 replace H : St _ _ [.box b1 [.slice atAlive t.fAlive.length ctAlive, .slice atBags t.fBags.length ctBags, .slice atAround t.fAround.length ctAround] 41] _ := H
 refine sw (o_alloc H ti41 fun b3 w4 H => ?_)
 replace H : St _ _ [.box b3 [.slice none 0 0, .slice none 0 0, .slice none 0 0] 41, .box b1 [.slice atAlive t.fAlive.length ctAlive, .slice atBags t.fBags.length ctBags, .slice atAround t.fAround.length ctAround] 41] _ := H
 refine c_nil (t_n ?_)
 refine c_seq ?_
 refine c_cut (fun ρ w5 => ∃ (junk : Env) (b6 : Nat) (ra7 : Option Addr) (rc8 : Nat) (a9 : Option Addr) (c10 : Nat), ρ = upd (upd (upd junk 1 (.pointer (some ⟨b1, 0, none⟩))) 2 (.pointer (some ⟨b3, 0, none⟩))) 3 (.pointer (some ⟨b6, 0, none⟩)) ∧ Fresh w.heap.size [] ∧ St w w5 [.box b6 [.slice ra7 t.fAlive.length rc8, .slice none 0 0, .slice a9 t.fAround.length c10] 41, .row (.slice a9 t.fAround.length c10) 2 1 t.fAround.length (t.fAround.map (Value.int .i64)), .row (.slice ra7 t.fAlive.length rc8) 4 1 t.fAlive.length (t.fAlive.map (Value.bool)), .box b3 [.slice none 0 0, .slice none 0 0, .slice none 0 0] 41, .box b1 [.slice atAlive t.fAlive.length ctAlive, .slice atBags t.fBags.length ctBags, .slice atAround t.fAround.length ctAround] 41] [isF false FtAlive (.slice atAlive t.fAlive.length ctAlive) t.fAlive, isF false FtBags (.slice atBags t.fBags.length ctBags) t.fBags, isF false FtAround (.slice atAround t.fAround.length ctAround) t.fAround]) ?_ ?_
 ·skip
  refine c_drawH rfl H fun H => ?_
  refine rt 0 (.pointer (some ⟨b1, 0 + 0, none⟩)) (y_field b1 (0) 0 Try.underlying41 rfl rfl Try.sizeOf36 rfl) H ?_
  refine rt 1 (.slice atAlive t.fAlive.length ctAlive) (y_load1 Try.isAgg36 rfl (fun _ h => h.cell 1 rfl rfl)) H ?_
  refine rt 3 (.pointer (some ⟨b1, 0 + 2, none⟩)) (y_field b1 (0) 2 Try.underlying41 rfl rfl Try.sizeOf22 rfl) H ?_
  refine rt 4 (.slice atAround t.fAround.length ctAround) (y_load1 Try.isAgg22 rfl (fun _ h => h.cell 1 rfl rfl)) H ?_
  refine r_ops [2, 7] (by kernel_rfl) (by simp) (r_op rfl ?_ (r_op rfl ?_ r_nil))
  ·skip
   have sz15 := H.base.size
   refine o_call #[.slice atAlive t.fAlive.length ctAlive] rfl rfl Try.call81 (cloneB_ok w4.drew t.fAlive atAlive ctAlive FtAlive (H.get 0 rfl).1 (by first | assumption | omega)) ?_
   rintro _ w13 ⟨ra12, rn12, rc12, rfl, M, K⟩ _
   replace H := H.merge K M
   replace H : St _ _ [.row (.slice ra12 rn12 rc12) 4 1 rn12 (t.fAlive.map (Value.bool)), .box b3 [.slice none 0 0, .slice none 0 0, .slice none 0 0] 41, .box b1 [.slice atAlive t.fAlive.length ctAlive, .slice atBags t.fBags.length ctBags, .slice atAround t.fAround.length ctAround] 41] [isF false FtAlive (.slice atAlive t.fAlive.length ctAlive) t.fAlive, isF false FtBags (.slice atBags t.fBags.length ctBags) t.fBags, isF false FtAround (.slice atAround t.fAround.length ctAround) t.fAround] := H
   obtain rfl := H.rowNB 0 rfl
   refine ⟨H.pick [1, 2] [0, 1, 2], ?_⟩
   refine r_ops [5, 7] (by kernel_rfl) (by simp) (r_op rfl ?_ (r_op rfl ?_ r_nil))
   ·skip
    have sz18 := H.base.size
    refine o_call #[.slice atAround t.fAround.length ctAround] rfl rfl Try.call82 (cloneI_ok w13 t.fAround atAround ctAround FtAround (H.get 2 rfl).1 (by first | assumption | omega)) ?_
    rintro v23 w21 r23 x22
    replace H := H.add_ownInts x22 r23
    obtain ⟨a24, c25, rfl, hc26, hm27⟩ := H.rowForm 0 rfl
    refine ⟨H.pick [2, 3] [0, 1, 2], ?_⟩
    refine r_ops [6, 7] (by kernel_rfl) (by simp) (r_op rfl ?_ (r_op rfl ?_ r_nil))
    ·skip
     refine o_build [.slice ra12 t.fAlive.length rc12, .slice none 0 0, .slice a24 t.fAround.length c25] [(0, .slice ra12 t.fAlive.length rc12), (2, .slice a24 t.fAround.length c25)] ?_
     refine ⟨H.pick [2, 3] [0, 1, 2], ?_⟩
     refine r_ops [7] (by kernel_rfl) (by simp) (r_op rfl ?_ r_nil)
     refine o_alloc H ti41 fun b28 w29 H => ?_
     replace H : St _ _ [.box b28 [.slice none 0 0, .slice none 0 0, .slice none 0 0] 41, .row (.slice a24 t.fAround.length c25) 2 1 t.fAround.length (t.fAround.map (Value.int .i64)), .row (.slice ra12 t.fAlive.length rc12) 4 1 t.fAlive.length (t.fAlive.map (Value.bool)), .box b3 [.slice none 0 0, .slice none 0 0, .slice none 0 0] 41, .box b1 [.slice atAlive t.fAlive.length ctAlive, .slice atBags t.fBags.length ctBags, .slice atAround t.fAround.length ctAround] 41] _ := H
     refine ⟨H.pick [3, 4] [0, 1, 2], ?_⟩
     refine r_ops [8] (by kernel_rfl) (by simp) (r_op rfl ?_ r_nil)
     refine o_store H 0 rfl (.agg #[.slice ra12 t.fAlive.length rc12, .slice none 0 0, .slice a24 t.fAround.length c25]) Try.sizeOf41 rfl rfl (by simp [Value.oneCell', Value.cells]) (Nat.le_of_ble_eq_true rfl) fun w30 H => ?_
     replace H : St _ _ [.box b28 [.slice ra12 t.fAlive.length rc12, .slice none 0 0, .slice a24 t.fAround.length c25] 41, .row (.slice a24 t.fAround.length c25) 2 1 t.fAround.length (t.fAround.map (Value.int .i64)), .row (.slice ra12 t.fAlive.length rc12) 4 1 t.fAlive.length (t.fAlive.map (Value.bool)), .box b3 [.slice none 0 0, .slice none 0 0, .slice none 0 0] 41, .box b1 [.slice atAlive t.fAlive.length ctAlive, .slice atBags t.fBags.length ctBags, .slice atAround t.fAround.length ctAround] 41] _ := H
     refine ⟨H.pick [3, 4] [0, 1, 2], ?_⟩
     refine r_done (by kernel_rfl) (?_)
     exact meet ⟨_, b28, ra12, rc12, a24, c25, (by exact upd_eq (upd_eq (upd_eq (rfl) rfl) rfl) rfl), N, H⟩
    ·skip
     refine o_alloc H ti41 fun b31 w32 H => ?_
     replace H : St _ _ [.box b31 [.slice none 0 0, .slice none 0 0, .slice none 0 0] 41, .row (.slice a24 t.fAround.length c25) 2 1 t.fAround.length (t.fAround.map (Value.int .i64)), .row (.slice ra12 t.fAlive.length rc12) 4 1 t.fAlive.length (t.fAlive.map (Value.bool)), .box b3 [.slice none 0 0, .slice none 0 0, .slice none 0 0] 41, .box b1 [.slice atAlive t.fAlive.length ctAlive, .slice atBags t.fBags.length ctBags, .slice atAround t.fAround.length ctAround] 41] _ := H
     refine ⟨H.pick [3, 4] [0, 1, 2], ?_⟩
     refine r_ops [6] (by kernel_rfl) (by simp) (r_op rfl ?_ r_nil)
     refine o_build [.slice ra12 t.fAlive.length rc12, .slice none 0 0, .slice a24 t.fAround.length c25] [(0, .slice ra12 t.fAlive.length rc12), (2, .slice a24 t.fAround.length c25)] ?_
     refine ⟨H.pick [3, 4] [0, 1, 2], ?_⟩
     refine r_ops [8] (by kernel_rfl) (by simp) (r_op rfl ?_ r_nil)
     refine o_store H 0 rfl (.agg #[.slice ra12 t.fAlive.length rc12, .slice none 0 0, .slice a24 t.fAround.length c25]) Try.sizeOf41 rfl rfl (by simp [Value.oneCell', Value.cells]) (Nat.le_of_ble_eq_true rfl) fun w33 H => ?_
     replace H : St _ _ [.box b31 [.slice ra12 t.fAlive.length rc12, .slice none 0 0, .slice a24 t.fAround.length c25] 41, .row (.slice a24 t.fAround.length c25) 2 1 t.fAround.length (t.fAround.map (Value.int .i64)), .row (.slice ra12 t.fAlive.length rc12) 4 1 t.fAlive.length (t.fAlive.map (Value.bool)), .box b3 [.slice none 0 0, .slice none 0 0, .slice none 0 0] 41, .box b1 [.slice atAlive t.fAlive.length ctAlive, .slice atBags t.fBags.length ctBags, .slice atAround t.fAround.length ctAround] 41] _ := H
     refine ⟨H.pick [3, 4] [0, 1, 2], ?_⟩
     refine r_done (by kernel_rfl) (?_)
     exact meet ⟨_, b31, ra12, rc12, a24, c25, (by exact upd_eq (upd_eq (upd_eq (rfl) rfl) rfl) rfl), N, H⟩
   ·skip
    refine o_alloc H ti41 fun b34 w35 H => ?_
    replace H : St _ _ [.box b34 [.slice none 0 0, .slice none 0 0, .slice none 0 0] 41, .row (.slice ra12 t.fAlive.length rc12) 4 1 t.fAlive.length (t.fAlive.map (Value.bool)), .box b3 [.slice none 0 0, .slice none 0 0, .slice none 0 0] 41, .box b1 [.slice atAlive t.fAlive.length ctAlive, .slice atBags t.fBags.length ctBags, .slice atAround t.fAround.length ctAround] 41] _ := H
    refine ⟨H.pick [2, 3] [0, 1, 2], ?_⟩
    refine r_ops [5] (by kernel_rfl) (by simp) (r_op rfl ?_ r_nil)
    have sz36 := H.base.size
    refine o_call #[.slice atAround t.fAround.length ctAround] rfl rfl Try.call82 (cloneI_ok w35 t.fAround atAround ctAround FtAround (H.get 2 rfl).1 (by first | assumption | omega)) ?_
    rintro v41 w39 r41 x40
    replace H := H.add_ownInts x40 r41
    obtain ⟨a42, c43, rfl, hc44, hm45⟩ := H.rowForm 0 rfl
    refine ⟨H.pick [3, 4] [0, 1, 2], ?_⟩
    refine r_ops [6] (by kernel_rfl) (by simp) (r_op rfl ?_ r_nil)
    refine o_build [.slice ra12 t.fAlive.length rc12, .slice none 0 0, .slice a42 t.fAround.length c43] [(0, .slice ra12 t.fAlive.length rc12), (2, .slice a42 t.fAround.length c43)] ?_
    refine ⟨H.pick [3, 4] [0, 1, 2], ?_⟩
    refine r_ops [8] (by kernel_rfl) (by simp) (r_op rfl ?_ r_nil)
    refine o_store H 1 rfl (.agg #[.slice ra12 t.fAlive.length rc12, .slice none 0 0, .slice a42 t.fAround.length c43]) Try.sizeOf41 rfl rfl (by simp [Value.oneCell', Value.cells]) (Nat.le_of_ble_eq_true rfl) fun w46 H => ?_
    replace H : St _ _ [.row (.slice a42 t.fAround.length c43) 2 1 t.fAround.length (t.fAround.map (Value.int .i64)), .box b34 [.slice ra12 t.fAlive.length rc12, .slice none 0 0, .slice a42 t.fAround.length c43] 41, .row (.slice ra12 t.fAlive.length rc12) 4 1 t.fAlive.length (t.fAlive.map (Value.bool)), .box b3 [.slice none 0 0, .slice none 0 0, .slice none 0 0] 41, .box b1 [.slice atAlive t.fAlive.length ctAlive, .slice atBags t.fBags.length ctBags, .slice atAround t.fAround.length ctAround] 41] _ := H
    refine ⟨H.pick [3, 4] [0, 1, 2], ?_⟩
    refine r_done (by kernel_rfl) (?_)
    exact meet ⟨_, b34, ra12, rc12, a42, c43, (by exact upd_eq (upd_eq (upd_eq (rfl) rfl) rfl) rfl), N, H.pick [1, 0, 2, 3, 4] [0, 1, 2]⟩
  ·skip
   refine o_alloc H ti41 fun b47 w48 H => ?_
   replace H : St _ _ [.box b47 [.slice none 0 0, .slice none 0 0, .slice none 0 0] 41, .box b3 [.slice none 0 0, .slice none 0 0, .slice none 0 0] 41, .box b1 [.slice atAlive t.fAlive.length ctAlive, .slice atBags t.fBags.length ctBags, .slice atAround t.fAround.length ctAround] 41] _ := H
   refine ⟨H.pick [1, 2] [0, 1, 2], ?_⟩
   refine r_ops [2] (by kernel_rfl) (by simp) (r_op rfl ?_ r_nil)
   have sz52 := H.base.size
   refine o_call #[.slice atAlive t.fAlive.length ctAlive] rfl rfl Try.call81 (cloneB_ok w48 t.fAlive atAlive ctAlive FtAlive (H.get 0 rfl).1 (by first | assumption | omega)) ?_
   rintro _ w50 ⟨ra49, rn49, rc49, rfl, M, K⟩ _
   replace H := H.merge K M
   replace H : St _ _ [.row (.slice ra49 rn49 rc49) 4 1 rn49 (t.fAlive.map (Value.bool)), .box b47 [.slice none 0 0, .slice none 0 0, .slice none 0 0] 41, .box b3 [.slice none 0 0, .slice none 0 0, .slice none 0 0] 41, .box b1 [.slice atAlive t.fAlive.length ctAlive, .slice atBags t.fBags.length ctBags, .slice atAround t.fAround.length ctAround] 41] [isF false FtAlive (.slice atAlive t.fAlive.length ctAlive) t.fAlive, isF false FtBags (.slice atBags t.fBags.length ctBags) t.fBags, isF false FtAround (.slice atAround t.fAround.length ctAround) t.fAround] := H
   obtain rfl := H.rowNB 0 rfl
   refine ⟨H.pick [2, 3] [0, 1, 2], ?_⟩
   refine r_ops [5] (by kernel_rfl) (by simp) (r_op rfl ?_ r_nil)
   have sz55 := H.base.size
   refine o_call #[.slice atAround t.fAround.length ctAround] rfl rfl Try.call82 (cloneI_ok w50 t.fAround atAround ctAround FtAround (H.get 2 rfl).1 (by first | assumption | omega)) ?_
   rintro v60 w58 r60 x59
   replace H := H.add_ownInts x59 r60
   obtain ⟨a61, c62, rfl, hc63, hm64⟩ := H.rowForm 0 rfl
   refine ⟨H.pick [3, 4] [0, 1, 2], ?_⟩
   refine r_ops [6] (by kernel_rfl) (by simp) (r_op rfl ?_ r_nil)
   refine o_build [.slice ra49 t.fAlive.length rc49, .slice none 0 0, .slice a61 t.fAround.length c62] [(0, .slice ra49 t.fAlive.length rc49), (2, .slice a61 t.fAround.length c62)] ?_
   refine ⟨H.pick [3, 4] [0, 1, 2], ?_⟩
   refine r_ops [8] (by kernel_rfl) (by simp) (r_op rfl ?_ r_nil)
   refine o_store H 2 rfl (.agg #[.slice ra49 t.fAlive.length rc49, .slice none 0 0, .slice a61 t.fAround.length c62]) Try.sizeOf41 rfl rfl (by simp [Value.oneCell', Value.cells]) (Nat.le_of_ble_eq_true rfl) fun w65 H => ?_
   replace H : St _ _ [.row (.slice a61 t.fAround.length c62) 2 1 t.fAround.length (t.fAround.map (Value.int .i64)), .row (.slice ra49 t.fAlive.length rc49) 4 1 t.fAlive.length (t.fAlive.map (Value.bool)), .box b47 [.slice ra49 t.fAlive.length rc49, .slice none 0 0, .slice a61 t.fAround.length c62] 41, .box b3 [.slice none 0 0, .slice none 0 0, .slice none 0 0] 41, .box b1 [.slice atAlive t.fAlive.length ctAlive, .slice atBags t.fBags.length ctBags, .slice atAround t.fAround.length ctAround] 41] _ := H
   refine ⟨H.pick [3, 4] [0, 1, 2], ?_⟩
   refine r_done (by kernel_rfl) (?_)
   exact meet ⟨_, b47, ra49, rc49, a61, c62, (by exact upd_eq (upd_eq (upd_eq (rfl) rfl) rfl) rfl), N, H.pick [2, 0, 1, 3, 4] [0, 1, 2]⟩
 ·skip
  clear H N
  rintro ρ w66 ⟨junk, b6, ra7, rc8, a9, c10, rfl, N, H⟩
  refine t_n ?_
  refine c_seq ?_
  refine c_seq ?_
  refine c_reg ?_
  refine sw (o_field b1 (0) 1 Try.underlying41 rfl rfl Try.sizeOf37 rfl ?_)
  refine sw (o_load1 (.slice atBags t.fBags.length ctBags) Try.isAgg37 rfl (H.cell 4 rfl rfl) ?_)
  refine sw (o_len Try.underlying37 atBags t.fBags.length ctBags rfl ?_)
  refine sp (.int .i64 0) ?_
  refine c_nil (t_n ?_)
  refine c_block ?_
  replace H := H.nilRow 22 1
  replace H := H.repsNil (α := List Int)
  replace H : St _ _ [.row (.slice none 0 0) 22 1 0 [], .box b6 [.slice ra7 t.fAlive.length rc8, .slice none 0 0, .slice a9 t.fAround.length c10] 41, .row (.slice a9 t.fAround.length c10) 2 1 t.fAround.length (t.fAround.map (Value.int .i64)), .row (.slice ra7 t.fAlive.length rc8) 4 1 t.fAlive.length (t.fAlive.map (Value.bool)), .box b3 [.slice none 0 0, .slice none 0 0, .slice none 0 0] 41, .box b1 [.slice atAlive t.fAlive.length ctAlive, .slice atBags t.fBags.length ctBags, .slice atAround t.fAround.length ctAround] 41] _ := H
  refine c_loop (fun m' ρ w67 => ∃ (junk : Env) (k : Nat) (a_out_Bags : Option Addr) (n_out_Bags : Nat) (c_out_Bags : Nat) (out_Bags : List (List Int)) (x_out_Bags : List Value) (F_out_Bags : List Nat), ρ = upd (upd (upd (upd (upd junk 2 (.pointer (some ⟨b3, 0, none⟩))) 3 (.pointer (some ⟨b6, 0, none⟩))) 14 (.slice atBags t.fBags.length ctBags)) 15 (.int .i64 t.fBags.length)) 16 (.int .i64 k) ∧ out_Bags = t.fBags.take k ∧ ((k : Int) ≤ t.fBags.length) ∧ m' = (t.fBags.length - (k : Int)).toNat ∧ Fresh w.heap.size [F_out_Bags] ∧ St w w67 [.row (.slice a_out_Bags n_out_Bags c_out_Bags) 22 1 n_out_Bags x_out_Bags, .box b6 [.slice ra7 t.fAlive.length rc8, .slice a_out_Bags n_out_Bags c_out_Bags, .slice a9 t.fAround.length c10] 41, .row (.slice a9 t.fAround.length c10) 2 1 t.fAround.length (t.fAround.map (Value.int .i64)), .row (.slice ra7 t.fAlive.length rc8) 4 1 t.fAlive.length (t.fAlive.map (Value.bool)), .box b3 [.slice none 0 0, .slice none 0 0, .slice none 0 0] 41, .box b1 [.slice atAlive t.fAlive.length ctAlive, .slice atBags t.fBags.length ctBags, .slice atAround t.fAround.length ctAround] 41] [repsF true F_out_Bags x_out_Bags out_Bags, isF false FtAlive (.slice atAlive t.fAlive.length ctAlive) t.fAlive, isF false FtBags (.slice atBags t.fBags.length ctBags) t.fBags, isF false FtAround (.slice atAround t.fAround.length ctAround) t.fAround]) ((t.fBags.length - (0 : Int)).toNat) ⟨_, 0, none, 0, 0, ([] : List (List Int)), [], [], (by exact upd_eq (upd_eq (upd_eq (upd_eq (upd_eq (rfl) rfl) rfl) rfl) rfl) rfl), (by rfl), (by omega), rfl, N.emp, H⟩ ?_
  clear H N
  rintro m' ρ w68 ⟨junk, k, a_out_Bags, n_out_Bags, c_out_Bags, out_Bags, x_out_Bags, F_out_Bags, rfl, rfl, i0, rfl, N, H⟩
  have hn_out_Bags := H.rowCount (α := List Int) 0 rfl 0 rfl (by decide)
  have p4 := p3 k
  rw [List.length_take_of_le (by omega)] at hn_out_Bags
  refine c_seq ?_
  refine c_reg ?_
  refine sp (.bool (decide ((k : Int) < t.fBags.length))) ?_
  refine c_nil (t_n ?_)
  refine c_seq ?_
  refine c_cond (decide ((k : Int) < t.fBags.length)) rfl (fun h69 => ?_) (fun h69 => ?_)
  ·skip
   replace h69 := of_decide_eq_true h69
   refine c_skip (t_n ?_)
   refine c_seq ?_
   refine c_block ?_
   refine c_seq ?_
   refine c_reg ?_
   obtain ⟨b70, o71, rfl⟩ := H.addr 2 rfl (by omega)
   obtain ⟨ae73, ce73, Fe73, H⟩ := H.elemList 2 rfl k k (by omega) (by omega) (by omega)
   refine sw (o_idxAt k Try.underlying37 ti22 rfl rfl (by omega) (by omega) ?_)
   refine sw (o_load1 (.slice ae73 ((t.fBags[k]!).length) ce73) Try.isAgg22 rfl (H.cellF 1 rfl 0 rfl) ?_)
   refine sp (.slice ae73 ((t.fBags[k]!).length) ce73) ?_
   refine c_nil (t_n ?_)
   refine c_cut (fun ρ w74 => ∃ (junk : Env) (a75 : Option Addr) (c76 : Nat) (a77 : Option Addr) (c78 : Nat) (G79 : List Nat), ρ = upd (upd (upd (upd (upd junk 2 (.pointer (some ⟨b3, 0, none⟩))) 3 (.pointer (some ⟨b6, 0, none⟩))) 14 (.slice (some ⟨b70, o71, none⟩) t.fBags.length ctBags)) 15 (.int .i64 t.fBags.length)) 16 (.int .i64 k) ∧ Fresh w.heap.size [(F_out_Bags ++ G79)] ∧ St w w74 [.row (.slice a75 (n_out_Bags + 1) c76) 22 1 (n_out_Bags + 1) (x_out_Bags ++ [.slice a77 ((t.fBags[k]!).length) c78]), .box b6 [.slice ra7 t.fAlive.length rc8, .slice a75 (n_out_Bags + 1) c76, .slice a9 t.fAround.length c10] 41, .row (.slice a9 t.fAround.length c10) 2 1 t.fAround.length (t.fAround.map (Value.int .i64)), .row (.slice ra7 t.fAlive.length rc8) 4 1 t.fAlive.length (t.fAlive.map (Value.bool)), .box b3 [.slice none 0 0, .slice none 0 0, .slice none 0 0] 41, .box b1 [.slice atAlive t.fAlive.length ctAlive, .slice (some ⟨b70, o71, none⟩) t.fBags.length ctBags, .slice atAround t.fAround.length ctAround] 41] [repsF true (F_out_Bags ++ G79) (x_out_Bags ++ [.slice a77 ((t.fBags[k]!).length) c78]) ((t.fBags.take k) ++ [(t.fBags[k]!)]), isF true G79 (.slice a77 ((t.fBags[k]!).length) c78) (t.fBags[k]!), isF false Fe73 (.slice ae73 ((t.fBags[k]!).length) ce73) (t.fBags[k]!), atF b70 (o71 + (k : Int).toNat * 1) [.slice ae73 ((t.fBags[k]!).length) ce73], isF false FtAlive (.slice atAlive t.fAlive.length ctAlive) t.fAlive, isF false FtBags (.slice (some ⟨b70, o71, none⟩) t.fBags.length ctBags) t.fBags, isF false FtAround (.slice atAround t.fAround.length ctAround) t.fAround]) ?_ ?_
   ·skip
    refine c_draw (fun w80 => St w w80 [.row (.slice a9 t.fAround.length c10) 2 1 t.fAround.length (t.fAround.map (Value.int .i64)), .row (.slice ra7 t.fAlive.length rc8) 4 1 t.fAlive.length (t.fAlive.map (Value.bool)), .box b3 [.slice none 0 0, .slice none 0 0, .slice none 0 0] 41, .box b1 [.slice atAlive t.fAlive.length ctAlive, .slice (some ⟨b70, o71, none⟩) t.fBags.length ctBags, .slice atAround t.fAround.length ctAround] 41] [isF false Fe73 (.slice ae73 ((t.fBags[k]!).length) ce73) (t.fBags[k]!), atF b70 (o71 + (k : Int).toNat * 1) [.slice ae73 ((t.fBags[k]!).length) ce73], repsF true F_out_Bags x_out_Bags (t.fBags.take k), isF false FtAlive (.slice atAlive t.fAlive.length ctAlive) t.fAlive, isF false FtBags (.slice (some ⟨b70, o71, none⟩) t.fBags.length ctBags) t.fBags, isF false FtAround (.slice atAround t.fAround.length ctAround) t.fAround]) rfl ((H.ext (ext_drew _)).pick [2, 3, 4, 5] [0, 1, 2, 3, 4, 5]) ?_
    replace H := H.ext (ext_drew _)
    refine rt 0 (.pointer (some ⟨b6, 0 + 1, none⟩)) (y_field b6 (0) 1 Try.underlying41 rfl rfl Try.sizeOf37 rfl) (H.pick [2, 3, 4, 5] [0, 1, 2, 3, 4, 5]) ?_
    refine rtp 2 (.slice ae73 ((t.fBags[k]!).length) ce73) (H.pick [2, 3, 4, 5] [0, 1, 2, 3, 4, 5]) ?_
    refine r_ops [1, 3] (by kernel_rfl) (by simp) (r_op rfl ?_ (r_op rfl ?_ r_nil))
    ·skip
     refine o_load1 (.slice a_out_Bags n_out_Bags c_out_Bags) Try.isAgg37 rfl (H.cell 1 rfl rfl) ?_
     refine ⟨H.pick [2, 3, 4, 5] [0, 1, 2, 3, 4, 5], ?_⟩
     refine r_ops [3] (by kernel_rfl) (by simp) (r_op rfl ?_ r_nil)
     have sz81 := H.base.size
     have lt82 := H.ltN (L := [F_out_Bags]) [2]
     refine o_call #[.slice ae73 ((t.fBags[k]!).length) ce73] rfl rfl Try.call82 (cloneI_ok w68.drew (t.fBags[k]!) ae73 ce73 Fe73 (H.get 0 rfl).1 (by first | assumption | omega)) ?_
     rintro v86 w84 r86 x85
     replace H := H.add_ownInts x85 r86
     obtain ⟨a87, c88, rfl, hc89, hm90⟩ := H.rowForm 0 rfl
     refine ⟨H.pick [3, 4, 5, 6] [0, 1, 2, 3, 4, 5], ?_⟩
     refine r_ops [4] (by kernel_rfl) (by simp) (r_op rfl ?_ r_nil)
     refine o_build1 H Try.underlying37 ti22 (by decide) (by decide) (.slice a87 ((t.fBags[k]!).length) c88) rfl rfl fun b91 w92 H => ?_
     replace H : St _ _ [.box b91 [.slice a87 ((t.fBags[k]!).length) c88] 22, .row (.slice a87 ((t.fBags[k]!).length) c88) 2 1 ((t.fBags[k]!).length) ((t.fBags[k]!).map (Value.int .i64)), .row (.slice a_out_Bags n_out_Bags c_out_Bags) 22 1 n_out_Bags x_out_Bags, .box b6 [.slice ra7 t.fAlive.length rc8, .slice a_out_Bags n_out_Bags c_out_Bags, .slice a9 t.fAround.length c10] 41, .row (.slice a9 t.fAround.length c10) 2 1 t.fAround.length (t.fAround.map (Value.int .i64)), .row (.slice ra7 t.fAlive.length rc8) 4 1 t.fAlive.length (t.fAlive.map (Value.bool)), .box b3 [.slice none 0 0, .slice none 0 0, .slice none 0 0] 41, .box b1 [.slice atAlive t.fAlive.length ctAlive, .slice (some ⟨b70, o71, none⟩) t.fBags.length ctBags, .slice atAround t.fAround.length ctAround] 41] _ := H
     refine ⟨H.pick [4, 5, 6, 7] [0, 1, 2, 3, 4, 5], ?_⟩
     refine r_ops [5] (by kernel_rfl) (by simp) (r_op rfl ?_ r_nil)
     obtain ⟨G96, N, hn97, H⟩ := H.freezeI 1 rfl N (H.awayN [2])
     replace H : St _ _ [.box b91 [.slice a87 ((t.fBags[k]!).length) c88] 22, .row (.slice none 0 0) 0 1 0 [], .row (.slice a_out_Bags n_out_Bags c_out_Bags) 22 1 n_out_Bags x_out_Bags, .box b6 [.slice ra7 t.fAlive.length rc8, .slice a_out_Bags n_out_Bags c_out_Bags, .slice a9 t.fAround.length c10] 41, .row (.slice a9 t.fAround.length c10) 2 1 t.fAround.length (t.fAround.map (Value.int .i64)), .row (.slice ra7 t.fAlive.length rc8) 4 1 t.fAlive.length (t.fAlive.map (Value.bool)), .box b3 [.slice none 0 0, .slice none 0 0, .slice none 0 0] 41, .box b1 [.slice atAlive t.fAlive.length ctAlive, .slice (some ⟨b70, o71, none⟩) t.fBags.length ctBags, .slice atAround t.fAround.length ctAround] 41] _ := H
     refine o_appendR H 2 rfl 0 rfl Try.underlying37 ti22 rfl (by decide) rfl rfl rfl (by simp [Value.oneCell', Value.cells]) (by unfold maxLen; omega) (by omega) fun a93 c94 w95 H => ?_
     replace H : St _ _ [.box b91 [.slice a87 ((t.fBags[k]!).length) c88] 22, .row (.slice none 0 0) 0 1 0 [], .row (.slice a93 (n_out_Bags + 1) c94) 22 1 (n_out_Bags + 1) (x_out_Bags ++ [.slice a87 ((t.fBags[k]!).length) c88]), .box b6 [.slice ra7 t.fAlive.length rc8, .slice a_out_Bags n_out_Bags c_out_Bags, .slice a9 t.fAround.length c10] 41, .row (.slice a9 t.fAround.length c10) 2 1 t.fAround.length (t.fAround.map (Value.int .i64)), .row (.slice ra7 t.fAlive.length rc8) 4 1 t.fAlive.length (t.fAlive.map (Value.bool)), .box b3 [.slice none 0 0, .slice none 0 0, .slice none 0 0] 41, .box b1 [.slice atAlive t.fAlive.length ctAlive, .slice (some ⟨b70, o71, none⟩) t.fBags.length ctBags, .slice atAround t.fAround.length ctAround] 41] _ := H
     replace H := H.repsSnoc 3 rfl 0 rfl
     replace N : Fresh w.heap.size [(F_out_Bags ++ G96)] := (N.pick [1, 0]).join
     refine ⟨H.pick [4, 5, 6, 7] [2, 3, 4, 5, 6, 7], ?_⟩
     refine rt 6 (.pointer (some ⟨b6, 0 + 1, none⟩)) (y_field b6 (0) 1 Try.underlying41 rfl rfl Try.sizeOf37 rfl) (H.pick [4, 5, 6, 7] [2, 3, 4, 5, 6, 7]) ?_
     refine r_ops [7] (by kernel_rfl) (by simp) (r_op rfl ?_ r_nil)
     refine o_store1 H 3 rfl (.slice a93 (n_out_Bags + 1) c94) Try.sizeOf37 rfl rfl rfl (Nat.le_of_ble_eq_true rfl) fun w98 H => ?_
     replace H : St _ _ [.box b91 [.slice a87 ((t.fBags[k]!).length) c88] 22, .row (.slice none 0 0) 0 1 0 [], .row (.slice a93 (n_out_Bags + 1) c94) 22 1 (n_out_Bags + 1) (x_out_Bags ++ [.slice a87 ((t.fBags[k]!).length) c88]), .box b6 [.slice ra7 t.fAlive.length rc8, .slice a93 (n_out_Bags + 1) c94, .slice a9 t.fAround.length c10] 41, .row (.slice a9 t.fAround.length c10) 2 1 t.fAround.length (t.fAround.map (Value.int .i64)), .row (.slice ra7 t.fAlive.length rc8) 4 1 t.fAlive.length (t.fAlive.map (Value.bool)), .box b3 [.slice none 0 0, .slice none 0 0, .slice none 0 0] 41, .box b1 [.slice atAlive t.fAlive.length ctAlive, .slice (some ⟨b70, o71, none⟩) t.fBags.length ctBags, .slice atAround t.fAround.length ctAround] 41] _ := H
     refine ⟨H.pick [4, 5, 6, 7] [2, 3, 4, 5, 6, 7], ?_⟩
     refine r_done (by kernel_rfl) (?_)
     exact meet ⟨_, a93, c94, a87, c88, G96, (by exact upd_eq (upd_eq (upd_eq (upd_eq (upd_eq (rfl) rfl) rfl) rfl) rfl) rfl), N, H.pick [2, 3, 4, 5, 6, 7] [0, 1, 2, 3, 5, 6, 7]⟩
    ·skip
     have sz99 := H.base.size
     have lt100 := H.ltN (L := [F_out_Bags]) [2]
     refine o_call #[.slice ae73 ((t.fBags[k]!).length) ce73] rfl rfl Try.call82 (cloneI_ok w68.drew (t.fBags[k]!) ae73 ce73 Fe73 (H.get 0 rfl).1 (by first | assumption | omega)) ?_
     rintro v104 w102 r104 x103
     replace H := H.add_ownInts x103 r104
     obtain ⟨a105, c106, rfl, hc107, hm108⟩ := H.rowForm 0 rfl
     refine ⟨H.pick [3, 4, 5, 6] [0, 1, 2, 3, 4, 5], ?_⟩
     refine r_ops [1, 4] (by kernel_rfl) (by simp) (r_op rfl ?_ (r_op rfl ?_ r_nil))
     ·skip
      refine o_load1 (.slice a_out_Bags n_out_Bags c_out_Bags) Try.isAgg37 rfl (H.cell 2 rfl rfl) ?_
      refine ⟨H.pick [3, 4, 5, 6] [0, 1, 2, 3, 4, 5], ?_⟩
      refine r_ops [4] (by kernel_rfl) (by simp) (r_op rfl ?_ r_nil)
      refine o_build1 H Try.underlying37 ti22 (by decide) (by decide) (.slice a105 ((t.fBags[k]!).length) c106) rfl rfl fun b109 w110 H => ?_
      replace H : St _ _ [.box b109 [.slice a105 ((t.fBags[k]!).length) c106] 22, .row (.slice a105 ((t.fBags[k]!).length) c106) 2 1 ((t.fBags[k]!).length) ((t.fBags[k]!).map (Value.int .i64)), .row (.slice a_out_Bags n_out_Bags c_out_Bags) 22 1 n_out_Bags x_out_Bags, .box b6 [.slice ra7 t.fAlive.length rc8, .slice a_out_Bags n_out_Bags c_out_Bags, .slice a9 t.fAround.length c10] 41, .row (.slice a9 t.fAround.length c10) 2 1 t.fAround.length (t.fAround.map (Value.int .i64)), .row (.slice ra7 t.fAlive.length rc8) 4 1 t.fAlive.length (t.fAlive.map (Value.bool)), .box b3 [.slice none 0 0, .slice none 0 0, .slice none 0 0] 41, .box b1 [.slice atAlive t.fAlive.length ctAlive, .slice (some ⟨b70, o71, none⟩) t.fBags.length ctBags, .slice atAround t.fAround.length ctAround] 41] _ := H
      refine ⟨H.pick [4, 5, 6, 7] [0, 1, 2, 3, 4, 5], ?_⟩
      refine r_ops [5] (by kernel_rfl) (by simp) (r_op rfl ?_ r_nil)
      obtain ⟨G114, N, hn115, H⟩ := H.freezeI 1 rfl N (H.awayN [2])
      replace H : St _ _ [.box b109 [.slice a105 ((t.fBags[k]!).length) c106] 22, .row (.slice none 0 0) 0 1 0 [], .row (.slice a_out_Bags n_out_Bags c_out_Bags) 22 1 n_out_Bags x_out_Bags, .box b6 [.slice ra7 t.fAlive.length rc8, .slice a_out_Bags n_out_Bags c_out_Bags, .slice a9 t.fAround.length c10] 41, .row (.slice a9 t.fAround.length c10) 2 1 t.fAround.length (t.fAround.map (Value.int .i64)), .row (.slice ra7 t.fAlive.length rc8) 4 1 t.fAlive.length (t.fAlive.map (Value.bool)), .box b3 [.slice none 0 0, .slice none 0 0, .slice none 0 0] 41, .box b1 [.slice atAlive t.fAlive.length ctAlive, .slice (some ⟨b70, o71, none⟩) t.fBags.length ctBags, .slice atAround t.fAround.length ctAround] 41] _ := H
      refine o_appendR H 2 rfl 0 rfl Try.underlying37 ti22 rfl (by decide) rfl rfl rfl (by simp [Value.oneCell', Value.cells]) (by unfold maxLen; omega) (by omega) fun a111 c112 w113 H => ?_
      replace H : St _ _ [.box b109 [.slice a105 ((t.fBags[k]!).length) c106] 22, .row (.slice none 0 0) 0 1 0 [], .row (.slice a111 (n_out_Bags + 1) c112) 22 1 (n_out_Bags + 1) (x_out_Bags ++ [.slice a105 ((t.fBags[k]!).length) c106]), .box b6 [.slice ra7 t.fAlive.length rc8, .slice a_out_Bags n_out_Bags c_out_Bags, .slice a9 t.fAround.length c10] 41, .row (.slice a9 t.fAround.length c10) 2 1 t.fAround.length (t.fAround.map (Value.int .i64)), .row (.slice ra7 t.fAlive.length rc8) 4 1 t.fAlive.length (t.fAlive.map (Value.bool)), .box b3 [.slice none 0 0, .slice none 0 0, .slice none 0 0] 41, .box b1 [.slice atAlive t.fAlive.length ctAlive, .slice (some ⟨b70, o71, none⟩) t.fBags.length ctBags, .slice atAround t.fAround.length ctAround] 41] _ := H
      replace H := H.repsSnoc 3 rfl 0 rfl
      replace N : Fresh w.heap.size [(F_out_Bags ++ G114)] := (N.pick [1, 0]).join
      refine ⟨H.pick [4, 5, 6, 7] [2, 3, 4, 5, 6, 7], ?_⟩
      refine rt 6 (.pointer (some ⟨b6, 0 + 1, none⟩)) (y_field b6 (0) 1 Try.underlying41 rfl rfl Try.sizeOf37 rfl) (H.pick [4, 5, 6, 7] [2, 3, 4, 5, 6, 7]) ?_
      refine r_ops [7] (by kernel_rfl) (by simp) (r_op rfl ?_ r_nil)
      refine o_store1 H 3 rfl (.slice a111 (n_out_Bags + 1) c112) Try.sizeOf37 rfl rfl rfl (Nat.le_of_ble_eq_true rfl) fun w116 H => ?_
      replace H : St _ _ [.box b109 [.slice a105 ((t.fBags[k]!).length) c106] 22, .row (.slice none 0 0) 0 1 0 [], .row (.slice a111 (n_out_Bags + 1) c112) 22 1 (n_out_Bags + 1) (x_out_Bags ++ [.slice a105 ((t.fBags[k]!).length) c106]), .box b6 [.slice ra7 t.fAlive.length rc8, .slice a111 (n_out_Bags + 1) c112, .slice a9 t.fAround.length c10] 41, .row (.slice a9 t.fAround.length c10) 2 1 t.fAround.length (t.fAround.map (Value.int .i64)), .row (.slice ra7 t.fAlive.length rc8) 4 1 t.fAlive.length (t.fAlive.map (Value.bool)), .box b3 [.slice none 0 0, .slice none 0 0, .slice none 0 0] 41, .box b1 [.slice atAlive t.fAlive.length ctAlive, .slice (some ⟨b70, o71, none⟩) t.fBags.length ctBags, .slice atAround t.fAround.length ctAround] 41] _ := H
      refine ⟨H.pick [4, 5, 6, 7] [2, 3, 4, 5, 6, 7], ?_⟩
      refine r_done (by kernel_rfl) (?_)
      exact meet ⟨_, a111, c112, a105, c106, G114, (by exact upd_eq (upd_eq (upd_eq (upd_eq (upd_eq (rfl) rfl) rfl) rfl) rfl) rfl), N, H.pick [2, 3, 4, 5, 6, 7] [0, 1, 2, 3, 5, 6, 7]⟩
     ·skip
      refine o_build1 H Try.underlying37 ti22 (by decide) (by decide) (.slice a105 ((t.fBags[k]!).length) c106) rfl rfl fun b117 w118 H => ?_
      replace H : St _ _ [.box b117 [.slice a105 ((t.fBags[k]!).length) c106] 22, .row (.slice a105 ((t.fBags[k]!).length) c106) 2 1 ((t.fBags[k]!).length) ((t.fBags[k]!).map (Value.int .i64)), .row (.slice a_out_Bags n_out_Bags c_out_Bags) 22 1 n_out_Bags x_out_Bags, .box b6 [.slice ra7 t.fAlive.length rc8, .slice a_out_Bags n_out_Bags c_out_Bags, .slice a9 t.fAround.length c10] 41, .row (.slice a9 t.fAround.length c10) 2 1 t.fAround.length (t.fAround.map (Value.int .i64)), .row (.slice ra7 t.fAlive.length rc8) 4 1 t.fAlive.length (t.fAlive.map (Value.bool)), .box b3 [.slice none 0 0, .slice none 0 0, .slice none 0 0] 41, .box b1 [.slice atAlive t.fAlive.length ctAlive, .slice (some ⟨b70, o71, none⟩) t.fBags.length ctBags, .slice atAround t.fAround.length ctAround] 41] _ := H
      refine ⟨H.pick [4, 5, 6, 7] [0, 1, 2, 3, 4, 5], ?_⟩
      refine r_ops [1] (by kernel_rfl) (by simp) (r_op rfl ?_ r_nil)
      refine o_load1 (.slice a_out_Bags n_out_Bags c_out_Bags) Try.isAgg37 rfl (H.cell 3 rfl rfl) ?_
      refine ⟨H.pick [4, 5, 6, 7] [0, 1, 2, 3, 4, 5], ?_⟩
      refine r_ops [5] (by kernel_rfl) (by simp) (r_op rfl ?_ r_nil)
      obtain ⟨G122, N, hn123, H⟩ := H.freezeI 1 rfl N (H.awayN [2])
      replace H : St _ _ [.box b117 [.slice a105 ((t.fBags[k]!).length) c106] 22, .row (.slice none 0 0) 0 1 0 [], .row (.slice a_out_Bags n_out_Bags c_out_Bags) 22 1 n_out_Bags x_out_Bags, .box b6 [.slice ra7 t.fAlive.length rc8, .slice a_out_Bags n_out_Bags c_out_Bags, .slice a9 t.fAround.length c10] 41, .row (.slice a9 t.fAround.length c10) 2 1 t.fAround.length (t.fAround.map (Value.int .i64)), .row (.slice ra7 t.fAlive.length rc8) 4 1 t.fAlive.length (t.fAlive.map (Value.bool)), .box b3 [.slice none 0 0, .slice none 0 0, .slice none 0 0] 41, .box b1 [.slice atAlive t.fAlive.length ctAlive, .slice (some ⟨b70, o71, none⟩) t.fBags.length ctBags, .slice atAround t.fAround.length ctAround] 41] _ := H
      refine o_appendR H 2 rfl 0 rfl Try.underlying37 ti22 rfl (by decide) rfl rfl rfl (by simp [Value.oneCell', Value.cells]) (by unfold maxLen; omega) (by omega) fun a119 c120 w121 H => ?_
      replace H : St _ _ [.box b117 [.slice a105 ((t.fBags[k]!).length) c106] 22, .row (.slice none 0 0) 0 1 0 [], .row (.slice a119 (n_out_Bags + 1) c120) 22 1 (n_out_Bags + 1) (x_out_Bags ++ [.slice a105 ((t.fBags[k]!).length) c106]), .box b6 [.slice ra7 t.fAlive.length rc8, .slice a_out_Bags n_out_Bags c_out_Bags, .slice a9 t.fAround.length c10] 41, .row (.slice a9 t.fAround.length c10) 2 1 t.fAround.length (t.fAround.map (Value.int .i64)), .row (.slice ra7 t.fAlive.length rc8) 4 1 t.fAlive.length (t.fAlive.map (Value.bool)), .box b3 [.slice none 0 0, .slice none 0 0, .slice none 0 0] 41, .box b1 [.slice atAlive t.fAlive.length ctAlive, .slice (some ⟨b70, o71, none⟩) t.fBags.length ctBags, .slice atAround t.fAround.length ctAround] 41] _ := H
      replace H := H.repsSnoc 3 rfl 0 rfl
      replace N : Fresh w.heap.size [(F_out_Bags ++ G122)] := (N.pick [1, 0]).join
      refine ⟨H.pick [4, 5, 6, 7] [2, 3, 4, 5, 6, 7], ?_⟩
      refine rt 6 (.pointer (some ⟨b6, 0 + 1, none⟩)) (y_field b6 (0) 1 Try.underlying41 rfl rfl Try.sizeOf37 rfl) (H.pick [4, 5, 6, 7] [2, 3, 4, 5, 6, 7]) ?_
      refine r_ops [7] (by kernel_rfl) (by simp) (r_op rfl ?_ r_nil)
      refine o_store1 H 3 rfl (.slice a119 (n_out_Bags + 1) c120) Try.sizeOf37 rfl rfl rfl (Nat.le_of_ble_eq_true rfl) fun w124 H => ?_
      replace H : St _ _ [.box b117 [.slice a105 ((t.fBags[k]!).length) c106] 22, .row (.slice none 0 0) 0 1 0 [], .row (.slice a119 (n_out_Bags + 1) c120) 22 1 (n_out_Bags + 1) (x_out_Bags ++ [.slice a105 ((t.fBags[k]!).length) c106]), .box b6 [.slice ra7 t.fAlive.length rc8, .slice a119 (n_out_Bags + 1) c120, .slice a9 t.fAround.length c10] 41, .row (.slice a9 t.fAround.length c10) 2 1 t.fAround.length (t.fAround.map (Value.int .i64)), .row (.slice ra7 t.fAlive.length rc8) 4 1 t.fAlive.length (t.fAlive.map (Value.bool)), .box b3 [.slice none 0 0, .slice none 0 0, .slice none 0 0] 41, .box b1 [.slice atAlive t.fAlive.length ctAlive, .slice (some ⟨b70, o71, none⟩) t.fBags.length ctBags, .slice atAround t.fAround.length ctAround] 41] _ := H
      refine ⟨H.pick [4, 5, 6, 7] [2, 3, 4, 5, 6, 7], ?_⟩
      refine r_done (by kernel_rfl) (?_)
      exact meet ⟨_, a119, c120, a105, c106, G122, (by exact upd_eq (upd_eq (upd_eq (upd_eq (upd_eq (rfl) rfl) rfl) rfl) rfl) rfl), N, H.pick [2, 3, 4, 5, 6, 7] [0, 1, 2, 3, 5, 6, 7]⟩
   ·skip
    clear H N
    rintro ρ w125 ⟨junk, a75, c76, a77, c78, G79, rfl, N, H⟩
    refine b_n (t_n ?_)
    refine c_reg ?_
    refine sw (o_add k 1 rfl rfl (by omega) ?_)
    refine sp (.int .i64 (k + 1)) ?_
    refine c_nil (?_)
    refine loop_end (m' := (t.fBags.length - ((k + 1) : Int)).toNat) (by omega) ⟨_, k + 1, a75, n_out_Bags + 1, c76, ((t.fBags.take k) ++ [(t.fBags[k]!)]), x_out_Bags ++ [.slice a77 ((t.fBags[k]!).length) c78], (F_out_Bags ++ G79), (by exact upd_eq (upd_eq (upd_eq (upd_eq (upd_eq (rfl) rfl) rfl) rfl) rfl) rfl), ?_, ?_, rfl, N, H.pick [0, 1, 2, 3, 4, 5] [0, 4, 5, 6]⟩
    · exact take_snoc (by omega)
    · omega
  ·skip
   replace h69 := of_decide_eq_false h69
   refine c_exit (t_x (t_x (b_x (t_n ?_))))
   refine c_seq ?_
   refine c_reg ?_
   refine sw (o_loadN [.slice ra7 t.fAlive.length rc8, .slice a_out_Bags n_out_Bags c_out_Bags, .slice a9 t.fAround.length c10] Try.isAgg41 Try.sizeOf41 rfl (cellsAt_sub (H.cells 1 rfl) 0 3) ?_)
   refine sw (o_store H 4 rfl (.agg #[.slice ra7 t.fAlive.length rc8, .slice a_out_Bags n_out_Bags c_out_Bags, .slice a9 t.fAround.length c10]) Try.sizeOf41 rfl rfl (by simp [Value.oneCell', Value.cells]) (Nat.le_of_ble_eq_true rfl) fun w126 H => ?_)
   replace H : St _ _ [.row (.slice a_out_Bags n_out_Bags c_out_Bags) 22 1 n_out_Bags x_out_Bags, .box b6 [.slice ra7 t.fAlive.length rc8, .slice a_out_Bags n_out_Bags c_out_Bags, .slice a9 t.fAround.length c10] 41, .row (.slice a9 t.fAround.length c10) 2 1 t.fAround.length (t.fAround.map (Value.int .i64)), .row (.slice ra7 t.fAlive.length rc8) 4 1 t.fAlive.length (t.fAlive.map (Value.bool)), .box b3 [.slice ra7 t.fAlive.length rc8, .slice a_out_Bags n_out_Bags c_out_Bags, .slice a9 t.fAround.length c10] 41, .box b1 [.slice atAlive t.fAlive.length ctAlive, .slice atBags t.fBags.length ctBags, .slice atAround t.fAround.length ctAround] 41] _ := H
   refine c_nil (t_n ?_)
   refine c_ret (?_)
   refine retC H 4 rfl rfl Try.isAgg41 Try.sizeOf41 rfl ⟨_, rfl, ?_, H.base⟩
   obtain rfl : k = t.fBags.length := by omega
   rw [List.take_length] at H
   exact ⟨ra7, t.fAlive.length, rc8, a_out_Bags, n_out_Bags, c_out_Bags, x_out_Bags, F_out_Bags, a9, t.fAround.length, c10, rfl, N, H.pick [3, 0, 2] [0]⟩

theorem implMelt_ok (w : World) (s : SystemD) (t : StateD) (c : Int) (asParents : Option Addr) (csParents : Nat) (FsParents : List Nat) (asRules : Option Addr) (csRules : Nat) (FsRules : List Nat) (atAlive : Option Addr) (ctAlive : Nat) (FtAlive : List Nat) (atBags : Option Addr) (ctBags : Nat) (FtBags : List Nat) (atAround : Option Addr) (ctAround : Nat) (FtAround : List Nat) (hsParents : GoRep.rep w FsParents [.slice asParents s.fParents.length csParents] s.fParents) (hsRules : GoRep.rep w FsRules [.slice asRules s.fRules.length csRules] s.fRules) (htAlive : GoRep.rep w FtAlive [.slice atAlive t.fAlive.length ctAlive] t.fAlive) (htBags : GoRep.rep w FtBags [.slice atBags t.fBags.length ctBags] t.fBags) (htAround : GoRep.rep w FtAround [.slice atAround t.fAround.length ctAround] t.fAround) : Calls Try.prog 16 #[.agg #[.int .i64 s.fKinds, .slice asParents s.fParents.length csParents, .slice asRules s.fRules.length csRules], .agg #[.slice atAlive t.fAlive.length ctAlive, .slice atBags t.fBags.length ctBags, .slice atAround t.fAround.length ctAround], .int .i64 c] w (Ret (fun v w' => ∃ (ra0Alive : Option Addr) (rn0Alive : Nat) (rc0Alive : Nat) (ra0Bags : Option Addr) (rn0Bags : Nat) (rc0Bags : Nat) (rx0Bags : List Value) (rF0Bags : List Nat) (ra0Around : Option Addr) (rn0Around : Nat) (rc0Around : Nat), v = .tuple #[.agg #[.slice ra0Alive rn0Alive rc0Alive, .slice ra0Bags rn0Bags rc0Bags, .slice ra0Around rn0Around rc0Around], .int .i64 ((meltRes s t c).2)] ∧ Fresh w.heap.size [rF0Bags] ∧ St w w' [.row (.slice ra0Alive rn0Alive rc0Alive) 4 1 rn0Alive ((((meltRes s t c).1).fAlive).map (Value.bool)), .row (.slice ra0Bags rn0Bags rc0Bags) 22 1 rn0Bags rx0Bags, .row (.slice ra0Around rn0Around rc0Around) 2 1 rn0Around ((((meltRes s t c).1).fAround).map (Value.int .i64))] [repsF true rF0Bags rx0Bags (((meltRes s t c).1).fBags)]) w) := by
 refine enter (n := 34) Try.func16 rfl Try.ntmps16 (Nat.le_of_ble_eq_true rfl) ?_
 have H := St.start w
 replace H := H.add (isF false FtAround (.slice atAround t.fAround.length ctAround) t.fAround) ⟨htAround, by simp⟩ (start_lt htAround)
 replace H := H.add (isF false FtBags (.slice atBags t.fBags.length ctBags) t.fBags) ⟨htBags, by simp⟩ (start_lt htBags)
 replace H := H.add (isF false FtAlive (.slice atAlive t.fAlive.length ctAlive) t.fAlive) ⟨htAlive, by simp⟩ (start_lt htAlive)
 replace H := H.add (isF false FsRules (.slice asRules s.fRules.length csRules) s.fRules) ⟨hsRules, by simp⟩ (start_lt hsRules)
 replace H := H.add (isF false FsParents (.slice asParents s.fParents.length csParents) s.fParents) ⟨hsParents, by simp⟩ (start_lt hsParents)
 have nhsParents := rep_len hsParents
 have nhsRules := rep_len hsRules
 have nhtAlive := rep_len htAlive
 have nhtBags := rep_len htBags
 have nhtAround := rep_len htAround
 clear hsParents hsRules htAlive htBags htAround
 have N := Fresh.nil w.heap.size
 refine c_seq ?_
 refine c_reg ?_
 refine sw (o_box H (.agg #[.int .i64 s.fKinds, .slice asParents s.fParents.length csParents, .slice asRules s.fRules.length csRules]) rfl fun b1 w2 H => ?_)
 replace H : St _ _ [.box b1 [.int .i64 s.fKinds, .slice asParents s.fParents.length csParents, .slice asRules s.fRules.length csRules] 30] _ := H
 refine sw (o_box H (.agg #[.slice atAlive t.fAlive.length ctAlive, .slice atBags t.fBags.length ctBags, .slice atAround t.fAround.length ctAround]) rfl fun b3 w4 H => ?_)
 replace H : St _ _ [.box b3 [.slice atAlive t.fAlive.length ctAlive, .slice atBags t.fBags.length ctBags, .slice atAround t.fAround.length ctAround] 41, .box b1 [.int .i64 s.fKinds, .slice asParents s.fParents.length csParents, .slice asRules s.fRules.length csRules] 30] _ := H
 refine sw (o_alloc H ti41 fun b5 w6 H => ?_)
 replace H : St _ _ [.box b5 [.slice none 0 0, .slice none 0 0, .slice none 0 0] 41, .box b3 [.slice atAlive t.fAlive.length ctAlive, .slice atBags t.fBags.length ctBags, .slice atAround t.fAround.length ctAround] 41, .box b1 [.int .i64 s.fKinds, .slice asParents s.fParents.length csParents, .slice asRules s.fRules.length csRules] 30] _ := H
 refine sp (.int .i64 0) ?_
 refine c_nil (t_n ?_)
 refine c_seq ?_
 refine c_reg ?_
 refine sw (o_loadN [.int .i64 s.fKinds, .slice asParents s.fParents.length csParents, .slice asRules s.fRules.length csRules] Try.isAgg30 Try.sizeOf30 rfl (cellsAt_sub (H.cells 2 rfl) 0 3) ?_)
 refine sw (o_loadN [.slice atAlive t.fAlive.length ctAlive, .slice atBags t.fBags.length ctBags, .slice atAround t.fAround.length ctAround] Try.isAgg41 Try.sizeOf41 rfl (cellsAt_sub (H.cells 1 rfl) 0 3) ?_)
 refine sp (.int .i64 c) ?_
 refine sw (o_call #[.agg #[.int .i64 s.fKinds, .slice asParents s.fParents.length csParents, .slice asRules s.fRules.length csRules], .agg #[.slice atAlive t.fAlive.length ctAlive, .slice atBags t.fBags.length ctBags, .slice atAround t.fAround.length ctAround], .int .i64 c] rfl rfl Try.call41 (cellCode_ok w6 s t c asParents csParents FsParents asRules csRules FsRules atAlive ctAlive FtAlive atBags ctBags FtBags atAround ctAround FtAround (H.get 0 rfl).1 (H.get 1 rfl).1 (H.get 2 rfl).1 (H.get 3 rfl).1 (H.get 4 rfl).1) ?_)
 rintro _ w8 rfl x9
 replace H := H.ext x9
 refine sp (.int .i64 (cellCodeOf s t c)) ?_
 refine c_nil (t_n ?_)
 refine c_seq ?_
 refine c_seq ?_
 refine c_reg ?_
 refine sp (.int .i64 (cellCodeOf s t c)) ?_
 refine sp (.bool ((cellCodeOf s t c : Int) == 0)) ?_
 refine sp (.bool ((cellCodeOf s t c : Int) == 0)) ?_
 cases h10 : ((cellCodeOf s t c : Int) == 0)
 ·skip
  replace h10 := ne_of_beq_false h10
  refine g_skips [17, 18] ?_
  refine sp (.bool false) ?_
  refine c_nil (t_n ?_)
  refine c_cond false rfl (fun h => absurd h (by decide)) (fun _ => ?_)
  refine c_skip (t_n ?_)
  refine c_seq ?_
  refine c_seq ?_
  refine c_reg ?_
  refine sp (.int .i64 (cellCodeOf s t c)) ?_
  refine sp (.bool ((cellCodeOf s t c : Int) != 0)) ?_
  refine c_nil (t_n ?_)
  refine c_cond ((cellCodeOf s t c : Int) != 0) rfl (fun h11 => ?_) (fun h => absurd (eq_of_bne_false h) h10)
  replace h11 := bne_iff_ne.1 h11
  refine c_seq ?_
  refine c_reg ?_
  refine sw (o_build [.slice none 0 0, .slice none 0 0, .slice none 0 0] [] ?_)
  refine sp (.int .i64 (cellCodeOf s t c)) ?_
  refine sw (o_store H 0 rfl (.agg #[.slice none 0 0, .slice none 0 0, .slice none 0 0]) Try.sizeOf41 rfl rfl (by simp [Value.oneCell', Value.cells]) (Nat.le_of_ble_eq_true rfl) fun w12 H => ?_)
  replace H : St _ _ [.box b5 [.slice none 0 0, .slice none 0 0, .slice none 0 0] 41, .box b3 [.slice atAlive t.fAlive.length ctAlive, .slice atBags t.fBags.length ctBags, .slice atAround t.fAround.length ctAround] 41, .box b1 [.int .i64 s.fKinds, .slice asParents s.fParents.length csParents, .slice asRules s.fRules.length csRules] 30] _ := H
  refine sp (.int .i64 (cellCodeOf s t c)) ?_
  refine c_nil (t_n ?_)
  refine c_ret (t_r (?_))
  replace H := H.nilRow 4 1
  replace H : St _ _ [.row (.slice none 0 0) 4 1 0 (([] : List Bool).map (Value.bool)), .box b5 [.slice none 0 0, .slice none 0 0, .slice none 0 0] 41, .box b3 [.slice atAlive t.fAlive.length ctAlive, .slice atBags t.fBags.length ctBags, .slice atAround t.fAround.length ctAround] 41, .box b1 [.int .i64 s.fKinds, .slice asParents s.fParents.length csParents, .slice asRules s.fRules.length csRules] 30] _ := H
  replace H := H.nilRow 22 1
  replace H := H.repsNil (α := List Int)
  replace H : St _ _ [.row (.slice none 0 0) 22 1 0 [], .row (.slice none 0 0) 4 1 0 (([] : List Bool).map (Value.bool)), .box b5 [.slice none 0 0, .slice none 0 0, .slice none 0 0] 41, .box b3 [.slice atAlive t.fAlive.length ctAlive, .slice atBags t.fBags.length ctBags, .slice atAround t.fAround.length ctAround] 41, .box b1 [.int .i64 s.fKinds, .slice asParents s.fParents.length csParents, .slice asRules s.fRules.length csRules] 30] _ := H
  replace H := H.nilRow 2 1
  replace H : St _ _ [.row (.slice none 0 0) 2 1 0 (([] : List Int).map (Value.int .i64)), .row (.slice none 0 0) 22 1 0 [], .row (.slice none 0 0) 4 1 0 (([] : List Bool).map (Value.bool)), .box b5 [.slice none 0 0, .slice none 0 0, .slice none 0 0] 41, .box b3 [.slice atAlive t.fAlive.length ctAlive, .slice atBags t.fBags.length ctBags, .slice atAround t.fAround.length ctAround] 41, .box b1 [.int .i64 s.fKinds, .slice asParents s.fParents.length csParents, .slice asRules s.fRules.length csRules] 30] _ := H
  refine retC2 H 3 rfl (.int .i64 (cellCodeOf s t c)) rfl Try.isAgg41 Try.sizeOf41 rfl rfl ⟨_, rfl, ?_, H.base⟩
  rw [melt_err ‹_›]
  exact ⟨none, 0, 0, none, 0, 0, [], [], none, 0, 0, rfl, N.emp, H.pick [2, 1, 0] [0]⟩
 ·skip
  replace h10 := eq_of_beq h10
  refine g_take 16 rfl rfl ?_
  refine sp (.int .i64 c) ?_
  refine g_take 16 rfl rfl ?_
  refine sp (.bool ((c : Int) == 0)) ?_
  refine sp (.bool ((c : Int) == 0)) ?_
  refine c_nil (t_n ?_)
  refine c_cond ((c : Int) == 0) rfl (fun h13 => ?_) (fun h13 => ?_)
  ·skip
   replace h13 := eq_of_beq h13
   refine c_reg ?_
   refine sp (.int .i64 4) ?_
   refine c_nil (t_n ?_)
   refine c_seq ?_
   refine c_seq ?_
   refine c_reg ?_
   refine sp (.int .i64 4) ?_
   refine sp (.bool true) ?_
   refine c_nil (t_n ?_)
   refine c_cond true rfl (fun _ => ?_) (fun h => absurd h (by decide))
   refine c_seq ?_
   refine c_reg ?_
   refine sw (o_build [.slice none 0 0, .slice none 0 0, .slice none 0 0] [] ?_)
   refine sp (.int .i64 4) ?_
   refine sw (o_store H 0 rfl (.agg #[.slice none 0 0, .slice none 0 0, .slice none 0 0]) Try.sizeOf41 rfl rfl (by simp [Value.oneCell', Value.cells]) (Nat.le_of_ble_eq_true rfl) fun w14 H => ?_)
   replace H : St _ _ [.box b5 [.slice none 0 0, .slice none 0 0, .slice none 0 0] 41, .box b3 [.slice atAlive t.fAlive.length ctAlive, .slice atBags t.fBags.length ctBags, .slice atAround t.fAround.length ctAround] 41, .box b1 [.int .i64 s.fKinds, .slice asParents s.fParents.length csParents, .slice asRules s.fRules.length csRules] 30] _ := H
   refine sp (.int .i64 4) ?_
   refine c_nil (t_n ?_)
   refine c_ret (t_r (?_))
   replace H := H.nilRow 4 1
   replace H : St _ _ [.row (.slice none 0 0) 4 1 0 (([] : List Bool).map (Value.bool)), .box b5 [.slice none 0 0, .slice none 0 0, .slice none 0 0] 41, .box b3 [.slice atAlive t.fAlive.length ctAlive, .slice atBags t.fBags.length ctBags, .slice atAround t.fAround.length ctAround] 41, .box b1 [.int .i64 s.fKinds, .slice asParents s.fParents.length csParents, .slice asRules s.fRules.length csRules] 30] _ := H
   replace H := H.nilRow 22 1
   replace H := H.repsNil (α := List Int)
   replace H : St _ _ [.row (.slice none 0 0) 22 1 0 [], .row (.slice none 0 0) 4 1 0 (([] : List Bool).map (Value.bool)), .box b5 [.slice none 0 0, .slice none 0 0, .slice none 0 0] 41, .box b3 [.slice atAlive t.fAlive.length ctAlive, .slice atBags t.fBags.length ctBags, .slice atAround t.fAround.length ctAround] 41, .box b1 [.int .i64 s.fKinds, .slice asParents s.fParents.length csParents, .slice asRules s.fRules.length csRules] 30] _ := H
   replace H := H.nilRow 2 1
   replace H : St _ _ [.row (.slice none 0 0) 2 1 0 (([] : List Int).map (Value.int .i64)), .row (.slice none 0 0) 22 1 0 [], .row (.slice none 0 0) 4 1 0 (([] : List Bool).map (Value.bool)), .box b5 [.slice none 0 0, .slice none 0 0, .slice none 0 0] 41, .box b3 [.slice atAlive t.fAlive.length ctAlive, .slice atBags t.fBags.length ctBags, .slice atAround t.fAround.length ctAround] 41, .box b1 [.int .i64 s.fKinds, .slice asParents s.fParents.length csParents, .slice asRules s.fRules.length csRules] 30] _ := H
   refine retC2 H 3 rfl (.int .i64 4) rfl Try.isAgg41 Try.sizeOf41 rfl rfl ⟨_, rfl, ?_, H.base⟩
   rw [melt_skin ‹_› ‹_›]
   exact ⟨none, 0, 0, none, 0, 0, [], [], none, 0, 0, rfl, N.emp, H.pick [2, 1, 0] [0]⟩
  ·skip
   replace h13 := ne_of_beq_false h13
   refine c_skip (t_n ?_)
   refine c_seq ?_
   refine c_seq ?_
   refine c_reg ?_
   refine sp (.int .i64 (cellCodeOf s t c)) ?_
   refine sp (.bool ((cellCodeOf s t c : Int) != 0)) ?_
   refine c_nil (t_n ?_)
   refine c_cond ((cellCodeOf s t c : Int) != 0) rfl (fun h => absurd h10 (bne_iff_ne.1 h)) (fun h15 => ?_)
   replace h15 := eq_of_bne_false h15
   refine c_skip (t_n ?_)
   refine c_seq ?_
   refine c_reg ?_
   refine sw (o_loadN [.slice atAlive t.fAlive.length ctAlive, .slice atBags t.fBags.length ctBags, .slice atAround t.fAround.length ctAround] Try.isAgg41 Try.sizeOf41 rfl (cellsAt_sub (H.cells 1 rfl) 0 3) ?_)
   obtain ⟨q1, q2, q3, q4⟩ := code_ok ‹cellCodeOf s t c = 0›
   have q5 := q1.1
   have q14 := q5.1
   have q6 := q2.2.2.1
   obtain ⟨q7, q8, q9, q10⟩ := q2.sizes q5
   have q11 := q2.1
   have q12 := q2.2.1
   have q13 := fun k hk => Nat.le_trans (q10 k hk) (by decide : 8 ≤ 1000000)
   have sz19 := H.base.size
   refine sw (o_call #[.agg #[.slice atAlive t.fAlive.length ctAlive, .slice atBags t.fBags.length ctBags, .slice atAround t.fAround.length ctAround]] rfl rfl Try.call42 (copied_ok w8 t atAlive ctAlive FtAlive atBags ctBags FtBags atAround ctAround FtAround (H.get 2 rfl).1 (H.get 3 rfl).1 (H.get 4 rfl).1 (by first | assumption | omega) (by first | assumption | omega) (by first | assumption | omega) (by first | assumption | omega)) ?_)
   rintro _ w17 ⟨ra16Alive, rn16Alive, rc16Alive, ra16Bags, rn16Bags, rc16Bags, rx16Bags, rF16Bags, ra16Around, rn16Around, rc16Around, rfl, M, K⟩ _
   replace N := N.merge sz19 (by simp) M
   replace H := H.merge K M
   replace H : St _ _ [.row (.slice ra16Alive rn16Alive rc16Alive) 4 1 rn16Alive (t.fAlive.map (Value.bool)), .row (.slice ra16Bags rn16Bags rc16Bags) 22 1 rn16Bags rx16Bags, .row (.slice ra16Around rn16Around rc16Around) 2 1 rn16Around (t.fAround.map (Value.int .i64)), .box b5 [.slice none 0 0, .slice none 0 0, .slice none 0 0] 41, .box b3 [.slice atAlive t.fAlive.length ctAlive, .slice atBags t.fBags.length ctBags, .slice atAround t.fAround.length ctAround] 41, .box b1 [.int .i64 s.fKinds, .slice asParents s.fParents.length csParents, .slice asRules s.fRules.length csRules] 30] [repsF true rF16Bags rx16Bags t.fBags, isF false FsParents (.slice asParents s.fParents.length csParents) s.fParents, isF false FsRules (.slice asRules s.fRules.length csRules) s.fRules, isF false FtAlive (.slice atAlive t.fAlive.length ctAlive) t.fAlive, isF false FtBags (.slice atBags t.fBags.length ctBags) t.fBags, isF false FtAround (.slice atAround t.fAround.length ctAround) t.fAround] := H
   obtain rfl := H.rowNB 0 rfl
   obtain rfl := H.rowCount (α := List Int) 1 rfl 0 rfl (by decide)
   obtain rfl := H.rowNI 2 rfl
   refine sw (o_alloc H ti41 fun b24 w25 H => ?_)
   replace H : St _ _ [.box b24 [.slice none 0 0, .slice none 0 0, .slice none 0 0] 41, .row (.slice ra16Alive t.fAlive.length rc16Alive) 4 1 t.fAlive.length (t.fAlive.map (Value.bool)), .row (.slice ra16Bags t.fBags.length rc16Bags) 22 1 t.fBags.length rx16Bags, .row (.slice ra16Around t.fAround.length rc16Around) 2 1 t.fAround.length (t.fAround.map (Value.int .i64)), .box b5 [.slice none 0 0, .slice none 0 0, .slice none 0 0] 41, .box b3 [.slice atAlive t.fAlive.length ctAlive, .slice atBags t.fBags.length ctBags, .slice atAround t.fAround.length ctAround] 41, .box b1 [.int .i64 s.fKinds, .slice asParents s.fParents.length csParents, .slice asRules s.fRules.length csRules] 30] _ := H
   refine sw (o_store H 0 rfl (.agg #[.slice ra16Alive t.fAlive.length rc16Alive, .slice ra16Bags t.fBags.length rc16Bags, .slice ra16Around t.fAround.length rc16Around]) Try.sizeOf41 rfl rfl (by simp [Value.oneCell', Value.cells]) (Nat.le_of_ble_eq_true rfl) fun w26 H => ?_)
   replace H : St _ _ [.box b24 [.slice ra16Alive t.fAlive.length rc16Alive, .slice ra16Bags t.fBags.length rc16Bags, .slice ra16Around t.fAround.length rc16Around] 41, .row (.slice ra16Alive t.fAlive.length rc16Alive) 4 1 t.fAlive.length (t.fAlive.map (Value.bool)), .row (.slice ra16Bags t.fBags.length rc16Bags) 22 1 t.fBags.length rx16Bags, .row (.slice ra16Around t.fAround.length rc16Around) 2 1 t.fAround.length (t.fAround.map (Value.int .i64)), .box b5 [.slice none 0 0, .slice none 0 0, .slice none 0 0] 41, .box b3 [.slice atAlive t.fAlive.length ctAlive, .slice atBags t.fBags.length ctBags, .slice atAround t.fAround.length ctAround] 41, .box b1 [.int .i64 s.fKinds, .slice asParents s.fParents.length csParents, .slice asRules s.fRules.length csRules] 30] _ := H
   refine c_nil (t_n ?_)
   refine c_seq ?_
   refine c_reg ?_
   refine sw (o_loadN [.int .i64 s.fKinds, .slice asParents s.fParents.length csParents, .slice asRules s.fRules.length csRules] Try.isAgg30 Try.sizeOf30 rfl (cellsAt_sub (H.cells 6 rfl) 0 3) ?_)
   refine sp (.int .i64 c) ?_
   refine sw (o_callIn #[.agg #[.int .i64 s.fKinds, .slice asParents s.fParents.length csParents, .slice asRules s.fRules.length csRules], .pointer (some ⟨b24, 0, none⟩), .int .i64 c] rfl rfl Try.call43 ?_)
   refine enter (n := 49) Try.func43 rfl Try.ntmps43 (Nat.le_of_ble_eq_true rfl) ?_
   refine c_seq ?_
   refine c_reg ?_
   refine sw (o_box H (.agg #[.int .i64 s.fKinds, .slice asParents s.fParents.length csParents, .slice asRules s.fRules.length csRules]) rfl fun b27 w28 H => ?_)
   replace H : St _ _ [.box b27 [.int .i64 s.fKinds, .slice asParents s.fParents.length csParents, .slice asRules s.fRules.length csRules] 30, .box b24 [.slice ra16Alive t.fAlive.length rc16Alive, .slice ra16Bags t.fBags.length rc16Bags, .slice ra16Around t.fAround.length rc16Around] 41, .row (.slice ra16Alive t.fAlive.length rc16Alive) 4 1 t.fAlive.length (t.fAlive.map (Value.bool)), .row (.slice ra16Bags t.fBags.length rc16Bags) 22 1 t.fBags.length rx16Bags, .row (.slice ra16Around t.fAround.length rc16Around) 2 1 t.fAround.length (t.fAround.map (Value.int .i64)), .box b5 [.slice none 0 0, .slice none 0 0, .slice none 0 0] 41, .box b3 [.slice atAlive t.fAlive.length ctAlive, .slice atBags t.fBags.length ctBags, .slice atAround t.fAround.length ctAround] 41, .box b1 [.int .i64 s.fKinds, .slice asParents s.fParents.length csParents, .slice asRules s.fRules.length csRules] 30] _ := H
   refine c_nil (t_n ?_)
   refine c_seq ?_
   refine c_drawH rfl H fun H => ?_
   refine rt 0 (.agg #[.int .i64 s.fKinds, .slice asParents s.fParents.length csParents, .slice asRules s.fRules.length csRules]) (y_loadN (cs := [.int .i64 s.fKinds, .slice asParents s.fParents.length csParents, .slice asRules s.fRules.length csRules]) Try.isAgg30 Try.sizeOf30 rfl (fun _ h => cellsAt_sub (h.cells 0 rfl) 0 3)) H ?_
   refine rtp 1 (.pointer (some ⟨b24, 0, none⟩)) H ?_
   refine rtp 2 (.pointer (some ⟨b24, 0, none⟩)) H ?_
   refine rt 3 (.agg #[.slice ra16Alive t.fAlive.length rc16Alive, .slice ra16Bags t.fBags.length rc16Bags, .slice ra16Around t.fAround.length rc16Around]) (y_loadN (cs := [.slice ra16Alive t.fAlive.length rc16Alive, .slice ra16Bags t.fBags.length rc16Bags, .slice ra16Around t.fAround.length rc16Around]) Try.isAgg41 Try.sizeOf41 rfl (fun _ h => cellsAt_sub (h.cells 1 rfl) 0 3)) H ?_
   refine rtp 4 (.int .i64 c) H ?_
   refine r_ops [5] (by kernel_rfl) (by simp) (r_op rfl ?_ r_nil)
   obtain ⟨G30, hn31, h32⟩ := H.rowIsB 2 rfl
   obtain ⟨G33, hn34, h35⟩ := H.rowIsR (α := List Int) 3 rfl 0 rfl (by decide)
   obtain ⟨G36, hn37, h38⟩ := H.rowIsI 4 rfl
   refine o_call #[.agg #[.int .i64 s.fKinds, .slice asParents s.fParents.length csParents, .slice asRules s.fRules.length csRules], .agg #[.slice ra16Alive t.fAlive.length rc16Alive, .slice ra16Bags t.fBags.length rc16Bags, .slice ra16Around t.fAround.length rc16Around], .int .i64 c] rfl rfl Try.call83 (parentNow_ok w28.drew s t c asParents csParents FsParents asRules csRules FsRules ra16Alive rc16Alive G30 ra16Bags rc16Bags G33 ra16Around rc16Around G36 (H.get 1 rfl).1 (H.get 2 rfl).1 h32 h35 h38 (by first | assumption | omega) (by first | assumption | omega) (by first | assumption | omega)) ?_
   rintro _ w40 rfl x41
   replace H := H.ext x41
   have pin := parentNow_in (s := s) (t := t) (c := c) (by assumption) (by assumption) (by omega) (by omega)
   refine ⟨H, ?_⟩
   refine rtp 6 (.int .i64 (parentNow s t c)) H ?_
   refine r_done (by kernel_rfl) (t_n ?_)
   refine c_seq ?_
   obtain ⟨b42, rfl⟩ := H.rowAddr 3 rfl (by omega)
   refine c_cut (fun ρ w43 => ∃ (junk : Env) (xs44 : List Value) (F45 : List Nat), ρ = upd (upd (upd junk 1 (.pointer (some ⟨b24, 0, none⟩))) 2 (.int .i64 c)) 3 (.pointer (some ⟨b27, 0, none⟩)) ∧ Fresh w.heap.size [F45] ∧ St w w43 [.box b27 [.int .i64 s.fKinds, .slice asParents s.fParents.length csParents, .slice asRules s.fRules.length csRules] 30, .box b24 [.slice ra16Alive t.fAlive.length rc16Alive, .slice (some ⟨b42, 0, none⟩) t.fBags.length rc16Bags, .slice ra16Around t.fAround.length rc16Around] 41, .row (.slice ra16Alive t.fAlive.length rc16Alive) 4 1 t.fAlive.length (t.fAlive.map (Value.bool)), .row (.slice (some ⟨b42, 0, none⟩) t.fBags.length rc16Bags) 22 1 t.fBags.length xs44, .row (.slice ra16Around t.fAround.length rc16Around) 2 1 t.fAround.length (t.fAround.map (Value.int .i64)), .box b5 [.slice none 0 0, .slice none 0 0, .slice none 0 0] 41, .box b3 [.slice atAlive t.fAlive.length ctAlive, .slice atBags t.fBags.length ctBags, .slice atAround t.fAround.length ctAround] 41, .box b1 [.int .i64 s.fKinds, .slice asParents s.fParents.length csParents, .slice asRules s.fRules.length csRules] 30] [repsF true F45 xs44 (t.fBags.set ((parentNow s t c).toNat) (plusL (t.fBags[(parentNow s t c).toNat]!) (t.fBags[c.toNat]!) 1)), isF false FsParents (.slice asParents s.fParents.length csParents) s.fParents, isF false FsRules (.slice asRules s.fRules.length csRules) s.fRules, isF false FtAlive (.slice atAlive t.fAlive.length ctAlive) t.fAlive, isF false FtBags (.slice atBags t.fBags.length ctBags) t.fBags, isF false FtAround (.slice atAround t.fAround.length ctAround) t.fAround]) ?_ ?_
   ·skip
    refine c_draw (fun w46 => St w w46 [.box b27 [.int .i64 s.fKinds, .slice asParents s.fParents.length csParents, .slice asRules s.fRules.length csRules] 30, .box b24 [.slice ra16Alive t.fAlive.length rc16Alive, .slice (some ⟨b42, 0, none⟩) t.fBags.length rc16Bags, .slice ra16Around t.fAround.length rc16Around] 41, .row (.slice ra16Alive t.fAlive.length rc16Alive) 4 1 t.fAlive.length (t.fAlive.map (Value.bool)), .row (.slice ra16Around t.fAround.length rc16Around) 2 1 t.fAround.length (t.fAround.map (Value.int .i64)), .box b5 [.slice none 0 0, .slice none 0 0, .slice none 0 0] 41, .box b3 [.slice atAlive t.fAlive.length ctAlive, .slice atBags t.fBags.length ctBags, .slice atAround t.fAround.length ctAround] 41, .box b1 [.int .i64 s.fKinds, .slice asParents s.fParents.length csParents, .slice asRules s.fRules.length csRules] 30] [repsF true rF16Bags rx16Bags t.fBags, isF false FsParents (.slice asParents s.fParents.length csParents) s.fParents, isF false FsRules (.slice asRules s.fRules.length csRules) s.fRules, isF false FtAlive (.slice atAlive t.fAlive.length ctAlive) t.fAlive, isF false FtBags (.slice atBags t.fBags.length ctBags) t.fBags, isF false FtAround (.slice atAround t.fAround.length ctAround) t.fAround]) rfl ((H.ext (ext_drew _)).pick [0, 1, 2, 4, 5, 6, 7] [0, 1, 2, 3, 4, 5]) ?_
    replace H := H.ext (ext_drew _)
    refine rtp 0 (.pointer (some ⟨b24, 0, none⟩)) (H.pick [0, 1, 2, 4, 5, 6, 7] [0, 1, 2, 3, 4, 5]) ?_
    refine rtp 1 (.pointer (some ⟨b24, 0, none⟩)) (H.pick [0, 1, 2, 4, 5, 6, 7] [0, 1, 2, 3, 4, 5]) ?_
    refine rt 2 (.pointer (some ⟨b24, 0 + 1, none⟩)) (y_field b24 (0) 1 Try.underlying41 rfl rfl Try.sizeOf37 rfl) (H.pick [0, 1, 2, 4, 5, 6, 7] [0, 1, 2, 3, 4, 5]) ?_
    refine rt 3 (.slice (some ⟨b42, 0, none⟩) t.fBags.length rc16Bags) (y_load1 Try.isAgg37 rfl (fun _ h => h.cell 1 rfl rfl)) (H.pick [0, 1, 2, 4, 5, 6, 7] [0, 1, 2, 3, 4, 5]) ?_
    refine rtp 4 (.int .i64 (parentNow s t c)) (H.pick [0, 1, 2, 4, 5, 6, 7] [0, 1, 2, 3, 4, 5]) ?_
    refine rtp 5 (.pointer (some ⟨b24, 0, none⟩)) (H.pick [0, 1, 2, 4, 5, 6, 7] [0, 1, 2, 3, 4, 5]) ?_
    refine rtp 6 (.pointer (some ⟨b24, 0, none⟩)) (H.pick [0, 1, 2, 4, 5, 6, 7] [0, 1, 2, 3, 4, 5]) ?_
    refine rt 7 (.pointer (some ⟨b24, 0 + 1, none⟩)) (y_field b24 (0) 1 Try.underlying41 rfl rfl Try.sizeOf37 rfl) (H.pick [0, 1, 2, 4, 5, 6, 7] [0, 1, 2, 3, 4, 5]) ?_
    refine rt 8 (.slice (some ⟨b42, 0, none⟩) t.fBags.length rc16Bags) (y_load1 Try.isAgg37 rfl (fun _ h => h.cell 1 rfl rfl)) (H.pick [0, 1, 2, 4, 5, 6, 7] [0, 1, 2, 3, 4, 5]) ?_
    refine rtp 9 (.int .i64 (parentNow s t c)) (H.pick [0, 1, 2, 4, 5, 6, 7] [0, 1, 2, 3, 4, 5]) ?_
    refine rt 10 (.pointer (some ⟨b42, 0 + (parentNow s t c : Int).toNat * 1, none⟩)) (y_idxAt b42 (0) t.fBags.length rc16Bags (parentNow s t c) Try.underlying37 ti22 rfl rfl (by omega) (by omega)) (H.pick [0, 1, 2, 4, 5, 6, 7] [0, 1, 2, 3, 4, 5]) ?_
    refine rtp 12 (.pointer (some ⟨b24, 0, none⟩)) (H.pick [0, 1, 2, 4, 5, 6, 7] [0, 1, 2, 3, 4, 5]) ?_
    refine rtp 13 (.pointer (some ⟨b24, 0, none⟩)) (H.pick [0, 1, 2, 4, 5, 6, 7] [0, 1, 2, 3, 4, 5]) ?_
    refine rt 14 (.pointer (some ⟨b24, 0 + 1, none⟩)) (y_field b24 (0) 1 Try.underlying41 rfl rfl Try.sizeOf37 rfl) (H.pick [0, 1, 2, 4, 5, 6, 7] [0, 1, 2, 3, 4, 5]) ?_
    refine rt 15 (.slice (some ⟨b42, 0, none⟩) t.fBags.length rc16Bags) (y_load1 Try.isAgg37 rfl (fun _ h => h.cell 1 rfl rfl)) (H.pick [0, 1, 2, 4, 5, 6, 7] [0, 1, 2, 3, 4, 5]) ?_
    refine rtp 16 (.int .i64 c) (H.pick [0, 1, 2, 4, 5, 6, 7] [0, 1, 2, 3, 4, 5]) ?_
    refine rt 17 (.pointer (some ⟨b42, 0 + (c : Int).toNat * 1, none⟩)) (y_idxAt b42 (0) t.fBags.length rc16Bags c Try.underlying37 ti22 rfl rfl (by omega) (by omega)) (H.pick [0, 1, 2, 4, 5, 6, 7] [0, 1, 2, 3, 4, 5]) ?_
    refine r_ops [11, 18] (by kernel_rfl) (by simp) (r_op rfl ?_ (r_op rfl ?_ r_nil))
    ·skip
     obtain ⟨a47, c48, G49, s50, h51, H⟩ := H.rowElemL 3 rfl 0 rfl (iv := parentNow s t c) ((parentNow s t c).toNat) (by omega) (by omega)
     refine o_load1 (.slice a47 ((t.fBags[(parentNow s t c).toNat]!).length) c48) Try.isAgg22 rfl (h51) ?_
     refine ⟨H.pick [0, 1, 2, 4, 5, 6, 7] [1, 2, 3, 4, 5, 6], ?_⟩
     refine r_ops [18] (by kernel_rfl) (by simp) (r_op rfl ?_ r_nil)
     obtain ⟨a52, c53, G54, s55, h56, H⟩ := H.rowElemL 3 rfl 1 rfl (iv := c) c.toNat (by omega) (by omega)
     refine o_load1 (.slice a52 ((t.fBags[c.toNat]!).length) c53) Try.isAgg22 rfl (h56) ?_
     refine ⟨H.pick [0, 1, 2, 4, 5, 6, 7] [2, 3, 4, 5, 6, 7], ?_⟩
     refine r_ops [19] (by kernel_rfl) (by simp) (r_op rfl ?_ r_nil)
     obtain ⟨u1, u2, u3⟩ := q2.add (j := (parentNow s t c).toNat) (k := c.toNat) (by omega) (by omega)
     have sz57 := H.base.size
     have lt58 := H.ltN (L := [rF16Bags]) [2]
     refine o_call #[.slice a47 ((t.fBags[(parentNow s t c).toNat]!).length) c48, .slice a52 ((t.fBags[c.toNat]!).length) c53, .int .i64 1] rfl rfl Try.call84 (plus_ok w40.drew (t.fBags[(parentNow s t c).toNat]!) (t.fBags[c.toNat]!) 1 a47 c48 G49 a52 c53 G54 (H.get 1 rfl).1 (H.get 0 rfl).1 (by first | assumption | omega) (by first | assumption | omega) (by first | assumption | omega)) ?_
     rintro v62 w60 r62 x61
     replace H := H.add_ownInts x61 r62
     obtain ⟨a63, c64, rfl, hc65, hm66⟩ := H.rowForm 0 rfl
     refine ⟨H.pick [1, 2, 3, 5, 6, 7, 8] [2, 3, 4, 5, 6, 7], ?_⟩
     refine rt 20 (.pointer (some ⟨b42, 0 + (parentNow s t c : Int).toNat * 1, none⟩)) (y_idxAt b42 (0) t.fBags.length rc16Bags (parentNow s t c) Try.underlying37 ti22 rfl rfl (by omega) (by omega)) (H.pick [1, 2, 3, 5, 6, 7, 8] [2, 3, 4, 5, 6, 7]) ?_
     refine r_ops [21] (by kernel_rfl) (by simp) (r_op rfl ?_ r_nil)
     obtain ⟨G68, N, hn69, H⟩ := H.freezeI 0 rfl N (H.awayN [2])
     replace H : St _ _ [.row (.slice none 0 0) 0 1 0 [], .box b27 [.int .i64 s.fKinds, .slice asParents s.fParents.length csParents, .slice asRules s.fRules.length csRules] 30, .box b24 [.slice ra16Alive t.fAlive.length rc16Alive, .slice (some ⟨b42, 0, none⟩) t.fBags.length rc16Bags, .slice ra16Around t.fAround.length rc16Around] 41, .row (.slice ra16Alive t.fAlive.length rc16Alive) 4 1 t.fAlive.length (t.fAlive.map (Value.bool)), .row (.slice (some ⟨b42, 0, none⟩) t.fBags.length rc16Bags) 22 1 t.fBags.length rx16Bags, .row (.slice ra16Around t.fAround.length rc16Around) 2 1 t.fAround.length (t.fAround.map (Value.int .i64)), .box b5 [.slice none 0 0, .slice none 0 0, .slice none 0 0] 41, .box b3 [.slice atAlive t.fAlive.length ctAlive, .slice atBags t.fBags.length ctBags, .slice atAround t.fAround.length ctAround] 41, .box b1 [.int .i64 s.fKinds, .slice asParents s.fParents.length csParents, .slice asRules s.fRules.length csRules] 30] _ := H
     refine o_storeElem true H 4 rfl 3 rfl (.slice a63 ((plusL (t.fBags[(parentNow s t c).toNat]!) (t.fBags[c.toNat]!) 1).length) c64) 0 rfl rfl Try.sizeOf22 rfl rfl (i := ((parentNow s t c).toNat)) (by omega) (by omega) (by simp) fun w67 xs70 F71 hs72 H => ?_
     replace N : Fresh w.heap.size [F71] := (N.pick [1, 0]).repl hs72
     replace H : St _ _ [.row (.slice none 0 0) 0 1 0 [], .box b27 [.int .i64 s.fKinds, .slice asParents s.fParents.length csParents, .slice asRules s.fRules.length csRules] 30, .box b24 [.slice ra16Alive t.fAlive.length rc16Alive, .slice (some ⟨b42, 0, none⟩) t.fBags.length rc16Bags, .slice ra16Around t.fAround.length rc16Around] 41, .row (.slice ra16Alive t.fAlive.length rc16Alive) 4 1 t.fAlive.length (t.fAlive.map (Value.bool)), .row (.slice (some ⟨b42, 0, none⟩) t.fBags.length rc16Bags) 22 1 t.fBags.length xs70, .row (.slice ra16Around t.fAround.length rc16Around) 2 1 t.fAround.length (t.fAround.map (Value.int .i64)), .box b5 [.slice none 0 0, .slice none 0 0, .slice none 0 0] 41, .box b3 [.slice atAlive t.fAlive.length ctAlive, .slice atBags t.fBags.length ctBags, .slice atAround t.fAround.length ctAround] 41, .box b1 [.int .i64 s.fKinds, .slice asParents s.fParents.length csParents, .slice asRules s.fRules.length csRules] 30] _ := H
     refine ⟨H.pick [1, 2, 3, 5, 6, 7, 8] [4, 5, 6, 7, 8, 9], ?_⟩
     refine r_done (by kernel_rfl) (?_)
     exact meet ⟨_, xs70, F71, (by exact upd_eq (upd_eq (upd_eq (rfl) rfl) rfl) rfl), N, H.pick [1, 2, 3, 4, 5, 6, 7, 8] [0, 5, 6, 7, 8, 9]⟩
    ·skip
     obtain ⟨a73, c74, G75, s76, h77, H⟩ := H.rowElemL 3 rfl 0 rfl (iv := c) c.toNat (by omega) (by omega)
     refine o_load1 (.slice a73 ((t.fBags[c.toNat]!).length) c74) Try.isAgg22 rfl (h77) ?_
     refine ⟨H.pick [0, 1, 2, 4, 5, 6, 7] [1, 2, 3, 4, 5, 6], ?_⟩
     refine r_ops [11] (by kernel_rfl) (by simp) (r_op rfl ?_ r_nil)
     obtain ⟨a78, c79, G80, s81, h82, H⟩ := H.rowElemL 3 rfl 1 rfl (iv := parentNow s t c) ((parentNow s t c).toNat) (by omega) (by omega)
     refine o_load1 (.slice a78 ((t.fBags[(parentNow s t c).toNat]!).length) c79) Try.isAgg22 rfl (h82) ?_
     refine ⟨H.pick [0, 1, 2, 4, 5, 6, 7] [2, 3, 4, 5, 6, 7], ?_⟩
     refine r_ops [19] (by kernel_rfl) (by simp) (r_op rfl ?_ r_nil)
     obtain ⟨u1, u2, u3⟩ := q2.add (j := (parentNow s t c).toNat) (k := c.toNat) (by omega) (by omega)
     have sz83 := H.base.size
     have lt84 := H.ltN (L := [rF16Bags]) [2]
     refine o_call #[.slice a78 ((t.fBags[(parentNow s t c).toNat]!).length) c79, .slice a73 ((t.fBags[c.toNat]!).length) c74, .int .i64 1] rfl rfl Try.call84 (plus_ok w40.drew (t.fBags[(parentNow s t c).toNat]!) (t.fBags[c.toNat]!) 1 a78 c79 G80 a73 c74 G75 (H.get 0 rfl).1 (H.get 1 rfl).1 (by first | assumption | omega) (by first | assumption | omega) (by first | assumption | omega)) ?_
     rintro v88 w86 r88 x87
     replace H := H.add_ownInts x87 r88
     obtain ⟨a89, c90, rfl, hc91, hm92⟩ := H.rowForm 0 rfl
     refine ⟨H.pick [1, 2, 3, 5, 6, 7, 8] [2, 3, 4, 5, 6, 7], ?_⟩
     refine rt 20 (.pointer (some ⟨b42, 0 + (parentNow s t c : Int).toNat * 1, none⟩)) (y_idxAt b42 (0) t.fBags.length rc16Bags (parentNow s t c) Try.underlying37 ti22 rfl rfl (by omega) (by omega)) (H.pick [1, 2, 3, 5, 6, 7, 8] [2, 3, 4, 5, 6, 7]) ?_
     refine r_ops [21] (by kernel_rfl) (by simp) (r_op rfl ?_ r_nil)
     obtain ⟨G94, N, hn95, H⟩ := H.freezeI 0 rfl N (H.awayN [2])
     replace H : St _ _ [.row (.slice none 0 0) 0 1 0 [], .box b27 [.int .i64 s.fKinds, .slice asParents s.fParents.length csParents, .slice asRules s.fRules.length csRules] 30, .box b24 [.slice ra16Alive t.fAlive.length rc16Alive, .slice (some ⟨b42, 0, none⟩) t.fBags.length rc16Bags, .slice ra16Around t.fAround.length rc16Around] 41, .row (.slice ra16Alive t.fAlive.length rc16Alive) 4 1 t.fAlive.length (t.fAlive.map (Value.bool)), .row (.slice (some ⟨b42, 0, none⟩) t.fBags.length rc16Bags) 22 1 t.fBags.length rx16Bags, .row (.slice ra16Around t.fAround.length rc16Around) 2 1 t.fAround.length (t.fAround.map (Value.int .i64)), .box b5 [.slice none 0 0, .slice none 0 0, .slice none 0 0] 41, .box b3 [.slice atAlive t.fAlive.length ctAlive, .slice atBags t.fBags.length ctBags, .slice atAround t.fAround.length ctAround] 41, .box b1 [.int .i64 s.fKinds, .slice asParents s.fParents.length csParents, .slice asRules s.fRules.length csRules] 30] _ := H
     refine o_storeElem true H 4 rfl 3 rfl (.slice a89 ((plusL (t.fBags[(parentNow s t c).toNat]!) (t.fBags[c.toNat]!) 1).length) c90) 0 rfl rfl Try.sizeOf22 rfl rfl (i := ((parentNow s t c).toNat)) (by omega) (by omega) (by simp) fun w93 xs96 F97 hs98 H => ?_
     replace N : Fresh w.heap.size [F97] := (N.pick [1, 0]).repl hs98
     replace H : St _ _ [.row (.slice none 0 0) 0 1 0 [], .box b27 [.int .i64 s.fKinds, .slice asParents s.fParents.length csParents, .slice asRules s.fRules.length csRules] 30, .box b24 [.slice ra16Alive t.fAlive.length rc16Alive, .slice (some ⟨b42, 0, none⟩) t.fBags.length rc16Bags, .slice ra16Around t.fAround.length rc16Around] 41, .row (.slice ra16Alive t.fAlive.length rc16Alive) 4 1 t.fAlive.length (t.fAlive.map (Value.bool)), .row (.slice (some ⟨b42, 0, none⟩) t.fBags.length rc16Bags) 22 1 t.fBags.length xs96, .row (.slice ra16Around t.fAround.length rc16Around) 2 1 t.fAround.length (t.fAround.map (Value.int .i64)), .box b5 [.slice none 0 0, .slice none 0 0, .slice none 0 0] 41, .box b3 [.slice atAlive t.fAlive.length ctAlive, .slice atBags t.fBags.length ctBags, .slice atAround t.fAround.length ctAround] 41, .box b1 [.int .i64 s.fKinds, .slice asParents s.fParents.length csParents, .slice asRules s.fRules.length csRules] 30] _ := H
     refine ⟨H.pick [1, 2, 3, 5, 6, 7, 8] [4, 5, 6, 7, 8, 9], ?_⟩
     refine r_done (by kernel_rfl) (?_)
     exact meet ⟨_, xs96, F97, (by exact upd_eq (upd_eq (upd_eq (rfl) rfl) rfl) rfl), N, H.pick [1, 2, 3, 4, 5, 6, 7, 8] [0, 5, 6, 7, 8, 9]⟩
   ·skip
    clear H N
    rintro ρ w99 ⟨junk, xs44, F45, rfl, N, H⟩
    refine t_n ?_
    refine c_seq ?_
    refine c_draw (fun w100 => St w w100 [.box b27 [.int .i64 s.fKinds, .slice asParents s.fParents.length csParents, .slice asRules s.fRules.length csRules] 30, .box b24 [.slice ra16Alive t.fAlive.length rc16Alive, .slice (some ⟨b42, 0, none⟩) t.fBags.length rc16Bags, .slice ra16Around t.fAround.length rc16Around] 41, .row (.slice ra16Alive t.fAlive.length rc16Alive) 4 1 t.fAlive.length (t.fAlive.map (Value.bool)), .row (.slice ra16Around t.fAround.length rc16Around) 2 1 t.fAround.length (t.fAround.map (Value.int .i64)), .box b5 [.slice none 0 0, .slice none 0 0, .slice none 0 0] 41, .box b3 [.slice atAlive t.fAlive.length ctAlive, .slice atBags t.fBags.length ctBags, .slice atAround t.fAround.length ctAround] 41, .box b1 [.int .i64 s.fKinds, .slice asParents s.fParents.length csParents, .slice asRules s.fRules.length csRules] 30] [repsF true F45 xs44 (t.fBags.set ((parentNow s t c).toNat) (plusL (t.fBags[(parentNow s t c).toNat]!) (t.fBags[c.toNat]!) 1)), isF false FsParents (.slice asParents s.fParents.length csParents) s.fParents, isF false FsRules (.slice asRules s.fRules.length csRules) s.fRules, isF false FtAlive (.slice atAlive t.fAlive.length ctAlive) t.fAlive, isF false FtBags (.slice atBags t.fBags.length ctBags) t.fBags, isF false FtAround (.slice atAround t.fAround.length ctAround) t.fAround]) rfl ((H.ext (ext_drew _)).pick [0, 1, 2, 4, 5, 6, 7] [0, 1, 2, 3, 4, 5]) ?_
    replace H := H.ext (ext_drew _)
    refine rtp 0 (.pointer (some ⟨b24, 0, none⟩)) (H.pick [0, 1, 2, 4, 5, 6, 7] [0, 1, 2, 3, 4, 5]) ?_
    refine rtp 1 (.pointer (some ⟨b24, 0, none⟩)) (H.pick [0, 1, 2, 4, 5, 6, 7] [0, 1, 2, 3, 4, 5]) ?_
    refine rt 2 (.pointer (some ⟨b24, 0 + 1, none⟩)) (y_field b24 (0) 1 Try.underlying41 rfl rfl Try.sizeOf37 rfl) (H.pick [0, 1, 2, 4, 5, 6, 7] [0, 1, 2, 3, 4, 5]) ?_
    refine rt 3 (.slice (some ⟨b42, 0, none⟩) t.fBags.length rc16Bags) (y_load1 Try.isAgg37 rfl (fun _ h => h.cell 1 rfl rfl)) (H.pick [0, 1, 2, 4, 5, 6, 7] [0, 1, 2, 3, 4, 5]) ?_
    refine rtp 4 (.int .i64 c) (H.pick [0, 1, 2, 4, 5, 6, 7] [0, 1, 2, 3, 4, 5]) ?_
    refine rt 5 (.pointer (some ⟨b27, 0 + 0, none⟩)) (y_field b27 (0) 0 Try.underlying30 rfl rfl Try.sizeOf2 rfl) (H.pick [0, 1, 2, 4, 5, 6, 7] [0, 1, 2, 3, 4, 5]) ?_
    refine rt 6 (.int .i64 s.fKinds) (y_load1 Try.isAgg2 rfl (fun _ h => h.cell 0 rfl rfl)) (H.pick [0, 1, 2, 4, 5, 6, 7] [0, 1, 2, 3, 4, 5]) ?_
    refine r_ops [7] (by kernel_rfl) (by simp) (r_op rfl ?_ r_nil)
    refine o_makeI H Try.underlying22 ti2 s.fKinds.toNat rfl rfl (by omega) (by omega) (by omega) fun b101 w102 H => ?_
    refine ⟨H.pick [1, 2, 3, 5, 6, 7, 8] [0, 1, 2, 3, 4, 5], ?_⟩
    refine rt 8 (.pointer (some ⟨b42, 0 + (c : Int).toNat * 1, none⟩)) (y_idxAt b42 (0) t.fBags.length rc16Bags c Try.underlying37 ti22 rfl rfl (by omega) (by omega)) (H.pick [1, 2, 3, 5, 6, 7, 8] [0, 1, 2, 3, 4, 5]) ?_
    refine r_ops [9] (by kernel_rfl) (by simp) (r_op rfl ?_ r_nil)
    obtain ⟨G104, N, hn105, H⟩ := H.freezeI 0 rfl N (H.awayN [0])
    replace H : St _ _ [.row (.slice none 0 0) 0 1 0 [], .box b27 [.int .i64 s.fKinds, .slice asParents s.fParents.length csParents, .slice asRules s.fRules.length csRules] 30, .box b24 [.slice ra16Alive t.fAlive.length rc16Alive, .slice (some ⟨b42, 0, none⟩) t.fBags.length rc16Bags, .slice ra16Around t.fAround.length rc16Around] 41, .row (.slice ra16Alive t.fAlive.length rc16Alive) 4 1 t.fAlive.length (t.fAlive.map (Value.bool)), .row (.slice (some ⟨b42, 0, none⟩) t.fBags.length rc16Bags) 22 1 t.fBags.length xs44, .row (.slice ra16Around t.fAround.length rc16Around) 2 1 t.fAround.length (t.fAround.map (Value.int .i64)), .box b5 [.slice none 0 0, .slice none 0 0, .slice none 0 0] 41, .box b3 [.slice atAlive t.fAlive.length ctAlive, .slice atBags t.fBags.length ctBags, .slice atAround t.fAround.length ctAround] 41, .box b1 [.int .i64 s.fKinds, .slice asParents s.fParents.length csParents, .slice asRules s.fRules.length csRules] 30] _ := H
    refine o_storeElem true H 4 rfl 1 rfl (.slice (some ⟨b101, 0, none⟩) s.fKinds.toNat s.fKinds.toNat) 0 rfl rfl Try.sizeOf22 rfl rfl (i := c.toNat) (by omega) (by omega) (by simp) fun w103 xs106 F107 hs108 H => ?_
    replace N : Fresh w.heap.size [F107] := (N.pick [1, 0]).repl hs108
    replace H : St _ _ [.row (.slice none 0 0) 0 1 0 [], .box b27 [.int .i64 s.fKinds, .slice asParents s.fParents.length csParents, .slice asRules s.fRules.length csRules] 30, .box b24 [.slice ra16Alive t.fAlive.length rc16Alive, .slice (some ⟨b42, 0, none⟩) t.fBags.length rc16Bags, .slice ra16Around t.fAround.length rc16Around] 41, .row (.slice ra16Alive t.fAlive.length rc16Alive) 4 1 t.fAlive.length (t.fAlive.map (Value.bool)), .row (.slice (some ⟨b42, 0, none⟩) t.fBags.length rc16Bags) 22 1 t.fBags.length xs106, .row (.slice ra16Around t.fAround.length rc16Around) 2 1 t.fAround.length (t.fAround.map (Value.int .i64)), .box b5 [.slice none 0 0, .slice none 0 0, .slice none 0 0] 41, .box b3 [.slice atAlive t.fAlive.length ctAlive, .slice atBags t.fBags.length ctBags, .slice atAround t.fAround.length ctAround] 41, .box b1 [.int .i64 s.fKinds, .slice asParents s.fParents.length csParents, .slice asRules s.fRules.length csRules] 30] _ := H
    refine ⟨H.pick [1, 2, 3, 5, 6, 7, 8] [2, 3, 4, 5, 6, 7], ?_⟩
    refine r_done (by kernel_rfl) (t_n ?_)
    refine c_reg ?_
    refine sp (.pointer (some ⟨b24, 0, none⟩)) ?_
    refine sp (.pointer (some ⟨b24, 0, none⟩)) ?_
    refine sw (o_field b24 (0) 0 Try.underlying41 rfl rfl Try.sizeOf36 rfl ?_)
    refine sw (o_load1 (.slice ra16Alive t.fAlive.length rc16Alive) Try.isAgg36 rfl (H.cell 2 rfl rfl) ?_)
    refine sp (.int .i64 c) ?_
    obtain ⟨b109, rfl⟩ := H.rowAddr 3 rfl (by omega)
    refine sw (o_idxAt c Try.underlying36 ti4 rfl rfl (by omega) (by omega) ?_)
    refine sw (o_storeBool H 3 rfl false Try.sizeOf4 rfl rfl (i := c.toNat) (by omega) (by omega) fun w110 H => ?_)
    replace H : St _ _ [.row (.slice none 0 0) 0 1 0 [], .box b27 [.int .i64 s.fKinds, .slice asParents s.fParents.length csParents, .slice asRules s.fRules.length csRules] 30, .box b24 [.slice (some ⟨b109, 0, none⟩) t.fAlive.length rc16Alive, .slice (some ⟨b42, 0, none⟩) t.fBags.length rc16Bags, .slice ra16Around t.fAround.length rc16Around] 41, .row (.slice (some ⟨b109, 0, none⟩) t.fAlive.length rc16Alive) 4 1 t.fAlive.length ((t.fAlive.set c.toNat false).map (Value.bool)), .row (.slice (some ⟨b42, 0, none⟩) t.fBags.length rc16Bags) 22 1 t.fBags.length xs106, .row (.slice ra16Around t.fAround.length rc16Around) 2 1 t.fAround.length (t.fAround.map (Value.int .i64)), .box b5 [.slice none 0 0, .slice none 0 0, .slice none 0 0] 41, .box b3 [.slice atAlive t.fAlive.length ctAlive, .slice atBags t.fBags.length ctBags, .slice atAround t.fAround.length ctAround] 41, .box b1 [.int .i64 s.fKinds, .slice asParents s.fParents.length csParents, .slice asRules s.fRules.length csRules] 30] _ := H
    refine c_nil (?_)
    refine ret0 rfl ⟨_, rfl, ?_⟩
    replace H : St _ _ [.box b24 [.slice (some ⟨b109, 0, none⟩) t.fAlive.length rc16Alive, .slice (some ⟨b42, 0, none⟩) t.fBags.length rc16Bags, .slice ra16Around t.fAround.length rc16Around] 41, .row (.slice (some ⟨b109, 0, none⟩) t.fAlive.length rc16Alive) 4 1 t.fAlive.length ((t.fAlive.set c.toNat false).map (Value.bool)), .row (.slice (some ⟨b42, 0, none⟩) t.fBags.length rc16Bags) 22 1 t.fBags.length xs106, .row (.slice ra16Around t.fAround.length rc16Around) 2 1 t.fAround.length (t.fAround.map (Value.int .i64)), .box b5 [.slice none 0 0, .slice none 0 0, .slice none 0 0] 41, .box b3 [.slice atAlive t.fAlive.length ctAlive, .slice atBags t.fBags.length ctBags, .slice atAround t.fAround.length ctAround] 41, .box b1 [.int .i64 s.fKinds, .slice asParents s.fParents.length csParents, .slice asRules s.fRules.length csRules] 30] _ := H.pickP [2, 3, 4, 5, 6, 7, 8]
    refine c_nil (t_n ?_)
    refine c_seq ?_
    refine c_reg ?_
    refine sw (o_loadN [.int .i64 s.fKinds, .slice asParents s.fParents.length csParents, .slice asRules s.fRules.length csRules] Try.isAgg30 Try.sizeOf30 rfl (cellsAt_sub (H.cells 6 rfl) 0 3) ?_)
    refine sw (o_loadN [.slice (some ⟨b109, 0, none⟩) t.fAlive.length rc16Alive, .slice (some ⟨b42, 0, none⟩) t.fBags.length rc16Bags, .slice ra16Around t.fAround.length rc16Around] Try.isAgg41 Try.sizeOf41 rfl (cellsAt_sub (H.cells 0 rfl) 0 3) ?_)
    refine sw (o_callIn #[.agg #[.int .i64 s.fKinds, .slice asParents s.fParents.length csParents, .slice asRules s.fRules.length csRules], .agg #[.slice (some ⟨b109, 0, none⟩) t.fAlive.length rc16Alive, .slice (some ⟨b42, 0, none⟩) t.fBags.length rc16Bags, .slice ra16Around t.fAround.length rc16Around]] rfl rfl Try.call44 ?_)
    refine enter (n := 12) Try.func44 rfl Try.ntmps44 (Nat.le_of_ble_eq_true rfl) ?_
    refine c_seq ?_
    refine c_reg ?_
    refine sw (o_box H (.agg #[.int .i64 s.fKinds, .slice asParents s.fParents.length csParents, .slice asRules s.fRules.length csRules]) rfl fun b111 w112 H => ?_)
    replace H : St _ _ [.box b111 [.int .i64 s.fKinds, .slice asParents s.fParents.length csParents, .slice asRules s.fRules.length csRules] 30, .box b24 [.slice (some ⟨b109, 0, none⟩) t.fAlive.length rc16Alive, .slice (some ⟨b42, 0, none⟩) t.fBags.length rc16Bags, .slice ra16Around t.fAround.length rc16Around] 41, .row (.slice (some ⟨b109, 0, none⟩) t.fAlive.length rc16Alive) 4 1 t.fAlive.length ((t.fAlive.set c.toNat false).map (Value.bool)), .row (.slice (some ⟨b42, 0, none⟩) t.fBags.length rc16Bags) 22 1 t.fBags.length xs106, .row (.slice ra16Around t.fAround.length rc16Around) 2 1 t.fAround.length (t.fAround.map (Value.int .i64)), .box b5 [.slice none 0 0, .slice none 0 0, .slice none 0 0] 41, .box b3 [.slice atAlive t.fAlive.length ctAlive, .slice atBags t.fBags.length ctBags, .slice atAround t.fAround.length ctAround] 41, .box b1 [.int .i64 s.fKinds, .slice asParents s.fParents.length csParents, .slice asRules s.fRules.length csRules] 30] _ := H
    refine sw (o_box H (.agg #[.slice (some ⟨b109, 0, none⟩) t.fAlive.length rc16Alive, .slice (some ⟨b42, 0, none⟩) t.fBags.length rc16Bags, .slice ra16Around t.fAround.length rc16Around]) rfl fun b113 w114 H => ?_)
    replace H : St _ _ [.box b113 [.slice (some ⟨b109, 0, none⟩) t.fAlive.length rc16Alive, .slice (some ⟨b42, 0, none⟩) t.fBags.length rc16Bags, .slice ra16Around t.fAround.length rc16Around] 41, .box b111 [.int .i64 s.fKinds, .slice asParents s.fParents.length csParents, .slice asRules s.fRules.length csRules] 30, .box b24 [.slice (some ⟨b109, 0, none⟩) t.fAlive.length rc16Alive, .slice (some ⟨b42, 0, none⟩) t.fBags.length rc16Bags, .slice ra16Around t.fAround.length rc16Around] 41, .row (.slice (some ⟨b109, 0, none⟩) t.fAlive.length rc16Alive) 4 1 t.fAlive.length ((t.fAlive.set c.toNat false).map (Value.bool)), .row (.slice (some ⟨b42, 0, none⟩) t.fBags.length rc16Bags) 22 1 t.fBags.length xs106, .row (.slice ra16Around t.fAround.length rc16Around) 2 1 t.fAround.length (t.fAround.map (Value.int .i64)), .box b5 [.slice none 0 0, .slice none 0 0, .slice none 0 0] 41, .box b3 [.slice atAlive t.fAlive.length ctAlive, .slice atBags t.fBags.length ctBags, .slice atAround t.fAround.length ctAround] 41, .box b1 [.int .i64 s.fKinds, .slice asParents s.fParents.length csParents, .slice asRules s.fRules.length csRules] 30] _ := H
    refine sw (o_alloc H ti41 fun b115 w116 H => ?_)
    replace H : St _ _ [.box b115 [.slice none 0 0, .slice none 0 0, .slice none 0 0] 41, .box b113 [.slice (some ⟨b109, 0, none⟩) t.fAlive.length rc16Alive, .slice (some ⟨b42, 0, none⟩) t.fBags.length rc16Bags, .slice ra16Around t.fAround.length rc16Around] 41, .box b111 [.int .i64 s.fKinds, .slice asParents s.fParents.length csParents, .slice asRules s.fRules.length csRules] 30, .box b24 [.slice (some ⟨b109, 0, none⟩) t.fAlive.length rc16Alive, .slice (some ⟨b42, 0, none⟩) t.fBags.length rc16Bags, .slice ra16Around t.fAround.length rc16Around] 41, .row (.slice (some ⟨b109, 0, none⟩) t.fAlive.length rc16Alive) 4 1 t.fAlive.length ((t.fAlive.set c.toNat false).map (Value.bool)), .row (.slice (some ⟨b42, 0, none⟩) t.fBags.length rc16Bags) 22 1 t.fBags.length xs106, .row (.slice ra16Around t.fAround.length rc16Around) 2 1 t.fAround.length (t.fAround.map (Value.int .i64)), .box b5 [.slice none 0 0, .slice none 0 0, .slice none 0 0] 41, .box b3 [.slice atAlive t.fAlive.length ctAlive, .slice atBags t.fBags.length ctBags, .slice atAround t.fAround.length ctAround] 41, .box b1 [.int .i64 s.fKinds, .slice asParents s.fParents.length csParents, .slice asRules s.fRules.length csRules] 30] _ := H
    refine sp (.int .i64 0) ?_
    refine c_nil (t_n ?_)
    refine c_seq ?_
    refine c_seq ?_
    refine c_reg ?_
    refine sw (o_loadN [.int .i64 s.fKinds, .slice asParents s.fParents.length csParents, .slice asRules s.fRules.length csRules] Try.isAgg30 Try.sizeOf30 rfl (cellsAt_sub (H.cells 2 rfl) 0 3) ?_)
    refine sw (o_loadN [.slice (some ⟨b109, 0, none⟩) t.fAlive.length rc16Alive, .slice (some ⟨b42, 0, none⟩) t.fBags.length rc16Bags, .slice ra16Around t.fAround.length rc16Around] Try.isAgg41 Try.sizeOf41 rfl (cellsAt_sub (H.cells 1 rfl) 0 3) ?_)
    obtain ⟨G117, hn118, h119⟩ := H.rowIsB 4 rfl
    obtain ⟨G120, hn121, h122⟩ := H.rowIsR (α := List Int) 5 rfl 0 rfl (by decide)
    obtain ⟨G123, hn124, h125⟩ := H.rowIsI 6 rfl
    refine sw (o_call #[.agg #[.int .i64 s.fKinds, .slice asParents s.fParents.length csParents, .slice asRules s.fRules.length csRules], .agg #[.slice (some ⟨b109, 0, none⟩) t.fAlive.length rc16Alive, .slice (some ⟨b42, 0, none⟩) t.fBags.length rc16Bags, .slice ra16Around t.fAround.length rc16Around]] rfl rfl Try.call59 (args_eq (by rw [← hn118, ← hn121]) (validState_ok w116 s (⟨(t.fAlive.set c.toNat false), ((t.fBags.set ((parentNow s t c).toNat) (plusL (t.fBags[(parentNow s t c).toNat]!) (t.fBags[c.toNat]!) 1)).set c.toNat (List.replicate s.fKinds.toNat (0 : Int))), t.fAround⟩ : StateD) asParents csParents FsParents asRules csRules FsRules (some ⟨b109, 0, none⟩) rc16Alive G117 (some ⟨b42, 0, none⟩) rc16Bags G120 ra16Around rc16Around G123 (H.get 3 rfl).1 (H.get 4 rfl).1 (hn118 ▸ h119) (hn121 ▸ h122) h125)) ?_)
    rintro _ w127 rfl x128
    replace H := H.ext x128
    refine sp (.bool (!(dec (SysOk s ∧ StateOk s (⟨(t.fAlive.set c.toNat false), ((t.fBags.set ((parentNow s t c).toNat) (plusL (t.fBags[(parentNow s t c).toNat]!) (t.fBags[c.toNat]!) 1)).set c.toNat (List.replicate s.fKinds.toNat (0 : Int))), t.fAround⟩ : StateD))))) ?_
    refine c_nil (t_n ?_)
    refine c_cond (!(dec (SysOk s ∧ StateOk s (⟨(t.fAlive.set c.toNat false), ((t.fBags.set ((parentNow s t c).toNat) (plusL (t.fBags[(parentNow s t c).toNat]!) (t.fBags[c.toNat]!) 1)).set c.toNat (List.replicate s.fKinds.toNat (0 : Int))), t.fAround⟩ : StateD)))) rfl (fun h129 => ?_) (fun h129 => ?_)
    ·skip
     replace h129 := not_true_of h129
     replace h129 := not_of_dec h129
     refine c_seq ?_
     refine c_reg ?_
     refine sw (o_build [.slice none 0 0, .slice none 0 0, .slice none 0 0] [] ?_)
     refine sw (o_store H 0 rfl (.agg #[.slice none 0 0, .slice none 0 0, .slice none 0 0]) Try.sizeOf41 rfl rfl (by simp [Value.oneCell', Value.cells]) (Nat.le_of_ble_eq_true rfl) fun w130 H => ?_)
     replace H : St _ _ [.box b115 [.slice none 0 0, .slice none 0 0, .slice none 0 0] 41, .box b113 [.slice (some ⟨b109, 0, none⟩) t.fAlive.length rc16Alive, .slice (some ⟨b42, 0, none⟩) t.fBags.length rc16Bags, .slice ra16Around t.fAround.length rc16Around] 41, .box b111 [.int .i64 s.fKinds, .slice asParents s.fParents.length csParents, .slice asRules s.fRules.length csRules] 30, .box b24 [.slice (some ⟨b109, 0, none⟩) t.fAlive.length rc16Alive, .slice (some ⟨b42, 0, none⟩) t.fBags.length rc16Bags, .slice ra16Around t.fAround.length rc16Around] 41, .row (.slice (some ⟨b109, 0, none⟩) t.fAlive.length rc16Alive) 4 1 t.fAlive.length ((t.fAlive.set c.toNat false).map (Value.bool)), .row (.slice (some ⟨b42, 0, none⟩) t.fBags.length rc16Bags) 22 1 t.fBags.length xs106, .row (.slice ra16Around t.fAround.length rc16Around) 2 1 t.fAround.length (t.fAround.map (Value.int .i64)), .box b5 [.slice none 0 0, .slice none 0 0, .slice none 0 0] 41, .box b3 [.slice atAlive t.fAlive.length ctAlive, .slice atBags t.fBags.length ctBags, .slice atAround t.fAround.length ctAround] 41, .box b1 [.int .i64 s.fKinds, .slice asParents s.fParents.length csParents, .slice asRules s.fRules.length csRules] 30] _ := H
     refine sp (.int .i64 3) ?_
     refine c_nil (t_n ?_)
     refine c_ret (t_r (?_))
     refine retC2 H 0 rfl (.int .i64 3) rfl Try.isAgg41 Try.sizeOf41 rfl rfl ⟨_, rfl, ?_⟩
     replace H : St _ _ [.box b24 [.slice (some ⟨b109, 0, none⟩) t.fAlive.length rc16Alive, .slice (some ⟨b42, 0, none⟩) t.fBags.length rc16Bags, .slice ra16Around t.fAround.length rc16Around] 41, .row (.slice (some ⟨b109, 0, none⟩) t.fAlive.length rc16Alive) 4 1 t.fAlive.length ((t.fAlive.set c.toNat false).map (Value.bool)), .row (.slice (some ⟨b42, 0, none⟩) t.fBags.length rc16Bags) 22 1 t.fBags.length xs106, .row (.slice ra16Around t.fAround.length rc16Around) 2 1 t.fAround.length (t.fAround.map (Value.int .i64)), .box b5 [.slice none 0 0, .slice none 0 0, .slice none 0 0] 41, .box b3 [.slice atAlive t.fAlive.length ctAlive, .slice atBags t.fBags.length ctBags, .slice atAround t.fAround.length ctAround] 41, .box b1 [.int .i64 s.fKinds, .slice asParents s.fParents.length csParents, .slice asRules s.fRules.length csRules] 30] _ := H.pickP [3, 4, 5, 6, 7, 8, 9]
     refine sp (.agg #[.slice none 0 0, .slice none 0 0, .slice none 0 0]) ?_
     refine sp (.int .i64 3) ?_
     refine sw (o_store H 4 rfl (.agg #[.slice none 0 0, .slice none 0 0, .slice none 0 0]) Try.sizeOf41 rfl rfl (by simp [Value.oneCell', Value.cells]) (Nat.le_of_ble_eq_true rfl) fun w131 H => ?_)
     replace H : St _ _ [.box b24 [.slice (some ⟨b109, 0, none⟩) t.fAlive.length rc16Alive, .slice (some ⟨b42, 0, none⟩) t.fBags.length rc16Bags, .slice ra16Around t.fAround.length rc16Around] 41, .row (.slice (some ⟨b109, 0, none⟩) t.fAlive.length rc16Alive) 4 1 t.fAlive.length ((t.fAlive.set c.toNat false).map (Value.bool)), .row (.slice (some ⟨b42, 0, none⟩) t.fBags.length rc16Bags) 22 1 t.fBags.length xs106, .row (.slice ra16Around t.fAround.length rc16Around) 2 1 t.fAround.length (t.fAround.map (Value.int .i64)), .box b5 [.slice none 0 0, .slice none 0 0, .slice none 0 0] 41, .box b3 [.slice atAlive t.fAlive.length ctAlive, .slice atBags t.fBags.length ctBags, .slice atAround t.fAround.length ctAround] 41, .box b1 [.int .i64 s.fKinds, .slice asParents s.fParents.length csParents, .slice asRules s.fRules.length csRules] 30] _ := H
     refine sp (.int .i64 3) ?_
     refine c_nil (t_n ?_)
     refine c_ret (?_)
     replace H := H.nilRow 4 1
     replace H : St _ _ [.row (.slice none 0 0) 4 1 0 (([] : List Bool).map (Value.bool)), .box b24 [.slice (some ⟨b109, 0, none⟩) t.fAlive.length rc16Alive, .slice (some ⟨b42, 0, none⟩) t.fBags.length rc16Bags, .slice ra16Around t.fAround.length rc16Around] 41, .row (.slice (some ⟨b109, 0, none⟩) t.fAlive.length rc16Alive) 4 1 t.fAlive.length ((t.fAlive.set c.toNat false).map (Value.bool)), .row (.slice (some ⟨b42, 0, none⟩) t.fBags.length rc16Bags) 22 1 t.fBags.length xs106, .row (.slice ra16Around t.fAround.length rc16Around) 2 1 t.fAround.length (t.fAround.map (Value.int .i64)), .box b5 [.slice none 0 0, .slice none 0 0, .slice none 0 0] 41, .box b3 [.slice atAlive t.fAlive.length ctAlive, .slice atBags t.fBags.length ctBags, .slice atAround t.fAround.length ctAround] 41, .box b1 [.int .i64 s.fKinds, .slice asParents s.fParents.length csParents, .slice asRules s.fRules.length csRules] 30] _ := H
     replace H := H.nilRow 22 1
     replace H := H.repsNil (α := List Int)
     replace H : St _ _ [.row (.slice none 0 0) 22 1 0 [], .row (.slice none 0 0) 4 1 0 (([] : List Bool).map (Value.bool)), .box b24 [.slice (some ⟨b109, 0, none⟩) t.fAlive.length rc16Alive, .slice (some ⟨b42, 0, none⟩) t.fBags.length rc16Bags, .slice ra16Around t.fAround.length rc16Around] 41, .row (.slice (some ⟨b109, 0, none⟩) t.fAlive.length rc16Alive) 4 1 t.fAlive.length ((t.fAlive.set c.toNat false).map (Value.bool)), .row (.slice (some ⟨b42, 0, none⟩) t.fBags.length rc16Bags) 22 1 t.fBags.length xs106, .row (.slice ra16Around t.fAround.length rc16Around) 2 1 t.fAround.length (t.fAround.map (Value.int .i64)), .box b5 [.slice none 0 0, .slice none 0 0, .slice none 0 0] 41, .box b3 [.slice atAlive t.fAlive.length ctAlive, .slice atBags t.fBags.length ctBags, .slice atAround t.fAround.length ctAround] 41, .box b1 [.int .i64 s.fKinds, .slice asParents s.fParents.length csParents, .slice asRules s.fRules.length csRules] 30] _ := H
     replace H := H.nilRow 2 1
     replace H : St _ _ [.row (.slice none 0 0) 2 1 0 (([] : List Int).map (Value.int .i64)), .row (.slice none 0 0) 22 1 0 [], .row (.slice none 0 0) 4 1 0 (([] : List Bool).map (Value.bool)), .box b24 [.slice (some ⟨b109, 0, none⟩) t.fAlive.length rc16Alive, .slice (some ⟨b42, 0, none⟩) t.fBags.length rc16Bags, .slice ra16Around t.fAround.length rc16Around] 41, .row (.slice (some ⟨b109, 0, none⟩) t.fAlive.length rc16Alive) 4 1 t.fAlive.length ((t.fAlive.set c.toNat false).map (Value.bool)), .row (.slice (some ⟨b42, 0, none⟩) t.fBags.length rc16Bags) 22 1 t.fBags.length xs106, .row (.slice ra16Around t.fAround.length rc16Around) 2 1 t.fAround.length (t.fAround.map (Value.int .i64)), .box b5 [.slice none 0 0, .slice none 0 0, .slice none 0 0] 41, .box b3 [.slice atAlive t.fAlive.length ctAlive, .slice atBags t.fBags.length ctBags, .slice atAround t.fAround.length ctAround] 41, .box b1 [.int .i64 s.fKinds, .slice asParents s.fParents.length csParents, .slice asRules s.fRules.length csRules] 30] _ := H
     refine retC2 H 7 rfl (.int .i64 3) rfl Try.isAgg41 Try.sizeOf41 rfl rfl ⟨_, rfl, ?_, H.base⟩
     rw [melt_told ‹_› ‹_›, told_no (fun h => ‹¬ (SysOk s ∧ _)› ⟨q1, h⟩)]
     exact ⟨none, 0, 0, none, 0, 0, [], [], none, 0, 0, rfl, (N.emp.pick [0]), H.pick [2, 1, 0] [0]⟩
    ·skip
     replace h129 := not_false_of h129
     replace h129 := of_dec h129
     refine c_skip (t_n ?_)
     refine c_seq ?_
     refine c_reg ?_
     refine sw (o_loadN [.slice (some ⟨b109, 0, none⟩) t.fAlive.length rc16Alive, .slice (some ⟨b42, 0, none⟩) t.fBags.length rc16Bags, .slice ra16Around t.fAround.length rc16Around] Try.isAgg41 Try.sizeOf41 rfl (cellsAt_sub (H.cells 1 rfl) 0 3) ?_)
     refine sw (o_store H 0 rfl (.agg #[.slice (some ⟨b109, 0, none⟩) t.fAlive.length rc16Alive, .slice (some ⟨b42, 0, none⟩) t.fBags.length rc16Bags, .slice ra16Around t.fAround.length rc16Around]) Try.sizeOf41 rfl rfl (by simp [Value.oneCell', Value.cells]) (Nat.le_of_ble_eq_true rfl) fun w132 H => ?_)
     replace H : St _ _ [.box b115 [.slice (some ⟨b109, 0, none⟩) t.fAlive.length rc16Alive, .slice (some ⟨b42, 0, none⟩) t.fBags.length rc16Bags, .slice ra16Around t.fAround.length rc16Around] 41, .box b113 [.slice (some ⟨b109, 0, none⟩) t.fAlive.length rc16Alive, .slice (some ⟨b42, 0, none⟩) t.fBags.length rc16Bags, .slice ra16Around t.fAround.length rc16Around] 41, .box b111 [.int .i64 s.fKinds, .slice asParents s.fParents.length csParents, .slice asRules s.fRules.length csRules] 30, .box b24 [.slice (some ⟨b109, 0, none⟩) t.fAlive.length rc16Alive, .slice (some ⟨b42, 0, none⟩) t.fBags.length rc16Bags, .slice ra16Around t.fAround.length rc16Around] 41, .row (.slice (some ⟨b109, 0, none⟩) t.fAlive.length rc16Alive) 4 1 t.fAlive.length ((t.fAlive.set c.toNat false).map (Value.bool)), .row (.slice (some ⟨b42, 0, none⟩) t.fBags.length rc16Bags) 22 1 t.fBags.length xs106, .row (.slice ra16Around t.fAround.length rc16Around) 2 1 t.fAround.length (t.fAround.map (Value.int .i64)), .box b5 [.slice none 0 0, .slice none 0 0, .slice none 0 0] 41, .box b3 [.slice atAlive t.fAlive.length ctAlive, .slice atBags t.fBags.length ctBags, .slice atAround t.fAround.length ctAround] 41, .box b1 [.int .i64 s.fKinds, .slice asParents s.fParents.length csParents, .slice asRules s.fRules.length csRules] 30] _ := H
     refine sp (.int .i64 0) ?_
     refine c_nil (t_n ?_)
     refine c_ret (?_)
     refine retC2 H 0 rfl (.int .i64 0) rfl Try.isAgg41 Try.sizeOf41 rfl rfl ⟨_, rfl, ?_⟩
     replace H : St _ _ [.box b24 [.slice (some ⟨b109, 0, none⟩) t.fAlive.length rc16Alive, .slice (some ⟨b42, 0, none⟩) t.fBags.length rc16Bags, .slice ra16Around t.fAround.length rc16Around] 41, .row (.slice (some ⟨b109, 0, none⟩) t.fAlive.length rc16Alive) 4 1 t.fAlive.length ((t.fAlive.set c.toNat false).map (Value.bool)), .row (.slice (some ⟨b42, 0, none⟩) t.fBags.length rc16Bags) 22 1 t.fBags.length xs106, .row (.slice ra16Around t.fAround.length rc16Around) 2 1 t.fAround.length (t.fAround.map (Value.int .i64)), .box b5 [.slice none 0 0, .slice none 0 0, .slice none 0 0] 41, .box b3 [.slice atAlive t.fAlive.length ctAlive, .slice atBags t.fBags.length ctBags, .slice atAround t.fAround.length ctAround] 41, .box b1 [.int .i64 s.fKinds, .slice asParents s.fParents.length csParents, .slice asRules s.fRules.length csRules] 30] _ := H.pickP [3, 4, 5, 6, 7, 8, 9]
     refine sp (.agg #[.slice (some ⟨b109, 0, none⟩) t.fAlive.length rc16Alive, .slice (some ⟨b42, 0, none⟩) t.fBags.length rc16Bags, .slice ra16Around t.fAround.length rc16Around]) ?_
     refine sp (.int .i64 0) ?_
     refine sw (o_store H 4 rfl (.agg #[.slice (some ⟨b109, 0, none⟩) t.fAlive.length rc16Alive, .slice (some ⟨b42, 0, none⟩) t.fBags.length rc16Bags, .slice ra16Around t.fAround.length rc16Around]) Try.sizeOf41 rfl rfl (by simp [Value.oneCell', Value.cells]) (Nat.le_of_ble_eq_true rfl) fun w133 H => ?_)
     replace H : St _ _ [.box b24 [.slice (some ⟨b109, 0, none⟩) t.fAlive.length rc16Alive, .slice (some ⟨b42, 0, none⟩) t.fBags.length rc16Bags, .slice ra16Around t.fAround.length rc16Around] 41, .row (.slice (some ⟨b109, 0, none⟩) t.fAlive.length rc16Alive) 4 1 t.fAlive.length ((t.fAlive.set c.toNat false).map (Value.bool)), .row (.slice (some ⟨b42, 0, none⟩) t.fBags.length rc16Bags) 22 1 t.fBags.length xs106, .row (.slice ra16Around t.fAround.length rc16Around) 2 1 t.fAround.length (t.fAround.map (Value.int .i64)), .box b5 [.slice (some ⟨b109, 0, none⟩) t.fAlive.length rc16Alive, .slice (some ⟨b42, 0, none⟩) t.fBags.length rc16Bags, .slice ra16Around t.fAround.length rc16Around] 41, .box b3 [.slice atAlive t.fAlive.length ctAlive, .slice atBags t.fBags.length ctBags, .slice atAround t.fAround.length ctAround] 41, .box b1 [.int .i64 s.fKinds, .slice asParents s.fParents.length csParents, .slice asRules s.fRules.length csRules] 30] _ := H
     refine sp (.int .i64 0) ?_
     refine c_nil (t_n ?_)
     refine c_ret (?_)
     refine retC2 H 4 rfl (.int .i64 0) rfl Try.isAgg41 Try.sizeOf41 rfl rfl ⟨_, rfl, ?_, H.base⟩
     rw [melt_told ‹_› ‹_›, told_yes (‹SysOk s ∧ _› : SysOk s ∧ _).2]
     exact ⟨(some ⟨b109, 0, none⟩), t.fAlive.length, rc16Alive, (some ⟨b42, 0, none⟩), t.fBags.length, rc16Bags, xs106, F107, ra16Around, t.fAround.length, rc16Around, rfl, N, H.pick [1, 2, 3] [0]⟩

end Go.Proofs.Ytkmlihdacnfhdaa
