/- Walks, printed by program (wip/tools/gv.py): what each function comes to, for all arguments. -/
import Derived.Test.YtkmlihdacnfhdaaG3
import Derived.Test.YtkmlihdacnfhdaaP1
namespace Go.Proofs.Ytkmlihdacnfhdaa
open Go.Proofs.Ytkmlihdacnfhdaa.Tot (tot)
open Go.Proofs.Ytkmlihdacnfhdaa.Mark (cnt mrk mkd mkd_mark cnt_mark)
open Go.RowKit
set_option linter.unusedVariables false
set_option linter.unusedSimpArgs false
set_option maxRecDepth 100000
set_option maxHeartbeats 4000000



theorem l01Bag_ok (w : World) (l : List Int) (al : Option Addr) (cl : Nat) (Fl : List Nat) (hl : GoRep.rep w Fl [.slice al l.length cl] l) : Calls Try.prog 120 #[.slice al l.length cl] w (Ret (fun v w' => v = .bool (dec (BagAny l))) w) := by
 refine enter (n := 19) Try.func120 rfl Try.ntmps120 (Nat.le_of_ble_eq_true rfl) ?_
 have H := St.start w
 replace H := H.add (isF false Fl (.slice al l.length cl) l) ⟨hl, by simp⟩ (start_lt hl)
 have nhl := rep_len hl
 clear hl
 refine c_seq ?_
 refine c_reg ?_
 refine sp (.bool false) ?_
 refine c_nil (t_n ?_)
 refine c_seq ?_
 refine c_seq ?_
 refine c_reg ?_
 refine sp (.int .i64 0) ?_
 refine c_nil (t_n ?_)
 refine c_block ?_
 refine c_loop (fun m' ρ w1 => ∃ (junk : Env) (k : Nat), ρ = upd (upd junk 0 (.slice al l.length cl)) 3 (.int .i64 k) ∧ (k ≤ l.length) ∧ (Counts l k) ∧ m' = l.length - k ∧ St w w1 [] [isF false Fl (.slice al l.length cl) l]) (l.length - 0) ⟨_, 0, (by exact upd_eq (upd_eq (rfl) rfl) rfl), (by omega), (by exact Counts.zero l), rfl, H⟩ ?_
 clear H
 rintro m' ρ w2 ⟨junk, k, rfl, i0, i1, rfl, H⟩
 refine c_seq ?_
 refine c_seq ?_
 refine c_reg ?_
 refine sp (.int .i64 k) ?_
 refine sp (.slice al l.length cl) ?_
 refine sw (o_len Try.underlying22 al l.length cl rfl ?_)
 refine sp (.bool (decide ((k : Int) < l.length))) ?_
 refine c_nil (t_n ?_)
 refine c_cond (decide ((k : Int) < l.length)) rfl (fun h3 => ?_) (fun h3 => ?_)
 ·skip
  replace h3 := of_decide_eq_true h3
  refine c_skip (t_n ?_)
  refine c_seq ?_
  refine c_block ?_
  refine c_seq ?_
  refine c_reg ?_
  refine sp (.slice al l.length cl) ?_
  refine sp (.int .i64 k) ?_
  obtain ⟨b4, o5, rfl⟩ := H.addr 0 rfl (by omega)
  refine sw (o_idxAt k Try.underlying22 ti2 rfl rfl (by omega) (by omega) ?_)
  refine sw (o_load1 (.int .i64 (l[k]!)) Try.isAgg2 rfl (H.elemInt 0 rfl k (by omega) (by omega)) ?_)
  refine sw (o_call #[.int .i64 (l[k]!), .int .i64 0, .int .i64 1000] rfl rfl Try.call55 (l00In_ok w2 (l[k]!) 0 1000) ?_)
  rintro _ w6 rfl x7
  replace H := H.ext x7
  refine sp (.bool (!(inR (l[k]!) 0 1000))) ?_
  refine c_nil (t_n ?_)
  refine c_cond (!(inR (l[k]!) 0 1000)) rfl (fun h8 => ?_) (fun h8 => ?_)
  ·skip
   replace h8 := not_true_of h8
   replace h8 := inR_not h8
   refine c_seq ?_
   refine c_reg ?_
   refine sp (.bool false) ?_
   refine c_nil (t_n ?_)
   refine c_ret (b_r (t_r (t_r (b_r (t_r (?_))))))
   refine ret1 (.bool false) rfl rfl ⟨_, rfl, ?_, H.base⟩
   rw [dec_false (fun h => ‹¬ (0 ≤ l[k]! ∧ l[k]! ≤ 1000)› (h.1 k (by omega)))]
  ·skip
   replace h8 := not_false_of h8
   replace h8 := inR_iff.1 h8
   refine c_skip (b_n (t_n ?_))
   refine c_reg ?_
   refine sp (.int .i64 k) ?_
   refine sw (o_add k 1 rfl rfl (by omega) ?_)
   refine sp (.int .i64 (k + 1)) ?_
   refine c_nil (?_)
   refine loop_end (m' := l.length - (k + 1)) (by omega) ⟨_, k + 1, (by exact upd_eq (upd_eq (rfl) rfl) rfl), ?_, ?_, rfl, H⟩
   · omega
   · exact i1.succ ‹_›
 ·skip
  replace h3 := of_decide_eq_false h3
  refine c_exit (t_x (t_x (b_x (t_n ?_))))
  refine c_seq ?_
  refine c_reg ?_
  refine sp (.slice al l.length cl) ?_
  refine sw (o_len Try.underlying22 al l.length cl rfl ?_)
  refine sw (o_call #[.int .i64 l.length, .int .i64 1, .int .i64 8] rfl rfl Try.call55 (l00In_ok w2 l.length 1 8) ?_)
  rintro _ w9 rfl x10
  replace H := H.ext x10
  refine sp (.bool (inR l.length 1 8)) ?_
  refine c_nil (t_n ?_)
  refine c_ret (?_)
  refine ret1 (.bool (inR l.length 1 8)) rfl rfl ⟨_, rfl, ?_, H.base⟩
  obtain rfl : k = l.length := by omega
  refine congrArg Value.bool (dec_eq ?_)
  rw [inR_iff]
  exact ⟨fun h => ⟨i1, by omega, by omega⟩, fun h => by have := h.2; omega⟩

theorem l02Bag_ok (w : World) (s : SystemD) (b : List Int) (bs os : Nat) (asParents : Option Addr) (csParents : Nat) (FsParents : List Nat) (asRules : Option Addr) (csRules : Nat) (FsRules : List Nat) (ab : Option Addr) (cb : Nat) (Fb : List Nat) (hs : CellsAt w bs os [.int .i64 s.fKinds, .slice asParents s.fParents.length csParents, .slice asRules s.fRules.length csRules]) (hsParents : GoRep.rep w FsParents [.slice asParents s.fParents.length csParents] s.fParents) (hsRules : GoRep.rep w FsRules [.slice asRules s.fRules.length csRules] s.fRules) (hb : GoRep.rep w Fb [.slice ab b.length cb] b) : Calls Try.prog 105 #[.pointer (some ⟨bs, os, none⟩), .slice ab b.length cb] w (Ret (fun v w' => v = .bool (dec (BagOk s.fKinds b))) w) := by
 refine enter (n := 16) Try.func105 rfl Try.ntmps105 (Nat.le_of_ble_eq_true rfl) ?_
 have H := St.start w
 replace H := H.add (isF false Fb (.slice ab b.length cb) b) ⟨hb, by simp⟩ (start_lt hb)
 replace H := H.add (isF false FsRules (.slice asRules s.fRules.length csRules) s.fRules) ⟨hsRules, by simp⟩ (start_lt hsRules)
 replace H := H.add (isF false FsParents (.slice asParents s.fParents.length csParents) s.fParents) ⟨hsParents, by simp⟩ (start_lt hsParents)
 replace H := H.add (atF bs os [.int .i64 s.fKinds, .slice asParents s.fParents.length csParents, .slice asRules s.fRules.length csRules]) hs (start_at hs)
 have nhsParents := rep_len hsParents
 have nhsRules := rep_len hsRules
 have nhb := rep_len hb
 clear hs hsParents hsRules hb
 refine c_seq ?_
 refine c_reg ?_
 refine sp (.bool false) ?_
 refine c_nil (t_n ?_)
 refine c_seq ?_
 refine c_reg ?_
 refine sp (.slice ab b.length cb) ?_
 refine sw (o_call #[.slice ab b.length cb] rfl rfl Try.call120 (l01Bag_ok w b ab cb Fb (H.get 3 rfl).1) ?_)
 rintro _ w1 rfl x2
 replace H := H.ext x2
 refine sp (.bool (dec (BagAny b))) ?_
 cases h3 : (dec (BagAny b))
 ·skip
  replace h3 := not_of_dec h3
  refine g_skips [8, 9, 10, 11, 12, 13, 14] ?_
  refine sp (.bool false) ?_
  refine sp (.bool false) ?_
  refine c_nil (t_n ?_)
  refine c_ret (?_)
  refine ret1 (.bool false) rfl rfl ⟨_, rfl, ?_, H.base⟩
  rw [dec_false (fun h => ‹¬ BagAny b› h.1)]
 ·skip
  replace h3 := of_dec h3
  refine g_take 7 rfl rfl ?_
  refine sp (.slice ab b.length cb) ?_
  refine g_take 7 rfl rfl ?_
  refine sw (o_len Try.underlying22 ab b.length cb rfl ?_)
  refine g_take 7 rfl rfl ?_
  refine sp (.pointer (some ⟨bs, os, none⟩)) ?_
  refine g_take 7 rfl rfl ?_
  refine sp (.pointer (some ⟨bs, os, none⟩)) ?_
  refine g_take 7 rfl rfl ?_
  refine sw (o_field bs (os) 0 Try.underlying30 rfl rfl Try.sizeOf2 rfl ?_)
  refine g_take 7 rfl rfl ?_
  refine sw (o_load1 (.int .i64 s.fKinds) Try.isAgg2 rfl (H.cellF 0 rfl 0 rfl) ?_)
  refine g_take 7 rfl rfl ?_
  refine sp (.bool ((b.length : Int) == s.fKinds)) ?_
  refine sp (.bool ((b.length : Int) == s.fKinds)) ?_
  refine sp (.bool ((b.length : Int) == s.fKinds)) ?_
  refine c_nil (t_n ?_)
  refine c_ret (?_)
  refine ret1 (.bool ((b.length : Int) == s.fKinds)) rfl rfl ⟨_, rfl, ?_, H.base⟩
  refine congrArg Value.bool (dec_eq ?_)
  rw [beq_iff_eq]
  exact ⟨fun h => ⟨‹_›, h⟩, fun h => h.2⟩

theorem l02Frame_ok (w : World) (s : SystemD) (bs os : Nat) (asParents : Option Addr) (csParents : Nat) (FsParents : List Nat) (asRules : Option Addr) (csRules : Nat) (FsRules : List Nat) (hs : CellsAt w bs os [.int .i64 s.fKinds, .slice asParents s.fParents.length csParents, .slice asRules s.fRules.length csRules]) (hsParents : GoRep.rep w FsParents [.slice asParents s.fParents.length csParents] s.fParents) (hsRules : GoRep.rep w FsRules [.slice asRules s.fRules.length csRules] s.fRules) : Calls Try.prog 97 #[.pointer (some ⟨bs, os, none⟩)] w (Ret (fun v w' => v = .bool (dec (FrameOk s))) w) := by
 refine enter (n := 48) Try.func97 rfl Try.ntmps97 (Nat.le_of_ble_eq_true rfl) ?_
 have H := St.start w
 replace H := H.add (isF false FsRules (.slice asRules s.fRules.length csRules) s.fRules) ⟨hsRules, by simp⟩ (start_lt hsRules)
 replace H := H.add (isF false FsParents (.slice asParents s.fParents.length csParents) s.fParents) ⟨hsParents, by simp⟩ (start_lt hsParents)
 replace H := H.add (atF bs os [.int .i64 s.fKinds, .slice asParents s.fParents.length csParents, .slice asRules s.fRules.length csRules]) hs (start_at hs)
 have nhsParents := rep_len hsParents
 have nhsRules := rep_len hsRules
 clear hs hsParents hsRules
 refine c_seq ?_
 refine c_reg ?_
 refine sp (.bool false) ?_
 refine c_nil (t_n ?_)
 refine c_seq ?_
 refine c_seq ?_
 refine c_reg ?_
 refine sp (.pointer (some ⟨bs, os, none⟩)) ?_
 refine sp (.pointer (some ⟨bs, os, none⟩)) ?_
 refine sw (o_field bs (os) 0 Try.underlying30 rfl rfl Try.sizeOf2 rfl ?_)
 refine sw (o_load1 (.int .i64 s.fKinds) Try.isAgg2 rfl (H.cellF 0 rfl 0 rfl) ?_)
 refine sw (o_call #[.int .i64 s.fKinds, .int .i64 1, .int .i64 8] rfl rfl Try.call55 (l00In_ok w s.fKinds 1 8) ?_)
 rintro _ w1 rfl x2
 replace H := H.ext x2
 refine sp (.bool (!(inR s.fKinds 1 8))) ?_
 refine sp (.bool (!(inR s.fKinds 1 8))) ?_
 cases h3 : (!(inR s.fKinds 1 8))
 ·skip
  replace h3 := not_false_of h3
  replace h3 := inR_iff.1 h3
  refine g_take 10 rfl rfl ?_
  refine sp (.pointer (some ⟨bs, os, none⟩)) ?_
  refine g_take 10 rfl rfl ?_
  refine sp (.pointer (some ⟨bs, os, none⟩)) ?_
  refine g_take 10 rfl rfl ?_
  refine sw (o_field bs (os) 1 Try.underlying30 rfl rfl Try.sizeOf22 rfl ?_)
  refine g_take 10 rfl rfl ?_
  refine sw (o_load1 (.slice asParents s.fParents.length csParents) Try.isAgg22 rfl (H.cellF 0 rfl 1 rfl) ?_)
  refine g_take 10 rfl rfl ?_
  refine sw (o_len Try.underlying22 asParents s.fParents.length csParents rfl ?_)
  refine g_take 10 rfl rfl ?_
  refine sw (o_call #[.int .i64 s.fParents.length, .int .i64 1, .int .i64 6] rfl rfl Try.call55 (l00In_ok w1 s.fParents.length 1 6) ?_)
  rintro _ w4 rfl x5
  replace H := H.ext x5
  refine g_take 10 rfl rfl ?_
  refine sp (.bool (!(inR s.fParents.length 1 6))) ?_
  refine sp (.bool (!(inR s.fParents.length 1 6))) ?_
  refine sp (.bool (!(inR s.fParents.length 1 6))) ?_
  cases h6 : (!(inR s.fParents.length 1 6))
  ·skip
   replace h6 := not_false_of h6
   replace h6 := inR_iff.1 h6
   refine g_take 19 rfl rfl ?_
   refine sp (.pointer (some ⟨bs, os, none⟩)) ?_
   refine g_take 19 rfl rfl ?_
   refine sp (.pointer (some ⟨bs, os, none⟩)) ?_
   refine g_take 19 rfl rfl ?_
   refine sw (o_field bs (os) 1 Try.underlying30 rfl rfl Try.sizeOf22 rfl ?_)
   refine g_take 19 rfl rfl ?_
   refine sw (o_load1 (.slice asParents s.fParents.length csParents) Try.isAgg22 rfl (H.cellF 0 rfl 1 rfl) ?_)
   refine g_take 19 rfl rfl ?_
   obtain ⟨b7, o8, rfl⟩ := H.addr 1 rfl (by omega)
   refine sw (o_idxAt 0 Try.underlying22 ti2 rfl rfl (by omega) (by omega) ?_)
   refine g_take 19 rfl rfl ?_
   refine sw (o_load1 (.int .i64 (s.fParents[0]!)) Try.isAgg2 rfl (H.elemInt 1 rfl 0 (by omega) (by omega)) ?_)
   refine g_take 19 rfl rfl ?_
   refine sp (.bool ((s.fParents[0]! : Int) != (-1))) ?_
   refine sp (.bool ((s.fParents[0]! : Int) != (-1))) ?_
   refine c_nil (t_n ?_)
   refine c_cond ((s.fParents[0]! : Int) != (-1)) rfl (fun h9 => ?_) (fun h9 => ?_)
   ·skip
    replace h9 := bne_iff_ne.1 h9
    refine c_seq ?_
    refine c_reg ?_
    refine sp (.bool false) ?_
    refine c_nil (t_n ?_)
    refine c_ret (t_r (?_))
    refine ret1 (.bool false) rfl rfl ⟨_, rfl, ?_, H.base⟩
    rw [dec_false (fun h => by obtain ⟨h1, h2, h3, h4⟩ := h; first | omega | (have := h4 k (by omega) (by omega); omega))]
   ·skip
    replace h9 := eq_of_bne_false h9
    refine c_skip (t_n ?_)
    refine c_seq ?_
    refine c_seq ?_
    refine c_reg ?_
    refine sp (.int .i64 1) ?_
    refine c_nil (t_n ?_)
    refine c_block ?_
    refine c_loop (fun m' ρ w10 => ∃ (junk : Env) (k : Nat), ρ = upd (upd junk 0 (.pointer (some ⟨bs, os, none⟩))) 3 (.int .i64 k) ∧ (k ≤ s.fParents.length) ∧ (1 ≤ k) ∧ (FrameTo s k) ∧ m' = s.fParents.length - k ∧ St w w10 [] [atF bs os [.int .i64 s.fKinds, .slice (some ⟨b7, o8, none⟩) s.fParents.length csParents, .slice asRules s.fRules.length csRules], isF false FsParents (.slice (some ⟨b7, o8, none⟩) s.fParents.length csParents) s.fParents, isF false FsRules (.slice asRules s.fRules.length csRules) s.fRules]) (s.fParents.length - 1) ⟨_, 1, (by exact upd_eq (upd_eq (rfl) rfl) rfl), (by omega), (by omega), (by exact FrameTo.one s), rfl, H⟩ ?_
    clear H
    rintro m' ρ w11 ⟨junk, k, rfl, i0, i2, i1, rfl, H⟩
    refine c_seq ?_
    refine c_seq ?_
    refine c_reg ?_
    refine sp (.int .i64 k) ?_
    refine sp (.pointer (some ⟨bs, os, none⟩)) ?_
    refine sp (.pointer (some ⟨bs, os, none⟩)) ?_
    refine sw (o_field bs (os) 1 Try.underlying30 rfl rfl Try.sizeOf22 rfl ?_)
    refine sw (o_load1 (.slice (some ⟨b7, o8, none⟩) s.fParents.length csParents) Try.isAgg22 rfl (H.cellF 0 rfl 1 rfl) ?_)
    refine sw (o_len Try.underlying22 (some ⟨b7, o8, none⟩) s.fParents.length csParents rfl ?_)
    refine sp (.bool (decide ((k : Int) < s.fParents.length))) ?_
    refine c_nil (t_n ?_)
    refine c_cond (decide ((k : Int) < s.fParents.length)) rfl (fun h12 => ?_) (fun h12 => ?_)
    ·skip
     replace h12 := of_decide_eq_true h12
     refine c_skip (t_n ?_)
     refine c_seq ?_
     refine c_block ?_
     refine c_seq ?_
     refine c_reg ?_
     refine sp (.pointer (some ⟨bs, os, none⟩)) ?_
     refine sp (.pointer (some ⟨bs, os, none⟩)) ?_
     refine sw (o_field bs (os) 1 Try.underlying30 rfl rfl Try.sizeOf22 rfl ?_)
     refine sw (o_load1 (.slice (some ⟨b7, o8, none⟩) s.fParents.length csParents) Try.isAgg22 rfl (H.cellF 0 rfl 1 rfl) ?_)
     refine sp (.int .i64 k) ?_
     refine sw (o_idxAt k Try.underlying22 ti2 rfl rfl (by omega) (by omega) ?_)
     refine sw (o_load1 (.int .i64 (s.fParents[k]!)) Try.isAgg2 rfl (H.elemInt 1 rfl k (by omega) (by omega)) ?_)
     refine sp (.int .i64 k) ?_
     refine sw (o_sub k 1 rfl rfl (by omega) ?_)
     refine sw (o_call #[.int .i64 (s.fParents[k]!), .int .i64 0, .int .i64 (k - 1)] rfl rfl Try.call55 (l00In_ok w11 (s.fParents[k]!) 0 (k - 1)) ?_)
     rintro _ w13 rfl x14
     replace H := H.ext x14
     refine sp (.bool (!(inR (s.fParents[k]!) 0 (k - 1)))) ?_
     refine c_nil (t_n ?_)
     refine c_cond (!(inR (s.fParents[k]!) 0 (k - 1))) rfl (fun h15 => ?_) (fun h15 => ?_)
     ·skip
      replace h15 := not_true_of h15
      replace h15 := inR_not h15
      refine c_seq ?_
      refine c_reg ?_
      refine sp (.bool false) ?_
      refine c_nil (t_n ?_)
      refine c_ret (b_r (t_r (t_r (b_r (t_r (?_))))))
      refine ret1 (.bool false) rfl rfl ⟨_, rfl, ?_, H.base⟩
      rw [dec_false (fun h => by obtain ⟨h1, h2, h3, h4⟩ := h; first | omega | (have := h4 k (by omega) (by omega); omega))]
     ·skip
      replace h15 := not_false_of h15
      replace h15 := inR_iff.1 h15
      refine c_skip (b_n (t_n ?_))
      refine c_reg ?_
      refine sp (.int .i64 k) ?_
      refine sw (o_add k 1 rfl rfl (by omega) ?_)
      refine sp (.int .i64 (k + 1)) ?_
      refine c_nil (?_)
      refine loop_end (m' := s.fParents.length - (k + 1)) (by omega) ⟨_, k + 1, (by exact upd_eq (upd_eq (rfl) rfl) rfl), ?_, ?_, ?_, rfl, H⟩
      · omega
      · omega
      · exact i1.succ ‹_›
    ·skip
     replace h12 := of_decide_eq_false h12
     refine c_exit (t_x (t_x (b_x (t_n ?_))))
     refine c_seq ?_
     refine c_reg ?_
     refine sp (.bool true) ?_
     refine c_nil (t_n ?_)
     refine c_ret (?_)
     refine ret1 (.bool true) rfl rfl ⟨_, rfl, ?_, H.base⟩
     obtain rfl : k = s.fParents.length := by omega
     rw [dec_true ⟨by omega, by omega, by omega, i1⟩]
  ·skip
   replace h6 := not_true_of h6
   replace h6 := inR_not h6
   refine g_skips [20, 21, 22, 23, 24, 25, 26] ?_
   refine sp (.bool true) ?_
   refine c_nil (t_n ?_)
   refine c_cond true rfl (fun _ => ?_) (fun h => absurd h (by decide))
   refine c_seq ?_
   refine c_reg ?_
   refine sp (.bool false) ?_
   refine c_nil (t_n ?_)
   refine c_ret (t_r (?_))
   refine ret1 (.bool false) rfl rfl ⟨_, rfl, ?_, H.base⟩
   rw [dec_false (fun h => by obtain ⟨h1, h2, h3, h4⟩ := h; first | omega | (have := h4 k (by omega) (by omega); omega))]
 ·skip
  replace h3 := not_true_of h3
  replace h3 := inR_not h3
  refine g_skips [11, 12, 13, 14, 15, 16, 17] ?_
  refine sp (.bool true) ?_
  refine sp (.bool true) ?_
  refine g_skips [20, 21, 22, 23, 24, 25, 26] ?_
  refine sp (.bool true) ?_
  refine c_nil (t_n ?_)
  refine c_cond true rfl (fun _ => ?_) (fun h => absurd h (by decide))
  refine c_seq ?_
  refine c_reg ?_
  refine sp (.bool false) ?_
  refine c_nil (t_n ?_)
  refine c_ret (t_r (?_))
  refine ret1 (.bool false) rfl rfl ⟨_, rfl, ?_, H.base⟩
  rw [dec_false (fun h => by obtain ⟨h1, h2, h3, h4⟩ := h; first | omega | (have := h4 k (by omega) (by omega); omega))]

theorem l02In_ok (w : World) (s : SystemD) (c : Int) (other : Int) (bs os : Nat) (asParents : Option Addr) (csParents : Nat) (FsParents : List Nat) (asRules : Option Addr) (csRules : Nat) (FsRules : List Nat) (hs : CellsAt w bs os [.int .i64 s.fKinds, .slice asParents s.fParents.length csParents, .slice asRules s.fRules.length csRules]) (hsParents : GoRep.rep w FsParents [.slice asParents s.fParents.length csParents] s.fParents) (hsRules : GoRep.rep w FsRules [.slice asRules s.fRules.length csRules] s.fRules) (p0 : FrameOk s) (p1 : CellIn s c) : Calls Try.prog 117 #[.pointer (some ⟨bs, os, none⟩), .int .i64 c, .int .i64 other] w (Ret (fun v w' => v = .bool (dec (Lies s.fParents other c))) w) := by
 refine enter (n := 19) Try.func117 rfl Try.ntmps117 (Nat.le_of_ble_eq_true rfl) ?_
 have H := St.start w
 replace H := H.add (isF false FsRules (.slice asRules s.fRules.length csRules) s.fRules) ⟨hsRules, by simp⟩ (start_lt hsRules)
 replace H := H.add (isF false FsParents (.slice asParents s.fParents.length csParents) s.fParents) ⟨hsParents, by simp⟩ (start_lt hsParents)
 replace H := H.add (atF bs os [.int .i64 s.fKinds, .slice asParents s.fParents.length csParents, .slice asRules s.fRules.length csRules]) hs (start_at hs)
 have nhsParents := rep_len hsParents
 have nhsRules := rep_len hsRules
 clear hs hsParents hsRules
 refine c_seq ?_
 refine c_reg ?_
 refine sp (.bool false) ?_
 refine c_nil (t_n ?_)
 refine c_seq ?_
 refine c_block ?_
 refine c_loop (fun m' ρ w1 => ∃ (junk : Env) (y : Int), ρ = upd (upd (upd junk 0 (.pointer (some ⟨bs, os, none⟩))) 1 (.int .i64 y)) 2 (.int .i64 other) ∧ (0 ≤ y ∧ y ≤ (s.fParents.length : Int) - 1) ∧ (Lies s.fParents other c ↔ Lies s.fParents other y) ∧ m' = y.toNat ∧ St w w1 [] [atF bs os [.int .i64 s.fKinds, .slice asParents s.fParents.length csParents, .slice asRules s.fRules.length csRules], isF false FsParents (.slice asParents s.fParents.length csParents) s.fParents, isF false FsRules (.slice asRules s.fRules.length csRules) s.fRules]) (c.toNat) ⟨_, c, (by exact upd_eq (upd_eq (upd_eq (rfl) rfl) rfl) rfl), (by exact p1), (by exact Iff.rfl), rfl, H⟩ ?_
 clear H
 rintro m' ρ w2 ⟨junk, y, rfl, i0, i1, rfl, H⟩
 have up := fun h => p0.up (c := y) h i0.2
 refine c_seq ?_
 refine c_seq ?_
 refine c_reg ?_
 refine sp (.int .i64 y) ?_
 refine sp (.bool (decide ((y : Int) > 0))) ?_
 refine c_nil (t_n ?_)
 refine c_cond (decide ((y : Int) > 0)) rfl (fun h3 => ?_) (fun h3 => ?_)
 ·skip
  replace h3 := of_decide_eq_true h3
  refine c_skip (t_n ?_)
  refine c_block ?_
  refine c_seq ?_
  refine c_reg ?_
  refine sp (.pointer (some ⟨bs, os, none⟩)) ?_
  refine sp (.pointer (some ⟨bs, os, none⟩)) ?_
  refine sw (o_field bs (os) 1 Try.underlying30 rfl rfl Try.sizeOf22 rfl ?_)
  refine sw (o_load1 (.slice asParents s.fParents.length csParents) Try.isAgg22 rfl (H.cellF 0 rfl 1 rfl) ?_)
  refine sp (.int .i64 y) ?_
  obtain ⟨b4, o5, rfl⟩ := H.addr 1 rfl (by omega)
  refine sw (o_idxAt y Try.underlying22 ti2 rfl rfl (by omega) (by omega) ?_)
  refine sw (o_load1 (.int .i64 (s.fParents[y.toNat]!)) Try.isAgg2 rfl (H.elemInt 1 rfl y (by omega) (by omega)) ?_)
  refine sp (.int .i64 (s.fParents[y.toNat]!)) ?_
  refine c_nil (t_n ?_)
  refine c_seq ?_
  refine c_reg ?_
  refine sp (.int .i64 (s.fParents[y.toNat]!)) ?_
  refine sp (.int .i64 other) ?_
  refine sp (.bool ((s.fParents[y.toNat]! : Int) == other)) ?_
  refine c_nil (t_n ?_)
  refine c_cond ((s.fParents[y.toNat]! : Int) == other) rfl (fun h6 => ?_) (fun h6 => ?_)
  ·skip
   replace h6 := eq_of_beq h6
   refine c_seq ?_
   refine c_reg ?_
   refine sp (.bool true) ?_
   refine c_nil (t_n ?_)
   refine c_ret (b_r (t_r (b_r (t_r (?_)))))
   refine ret1 (.bool true) rfl rfl ⟨_, rfl, ?_, H.base⟩
   rw [dec_true (i1.2 (.here (by omega) ‹_›))]
  ·skip
   replace h6 := ne_of_beq_false h6
   refine c_skip (b_n (?_))
   have up1 := up (by omega)
   refine loop_end (m' := (s.fParents[y.toNat]!).toNat) (by omega) ⟨_, (s.fParents[y.toNat]!), (by exact upd_eq (upd_eq (upd_eq (rfl) rfl) rfl) rfl), ?_, ?_, rfl, H⟩
   · have := up (by omega); omega
   · exact i1.trans (lies_iff.trans ⟨fun h => h.2.resolve_left ‹_›, fun h => ⟨by omega, .inr h⟩⟩)
 ·skip
  replace h3 := of_decide_eq_false h3
  refine c_exit (t_x (t_x (b_x (t_n ?_))))
  refine c_seq ?_
  refine c_reg ?_
  refine sp (.bool false) ?_
  refine c_nil (t_n ?_)
  refine c_ret (?_)
  refine ret1 (.bool false) rfl rfl ⟨_, rfl, ?_, H.base⟩
  rw [dec_false (fun h => by have := (lies_iff.1 (i1.1 h)).1; omega)]

theorem l02Rule_ok (w : World) (s : SystemD) (r : RuleD) (bs os : Nat) (asParents : Option Addr) (csParents : Nat) (FsParents : List Nat) (asRules : Option Addr) (csRules : Nat) (FsRules : List Nat) (br or : Nat) (arNeed : Option Addr) (crNeed : Nat) (FrNeed : List Nat) (arHave : Option Addr) (crHave : Nat) (FrHave : List Nat) (arLack : Option Addr) (crLack : Nat) (FrLack : List Nat) (arHere : Option Addr) (crHere : Nat) (FrHere : List Nat) (arOut : Option Addr) (crOut : Nat) (FrOut : List Nat) (arInto : Option Addr) (crInto : Nat) (FrInto : List Nat) (hs : CellsAt w bs os [.int .i64 s.fKinds, .slice asParents s.fParents.length csParents, .slice asRules s.fRules.length csRules]) (hsParents : GoRep.rep w FsParents [.slice asParents s.fParents.length csParents] s.fParents) (hsRules : GoRep.rep w FsRules [.slice asRules s.fRules.length csRules] s.fRules) (hr : CellsAt w br or [.int .i64 r.fCell, .int .i64 r.fRank, .slice arNeed r.fNeed.length crNeed, .slice arHave r.fHave.length crHave, .slice arLack r.fLack.length crLack, .slice arHere r.fHere.length crHere, .slice arOut r.fOut.length crOut, .slice arInto r.fInto.length crInto, .bool r.fMelts]) (hrNeed : GoRep.rep w FrNeed [.slice arNeed r.fNeed.length crNeed] r.fNeed) (hrHave : GoRep.rep w FrHave [.slice arHave r.fHave.length crHave] r.fHave) (hrLack : GoRep.rep w FrLack [.slice arLack r.fLack.length crLack] r.fLack) (hrHere : GoRep.rep w FrHere [.slice arHere r.fHere.length crHere] r.fHere) (hrOut : GoRep.rep w FrOut [.slice arOut r.fOut.length crOut] r.fOut) (hrInto : GoRep.rep w FrInto [.slice arInto r.fInto.length crInto] r.fInto) (p0 : FrameOk s) : Calls Try.prog 98 #[.pointer (some ⟨bs, os, none⟩), .pointer (some ⟨br, or, none⟩)] w (Ret (fun v w' => v = .bool (dec (RuleOk s r))) w) := by
 refine enter (n := 174) Try.func98 rfl Try.ntmps98 (Nat.le_of_ble_eq_true rfl) ?_
 have H := St.start w
 replace H := H.add (isF false FrInto (.slice arInto r.fInto.length crInto) r.fInto) ⟨hrInto, by simp⟩ (start_lt hrInto)
 replace H := H.add (isF false FrOut (.slice arOut r.fOut.length crOut) r.fOut) ⟨hrOut, by simp⟩ (start_lt hrOut)
 replace H := H.add (isF false FrHere (.slice arHere r.fHere.length crHere) r.fHere) ⟨hrHere, by simp⟩ (start_lt hrHere)
 replace H := H.add (isF false FrLack (.slice arLack r.fLack.length crLack) r.fLack) ⟨hrLack, by simp⟩ (start_lt hrLack)
 replace H := H.add (isF false FrHave (.slice arHave r.fHave.length crHave) r.fHave) ⟨hrHave, by simp⟩ (start_lt hrHave)
 replace H := H.add (isF false FrNeed (.slice arNeed r.fNeed.length crNeed) r.fNeed) ⟨hrNeed, by simp⟩ (start_lt hrNeed)
 replace H := H.add (atF br or [.int .i64 r.fCell, .int .i64 r.fRank, .slice arNeed r.fNeed.length crNeed, .slice arHave r.fHave.length crHave, .slice arLack r.fLack.length crLack, .slice arHere r.fHere.length crHere, .slice arOut r.fOut.length crOut, .slice arInto r.fInto.length crInto, .bool r.fMelts]) hr (start_at hr)
 replace H := H.add (isF false FsRules (.slice asRules s.fRules.length csRules) s.fRules) ⟨hsRules, by simp⟩ (start_lt hsRules)
 replace H := H.add (isF false FsParents (.slice asParents s.fParents.length csParents) s.fParents) ⟨hsParents, by simp⟩ (start_lt hsParents)
 replace H := H.add (atF bs os [.int .i64 s.fKinds, .slice asParents s.fParents.length csParents, .slice asRules s.fRules.length csRules]) hs (start_at hs)
 have nhsParents := rep_len hsParents
 have nhsRules := rep_len hsRules
 have nhrNeed := rep_len hrNeed
 have nhrHave := rep_len hrHave
 have nhrLack := rep_len hrLack
 have nhrHere := rep_len hrHere
 have nhrOut := rep_len hrOut
 have nhrInto := rep_len hrInto
 clear hs hsParents hsRules hr hrNeed hrHave hrLack hrHere hrOut hrInto
 refine c_seq ?_
 refine c_reg ?_
 refine sp (.bool false) ?_
 refine c_nil (t_n ?_)
 refine c_seq ?_
 refine c_seq ?_
 refine c_drawH rfl H fun H => ?_
 refine rtp 0 (.pointer (some ⟨br, or, none⟩)) H ?_
 refine rtp 1 (.pointer (some ⟨br, or, none⟩)) H ?_
 refine rt 2 (.pointer (some ⟨br, or + 0, none⟩)) (y_field br (or) 0 Try.underlying92 rfl rfl Try.sizeOf2 rfl) H ?_
 refine rt 3 (.int .i64 r.fCell) (y_load1 Try.isAgg2 rfl (fun _ h => h.cellF 3 rfl 0 rfl)) H ?_
 refine rtp 4 (.pointer (some ⟨bs, os, none⟩)) H ?_
 refine rtp 5 (.pointer (some ⟨bs, os, none⟩)) H ?_
 refine rt 6 (.pointer (some ⟨bs, os + 1, none⟩)) (y_field bs (os) 1 Try.underlying30 rfl rfl Try.sizeOf22 rfl) H ?_
 refine rt 7 (.slice asParents s.fParents.length csParents) (y_load1 Try.isAgg22 rfl (fun _ h => h.cellF 0 rfl 1 rfl)) H ?_
 refine rt 8 (.int .i64 s.fParents.length) (y_len Try.underlying22 asParents s.fParents.length csParents rfl) H ?_
 refine rt 9 (.int .i64 (s.fParents.length - 1)) (y_sub s.fParents.length 1 rfl rfl (by omega)) H ?_
 refine r_ops [10] (by kernel_rfl) (by simp) (r_op rfl ?_ r_nil)
 refine o_call #[.int .i64 r.fCell, .int .i64 0, .int .i64 (s.fParents.length - 1)] rfl rfl Try.call55 (l00In_ok w.drew r.fCell 0 (s.fParents.length - 1)) ?_
 rintro _ w2 rfl x3
 replace H := H.ext x3
 refine ⟨H, ?_⟩
 refine rtp 11 (.bool (!(inR r.fCell 0 (s.fParents.length - 1)))) H ?_
 refine rtp 12 (.bool (!(inR r.fCell 0 (s.fParents.length - 1)))) H ?_
 cases h4 : (!(inR r.fCell 0 (s.fParents.length - 1)))
 ·skip
  replace h4 := not_false_of h4
  replace h4 := inR_iff.1 h4
  refine rgp 13 (.pointer (some ⟨br, or, none⟩)) 19 H ?_
  refine rgp 14 (.pointer (some ⟨br, or, none⟩)) 19 H ?_
  refine rg 15 (.pointer (some ⟨br, or + 1, none⟩)) 19 (y_field br (or) 1 Try.underlying92 rfl rfl Try.sizeOf2 rfl) H ?_
  refine rg 16 (.int .i64 r.fRank) 19 (y_load1 Try.isAgg2 rfl (fun _ h => h.cellF 3 rfl 1 rfl)) H ?_
  refine r_ops [17] (by kernel_rfl) (by simp) (r_opG rfl (e := 19) rfl rfl ?_ r_nil)
  refine o_call #[.int .i64 r.fRank, .int .i64 0, .int .i64 9] rfl rfl Try.call55 (l00In_ok w2 r.fRank 0 9) ?_
  rintro _ w5 rfl x6
  replace H := H.ext x6
  refine ⟨H, ?_⟩
  refine rgp 18 (.bool (!(inR r.fRank 0 9))) 19 H ?_
  refine rtp 19 (.bool (!(inR r.fRank 0 9))) H ?_
  refine rtp 20 (.bool (!(inR r.fRank 0 9))) H ?_
  cases h7 : (!(inR r.fRank 0 9))
  ·skip
   replace h7 := not_false_of h7
   replace h7 := inR_iff.1 h7
   refine rgp 21 (.pointer (some ⟨br, or, none⟩)) 27 H ?_
   refine rgp 22 (.pointer (some ⟨br, or, none⟩)) 27 H ?_
   refine rg 23 (.pointer (some ⟨br, or + 8, none⟩)) 27 (y_field br (or) 8 Try.underlying92 rfl rfl Try.sizeOf4 rfl) H ?_
   refine rg 24 (.bool r.fMelts) 27 (y_load1 Try.isAgg4 rfl (fun _ h => h.cellF 3 rfl 8 rfl)) H ?_
   refine rgp 25 (.bool r.fMelts) 27 H ?_
   cases h8 : (r.fMelts)
   ·skip
    rw [h8] at H
    refine r_skips [26, 27, 28, 29, 30] 5 (H) ?_
    refine rgp 31 (.bool false) 27 H ?_
    refine rtp 32 (.bool false) H ?_
    refine rtp 33 (.bool false) H ?_
    refine rgp 34 (.pointer (some ⟨br, or, none⟩)) 40 H ?_
    refine rgp 35 (.pointer (some ⟨br, or, none⟩)) 40 H ?_
    refine rg 36 (.pointer (some ⟨br, or + 7, none⟩)) 40 (y_field br (or) 7 Try.underlying92 rfl rfl Try.sizeOf90 rfl) H ?_
    refine rg 37 (.slice arInto r.fInto.length crInto) 40 (y_load1 Try.isAgg90 rfl (fun _ h => h.cellF 3 rfl 7 rfl)) H ?_
    refine rg 38 (.int .i64 r.fInto.length) 40 (y_len Try.underlying90 arInto r.fInto.length crInto rfl) H ?_
    refine rgp 39 (.bool (decide ((r.fInto.length : Int) > 3))) 40 H ?_
    refine rtp 40 (.bool (decide ((r.fInto.length : Int) > 3))) H ?_
    refine r_done (by kernel_rfl) (t_n ?_)
    refine c_cond (decide ((r.fInto.length : Int) > 3)) rfl (fun h9 => ?_) (fun h9 => ?_)
    ·skip
     replace h9 := of_decide_eq_true h9
     refine c_seq ?_
     refine c_reg ?_
     refine sp (.bool false) ?_
     refine c_nil (t_n ?_)
     refine c_ret (t_r (?_))
     refine ret1 (.bool false) rfl rfl ⟨_, rfl, ?_, H.base⟩
     rw [dec_false (fun h => by obtain ⟨h1, h2, h3, h4, h5, h6, h7, h8, h9, h10, h11⟩ := h; first | contradiction | omega | exact h3 ⟨‹_›, ‹_›⟩ | (obtain ⟨q1, q2, q3, q4, q5⟩ := h11 k (by omega); first | contradiction | omega | (have := q5 (by omega); omega)))]
    ·skip
     replace h9 := of_decide_eq_false h9
     refine c_skip (t_n ?_)
     refine c_seq ?_
     refine c_seq ?_
     refine c_reg ?_
     refine sp (.pointer (some ⟨bs, os, none⟩)) ?_
     refine sp (.pointer (some ⟨br, or, none⟩)) ?_
     refine sp (.pointer (some ⟨br, or, none⟩)) ?_
     refine sw (o_field br (or) 2 Try.underlying92 rfl rfl Try.sizeOf22 rfl ?_)
     refine sw (o_load1 (.slice arNeed r.fNeed.length crNeed) Try.isAgg22 rfl (H.cellF 3 rfl 2 rfl) ?_)
     refine sw (o_call #[.pointer (some ⟨bs, os, none⟩), .slice arNeed r.fNeed.length crNeed] rfl rfl Try.call105 (l02Bag_ok w5 s r.fNeed bs os asParents csParents FsParents asRules csRules FsRules arNeed crNeed FrNeed (cellsAt_sub (H.get 0 rfl) 0 3) (H.get 1 rfl).1 (H.get 2 rfl).1 (H.get 4 rfl).1) ?_)
     rintro _ w10 rfl x11
     replace H := H.ext x11
     refine sp (.bool (!(dec (BagOk s.fKinds r.fNeed)))) ?_
     refine sp (.bool (!(dec (BagOk s.fKinds r.fNeed)))) ?_
     cases h12 : (!(dec (BagOk s.fKinds r.fNeed)))
     ·skip
      replace h12 := not_false_of h12
      replace h12 := of_dec h12
      refine g_take 55 rfl rfl ?_
      refine sp (.pointer (some ⟨bs, os, none⟩)) ?_
      refine g_take 55 rfl rfl ?_
      refine sp (.pointer (some ⟨br, or, none⟩)) ?_
      refine g_take 55 rfl rfl ?_
      refine sp (.pointer (some ⟨br, or, none⟩)) ?_
      refine g_take 55 rfl rfl ?_
      refine sw (o_field br (or) 3 Try.underlying92 rfl rfl Try.sizeOf22 rfl ?_)
      refine g_take 55 rfl rfl ?_
      refine sw (o_load1 (.slice arHave r.fHave.length crHave) Try.isAgg22 rfl (H.cellF 3 rfl 3 rfl) ?_)
      refine g_take 55 rfl rfl ?_
      refine sw (o_call #[.pointer (some ⟨bs, os, none⟩), .slice arHave r.fHave.length crHave] rfl rfl Try.call105 (l02Bag_ok w10 s r.fHave bs os asParents csParents FsParents asRules csRules FsRules arHave crHave FrHave (cellsAt_sub (H.get 0 rfl) 0 3) (H.get 1 rfl).1 (H.get 2 rfl).1 (H.get 5 rfl).1) ?_)
      rintro _ w13 rfl x14
      replace H := H.ext x14
      refine g_take 55 rfl rfl ?_
      refine sp (.bool (!(dec (BagOk s.fKinds r.fHave)))) ?_
      refine sp (.bool (!(dec (BagOk s.fKinds r.fHave)))) ?_
      refine sp (.bool (!(dec (BagOk s.fKinds r.fHave)))) ?_
      cases h15 : (!(dec (BagOk s.fKinds r.fHave)))
      ·skip
       replace h15 := not_false_of h15
       replace h15 := of_dec h15
       refine g_take 64 rfl rfl ?_
       refine sp (.pointer (some ⟨bs, os, none⟩)) ?_
       refine g_take 64 rfl rfl ?_
       refine sp (.pointer (some ⟨br, or, none⟩)) ?_
       refine g_take 64 rfl rfl ?_
       refine sp (.pointer (some ⟨br, or, none⟩)) ?_
       refine g_take 64 rfl rfl ?_
       refine sw (o_field br (or) 4 Try.underlying92 rfl rfl Try.sizeOf22 rfl ?_)
       refine g_take 64 rfl rfl ?_
       refine sw (o_load1 (.slice arLack r.fLack.length crLack) Try.isAgg22 rfl (H.cellF 3 rfl 4 rfl) ?_)
       refine g_take 64 rfl rfl ?_
       refine sw (o_call #[.pointer (some ⟨bs, os, none⟩), .slice arLack r.fLack.length crLack] rfl rfl Try.call105 (l02Bag_ok w13 s r.fLack bs os asParents csParents FsParents asRules csRules FsRules arLack crLack FrLack (cellsAt_sub (H.get 0 rfl) 0 3) (H.get 1 rfl).1 (H.get 2 rfl).1 (H.get 6 rfl).1) ?_)
       rintro _ w16 rfl x17
       replace H := H.ext x17
       refine g_take 64 rfl rfl ?_
       refine sp (.bool (!(dec (BagOk s.fKinds r.fLack)))) ?_
       refine sp (.bool (!(dec (BagOk s.fKinds r.fLack)))) ?_
       refine sp (.bool (!(dec (BagOk s.fKinds r.fLack)))) ?_
       cases h18 : (!(dec (BagOk s.fKinds r.fLack)))
       ·skip
        replace h18 := not_false_of h18
        replace h18 := of_dec h18
        refine g_take 73 rfl rfl ?_
        refine sp (.pointer (some ⟨bs, os, none⟩)) ?_
        refine g_take 73 rfl rfl ?_
        refine sp (.pointer (some ⟨br, or, none⟩)) ?_
        refine g_take 73 rfl rfl ?_
        refine sp (.pointer (some ⟨br, or, none⟩)) ?_
        refine g_take 73 rfl rfl ?_
        refine sw (o_field br (or) 5 Try.underlying92 rfl rfl Try.sizeOf22 rfl ?_)
        refine g_take 73 rfl rfl ?_
        refine sw (o_load1 (.slice arHere r.fHere.length crHere) Try.isAgg22 rfl (H.cellF 3 rfl 5 rfl) ?_)
        refine g_take 73 rfl rfl ?_
        refine sw (o_call #[.pointer (some ⟨bs, os, none⟩), .slice arHere r.fHere.length crHere] rfl rfl Try.call105 (l02Bag_ok w16 s r.fHere bs os asParents csParents FsParents asRules csRules FsRules arHere crHere FrHere (cellsAt_sub (H.get 0 rfl) 0 3) (H.get 1 rfl).1 (H.get 2 rfl).1 (H.get 7 rfl).1) ?_)
        rintro _ w19 rfl x20
        replace H := H.ext x20
        refine g_take 73 rfl rfl ?_
        refine sp (.bool (!(dec (BagOk s.fKinds r.fHere)))) ?_
        refine sp (.bool (!(dec (BagOk s.fKinds r.fHere)))) ?_
        refine sp (.bool (!(dec (BagOk s.fKinds r.fHere)))) ?_
        cases h21 : (!(dec (BagOk s.fKinds r.fHere)))
        ·skip
         replace h21 := not_false_of h21
         replace h21 := of_dec h21
         refine g_take 82 rfl rfl ?_
         refine sp (.pointer (some ⟨bs, os, none⟩)) ?_
         refine g_take 82 rfl rfl ?_
         refine sp (.pointer (some ⟨br, or, none⟩)) ?_
         refine g_take 82 rfl rfl ?_
         refine sp (.pointer (some ⟨br, or, none⟩)) ?_
         refine g_take 82 rfl rfl ?_
         refine sw (o_field br (or) 6 Try.underlying92 rfl rfl Try.sizeOf22 rfl ?_)
         refine g_take 82 rfl rfl ?_
         refine sw (o_load1 (.slice arOut r.fOut.length crOut) Try.isAgg22 rfl (H.cellF 3 rfl 6 rfl) ?_)
         refine g_take 82 rfl rfl ?_
         refine sw (o_call #[.pointer (some ⟨bs, os, none⟩), .slice arOut r.fOut.length crOut] rfl rfl Try.call105 (l02Bag_ok w19 s r.fOut bs os asParents csParents FsParents asRules csRules FsRules arOut crOut FrOut (cellsAt_sub (H.get 0 rfl) 0 3) (H.get 1 rfl).1 (H.get 2 rfl).1 (H.get 8 rfl).1) ?_)
         rintro _ w22 rfl x23
         replace H := H.ext x23
         refine g_take 82 rfl rfl ?_
         refine sp (.bool (!(dec (BagOk s.fKinds r.fOut)))) ?_
         refine sp (.bool (!(dec (BagOk s.fKinds r.fOut)))) ?_
         refine sp (.bool (!(dec (BagOk s.fKinds r.fOut)))) ?_
         cases h24 : (!(dec (BagOk s.fKinds r.fOut)))
         ·skip
          replace h24 := not_false_of h24
          replace h24 := of_dec h24
          refine g_take 91 rfl rfl ?_
          refine sp (.pointer (some ⟨br, or, none⟩)) ?_
          refine g_take 91 rfl rfl ?_
          refine sp (.pointer (some ⟨br, or, none⟩)) ?_
          refine g_take 91 rfl rfl ?_
          refine sw (o_field br (or) 2 Try.underlying92 rfl rfl Try.sizeOf22 rfl ?_)
          refine g_take 91 rfl rfl ?_
          refine sw (o_load1 (.slice arNeed r.fNeed.length crNeed) Try.isAgg22 rfl (H.cellF 3 rfl 2 rfl) ?_)
          refine g_take 91 rfl rfl ?_
          refine sw (o_call #[.slice arNeed r.fNeed.length crNeed] rfl rfl Try.call106 (l01Size_ok w22 r.fNeed arNeed crNeed FrNeed (H.get 4 rfl).1 (by first | assumption | exact bagOk_small (by assumption) | exact bag_small (by assumption))) ?_)
          rintro _ w25 rfl x26
          replace H := H.ext x26
          refine g_take 91 rfl rfl ?_
          refine sp (.bool ((sumL r.fNeed : Int) == 0)) ?_
          refine sp (.bool ((sumL r.fNeed : Int) == 0)) ?_
          refine c_nil (t_n ?_)
          refine c_cond ((sumL r.fNeed : Int) == 0) rfl (fun h27 => ?_) (fun h27 => ?_)
          ·skip
           replace h27 := eq_of_beq h27
           refine c_seq ?_
           refine c_reg ?_
           refine sp (.bool false) ?_
           refine c_nil (t_n ?_)
           refine c_ret (t_r (?_))
           refine ret1 (.bool false) rfl rfl ⟨_, rfl, ?_, H.base⟩
           rw [dec_false (fun h => by obtain ⟨h1, h2, h3, h4, h5, h6, h7, h8, h9, h10, h11⟩ := h; first | contradiction | omega | exact h3 ⟨‹_›, ‹_›⟩ | (obtain ⟨q1, q2, q3, q4, q5⟩ := h11 k (by omega); first | contradiction | omega | (have := q5 (by omega); omega)))]
          ·skip
           replace h27 := ne_of_beq_false h27
           refine c_skip (t_n ?_)
           refine c_seq ?_
           refine c_seq ?_
           refine c_reg ?_
           refine sp (.int .i64 0) ?_
           refine c_nil (t_n ?_)
           refine c_block ?_
           refine c_loop (fun m' ρ w28 => ∃ (junk : Env) (k : Nat), ρ = upd (upd (upd junk 0 (.pointer (some ⟨bs, os, none⟩))) 1 (.pointer (some ⟨br, or, none⟩))) 5 (.int .i64 k) ∧ (k ≤ r.fInto.length) ∧ (IntosTo s r k) ∧ m' = r.fInto.length - k ∧ St w w28 [] [atF bs os [.int .i64 s.fKinds, .slice asParents s.fParents.length csParents, .slice asRules s.fRules.length csRules], isF false FsParents (.slice asParents s.fParents.length csParents) s.fParents, isF false FsRules (.slice asRules s.fRules.length csRules) s.fRules, atF br or [.int .i64 r.fCell, .int .i64 r.fRank, .slice arNeed r.fNeed.length crNeed, .slice arHave r.fHave.length crHave, .slice arLack r.fLack.length crLack, .slice arHere r.fHere.length crHere, .slice arOut r.fOut.length crOut, .slice arInto r.fInto.length crInto, .bool false], isF false FrNeed (.slice arNeed r.fNeed.length crNeed) r.fNeed, isF false FrHave (.slice arHave r.fHave.length crHave) r.fHave, isF false FrLack (.slice arLack r.fLack.length crLack) r.fLack, isF false FrHere (.slice arHere r.fHere.length crHere) r.fHere, isF false FrOut (.slice arOut r.fOut.length crOut) r.fOut, isF false FrInto (.slice arInto r.fInto.length crInto) r.fInto]) (r.fInto.length - 0) ⟨_, 0, (by exact upd_eq (upd_eq (upd_eq (rfl) rfl) rfl) rfl), (by omega), (by exact fun j hj => by omega), rfl, H⟩ ?_
           clear H
           rintro m' ρ w29 ⟨junk, k, rfl, i0, i1, rfl, H⟩
           refine c_seq ?_
           refine c_seq ?_
           refine c_reg ?_
           refine sp (.int .i64 k) ?_
           refine sp (.pointer (some ⟨br, or, none⟩)) ?_
           refine sp (.pointer (some ⟨br, or, none⟩)) ?_
           refine sw (o_field br (or) 7 Try.underlying92 rfl rfl Try.sizeOf90 rfl ?_)
           refine sw (o_load1 (.slice arInto r.fInto.length crInto) Try.isAgg90 rfl (H.cellF 3 rfl 7 rfl) ?_)
           refine sw (o_len Try.underlying90 arInto r.fInto.length crInto rfl ?_)
           refine sp (.bool (decide ((k : Int) < r.fInto.length))) ?_
           refine c_nil (t_n ?_)
           refine c_cond (decide ((k : Int) < r.fInto.length)) rfl (fun h30 => ?_) (fun h30 => ?_)
           ·skip
            replace h30 := of_decide_eq_true h30
            refine c_skip (t_n ?_)
            refine c_seq ?_
            refine c_block ?_
            refine c_seq ?_
            refine c_reg ?_
            refine sp (.pointer (some ⟨br, or, none⟩)) ?_
            refine sp (.pointer (some ⟨br, or, none⟩)) ?_
            refine sw (o_field br (or) 7 Try.underlying92 rfl rfl Try.sizeOf90 rfl ?_)
            refine sw (o_load1 (.slice arInto r.fInto.length crInto) Try.isAgg90 rfl (H.cellF 3 rfl 7 rfl) ?_)
            refine sp (.int .i64 k) ?_
            obtain ⟨b31, o32, rfl⟩ := H.addr 9 rfl (by omega)
            obtain ⟨ae33Bag, ce33Bag, Fe33Bag, H⟩ := H.elem_IntoD 9 rfl k k (by omega) (by omega) (by omega)
            refine sw (o_idxAt k Try.underlying90 ti108 rfl rfl (by omega) (by omega) ?_)
            refine sp (.pointer (some ⟨b31, o32 + (k : Int).toNat * 2, none⟩)) ?_
            refine c_nil (t_n ?_)
            refine c_seq ?_
            refine c_seq ?_
            refine c_drawH rfl H fun H => ?_
            refine rtp 0 (.pointer (some ⟨b31, o32 + (k : Int).toNat * 2, none⟩)) H ?_
            refine rtp 1 (.pointer (some ⟨b31, o32 + (k : Int).toNat * 2, none⟩)) H ?_
            refine rt 2 (.pointer (some ⟨b31, o32 + (k : Int).toNat * 2 + 0, none⟩)) (y_field b31 (o32 + (k : Int).toNat * 2) 0 Try.underlying108 rfl rfl Try.sizeOf2 rfl) H ?_
            refine rt 3 (.int .i64 ((r.fInto[k]!).fCell)) (y_load1 Try.isAgg2 rfl (fun _ h => h.cellF 1 rfl 0 rfl)) H ?_
            refine rtp 4 (.pointer (some ⟨bs, os, none⟩)) H ?_
            refine rtp 5 (.pointer (some ⟨bs, os, none⟩)) H ?_
            refine rt 6 (.pointer (some ⟨bs, os + 1, none⟩)) (y_field bs (os) 1 Try.underlying30 rfl rfl Try.sizeOf22 rfl) H ?_
            refine rt 7 (.slice asParents s.fParents.length csParents) (y_load1 Try.isAgg22 rfl (fun _ h => h.cellF 2 rfl 1 rfl)) H ?_
            refine rt 8 (.int .i64 s.fParents.length) (y_len Try.underlying22 asParents s.fParents.length csParents rfl) H ?_
            refine rt 9 (.int .i64 (s.fParents.length - 1)) (y_sub s.fParents.length 1 rfl rfl (by omega)) H ?_
            refine r_ops [10] (by kernel_rfl) (by simp) (r_op rfl ?_ r_nil)
            refine o_call #[.int .i64 ((r.fInto[k]!).fCell), .int .i64 0, .int .i64 (s.fParents.length - 1)] rfl rfl Try.call55 (l00In_ok w29.drew ((r.fInto[k]!).fCell) 0 (s.fParents.length - 1)) ?_
            rintro _ w35 rfl x36
            replace H := H.ext x36
            refine ⟨H, ?_⟩
            refine rtp 11 (.bool (!(inR ((r.fInto[k]!).fCell) 0 (s.fParents.length - 1)))) H ?_
            refine rtp 12 (.bool (!(inR ((r.fInto[k]!).fCell) 0 (s.fParents.length - 1)))) H ?_
            cases h37 : (!(inR ((r.fInto[k]!).fCell) 0 (s.fParents.length - 1)))
            ·skip
             replace h37 := not_false_of h37
             replace h37 := inR_iff.1 h37
             refine rgp 13 (.pointer (some ⟨bs, os, none⟩)) 126 H ?_
             refine rgp 14 (.pointer (some ⟨b31, o32 + (k : Int).toNat * 2, none⟩)) 126 H ?_
             refine rgp 15 (.pointer (some ⟨b31, o32 + (k : Int).toNat * 2, none⟩)) 126 H ?_
             refine rg 16 (.pointer (some ⟨b31, o32 + (k : Int).toNat * 2 + 0, none⟩)) 126 (y_field b31 (o32 + (k : Int).toNat * 2) 0 Try.underlying108 rfl rfl Try.sizeOf2 rfl) H ?_
             refine rg 17 (.int .i64 ((r.fInto[k]!).fCell)) 126 (y_load1 Try.isAgg2 rfl (fun _ h => h.cellF 1 rfl 0 rfl)) H ?_
             refine rgp 18 (.pointer (some ⟨br, or, none⟩)) 126 H ?_
             refine rgp 19 (.pointer (some ⟨br, or, none⟩)) 126 H ?_
             refine rg 20 (.pointer (some ⟨br, or + 0, none⟩)) 126 (y_field br (or) 0 Try.underlying92 rfl rfl Try.sizeOf2 rfl) H ?_
             refine rg 21 (.int .i64 r.fCell) 126 (y_load1 Try.isAgg2 rfl (fun _ h => h.cellF 5 rfl 0 rfl)) H ?_
             refine r_ops [22] (by kernel_rfl) (by simp) (r_opG rfl (e := 126) rfl rfl ?_ r_nil)
             refine o_call #[.pointer (some ⟨bs, os, none⟩), .int .i64 ((r.fInto[k]!).fCell), .int .i64 r.fCell] rfl rfl Try.call117 (l02In_ok w35 s ((r.fInto[k]!).fCell) r.fCell bs os asParents csParents FsParents asRules csRules FsRules (cellsAt_sub (H.get 2 rfl) 0 3) (H.get 3 rfl).1 (H.get 4 rfl).1 (by assumption) (by assumption)) ?_
             rintro _ w38 rfl x39
             replace H := H.ext x39
             refine ⟨H, ?_⟩
             refine rgp 23 (.bool (!(dec (Lies s.fParents r.fCell ((r.fInto[k]!).fCell))))) 126 H ?_
             refine rtp 24 (.bool (!(dec (Lies s.fParents r.fCell ((r.fInto[k]!).fCell))))) H ?_
             refine rtp 25 (.bool (!(dec (Lies s.fParents r.fCell ((r.fInto[k]!).fCell))))) H ?_
             cases h40 : (!(dec (Lies s.fParents r.fCell ((r.fInto[k]!).fCell))))
             ·skip
              replace h40 := not_false_of h40
              replace h40 := of_dec h40
              refine rgp 26 (.pointer (some ⟨bs, os, none⟩)) 139 H ?_
              refine rgp 27 (.pointer (some ⟨b31, o32 + (k : Int).toNat * 2, none⟩)) 139 H ?_
              refine rgp 28 (.pointer (some ⟨b31, o32 + (k : Int).toNat * 2, none⟩)) 139 H ?_
              refine rg 29 (.pointer (some ⟨b31, o32 + (k : Int).toNat * 2 + 1, none⟩)) 139 (y_field b31 (o32 + (k : Int).toNat * 2) 1 Try.underlying108 rfl rfl Try.sizeOf22 rfl) H ?_
              refine rg 30 (.slice ae33Bag (((r.fInto[k]!).fBag).length) ce33Bag) 139 (y_load1 Try.isAgg22 rfl (fun _ h => h.cellF 1 rfl 1 rfl)) H ?_
              refine r_ops [31] (by kernel_rfl) (by simp) (r_opG rfl (e := 139) rfl rfl ?_ r_nil)
              refine o_call #[.pointer (some ⟨bs, os, none⟩), .slice ae33Bag (((r.fInto[k]!).fBag).length) ce33Bag] rfl rfl Try.call105 (l02Bag_ok w38 s ((r.fInto[k]!).fBag) bs os asParents csParents FsParents asRules csRules FsRules ae33Bag ce33Bag Fe33Bag (cellsAt_sub (H.get 2 rfl) 0 3) (H.get 3 rfl).1 (H.get 4 rfl).1 (H.get 0 rfl).1) ?_
              rintro _ w41 rfl x42
              replace H := H.ext x42
              refine ⟨H, ?_⟩
              refine rgp 32 (.bool (!(dec (BagOk s.fKinds ((r.fInto[k]!).fBag))))) 139 H ?_
              refine rtp 33 (.bool (!(dec (BagOk s.fKinds ((r.fInto[k]!).fBag))))) H ?_
              refine rtp 34 (.bool (!(dec (BagOk s.fKinds ((r.fInto[k]!).fBag))))) H ?_
              cases h43 : (!(dec (BagOk s.fKinds ((r.fInto[k]!).fBag))))
              ·skip
               replace h43 := not_false_of h43
               replace h43 := of_dec h43
               refine rgp 35 (.pointer (some ⟨b31, o32 + (k : Int).toNat * 2, none⟩)) 148 H ?_
               refine rgp 36 (.pointer (some ⟨b31, o32 + (k : Int).toNat * 2, none⟩)) 148 H ?_
               refine rg 37 (.pointer (some ⟨b31, o32 + (k : Int).toNat * 2 + 1, none⟩)) 148 (y_field b31 (o32 + (k : Int).toNat * 2) 1 Try.underlying108 rfl rfl Try.sizeOf22 rfl) H ?_
               refine rg 38 (.slice ae33Bag (((r.fInto[k]!).fBag).length) ce33Bag) 148 (y_load1 Try.isAgg22 rfl (fun _ h => h.cellF 1 rfl 1 rfl)) H ?_
               refine r_ops [39] (by kernel_rfl) (by simp) (r_opG rfl (e := 148) rfl rfl ?_ r_nil)
               refine o_call #[.slice ae33Bag (((r.fInto[k]!).fBag).length) ce33Bag] rfl rfl Try.call106 (l01Size_ok w41 ((r.fInto[k]!).fBag) ae33Bag ce33Bag Fe33Bag (H.get 0 rfl).1 (by first | assumption | exact bagOk_small (by assumption) | exact bag_small (by assumption))) ?_
               rintro _ w44 rfl x45
               replace H := H.ext x45
               refine ⟨H, ?_⟩
               refine rgp 40 (.bool ((sumL ((r.fInto[k]!).fBag) : Int) == 0)) 148 H ?_
               refine rtp 41 (.bool ((sumL ((r.fInto[k]!).fBag) : Int) == 0)) H ?_
               refine r_done (by kernel_rfl) (t_n ?_)
               refine c_cond ((sumL ((r.fInto[k]!).fBag) : Int) == 0) rfl (fun h46 => ?_) (fun h46 => ?_)
               ·skip
                replace h46 := eq_of_beq h46
                refine c_seq ?_
                refine c_reg ?_
                refine sp (.bool false) ?_
                refine c_nil (t_n ?_)
                refine c_ret (t_r (b_r (t_r (t_r (b_r (t_r (?_)))))))
                refine ret1 (.bool false) rfl rfl ⟨_, rfl, ?_, H.base⟩
                rw [dec_false (fun h => by obtain ⟨h1, h2, h3, h4, h5, h6, h7, h8, h9, h10, h11⟩ := h; first | contradiction | omega | exact h3 ⟨‹_›, ‹_›⟩ | (obtain ⟨q1, q2, q3, q4, q5⟩ := h11 k (by omega); first | contradiction | omega | (have := q5 (by omega); omega)))]
               ·skip
                replace h46 := ne_of_beq_false h46
                refine c_skip (t_n ?_)
                refine c_seq ?_
                refine c_drawH rfl H fun H => ?_
                refine rtp 0 (.int .i64 k) H ?_
                refine rtp 1 (.bool (decide ((k : Int) > 0))) H ?_
                refine rtp 2 (.bool (decide ((k : Int) > 0))) H ?_
                cases h48 : (decide ((k : Int) > 0))
                ·skip
                 replace h48 := of_decide_eq_false h48
                 refine r_skips [3, 4, 5, 6, 7, 8, 9, 10, 11, 12, 13, 14, 15, 16] 14 (H) ?_
                 refine rtp 17 (.bool false) H ?_
                 refine r_done (by kernel_rfl) (t_n ?_)
                 refine c_cond false rfl (fun h => absurd h (by decide)) (fun _ => ?_)
                 refine c_skip (b_n (t_n ?_))
                 refine c_reg ?_
                 refine sp (.int .i64 k) ?_
                 refine sw (o_add k 1 rfl rfl (by omega) ?_)
                 refine sp (.int .i64 (k + 1)) ?_
                 refine c_nil (?_)
                 refine loop_end (m' := r.fInto.length - (k + 1)) (by omega) ⟨_, k + 1, (by exact upd_eq (upd_eq (upd_eq (rfl) rfl) rfl) rfl), ?_, ?_, rfl, H.sel _ (.refl _) _ (by simp)⟩
                 · omega
                 · exact i1.succ ⟨‹_›, ‹_›, ‹_›, ‹_›, fun hk => by omega⟩
                ·skip
                 replace h48 := of_decide_eq_true h48
                 refine rgp 3 (.pointer (some ⟨br, or, none⟩)) 158 H ?_
                 refine rgp 4 (.pointer (some ⟨br, or, none⟩)) 158 H ?_
                 refine rg 5 (.pointer (some ⟨br, or + 7, none⟩)) 158 (y_field br (or) 7 Try.underlying92 rfl rfl Try.sizeOf90 rfl) H ?_
                 refine rg 6 (.slice (some ⟨b31, o32, none⟩) r.fInto.length crInto) 158 (y_load1 Try.isAgg90 rfl (fun _ h => h.cellF 5 rfl 7 rfl)) H ?_
                 refine rgp 7 (.int .i64 k) 158 H ?_
                 refine rg 8 (.int .i64 (k - 1)) 158 (y_sub k 1 rfl rfl (by omega)) H ?_
                 obtain ⟨ae49Bag, ce49Bag, Fe49Bag, H⟩ := H.elem_IntoD 11 rfl (k - 1) (k - 1) (by omega) (by omega) (by omega)
                 refine rg 9 (.pointer (some ⟨b31, o32 + (k - 1 : Int).toNat * 2, none⟩)) 158 (y_idxAt b31 (o32) r.fInto.length crInto (k - 1) Try.underlying90 ti108 rfl rfl (by omega) (by omega)) (H.sel _ (.refl _) _ (fun _ h => List.mem_cons_of_mem _ (List.mem_cons_of_mem _ (h)))) ?_
                 refine rg 10 (.pointer (some ⟨b31, o32 + (k - 1 : Int).toNat * 2 + 0, none⟩)) 158 (y_field b31 (o32 + (k - 1 : Int).toNat * 2) 0 Try.underlying108 rfl rfl Try.sizeOf2 rfl) (H.sel _ (.refl _) _ (fun _ h => List.mem_cons_of_mem _ (List.mem_cons_of_mem _ (h)))) ?_
                 refine rgp 12 (.pointer (some ⟨b31, o32 + (k : Int).toNat * 2, none⟩)) 158 (H.sel _ (.refl _) _ (fun _ h => List.mem_cons_of_mem _ (List.mem_cons_of_mem _ (h)))) ?_
                 refine rgp 13 (.pointer (some ⟨b31, o32 + (k : Int).toNat * 2, none⟩)) 158 (H.sel _ (.refl _) _ (fun _ h => List.mem_cons_of_mem _ (List.mem_cons_of_mem _ (h)))) ?_
                 refine rg 14 (.pointer (some ⟨b31, o32 + (k : Int).toNat * 2 + 0, none⟩)) 158 (y_field b31 (o32 + (k : Int).toNat * 2) 0 Try.underlying108 rfl rfl Try.sizeOf2 rfl) (H.sel _ (.refl _) _ (fun _ h => List.mem_cons_of_mem _ (List.mem_cons_of_mem _ (h)))) ?_
                 refine rg 15 (.int .i64 ((r.fInto[k]!).fCell)) 158 (y_load1 Try.isAgg2 rfl (fun _ h => h.cellF 1 rfl 0 rfl)) (H.sel _ (.refl _) _ (fun _ h => List.mem_cons_of_mem _ (List.mem_cons_of_mem _ (h)))) ?_
                 refine r_ops [11] (by kernel_rfl) (by simp) (r_opG rfl (e := 158) rfl rfl ?_ r_nil)
                 refine o_load1 (.int .i64 ((r.fInto[k - 1]!).fCell)) Try.isAgg2 rfl (H.cellF 1 rfl 0 rfl) ?_
                 refine ⟨H.sel _ (.refl _) _ (fun _ h => List.mem_cons_of_mem _ (List.mem_cons_of_mem _ (h))), ?_⟩
                 refine rgp 16 (.bool (decide (((r.fInto[k - 1]!).fCell : Int) ≥ ((r.fInto[k]!).fCell)))) 158 (H.sel _ (.refl _) _ (fun _ h => List.mem_cons_of_mem _ (List.mem_cons_of_mem _ (h)))) ?_
                 refine rtp 17 (.bool (decide (((r.fInto[k - 1]!).fCell : Int) ≥ ((r.fInto[k]!).fCell)))) (H.sel _ (.refl _) _ (fun _ h => List.mem_cons_of_mem _ (List.mem_cons_of_mem _ (h)))) ?_
                 refine r_done (by kernel_rfl) (t_n ?_)
                 refine c_cond (decide (((r.fInto[k - 1]!).fCell : Int) ≥ ((r.fInto[k]!).fCell))) rfl (fun h50 => ?_) (fun h50 => ?_)
                 ·skip
                  replace h50 := of_decide_eq_true h50
                  refine c_seq ?_
                  refine c_reg ?_
                  refine sp (.bool false) ?_
                  refine c_nil (t_n ?_)
                  refine c_ret (b_r (t_r (t_r (b_r (t_r (?_))))))
                  refine ret1 (.bool false) rfl rfl ⟨_, rfl, ?_, H.base⟩
                  rw [dec_false (fun h => by obtain ⟨h1, h2, h3, h4, h5, h6, h7, h8, h9, h10, h11⟩ := h; first | contradiction | omega | exact h3 ⟨‹_›, ‹_›⟩ | (obtain ⟨q1, q2, q3, q4, q5⟩ := h11 k (by omega); first | contradiction | omega | (have := q5 (by omega); omega)))]
                 ·skip
                  replace h50 := of_decide_eq_false h50
                  refine c_skip (b_n (t_n ?_))
                  refine c_reg ?_
                  refine sp (.int .i64 k) ?_
                  refine sw (o_add k 1 rfl rfl (by omega) ?_)
                  refine sp (.int .i64 (k + 1)) ?_
                  refine c_nil (?_)
                  refine loop_end (m' := r.fInto.length - (k + 1)) (by omega) ⟨_, k + 1, (by exact upd_eq (upd_eq (upd_eq (rfl) rfl) rfl) rfl), ?_, ?_, rfl, H.sel _ (.refl _) _ (by simp)⟩
                  · omega
                  · exact i1.succ ⟨‹_›, ‹_›, ‹_›, ‹_›, fun hk => by omega⟩
              ·skip
               replace h43 := not_true_of h43
               replace h43 := not_of_dec h43
               refine r_skips [35, 36, 37, 38, 39, 40] 6 (H) ?_
               refine rtp 41 (.bool true) H ?_
               refine r_done (by kernel_rfl) (t_n ?_)
               refine c_cond true rfl (fun _ => ?_) (fun h => absurd h (by decide))
               refine c_seq ?_
               refine c_reg ?_
               refine sp (.bool false) ?_
               refine c_nil (t_n ?_)
               refine c_ret (t_r (b_r (t_r (t_r (b_r (t_r (?_)))))))
               refine ret1 (.bool false) rfl rfl ⟨_, rfl, ?_, H.base⟩
               rw [dec_false (fun h => by obtain ⟨h1, h2, h3, h4, h5, h6, h7, h8, h9, h10, h11⟩ := h; first | contradiction | omega | exact h3 ⟨‹_›, ‹_›⟩ | (obtain ⟨q1, q2, q3, q4, q5⟩ := h11 k (by omega); first | contradiction | omega | (have := q5 (by omega); omega)))]
             ·skip
              replace h40 := not_true_of h40
              replace h40 := not_of_dec h40
              refine r_skips [26, 27, 28, 29, 30, 31, 32] 7 (H) ?_
              refine rtp 33 (.bool true) H ?_
              refine rtp 34 (.bool true) H ?_
              refine r_skips [35, 36, 37, 38, 39, 40] 6 (H) ?_
              refine rtp 41 (.bool true) H ?_
              refine r_done (by kernel_rfl) (t_n ?_)
              refine c_cond true rfl (fun _ => ?_) (fun h => absurd h (by decide))
              refine c_seq ?_
              refine c_reg ?_
              refine sp (.bool false) ?_
              refine c_nil (t_n ?_)
              refine c_ret (t_r (b_r (t_r (t_r (b_r (t_r (?_)))))))
              refine ret1 (.bool false) rfl rfl ⟨_, rfl, ?_, H.base⟩
              rw [dec_false (fun h => by obtain ⟨h1, h2, h3, h4, h5, h6, h7, h8, h9, h10, h11⟩ := h; first | contradiction | omega | exact h3 ⟨‹_›, ‹_›⟩ | (obtain ⟨q1, q2, q3, q4, q5⟩ := h11 k (by omega); first | contradiction | omega | (have := q5 (by omega); omega)))]
            ·skip
             replace h37 := not_true_of h37
             replace h37 := inR_not h37
             refine r_skips [13, 14, 15, 16, 17, 18, 19, 20, 21, 22, 23] 11 (H) ?_
             refine rtp 24 (.bool true) H ?_
             refine rtp 25 (.bool true) H ?_
             refine r_skips [26, 27, 28, 29, 30, 31, 32] 7 (H) ?_
             refine rtp 33 (.bool true) H ?_
             refine rtp 34 (.bool true) H ?_
             refine r_skips [35, 36, 37, 38, 39, 40] 6 (H) ?_
             refine rtp 41 (.bool true) H ?_
             refine r_done (by kernel_rfl) (t_n ?_)
             refine c_cond true rfl (fun _ => ?_) (fun h => absurd h (by decide))
             refine c_seq ?_
             refine c_reg ?_
             refine sp (.bool false) ?_
             refine c_nil (t_n ?_)
             refine c_ret (t_r (b_r (t_r (t_r (b_r (t_r (?_)))))))
             refine ret1 (.bool false) rfl rfl ⟨_, rfl, ?_, H.base⟩
             rw [dec_false (fun h => by obtain ⟨h1, h2, h3, h4, h5, h6, h7, h8, h9, h10, h11⟩ := h; first | contradiction | omega | exact h3 ⟨‹_›, ‹_›⟩ | (obtain ⟨q1, q2, q3, q4, q5⟩ := h11 k (by omega); first | contradiction | omega | (have := q5 (by omega); omega)))]
           ·skip
            replace h30 := of_decide_eq_false h30
            refine c_exit (t_x (t_x (b_x (t_n ?_))))
            refine c_seq ?_
            refine c_reg ?_
            refine sp (.bool true) ?_
            refine c_nil (t_n ?_)
            refine c_ret (?_)
            refine ret1 (.bool true) rfl rfl ⟨_, rfl, ?_, H.base⟩
            obtain rfl : k = r.fInto.length := by omega
            rw [dec_true ⟨by assumption, by omega, by simp_all, by omega, by assumption, by assumption, by assumption, by assumption, by assumption, by assumption, i1⟩]
         ·skip
          replace h24 := not_true_of h24
          replace h24 := not_of_dec h24
          refine g_skips [92, 93, 94, 95, 96, 97] ?_
          refine sp (.bool true) ?_
          refine c_nil (t_n ?_)
          refine c_cond true rfl (fun _ => ?_) (fun h => absurd h (by decide))
          refine c_seq ?_
          refine c_reg ?_
          refine sp (.bool false) ?_
          refine c_nil (t_n ?_)
          refine c_ret (t_r (?_))
          refine ret1 (.bool false) rfl rfl ⟨_, rfl, ?_, H.base⟩
          rw [dec_false (fun h => by obtain ⟨h1, h2, h3, h4, h5, h6, h7, h8, h9, h10, h11⟩ := h; first | contradiction | omega | exact h3 ⟨‹_›, ‹_›⟩ | (obtain ⟨q1, q2, q3, q4, q5⟩ := h11 k (by omega); first | contradiction | omega | (have := q5 (by omega); omega)))]
        ·skip
         replace h21 := not_true_of h21
         replace h21 := not_of_dec h21
         refine g_skips [83, 84, 85, 86, 87, 88, 89] ?_
         refine sp (.bool true) ?_
         refine sp (.bool true) ?_
         refine g_skips [92, 93, 94, 95, 96, 97] ?_
         refine sp (.bool true) ?_
         refine c_nil (t_n ?_)
         refine c_cond true rfl (fun _ => ?_) (fun h => absurd h (by decide))
         refine c_seq ?_
         refine c_reg ?_
         refine sp (.bool false) ?_
         refine c_nil (t_n ?_)
         refine c_ret (t_r (?_))
         refine ret1 (.bool false) rfl rfl ⟨_, rfl, ?_, H.base⟩
         rw [dec_false (fun h => by obtain ⟨h1, h2, h3, h4, h5, h6, h7, h8, h9, h10, h11⟩ := h; first | contradiction | omega | exact h3 ⟨‹_›, ‹_›⟩ | (obtain ⟨q1, q2, q3, q4, q5⟩ := h11 k (by omega); first | contradiction | omega | (have := q5 (by omega); omega)))]
       ·skip
        replace h18 := not_true_of h18
        replace h18 := not_of_dec h18
        refine g_skips [74, 75, 76, 77, 78, 79, 80] ?_
        refine sp (.bool true) ?_
        refine sp (.bool true) ?_
        refine g_skips [83, 84, 85, 86, 87, 88, 89] ?_
        refine sp (.bool true) ?_
        refine sp (.bool true) ?_
        refine g_skips [92, 93, 94, 95, 96, 97] ?_
        refine sp (.bool true) ?_
        refine c_nil (t_n ?_)
        refine c_cond true rfl (fun _ => ?_) (fun h => absurd h (by decide))
        refine c_seq ?_
        refine c_reg ?_
        refine sp (.bool false) ?_
        refine c_nil (t_n ?_)
        refine c_ret (t_r (?_))
        refine ret1 (.bool false) rfl rfl ⟨_, rfl, ?_, H.base⟩
        rw [dec_false (fun h => by obtain ⟨h1, h2, h3, h4, h5, h6, h7, h8, h9, h10, h11⟩ := h; first | contradiction | omega | exact h3 ⟨‹_›, ‹_›⟩ | (obtain ⟨q1, q2, q3, q4, q5⟩ := h11 k (by omega); first | contradiction | omega | (have := q5 (by omega); omega)))]
      ·skip
       replace h15 := not_true_of h15
       replace h15 := not_of_dec h15
       refine g_skips [65, 66, 67, 68, 69, 70, 71] ?_
       refine sp (.bool true) ?_
       refine sp (.bool true) ?_
       refine g_skips [74, 75, 76, 77, 78, 79, 80] ?_
       refine sp (.bool true) ?_
       refine sp (.bool true) ?_
       refine g_skips [83, 84, 85, 86, 87, 88, 89] ?_
       refine sp (.bool true) ?_
       refine sp (.bool true) ?_
       refine g_skips [92, 93, 94, 95, 96, 97] ?_
       refine sp (.bool true) ?_
       refine c_nil (t_n ?_)
       refine c_cond true rfl (fun _ => ?_) (fun h => absurd h (by decide))
       refine c_seq ?_
       refine c_reg ?_
       refine sp (.bool false) ?_
       refine c_nil (t_n ?_)
       refine c_ret (t_r (?_))
       refine ret1 (.bool false) rfl rfl ⟨_, rfl, ?_, H.base⟩
       rw [dec_false (fun h => by obtain ⟨h1, h2, h3, h4, h5, h6, h7, h8, h9, h10, h11⟩ := h; first | contradiction | omega | exact h3 ⟨‹_›, ‹_›⟩ | (obtain ⟨q1, q2, q3, q4, q5⟩ := h11 k (by omega); first | contradiction | omega | (have := q5 (by omega); omega)))]
     ·skip
      replace h12 := not_true_of h12
      replace h12 := not_of_dec h12
      refine g_skips [56, 57, 58, 59, 60, 61, 62] ?_
      refine sp (.bool true) ?_
      refine sp (.bool true) ?_
      refine g_skips [65, 66, 67, 68, 69, 70, 71] ?_
      refine sp (.bool true) ?_
      refine sp (.bool true) ?_
      refine g_skips [74, 75, 76, 77, 78, 79, 80] ?_
      refine sp (.bool true) ?_
      refine sp (.bool true) ?_
      refine g_skips [83, 84, 85, 86, 87, 88, 89] ?_
      refine sp (.bool true) ?_
      refine sp (.bool true) ?_
      refine g_skips [92, 93, 94, 95, 96, 97] ?_
      refine sp (.bool true) ?_
      refine c_nil (t_n ?_)
      refine c_cond true rfl (fun _ => ?_) (fun h => absurd h (by decide))
      refine c_seq ?_
      refine c_reg ?_
      refine sp (.bool false) ?_
      refine c_nil (t_n ?_)
      refine c_ret (t_r (?_))
      refine ret1 (.bool false) rfl rfl ⟨_, rfl, ?_, H.base⟩
      rw [dec_false (fun h => by obtain ⟨h1, h2, h3, h4, h5, h6, h7, h8, h9, h10, h11⟩ := h; first | contradiction | omega | exact h3 ⟨‹_›, ‹_›⟩ | (obtain ⟨q1, q2, q3, q4, q5⟩ := h11 k (by omega); first | contradiction | omega | (have := q5 (by omega); omega)))]
   ·skip
    rw [h8] at H
    refine rgp 26 (.pointer (some ⟨br, or, none⟩)) 32 H ?_
    refine rgp 27 (.pointer (some ⟨br, or, none⟩)) 32 H ?_
    refine rg 28 (.pointer (some ⟨br, or + 0, none⟩)) 32 (y_field br (or) 0 Try.underlying92 rfl rfl Try.sizeOf2 rfl) H ?_
    refine rg 29 (.int .i64 r.fCell) 32 (y_load1 Try.isAgg2 rfl (fun _ h => h.cellF 3 rfl 0 rfl)) H ?_
    refine rgp 30 (.bool ((r.fCell : Int) == 0)) 32 H ?_
    refine rgp 31 (.bool ((r.fCell : Int) == 0)) 27 H ?_
    refine rtp 32 (.bool ((r.fCell : Int) == 0)) H ?_
    refine rtp 33 (.bool ((r.fCell : Int) == 0)) H ?_
    cases h51 : ((r.fCell : Int) == 0)
    ·skip
     replace h51 := ne_of_beq_false h51
     refine rgp 34 (.pointer (some ⟨br, or, none⟩)) 40 H ?_
     refine rgp 35 (.pointer (some ⟨br, or, none⟩)) 40 H ?_
     refine rg 36 (.pointer (some ⟨br, or + 7, none⟩)) 40 (y_field br (or) 7 Try.underlying92 rfl rfl Try.sizeOf90 rfl) H ?_
     refine rg 37 (.slice arInto r.fInto.length crInto) 40 (y_load1 Try.isAgg90 rfl (fun _ h => h.cellF 3 rfl 7 rfl)) H ?_
     refine rg 38 (.int .i64 r.fInto.length) 40 (y_len Try.underlying90 arInto r.fInto.length crInto rfl) H ?_
     refine rgp 39 (.bool (decide ((r.fInto.length : Int) > 3))) 40 H ?_
     refine rtp 40 (.bool (decide ((r.fInto.length : Int) > 3))) H ?_
     refine r_done (by kernel_rfl) (t_n ?_)
     refine c_cond (decide ((r.fInto.length : Int) > 3)) rfl (fun h52 => ?_) (fun h52 => ?_)
     ·skip
      replace h52 := of_decide_eq_true h52
      refine c_seq ?_
      refine c_reg ?_
      refine sp (.bool false) ?_
      refine c_nil (t_n ?_)
      refine c_ret (t_r (?_))
      refine ret1 (.bool false) rfl rfl ⟨_, rfl, ?_, H.base⟩
      rw [dec_false (fun h => by obtain ⟨h1, h2, h3, h4, h5, h6, h7, h8, h9, h10, h11⟩ := h; first | contradiction | omega | exact h3 ⟨‹_›, ‹_›⟩ | (obtain ⟨q1, q2, q3, q4, q5⟩ := h11 k (by omega); first | contradiction | omega | (have := q5 (by omega); omega)))]
     ·skip
      replace h52 := of_decide_eq_false h52
      refine c_skip (t_n ?_)
      refine c_seq ?_
      refine c_seq ?_
      refine c_reg ?_
      refine sp (.pointer (some ⟨bs, os, none⟩)) ?_
      refine sp (.pointer (some ⟨br, or, none⟩)) ?_
      refine sp (.pointer (some ⟨br, or, none⟩)) ?_
      refine sw (o_field br (or) 2 Try.underlying92 rfl rfl Try.sizeOf22 rfl ?_)
      refine sw (o_load1 (.slice arNeed r.fNeed.length crNeed) Try.isAgg22 rfl (H.cellF 3 rfl 2 rfl) ?_)
      refine sw (o_call #[.pointer (some ⟨bs, os, none⟩), .slice arNeed r.fNeed.length crNeed] rfl rfl Try.call105 (l02Bag_ok w5 s r.fNeed bs os asParents csParents FsParents asRules csRules FsRules arNeed crNeed FrNeed (cellsAt_sub (H.get 0 rfl) 0 3) (H.get 1 rfl).1 (H.get 2 rfl).1 (H.get 4 rfl).1) ?_)
      rintro _ w53 rfl x54
      replace H := H.ext x54
      refine sp (.bool (!(dec (BagOk s.fKinds r.fNeed)))) ?_
      refine sp (.bool (!(dec (BagOk s.fKinds r.fNeed)))) ?_
      cases h55 : (!(dec (BagOk s.fKinds r.fNeed)))
      ·skip
       replace h55 := not_false_of h55
       replace h55 := of_dec h55
       refine g_take 55 rfl rfl ?_
       refine sp (.pointer (some ⟨bs, os, none⟩)) ?_
       refine g_take 55 rfl rfl ?_
       refine sp (.pointer (some ⟨br, or, none⟩)) ?_
       refine g_take 55 rfl rfl ?_
       refine sp (.pointer (some ⟨br, or, none⟩)) ?_
       refine g_take 55 rfl rfl ?_
       refine sw (o_field br (or) 3 Try.underlying92 rfl rfl Try.sizeOf22 rfl ?_)
       refine g_take 55 rfl rfl ?_
       refine sw (o_load1 (.slice arHave r.fHave.length crHave) Try.isAgg22 rfl (H.cellF 3 rfl 3 rfl) ?_)
       refine g_take 55 rfl rfl ?_
       refine sw (o_call #[.pointer (some ⟨bs, os, none⟩), .slice arHave r.fHave.length crHave] rfl rfl Try.call105 (l02Bag_ok w53 s r.fHave bs os asParents csParents FsParents asRules csRules FsRules arHave crHave FrHave (cellsAt_sub (H.get 0 rfl) 0 3) (H.get 1 rfl).1 (H.get 2 rfl).1 (H.get 5 rfl).1) ?_)
       rintro _ w56 rfl x57
       replace H := H.ext x57
       refine g_take 55 rfl rfl ?_
       refine sp (.bool (!(dec (BagOk s.fKinds r.fHave)))) ?_
       refine sp (.bool (!(dec (BagOk s.fKinds r.fHave)))) ?_
       refine sp (.bool (!(dec (BagOk s.fKinds r.fHave)))) ?_
       cases h58 : (!(dec (BagOk s.fKinds r.fHave)))
       ·skip
        replace h58 := not_false_of h58
        replace h58 := of_dec h58
        refine g_take 64 rfl rfl ?_
        refine sp (.pointer (some ⟨bs, os, none⟩)) ?_
        refine g_take 64 rfl rfl ?_
        refine sp (.pointer (some ⟨br, or, none⟩)) ?_
        refine g_take 64 rfl rfl ?_
        refine sp (.pointer (some ⟨br, or, none⟩)) ?_
        refine g_take 64 rfl rfl ?_
        refine sw (o_field br (or) 4 Try.underlying92 rfl rfl Try.sizeOf22 rfl ?_)
        refine g_take 64 rfl rfl ?_
        refine sw (o_load1 (.slice arLack r.fLack.length crLack) Try.isAgg22 rfl (H.cellF 3 rfl 4 rfl) ?_)
        refine g_take 64 rfl rfl ?_
        refine sw (o_call #[.pointer (some ⟨bs, os, none⟩), .slice arLack r.fLack.length crLack] rfl rfl Try.call105 (l02Bag_ok w56 s r.fLack bs os asParents csParents FsParents asRules csRules FsRules arLack crLack FrLack (cellsAt_sub (H.get 0 rfl) 0 3) (H.get 1 rfl).1 (H.get 2 rfl).1 (H.get 6 rfl).1) ?_)
        rintro _ w59 rfl x60
        replace H := H.ext x60
        refine g_take 64 rfl rfl ?_
        refine sp (.bool (!(dec (BagOk s.fKinds r.fLack)))) ?_
        refine sp (.bool (!(dec (BagOk s.fKinds r.fLack)))) ?_
        refine sp (.bool (!(dec (BagOk s.fKinds r.fLack)))) ?_
        cases h61 : (!(dec (BagOk s.fKinds r.fLack)))
        ·skip
         replace h61 := not_false_of h61
         replace h61 := of_dec h61
         refine g_take 73 rfl rfl ?_
         refine sp (.pointer (some ⟨bs, os, none⟩)) ?_
         refine g_take 73 rfl rfl ?_
         refine sp (.pointer (some ⟨br, or, none⟩)) ?_
         refine g_take 73 rfl rfl ?_
         refine sp (.pointer (some ⟨br, or, none⟩)) ?_
         refine g_take 73 rfl rfl ?_
         refine sw (o_field br (or) 5 Try.underlying92 rfl rfl Try.sizeOf22 rfl ?_)
         refine g_take 73 rfl rfl ?_
         refine sw (o_load1 (.slice arHere r.fHere.length crHere) Try.isAgg22 rfl (H.cellF 3 rfl 5 rfl) ?_)
         refine g_take 73 rfl rfl ?_
         refine sw (o_call #[.pointer (some ⟨bs, os, none⟩), .slice arHere r.fHere.length crHere] rfl rfl Try.call105 (l02Bag_ok w59 s r.fHere bs os asParents csParents FsParents asRules csRules FsRules arHere crHere FrHere (cellsAt_sub (H.get 0 rfl) 0 3) (H.get 1 rfl).1 (H.get 2 rfl).1 (H.get 7 rfl).1) ?_)
         rintro _ w62 rfl x63
         replace H := H.ext x63
         refine g_take 73 rfl rfl ?_
         refine sp (.bool (!(dec (BagOk s.fKinds r.fHere)))) ?_
         refine sp (.bool (!(dec (BagOk s.fKinds r.fHere)))) ?_
         refine sp (.bool (!(dec (BagOk s.fKinds r.fHere)))) ?_
         cases h64 : (!(dec (BagOk s.fKinds r.fHere)))
         ·skip
          replace h64 := not_false_of h64
          replace h64 := of_dec h64
          refine g_take 82 rfl rfl ?_
          refine sp (.pointer (some ⟨bs, os, none⟩)) ?_
          refine g_take 82 rfl rfl ?_
          refine sp (.pointer (some ⟨br, or, none⟩)) ?_
          refine g_take 82 rfl rfl ?_
          refine sp (.pointer (some ⟨br, or, none⟩)) ?_
          refine g_take 82 rfl rfl ?_
          refine sw (o_field br (or) 6 Try.underlying92 rfl rfl Try.sizeOf22 rfl ?_)
          refine g_take 82 rfl rfl ?_
          refine sw (o_load1 (.slice arOut r.fOut.length crOut) Try.isAgg22 rfl (H.cellF 3 rfl 6 rfl) ?_)
          refine g_take 82 rfl rfl ?_
          refine sw (o_call #[.pointer (some ⟨bs, os, none⟩), .slice arOut r.fOut.length crOut] rfl rfl Try.call105 (l02Bag_ok w62 s r.fOut bs os asParents csParents FsParents asRules csRules FsRules arOut crOut FrOut (cellsAt_sub (H.get 0 rfl) 0 3) (H.get 1 rfl).1 (H.get 2 rfl).1 (H.get 8 rfl).1) ?_)
          rintro _ w65 rfl x66
          replace H := H.ext x66
          refine g_take 82 rfl rfl ?_
          refine sp (.bool (!(dec (BagOk s.fKinds r.fOut)))) ?_
          refine sp (.bool (!(dec (BagOk s.fKinds r.fOut)))) ?_
          refine sp (.bool (!(dec (BagOk s.fKinds r.fOut)))) ?_
          cases h67 : (!(dec (BagOk s.fKinds r.fOut)))
          ·skip
           replace h67 := not_false_of h67
           replace h67 := of_dec h67
           refine g_take 91 rfl rfl ?_
           refine sp (.pointer (some ⟨br, or, none⟩)) ?_
           refine g_take 91 rfl rfl ?_
           refine sp (.pointer (some ⟨br, or, none⟩)) ?_
           refine g_take 91 rfl rfl ?_
           refine sw (o_field br (or) 2 Try.underlying92 rfl rfl Try.sizeOf22 rfl ?_)
           refine g_take 91 rfl rfl ?_
           refine sw (o_load1 (.slice arNeed r.fNeed.length crNeed) Try.isAgg22 rfl (H.cellF 3 rfl 2 rfl) ?_)
           refine g_take 91 rfl rfl ?_
           refine sw (o_call #[.slice arNeed r.fNeed.length crNeed] rfl rfl Try.call106 (l01Size_ok w65 r.fNeed arNeed crNeed FrNeed (H.get 4 rfl).1 (by first | assumption | exact bagOk_small (by assumption) | exact bag_small (by assumption))) ?_)
           rintro _ w68 rfl x69
           replace H := H.ext x69
           refine g_take 91 rfl rfl ?_
           refine sp (.bool ((sumL r.fNeed : Int) == 0)) ?_
           refine sp (.bool ((sumL r.fNeed : Int) == 0)) ?_
           refine c_nil (t_n ?_)
           refine c_cond ((sumL r.fNeed : Int) == 0) rfl (fun h70 => ?_) (fun h70 => ?_)
           ·skip
            replace h70 := eq_of_beq h70
            refine c_seq ?_
            refine c_reg ?_
            refine sp (.bool false) ?_
            refine c_nil (t_n ?_)
            refine c_ret (t_r (?_))
            refine ret1 (.bool false) rfl rfl ⟨_, rfl, ?_, H.base⟩
            rw [dec_false (fun h => by obtain ⟨h1, h2, h3, h4, h5, h6, h7, h8, h9, h10, h11⟩ := h; first | contradiction | omega | exact h3 ⟨‹_›, ‹_›⟩ | (obtain ⟨q1, q2, q3, q4, q5⟩ := h11 k (by omega); first | contradiction | omega | (have := q5 (by omega); omega)))]
           ·skip
            replace h70 := ne_of_beq_false h70
            refine c_skip (t_n ?_)
            refine c_seq ?_
            refine c_seq ?_
            refine c_reg ?_
            refine sp (.int .i64 0) ?_
            refine c_nil (t_n ?_)
            refine c_block ?_
            refine c_loop (fun m' ρ w71 => ∃ (junk : Env) (k : Nat), ρ = upd (upd (upd junk 0 (.pointer (some ⟨bs, os, none⟩))) 1 (.pointer (some ⟨br, or, none⟩))) 5 (.int .i64 k) ∧ (k ≤ r.fInto.length) ∧ (IntosTo s r k) ∧ m' = r.fInto.length - k ∧ St w w71 [] [atF bs os [.int .i64 s.fKinds, .slice asParents s.fParents.length csParents, .slice asRules s.fRules.length csRules], isF false FsParents (.slice asParents s.fParents.length csParents) s.fParents, isF false FsRules (.slice asRules s.fRules.length csRules) s.fRules, atF br or [.int .i64 r.fCell, .int .i64 r.fRank, .slice arNeed r.fNeed.length crNeed, .slice arHave r.fHave.length crHave, .slice arLack r.fLack.length crLack, .slice arHere r.fHere.length crHere, .slice arOut r.fOut.length crOut, .slice arInto r.fInto.length crInto, .bool true], isF false FrNeed (.slice arNeed r.fNeed.length crNeed) r.fNeed, isF false FrHave (.slice arHave r.fHave.length crHave) r.fHave, isF false FrLack (.slice arLack r.fLack.length crLack) r.fLack, isF false FrHere (.slice arHere r.fHere.length crHere) r.fHere, isF false FrOut (.slice arOut r.fOut.length crOut) r.fOut, isF false FrInto (.slice arInto r.fInto.length crInto) r.fInto]) (r.fInto.length - 0) ⟨_, 0, (by exact upd_eq (upd_eq (upd_eq (rfl) rfl) rfl) rfl), (by omega), (by exact fun j hj => by omega), rfl, H⟩ ?_
            clear H
            rintro m' ρ w72 ⟨junk, k, rfl, i0, i1, rfl, H⟩
            refine c_seq ?_
            refine c_seq ?_
            refine c_reg ?_
            refine sp (.int .i64 k) ?_
            refine sp (.pointer (some ⟨br, or, none⟩)) ?_
            refine sp (.pointer (some ⟨br, or, none⟩)) ?_
            refine sw (o_field br (or) 7 Try.underlying92 rfl rfl Try.sizeOf90 rfl ?_)
            refine sw (o_load1 (.slice arInto r.fInto.length crInto) Try.isAgg90 rfl (H.cellF 3 rfl 7 rfl) ?_)
            refine sw (o_len Try.underlying90 arInto r.fInto.length crInto rfl ?_)
            refine sp (.bool (decide ((k : Int) < r.fInto.length))) ?_
            refine c_nil (t_n ?_)
            refine c_cond (decide ((k : Int) < r.fInto.length)) rfl (fun h73 => ?_) (fun h73 => ?_)
            ·skip
             replace h73 := of_decide_eq_true h73
             refine c_skip (t_n ?_)
             refine c_seq ?_
             refine c_block ?_
             refine c_seq ?_
             refine c_reg ?_
             refine sp (.pointer (some ⟨br, or, none⟩)) ?_
             refine sp (.pointer (some ⟨br, or, none⟩)) ?_
             refine sw (o_field br (or) 7 Try.underlying92 rfl rfl Try.sizeOf90 rfl ?_)
             refine sw (o_load1 (.slice arInto r.fInto.length crInto) Try.isAgg90 rfl (H.cellF 3 rfl 7 rfl) ?_)
             refine sp (.int .i64 k) ?_
             obtain ⟨b74, o75, rfl⟩ := H.addr 9 rfl (by omega)
             obtain ⟨ae76Bag, ce76Bag, Fe76Bag, H⟩ := H.elem_IntoD 9 rfl k k (by omega) (by omega) (by omega)
             refine sw (o_idxAt k Try.underlying90 ti108 rfl rfl (by omega) (by omega) ?_)
             refine sp (.pointer (some ⟨b74, o75 + (k : Int).toNat * 2, none⟩)) ?_
             refine c_nil (t_n ?_)
             refine c_seq ?_
             refine c_seq ?_
             refine c_drawH rfl H fun H => ?_
             refine rtp 0 (.pointer (some ⟨b74, o75 + (k : Int).toNat * 2, none⟩)) H ?_
             refine rtp 1 (.pointer (some ⟨b74, o75 + (k : Int).toNat * 2, none⟩)) H ?_
             refine rt 2 (.pointer (some ⟨b74, o75 + (k : Int).toNat * 2 + 0, none⟩)) (y_field b74 (o75 + (k : Int).toNat * 2) 0 Try.underlying108 rfl rfl Try.sizeOf2 rfl) H ?_
             refine rt 3 (.int .i64 ((r.fInto[k]!).fCell)) (y_load1 Try.isAgg2 rfl (fun _ h => h.cellF 1 rfl 0 rfl)) H ?_
             refine rtp 4 (.pointer (some ⟨bs, os, none⟩)) H ?_
             refine rtp 5 (.pointer (some ⟨bs, os, none⟩)) H ?_
             refine rt 6 (.pointer (some ⟨bs, os + 1, none⟩)) (y_field bs (os) 1 Try.underlying30 rfl rfl Try.sizeOf22 rfl) H ?_
             refine rt 7 (.slice asParents s.fParents.length csParents) (y_load1 Try.isAgg22 rfl (fun _ h => h.cellF 2 rfl 1 rfl)) H ?_
             refine rt 8 (.int .i64 s.fParents.length) (y_len Try.underlying22 asParents s.fParents.length csParents rfl) H ?_
             refine rt 9 (.int .i64 (s.fParents.length - 1)) (y_sub s.fParents.length 1 rfl rfl (by omega)) H ?_
             refine r_ops [10] (by kernel_rfl) (by simp) (r_op rfl ?_ r_nil)
             refine o_call #[.int .i64 ((r.fInto[k]!).fCell), .int .i64 0, .int .i64 (s.fParents.length - 1)] rfl rfl Try.call55 (l00In_ok w72.drew ((r.fInto[k]!).fCell) 0 (s.fParents.length - 1)) ?_
             rintro _ w78 rfl x79
             replace H := H.ext x79
             refine ⟨H, ?_⟩
             refine rtp 11 (.bool (!(inR ((r.fInto[k]!).fCell) 0 (s.fParents.length - 1)))) H ?_
             refine rtp 12 (.bool (!(inR ((r.fInto[k]!).fCell) 0 (s.fParents.length - 1)))) H ?_
             cases h80 : (!(inR ((r.fInto[k]!).fCell) 0 (s.fParents.length - 1)))
             ·skip
              replace h80 := not_false_of h80
              replace h80 := inR_iff.1 h80
              refine rgp 13 (.pointer (some ⟨bs, os, none⟩)) 126 H ?_
              refine rgp 14 (.pointer (some ⟨b74, o75 + (k : Int).toNat * 2, none⟩)) 126 H ?_
              refine rgp 15 (.pointer (some ⟨b74, o75 + (k : Int).toNat * 2, none⟩)) 126 H ?_
              refine rg 16 (.pointer (some ⟨b74, o75 + (k : Int).toNat * 2 + 0, none⟩)) 126 (y_field b74 (o75 + (k : Int).toNat * 2) 0 Try.underlying108 rfl rfl Try.sizeOf2 rfl) H ?_
              refine rg 17 (.int .i64 ((r.fInto[k]!).fCell)) 126 (y_load1 Try.isAgg2 rfl (fun _ h => h.cellF 1 rfl 0 rfl)) H ?_
              refine rgp 18 (.pointer (some ⟨br, or, none⟩)) 126 H ?_
              refine rgp 19 (.pointer (some ⟨br, or, none⟩)) 126 H ?_
              refine rg 20 (.pointer (some ⟨br, or + 0, none⟩)) 126 (y_field br (or) 0 Try.underlying92 rfl rfl Try.sizeOf2 rfl) H ?_
              refine rg 21 (.int .i64 r.fCell) 126 (y_load1 Try.isAgg2 rfl (fun _ h => h.cellF 5 rfl 0 rfl)) H ?_
              refine r_ops [22] (by kernel_rfl) (by simp) (r_opG rfl (e := 126) rfl rfl ?_ r_nil)
              refine o_call #[.pointer (some ⟨bs, os, none⟩), .int .i64 ((r.fInto[k]!).fCell), .int .i64 r.fCell] rfl rfl Try.call117 (l02In_ok w78 s ((r.fInto[k]!).fCell) r.fCell bs os asParents csParents FsParents asRules csRules FsRules (cellsAt_sub (H.get 2 rfl) 0 3) (H.get 3 rfl).1 (H.get 4 rfl).1 (by assumption) (by assumption)) ?_
              rintro _ w81 rfl x82
              replace H := H.ext x82
              refine ⟨H, ?_⟩
              refine rgp 23 (.bool (!(dec (Lies s.fParents r.fCell ((r.fInto[k]!).fCell))))) 126 H ?_
              refine rtp 24 (.bool (!(dec (Lies s.fParents r.fCell ((r.fInto[k]!).fCell))))) H ?_
              refine rtp 25 (.bool (!(dec (Lies s.fParents r.fCell ((r.fInto[k]!).fCell))))) H ?_
              cases h83 : (!(dec (Lies s.fParents r.fCell ((r.fInto[k]!).fCell))))
              ·skip
               replace h83 := not_false_of h83
               replace h83 := of_dec h83
               refine rgp 26 (.pointer (some ⟨bs, os, none⟩)) 139 H ?_
               refine rgp 27 (.pointer (some ⟨b74, o75 + (k : Int).toNat * 2, none⟩)) 139 H ?_
               refine rgp 28 (.pointer (some ⟨b74, o75 + (k : Int).toNat * 2, none⟩)) 139 H ?_
               refine rg 29 (.pointer (some ⟨b74, o75 + (k : Int).toNat * 2 + 1, none⟩)) 139 (y_field b74 (o75 + (k : Int).toNat * 2) 1 Try.underlying108 rfl rfl Try.sizeOf22 rfl) H ?_
               refine rg 30 (.slice ae76Bag (((r.fInto[k]!).fBag).length) ce76Bag) 139 (y_load1 Try.isAgg22 rfl (fun _ h => h.cellF 1 rfl 1 rfl)) H ?_
               refine r_ops [31] (by kernel_rfl) (by simp) (r_opG rfl (e := 139) rfl rfl ?_ r_nil)
               refine o_call #[.pointer (some ⟨bs, os, none⟩), .slice ae76Bag (((r.fInto[k]!).fBag).length) ce76Bag] rfl rfl Try.call105 (l02Bag_ok w81 s ((r.fInto[k]!).fBag) bs os asParents csParents FsParents asRules csRules FsRules ae76Bag ce76Bag Fe76Bag (cellsAt_sub (H.get 2 rfl) 0 3) (H.get 3 rfl).1 (H.get 4 rfl).1 (H.get 0 rfl).1) ?_
               rintro _ w84 rfl x85
               replace H := H.ext x85
               refine ⟨H, ?_⟩
               refine rgp 32 (.bool (!(dec (BagOk s.fKinds ((r.fInto[k]!).fBag))))) 139 H ?_
               refine rtp 33 (.bool (!(dec (BagOk s.fKinds ((r.fInto[k]!).fBag))))) H ?_
               refine rtp 34 (.bool (!(dec (BagOk s.fKinds ((r.fInto[k]!).fBag))))) H ?_
               cases h86 : (!(dec (BagOk s.fKinds ((r.fInto[k]!).fBag))))
               ·skip
                replace h86 := not_false_of h86
                replace h86 := of_dec h86
                refine rgp 35 (.pointer (some ⟨b74, o75 + (k : Int).toNat * 2, none⟩)) 148 H ?_
                refine rgp 36 (.pointer (some ⟨b74, o75 + (k : Int).toNat * 2, none⟩)) 148 H ?_
                refine rg 37 (.pointer (some ⟨b74, o75 + (k : Int).toNat * 2 + 1, none⟩)) 148 (y_field b74 (o75 + (k : Int).toNat * 2) 1 Try.underlying108 rfl rfl Try.sizeOf22 rfl) H ?_
                refine rg 38 (.slice ae76Bag (((r.fInto[k]!).fBag).length) ce76Bag) 148 (y_load1 Try.isAgg22 rfl (fun _ h => h.cellF 1 rfl 1 rfl)) H ?_
                refine r_ops [39] (by kernel_rfl) (by simp) (r_opG rfl (e := 148) rfl rfl ?_ r_nil)
                refine o_call #[.slice ae76Bag (((r.fInto[k]!).fBag).length) ce76Bag] rfl rfl Try.call106 (l01Size_ok w84 ((r.fInto[k]!).fBag) ae76Bag ce76Bag Fe76Bag (H.get 0 rfl).1 (by first | assumption | exact bagOk_small (by assumption) | exact bag_small (by assumption))) ?_
                rintro _ w87 rfl x88
                replace H := H.ext x88
                refine ⟨H, ?_⟩
                refine rgp 40 (.bool ((sumL ((r.fInto[k]!).fBag) : Int) == 0)) 148 H ?_
                refine rtp 41 (.bool ((sumL ((r.fInto[k]!).fBag) : Int) == 0)) H ?_
                refine r_done (by kernel_rfl) (t_n ?_)
                refine c_cond ((sumL ((r.fInto[k]!).fBag) : Int) == 0) rfl (fun h89 => ?_) (fun h89 => ?_)
                ·skip
                 replace h89 := eq_of_beq h89
                 refine c_seq ?_
                 refine c_reg ?_
                 refine sp (.bool false) ?_
                 refine c_nil (t_n ?_)
                 refine c_ret (t_r (b_r (t_r (t_r (b_r (t_r (?_)))))))
                 refine ret1 (.bool false) rfl rfl ⟨_, rfl, ?_, H.base⟩
                 rw [dec_false (fun h => by obtain ⟨h1, h2, h3, h4, h5, h6, h7, h8, h9, h10, h11⟩ := h; first | contradiction | omega | exact h3 ⟨‹_›, ‹_›⟩ | (obtain ⟨q1, q2, q3, q4, q5⟩ := h11 k (by omega); first | contradiction | omega | (have := q5 (by omega); omega)))]
                ·skip
                 replace h89 := ne_of_beq_false h89
                 refine c_skip (t_n ?_)
                 refine c_seq ?_
                 refine c_drawH rfl H fun H => ?_
                 refine rtp 0 (.int .i64 k) H ?_
                 refine rtp 1 (.bool (decide ((k : Int) > 0))) H ?_
                 refine rtp 2 (.bool (decide ((k : Int) > 0))) H ?_
                 cases h91 : (decide ((k : Int) > 0))
                 ·skip
                  replace h91 := of_decide_eq_false h91
                  refine r_skips [3, 4, 5, 6, 7, 8, 9, 10, 11, 12, 13, 14, 15, 16] 14 (H) ?_
                  refine rtp 17 (.bool false) H ?_
                  refine r_done (by kernel_rfl) (t_n ?_)
                  refine c_cond false rfl (fun h => absurd h (by decide)) (fun _ => ?_)
                  refine c_skip (b_n (t_n ?_))
                  refine c_reg ?_
                  refine sp (.int .i64 k) ?_
                  refine sw (o_add k 1 rfl rfl (by omega) ?_)
                  refine sp (.int .i64 (k + 1)) ?_
                  refine c_nil (?_)
                  refine loop_end (m' := r.fInto.length - (k + 1)) (by omega) ⟨_, k + 1, (by exact upd_eq (upd_eq (upd_eq (rfl) rfl) rfl) rfl), ?_, ?_, rfl, H.sel _ (.refl _) _ (by simp)⟩
                  · omega
                  · exact i1.succ ⟨‹_›, ‹_›, ‹_›, ‹_›, fun hk => by omega⟩
                 ·skip
                  replace h91 := of_decide_eq_true h91
                  refine rgp 3 (.pointer (some ⟨br, or, none⟩)) 158 H ?_
                  refine rgp 4 (.pointer (some ⟨br, or, none⟩)) 158 H ?_
                  refine rg 5 (.pointer (some ⟨br, or + 7, none⟩)) 158 (y_field br (or) 7 Try.underlying92 rfl rfl Try.sizeOf90 rfl) H ?_
                  refine rg 6 (.slice (some ⟨b74, o75, none⟩) r.fInto.length crInto) 158 (y_load1 Try.isAgg90 rfl (fun _ h => h.cellF 5 rfl 7 rfl)) H ?_
                  refine rgp 7 (.int .i64 k) 158 H ?_
                  refine rg 8 (.int .i64 (k - 1)) 158 (y_sub k 1 rfl rfl (by omega)) H ?_
                  obtain ⟨ae92Bag, ce92Bag, Fe92Bag, H⟩ := H.elem_IntoD 11 rfl (k - 1) (k - 1) (by omega) (by omega) (by omega)
                  refine rg 9 (.pointer (some ⟨b74, o75 + (k - 1 : Int).toNat * 2, none⟩)) 158 (y_idxAt b74 (o75) r.fInto.length crInto (k - 1) Try.underlying90 ti108 rfl rfl (by omega) (by omega)) (H.sel _ (.refl _) _ (fun _ h => List.mem_cons_of_mem _ (List.mem_cons_of_mem _ (h)))) ?_
                  refine rg 10 (.pointer (some ⟨b74, o75 + (k - 1 : Int).toNat * 2 + 0, none⟩)) 158 (y_field b74 (o75 + (k - 1 : Int).toNat * 2) 0 Try.underlying108 rfl rfl Try.sizeOf2 rfl) (H.sel _ (.refl _) _ (fun _ h => List.mem_cons_of_mem _ (List.mem_cons_of_mem _ (h)))) ?_
                  refine rgp 12 (.pointer (some ⟨b74, o75 + (k : Int).toNat * 2, none⟩)) 158 (H.sel _ (.refl _) _ (fun _ h => List.mem_cons_of_mem _ (List.mem_cons_of_mem _ (h)))) ?_
                  refine rgp 13 (.pointer (some ⟨b74, o75 + (k : Int).toNat * 2, none⟩)) 158 (H.sel _ (.refl _) _ (fun _ h => List.mem_cons_of_mem _ (List.mem_cons_of_mem _ (h)))) ?_
                  refine rg 14 (.pointer (some ⟨b74, o75 + (k : Int).toNat * 2 + 0, none⟩)) 158 (y_field b74 (o75 + (k : Int).toNat * 2) 0 Try.underlying108 rfl rfl Try.sizeOf2 rfl) (H.sel _ (.refl _) _ (fun _ h => List.mem_cons_of_mem _ (List.mem_cons_of_mem _ (h)))) ?_
                  refine rg 15 (.int .i64 ((r.fInto[k]!).fCell)) 158 (y_load1 Try.isAgg2 rfl (fun _ h => h.cellF 1 rfl 0 rfl)) (H.sel _ (.refl _) _ (fun _ h => List.mem_cons_of_mem _ (List.mem_cons_of_mem _ (h)))) ?_
                  refine r_ops [11] (by kernel_rfl) (by simp) (r_opG rfl (e := 158) rfl rfl ?_ r_nil)
                  refine o_load1 (.int .i64 ((r.fInto[k - 1]!).fCell)) Try.isAgg2 rfl (H.cellF 1 rfl 0 rfl) ?_
                  refine ⟨H.sel _ (.refl _) _ (fun _ h => List.mem_cons_of_mem _ (List.mem_cons_of_mem _ (h))), ?_⟩
                  refine rgp 16 (.bool (decide (((r.fInto[k - 1]!).fCell : Int) ≥ ((r.fInto[k]!).fCell)))) 158 (H.sel _ (.refl _) _ (fun _ h => List.mem_cons_of_mem _ (List.mem_cons_of_mem _ (h)))) ?_
                  refine rtp 17 (.bool (decide (((r.fInto[k - 1]!).fCell : Int) ≥ ((r.fInto[k]!).fCell)))) (H.sel _ (.refl _) _ (fun _ h => List.mem_cons_of_mem _ (List.mem_cons_of_mem _ (h)))) ?_
                  refine r_done (by kernel_rfl) (t_n ?_)
                  refine c_cond (decide (((r.fInto[k - 1]!).fCell : Int) ≥ ((r.fInto[k]!).fCell))) rfl (fun h93 => ?_) (fun h93 => ?_)
                  ·skip
                   replace h93 := of_decide_eq_true h93
                   refine c_seq ?_
                   refine c_reg ?_
                   refine sp (.bool false) ?_
                   refine c_nil (t_n ?_)
                   refine c_ret (b_r (t_r (t_r (b_r (t_r (?_))))))
                   refine ret1 (.bool false) rfl rfl ⟨_, rfl, ?_, H.base⟩
                   rw [dec_false (fun h => by obtain ⟨h1, h2, h3, h4, h5, h6, h7, h8, h9, h10, h11⟩ := h; first | contradiction | omega | exact h3 ⟨‹_›, ‹_›⟩ | (obtain ⟨q1, q2, q3, q4, q5⟩ := h11 k (by omega); first | contradiction | omega | (have := q5 (by omega); omega)))]
                  ·skip
                   replace h93 := of_decide_eq_false h93
                   refine c_skip (b_n (t_n ?_))
                   refine c_reg ?_
                   refine sp (.int .i64 k) ?_
                   refine sw (o_add k 1 rfl rfl (by omega) ?_)
                   refine sp (.int .i64 (k + 1)) ?_
                   refine c_nil (?_)
                   refine loop_end (m' := r.fInto.length - (k + 1)) (by omega) ⟨_, k + 1, (by exact upd_eq (upd_eq (upd_eq (rfl) rfl) rfl) rfl), ?_, ?_, rfl, H.sel _ (.refl _) _ (by simp)⟩
                   · omega
                   · exact i1.succ ⟨‹_›, ‹_›, ‹_›, ‹_›, fun hk => by omega⟩
               ·skip
                replace h86 := not_true_of h86
                replace h86 := not_of_dec h86
                refine r_skips [35, 36, 37, 38, 39, 40] 6 (H) ?_
                refine rtp 41 (.bool true) H ?_
                refine r_done (by kernel_rfl) (t_n ?_)
                refine c_cond true rfl (fun _ => ?_) (fun h => absurd h (by decide))
                refine c_seq ?_
                refine c_reg ?_
                refine sp (.bool false) ?_
                refine c_nil (t_n ?_)
                refine c_ret (t_r (b_r (t_r (t_r (b_r (t_r (?_)))))))
                refine ret1 (.bool false) rfl rfl ⟨_, rfl, ?_, H.base⟩
                rw [dec_false (fun h => by obtain ⟨h1, h2, h3, h4, h5, h6, h7, h8, h9, h10, h11⟩ := h; first | contradiction | omega | exact h3 ⟨‹_›, ‹_›⟩ | (obtain ⟨q1, q2, q3, q4, q5⟩ := h11 k (by omega); first | contradiction | omega | (have := q5 (by omega); omega)))]
              ·skip
               replace h83 := not_true_of h83
               replace h83 := not_of_dec h83
               refine r_skips [26, 27, 28, 29, 30, 31, 32] 7 (H) ?_
               refine rtp 33 (.bool true) H ?_
               refine rtp 34 (.bool true) H ?_
               refine r_skips [35, 36, 37, 38, 39, 40] 6 (H) ?_
               refine rtp 41 (.bool true) H ?_
               refine r_done (by kernel_rfl) (t_n ?_)
               refine c_cond true rfl (fun _ => ?_) (fun h => absurd h (by decide))
               refine c_seq ?_
               refine c_reg ?_
               refine sp (.bool false) ?_
               refine c_nil (t_n ?_)
               refine c_ret (t_r (b_r (t_r (t_r (b_r (t_r (?_)))))))
               refine ret1 (.bool false) rfl rfl ⟨_, rfl, ?_, H.base⟩
               rw [dec_false (fun h => by obtain ⟨h1, h2, h3, h4, h5, h6, h7, h8, h9, h10, h11⟩ := h; first | contradiction | omega | exact h3 ⟨‹_›, ‹_›⟩ | (obtain ⟨q1, q2, q3, q4, q5⟩ := h11 k (by omega); first | contradiction | omega | (have := q5 (by omega); omega)))]
             ·skip
              replace h80 := not_true_of h80
              replace h80 := inR_not h80
              refine r_skips [13, 14, 15, 16, 17, 18, 19, 20, 21, 22, 23] 11 (H) ?_
              refine rtp 24 (.bool true) H ?_
              refine rtp 25 (.bool true) H ?_
              refine r_skips [26, 27, 28, 29, 30, 31, 32] 7 (H) ?_
              refine rtp 33 (.bool true) H ?_
              refine rtp 34 (.bool true) H ?_
              refine r_skips [35, 36, 37, 38, 39, 40] 6 (H) ?_
              refine rtp 41 (.bool true) H ?_
              refine r_done (by kernel_rfl) (t_n ?_)
              refine c_cond true rfl (fun _ => ?_) (fun h => absurd h (by decide))
              refine c_seq ?_
              refine c_reg ?_
              refine sp (.bool false) ?_
              refine c_nil (t_n ?_)
              refine c_ret (t_r (b_r (t_r (t_r (b_r (t_r (?_)))))))
              refine ret1 (.bool false) rfl rfl ⟨_, rfl, ?_, H.base⟩
              rw [dec_false (fun h => by obtain ⟨h1, h2, h3, h4, h5, h6, h7, h8, h9, h10, h11⟩ := h; first | contradiction | omega | exact h3 ⟨‹_›, ‹_›⟩ | (obtain ⟨q1, q2, q3, q4, q5⟩ := h11 k (by omega); first | contradiction | omega | (have := q5 (by omega); omega)))]
            ·skip
             replace h73 := of_decide_eq_false h73
             refine c_exit (t_x (t_x (b_x (t_n ?_))))
             refine c_seq ?_
             refine c_reg ?_
             refine sp (.bool true) ?_
             refine c_nil (t_n ?_)
             refine c_ret (?_)
             refine ret1 (.bool true) rfl rfl ⟨_, rfl, ?_, H.base⟩
             obtain rfl : k = r.fInto.length := by omega
             rw [dec_true ⟨by assumption, by omega, by simp_all, by omega, by assumption, by assumption, by assumption, by assumption, by assumption, by assumption, i1⟩]
          ·skip
           replace h67 := not_true_of h67
           replace h67 := not_of_dec h67
           refine g_skips [92, 93, 94, 95, 96, 97] ?_
           refine sp (.bool true) ?_
           refine c_nil (t_n ?_)
           refine c_cond true rfl (fun _ => ?_) (fun h => absurd h (by decide))
           refine c_seq ?_
           refine c_reg ?_
           refine sp (.bool false) ?_
           refine c_nil (t_n ?_)
           refine c_ret (t_r (?_))
           refine ret1 (.bool false) rfl rfl ⟨_, rfl, ?_, H.base⟩
           rw [dec_false (fun h => by obtain ⟨h1, h2, h3, h4, h5, h6, h7, h8, h9, h10, h11⟩ := h; first | contradiction | omega | exact h3 ⟨‹_›, ‹_›⟩ | (obtain ⟨q1, q2, q3, q4, q5⟩ := h11 k (by omega); first | contradiction | omega | (have := q5 (by omega); omega)))]
         ·skip
          replace h64 := not_true_of h64
          replace h64 := not_of_dec h64
          refine g_skips [83, 84, 85, 86, 87, 88, 89] ?_
          refine sp (.bool true) ?_
          refine sp (.bool true) ?_
          refine g_skips [92, 93, 94, 95, 96, 97] ?_
          refine sp (.bool true) ?_
          refine c_nil (t_n ?_)
          refine c_cond true rfl (fun _ => ?_) (fun h => absurd h (by decide))
          refine c_seq ?_
          refine c_reg ?_
          refine sp (.bool false) ?_
          refine c_nil (t_n ?_)
          refine c_ret (t_r (?_))
          refine ret1 (.bool false) rfl rfl ⟨_, rfl, ?_, H.base⟩
          rw [dec_false (fun h => by obtain ⟨h1, h2, h3, h4, h5, h6, h7, h8, h9, h10, h11⟩ := h; first | contradiction | omega | exact h3 ⟨‹_›, ‹_›⟩ | (obtain ⟨q1, q2, q3, q4, q5⟩ := h11 k (by omega); first | contradiction | omega | (have := q5 (by omega); omega)))]
        ·skip
         replace h61 := not_true_of h61
         replace h61 := not_of_dec h61
         refine g_skips [74, 75, 76, 77, 78, 79, 80] ?_
         refine sp (.bool true) ?_
         refine sp (.bool true) ?_
         refine g_skips [83, 84, 85, 86, 87, 88, 89] ?_
         refine sp (.bool true) ?_
         refine sp (.bool true) ?_
         refine g_skips [92, 93, 94, 95, 96, 97] ?_
         refine sp (.bool true) ?_
         refine c_nil (t_n ?_)
         refine c_cond true rfl (fun _ => ?_) (fun h => absurd h (by decide))
         refine c_seq ?_
         refine c_reg ?_
         refine sp (.bool false) ?_
         refine c_nil (t_n ?_)
         refine c_ret (t_r (?_))
         refine ret1 (.bool false) rfl rfl ⟨_, rfl, ?_, H.base⟩
         rw [dec_false (fun h => by obtain ⟨h1, h2, h3, h4, h5, h6, h7, h8, h9, h10, h11⟩ := h; first | contradiction | omega | exact h3 ⟨‹_›, ‹_›⟩ | (obtain ⟨q1, q2, q3, q4, q5⟩ := h11 k (by omega); first | contradiction | omega | (have := q5 (by omega); omega)))]
       ·skip
        replace h58 := not_true_of h58
        replace h58 := not_of_dec h58
        refine g_skips [65, 66, 67, 68, 69, 70, 71] ?_
        refine sp (.bool true) ?_
        refine sp (.bool true) ?_
        refine g_skips [74, 75, 76, 77, 78, 79, 80] ?_
        refine sp (.bool true) ?_
        refine sp (.bool true) ?_
        refine g_skips [83, 84, 85, 86, 87, 88, 89] ?_
        refine sp (.bool true) ?_
        refine sp (.bool true) ?_
        refine g_skips [92, 93, 94, 95, 96, 97] ?_
        refine sp (.bool true) ?_
        refine c_nil (t_n ?_)
        refine c_cond true rfl (fun _ => ?_) (fun h => absurd h (by decide))
        refine c_seq ?_
        refine c_reg ?_
        refine sp (.bool false) ?_
        refine c_nil (t_n ?_)
        refine c_ret (t_r (?_))
        refine ret1 (.bool false) rfl rfl ⟨_, rfl, ?_, H.base⟩
        rw [dec_false (fun h => by obtain ⟨h1, h2, h3, h4, h5, h6, h7, h8, h9, h10, h11⟩ := h; first | contradiction | omega | exact h3 ⟨‹_›, ‹_›⟩ | (obtain ⟨q1, q2, q3, q4, q5⟩ := h11 k (by omega); first | contradiction | omega | (have := q5 (by omega); omega)))]
      ·skip
       replace h55 := not_true_of h55
       replace h55 := not_of_dec h55
       refine g_skips [56, 57, 58, 59, 60, 61, 62] ?_
       refine sp (.bool true) ?_
       refine sp (.bool true) ?_
       refine g_skips [65, 66, 67, 68, 69, 70, 71] ?_
       refine sp (.bool true) ?_
       refine sp (.bool true) ?_
       refine g_skips [74, 75, 76, 77, 78, 79, 80] ?_
       refine sp (.bool true) ?_
       refine sp (.bool true) ?_
       refine g_skips [83, 84, 85, 86, 87, 88, 89] ?_
       refine sp (.bool true) ?_
       refine sp (.bool true) ?_
       refine g_skips [92, 93, 94, 95, 96, 97] ?_
       refine sp (.bool true) ?_
       refine c_nil (t_n ?_)
       refine c_cond true rfl (fun _ => ?_) (fun h => absurd h (by decide))
       refine c_seq ?_
       refine c_reg ?_
       refine sp (.bool false) ?_
       refine c_nil (t_n ?_)
       refine c_ret (t_r (?_))
       refine ret1 (.bool false) rfl rfl ⟨_, rfl, ?_, H.base⟩
       rw [dec_false (fun h => by obtain ⟨h1, h2, h3, h4, h5, h6, h7, h8, h9, h10, h11⟩ := h; first | contradiction | omega | exact h3 ⟨‹_›, ‹_›⟩ | (obtain ⟨q1, q2, q3, q4, q5⟩ := h11 k (by omega); first | contradiction | omega | (have := q5 (by omega); omega)))]
    ·skip
     replace h51 := eq_of_beq h51
     refine r_skips [34, 35, 36, 37, 38, 39] 6 (H) ?_
     refine rtp 40 (.bool true) H ?_
     refine r_done (by kernel_rfl) (t_n ?_)
     refine c_cond true rfl (fun _ => ?_) (fun h => absurd h (by decide))
     refine c_seq ?_
     refine c_reg ?_
     refine sp (.bool false) ?_
     refine c_nil (t_n ?_)
     refine c_ret (t_r (?_))
     refine ret1 (.bool false) rfl rfl ⟨_, rfl, ?_, H.base⟩
     rw [dec_false (fun h => by obtain ⟨h1, h2, h3, h4, h5, h6, h7, h8, h9, h10, h11⟩ := h; first | contradiction | omega | exact h3 ⟨‹_›, ‹_›⟩ | (obtain ⟨q1, q2, q3, q4, q5⟩ := h11 k (by omega); first | contradiction | omega | (have := q5 (by omega); omega)))]
  ·skip
   replace h7 := not_true_of h7
   replace h7 := inR_not h7
   refine r_skips [21, 22, 23, 24, 25, 26, 27, 28, 29, 30, 31] 11 (H) ?_
   refine rtp 32 (.bool true) H ?_
   refine rtp 33 (.bool true) H ?_
   refine r_skips [34, 35, 36, 37, 38, 39] 6 (H) ?_
   refine rtp 40 (.bool true) H ?_
   refine r_done (by kernel_rfl) (t_n ?_)
   refine c_cond true rfl (fun _ => ?_) (fun h => absurd h (by decide))
   refine c_seq ?_
   refine c_reg ?_
   refine sp (.bool false) ?_
   refine c_nil (t_n ?_)
   refine c_ret (t_r (?_))
   refine ret1 (.bool false) rfl rfl ⟨_, rfl, ?_, H.base⟩
   rw [dec_false (fun h => by obtain ⟨h1, h2, h3, h4, h5, h6, h7, h8, h9, h10, h11⟩ := h; first | contradiction | omega | exact h3 ⟨‹_›, ‹_›⟩ | (obtain ⟨q1, q2, q3, q4, q5⟩ := h11 k (by omega); first | contradiction | omega | (have := q5 (by omega); omega)))]
 ·skip
  replace h4 := not_true_of h4
  replace h4 := inR_not h4
  refine r_skips [13, 14, 15, 16, 17, 18] 6 (H) ?_
  refine rtp 19 (.bool true) H ?_
  refine rtp 20 (.bool true) H ?_
  refine r_skips [21, 22, 23, 24, 25, 26, 27, 28, 29, 30, 31] 11 (H) ?_
  refine rtp 32 (.bool true) H ?_
  refine rtp 33 (.bool true) H ?_
  refine r_skips [34, 35, 36, 37, 38, 39] 6 (H) ?_
  refine rtp 40 (.bool true) H ?_
  refine r_done (by kernel_rfl) (t_n ?_)
  refine c_cond true rfl (fun _ => ?_) (fun h => absurd h (by decide))
  refine c_seq ?_
  refine c_reg ?_
  refine sp (.bool false) ?_
  refine c_nil (t_n ?_)
  refine c_ret (t_r (?_))
  refine ret1 (.bool false) rfl rfl ⟨_, rfl, ?_, H.base⟩
  rw [dec_false (fun h => by obtain ⟨h1, h2, h3, h4, h5, h6, h7, h8, h9, h10, h11⟩ := h; first | contradiction | omega | exact h3 ⟨‹_›, ‹_›⟩ | (obtain ⟨q1, q2, q3, q4, q5⟩ := h11 k (by omega); first | contradiction | omega | (have := q5 (by omega); omega)))]

theorem l02State_ok (w : World) (s : SystemD) (t : StateD) (bs os : Nat) (asParents : Option Addr) (csParents : Nat) (FsParents : List Nat) (asRules : Option Addr) (csRules : Nat) (FsRules : List Nat) (bt ot : Nat) (atAlive : Option Addr) (ctAlive : Nat) (FtAlive : List Nat) (atBags : Option Addr) (ctBags : Nat) (FtBags : List Nat) (atAround : Option Addr) (ctAround : Nat) (FtAround : List Nat) (hs : CellsAt w bs os [.int .i64 s.fKinds, .slice asParents s.fParents.length csParents, .slice asRules s.fRules.length csRules]) (hsParents : GoRep.rep w FsParents [.slice asParents s.fParents.length csParents] s.fParents) (hsRules : GoRep.rep w FsRules [.slice asRules s.fRules.length csRules] s.fRules) (ht : CellsAt w bt ot [.slice atAlive t.fAlive.length ctAlive, .slice atBags t.fBags.length ctBags, .slice atAround t.fAround.length ctAround]) (htAlive : GoRep.rep w FtAlive [.slice atAlive t.fAlive.length ctAlive] t.fAlive) (htBags : GoRep.rep w FtBags [.slice atBags t.fBags.length ctBags] t.fBags) (htAround : GoRep.rep w FtAround [.slice atAround t.fAround.length ctAround] t.fAround) (p0 : FrameOk s) : Calls Try.prog 76 #[.pointer (some ⟨bs, os, none⟩), .pointer (some ⟨bt, ot, none⟩)] w (Ret (fun v w' => v = .bool (dec (StateOk s t))) w) := by
 refine enter (n := 88) Try.func76 rfl Try.ntmps76 (Nat.le_of_ble_eq_true rfl) ?_
 have H := St.start w
 replace H := H.add (isF false FtAround (.slice atAround t.fAround.length ctAround) t.fAround) ⟨htAround, by simp⟩ (start_lt htAround)
 replace H := H.add (isF false FtBags (.slice atBags t.fBags.length ctBags) t.fBags) ⟨htBags, by simp⟩ (start_lt htBags)
 replace H := H.add (isF false FtAlive (.slice atAlive t.fAlive.length ctAlive) t.fAlive) ⟨htAlive, by simp⟩ (start_lt htAlive)
 replace H := H.add (atF bt ot [.slice atAlive t.fAlive.length ctAlive, .slice atBags t.fBags.length ctBags, .slice atAround t.fAround.length ctAround]) ht (start_at ht)
 replace H := H.add (isF false FsRules (.slice asRules s.fRules.length csRules) s.fRules) ⟨hsRules, by simp⟩ (start_lt hsRules)
 replace H := H.add (isF false FsParents (.slice asParents s.fParents.length csParents) s.fParents) ⟨hsParents, by simp⟩ (start_lt hsParents)
 replace H := H.add (atF bs os [.int .i64 s.fKinds, .slice asParents s.fParents.length csParents, .slice asRules s.fRules.length csRules]) hs (start_at hs)
 have nhsParents := rep_len hsParents
 have nhsRules := rep_len hsRules
 have nhtAlive := rep_len htAlive
 have nhtBags := rep_len htBags
 have nhtAround := rep_len htAround
 clear hs hsParents hsRules ht htAlive htBags htAround
 have p1 := p0.2.1
 refine c_seq ?_
 refine c_reg ?_
 refine sp (.bool false) ?_
 refine c_nil (t_n ?_)
 refine c_seq ?_
 refine c_seq ?_
 refine c_drawH rfl H fun H => ?_
 refine rtp 0 (.pointer (some ⟨bt, ot, none⟩)) H ?_
 refine rtp 1 (.pointer (some ⟨bt, ot, none⟩)) H ?_
 refine rt 2 (.pointer (some ⟨bt, ot + 0, none⟩)) (y_field bt (ot) 0 Try.underlying41 rfl rfl Try.sizeOf36 rfl) H ?_
 refine rt 3 (.slice atAlive t.fAlive.length ctAlive) (y_load1 Try.isAgg36 rfl (fun _ h => h.cellF 3 rfl 0 rfl)) H ?_
 refine rt 4 (.int .i64 t.fAlive.length) (y_len Try.underlying36 atAlive t.fAlive.length ctAlive rfl) H ?_
 refine rtp 5 (.pointer (some ⟨bs, os, none⟩)) H ?_
 refine rtp 6 (.pointer (some ⟨bs, os, none⟩)) H ?_
 refine rt 7 (.pointer (some ⟨bs, os + 1, none⟩)) (y_field bs (os) 1 Try.underlying30 rfl rfl Try.sizeOf22 rfl) H ?_
 refine rt 8 (.slice asParents s.fParents.length csParents) (y_load1 Try.isAgg22 rfl (fun _ h => h.cellF 0 rfl 1 rfl)) H ?_
 refine rt 9 (.int .i64 s.fParents.length) (y_len Try.underlying22 asParents s.fParents.length csParents rfl) H ?_
 refine rtp 10 (.bool ((t.fAlive.length : Int) != s.fParents.length)) H ?_
 refine rtp 11 (.bool ((t.fAlive.length : Int) != s.fParents.length)) H ?_
 cases h2 : ((t.fAlive.length : Int) != s.fParents.length)
 ·skip
  replace h2 := eq_of_bne_false h2
  refine rgp 12 (.pointer (some ⟨bt, ot, none⟩)) 17 H ?_
  refine rgp 13 (.pointer (some ⟨bt, ot, none⟩)) 17 H ?_
  refine rg 14 (.pointer (some ⟨bt, ot + 1, none⟩)) 17 (y_field bt (ot) 1 Try.underlying41 rfl rfl Try.sizeOf37 rfl) H ?_
  refine rg 15 (.slice atBags t.fBags.length ctBags) 17 (y_load1 Try.isAgg37 rfl (fun _ h => h.cellF 3 rfl 1 rfl)) H ?_
  refine rg 16 (.int .i64 t.fBags.length) 17 (y_len Try.underlying37 atBags t.fBags.length ctBags rfl) H ?_
  refine rgp 17 (.pointer (some ⟨bs, os, none⟩)) 17 H ?_
  refine rgp 18 (.pointer (some ⟨bs, os, none⟩)) 17 H ?_
  refine rg 19 (.pointer (some ⟨bs, os + 1, none⟩)) 17 (y_field bs (os) 1 Try.underlying30 rfl rfl Try.sizeOf22 rfl) H ?_
  refine rg 20 (.slice asParents s.fParents.length csParents) 17 (y_load1 Try.isAgg22 rfl (fun _ h => h.cellF 0 rfl 1 rfl)) H ?_
  refine rg 21 (.int .i64 s.fParents.length) 17 (y_len Try.underlying22 asParents s.fParents.length csParents rfl) H ?_
  refine rgp 22 (.bool ((t.fBags.length : Int) != s.fParents.length)) 17 H ?_
  refine rtp 23 (.bool ((t.fBags.length : Int) != s.fParents.length)) H ?_
  refine rtp 24 (.bool ((t.fBags.length : Int) != s.fParents.length)) H ?_
  cases h3 : ((t.fBags.length : Int) != s.fParents.length)
  ·skip
   replace h3 := eq_of_bne_false h3
   refine rgp 25 (.pointer (some ⟨bt, ot, none⟩)) 30 H ?_
   refine rgp 26 (.pointer (some ⟨bt, ot, none⟩)) 30 H ?_
   refine rg 27 (.pointer (some ⟨bt, ot + 0, none⟩)) 30 (y_field bt (ot) 0 Try.underlying41 rfl rfl Try.sizeOf36 rfl) H ?_
   refine rg 28 (.slice atAlive t.fAlive.length ctAlive) 30 (y_load1 Try.isAgg36 rfl (fun _ h => h.cellF 3 rfl 0 rfl)) H ?_
   obtain ⟨b4, o5, rfl⟩ := H.addr 4 rfl (by omega)
   refine rg 29 (.pointer (some ⟨b4, o5 + (0 : Int).toNat * 1, none⟩)) 30 (y_idxAt b4 (o5) t.fAlive.length ctAlive 0 Try.underlying36 ti4 rfl rfl (by omega) (by omega)) H ?_
   refine rg 30 (.bool (t.fAlive[0]!)) 30 (y_load1 Try.isAgg4 rfl (fun _ h => h.elemBool 4 rfl 0 (by omega) (by omega))) H ?_
   refine rgp 31 (.bool (!(t.fAlive[0]!))) 30 H ?_
   refine rtp 32 (.bool (!(t.fAlive[0]!))) H ?_
   refine rtp 33 (.bool (!(t.fAlive[0]!))) H ?_
   cases h6 : (!(t.fAlive[0]!))
   ·skip
    replace h6 := not_false_of h6
    refine rgp 34 (.pointer (some ⟨bs, os, none⟩)) 39 H ?_
    refine rgp 35 (.pointer (some ⟨bt, ot, none⟩)) 39 H ?_
    refine rgp 36 (.pointer (some ⟨bt, ot, none⟩)) 39 H ?_
    refine rg 37 (.pointer (some ⟨bt, ot + 2, none⟩)) 39 (y_field bt (ot) 2 Try.underlying41 rfl rfl Try.sizeOf22 rfl) H ?_
    refine rg 38 (.slice atAround t.fAround.length ctAround) 39 (y_load1 Try.isAgg22 rfl (fun _ h => h.cellF 3 rfl 2 rfl)) H ?_
    refine r_ops [39] (by kernel_rfl) (by simp) (r_opG rfl (e := 39) rfl rfl ?_ r_nil)
    refine o_call #[.pointer (some ⟨bs, os, none⟩), .slice atAround t.fAround.length ctAround] rfl rfl Try.call105 (l02Bag_ok w.drew s t.fAround bs os asParents csParents FsParents asRules csRules FsRules atAround ctAround FtAround (cellsAt_sub (H.get 0 rfl) 0 3) (H.get 1 rfl).1 (H.get 2 rfl).1 (H.get 6 rfl).1) ?_
    rintro _ w7 rfl x8
    replace H := H.ext x8
    refine ⟨H, ?_⟩
    refine rgp 40 (.bool (!(dec (BagOk s.fKinds t.fAround)))) 39 H ?_
    refine rtp 41 (.bool (!(dec (BagOk s.fKinds t.fAround)))) H ?_
    refine r_done (by kernel_rfl) (t_n ?_)
    refine c_cond (!(dec (BagOk s.fKinds t.fAround))) rfl (fun h9 => ?_) (fun h9 => ?_)
    ·skip
     replace h9 := not_true_of h9
     replace h9 := not_of_dec h9
     refine c_seq ?_
     refine c_reg ?_
     refine sp (.bool false) ?_
     refine c_nil (t_n ?_)
     refine c_ret (t_r (?_))
     refine ret1 (.bool false) rfl rfl ⟨_, rfl, ?_, H.base⟩
     rw [dec_false (fun h => by obtain ⟨h1, h2, h3, h4, h5⟩ := h; first | contradiction | omega | (simp_all; done) | (obtain ⟨q1, q2⟩ := h5 k (by omega); first | contradiction | (have := q2 (by assumption); omega)))]
    ·skip
     replace h9 := not_false_of h9
     replace h9 := of_dec h9
     refine c_skip (t_n ?_)
     refine c_seq ?_
     refine c_seq ?_
     refine c_reg ?_
     refine sp (.int .i64 0) ?_
     refine c_nil (t_n ?_)
     refine c_block ?_
     refine c_loop (fun m' ρ w10 => ∃ (junk : Env) (k : Nat), ρ = upd (upd (upd junk 0 (.pointer (some ⟨bs, os, none⟩))) 1 (.pointer (some ⟨bt, ot, none⟩))) 5 (.int .i64 k) ∧ (k ≤ t.fBags.length) ∧ (BagsTo s t k) ∧ m' = t.fBags.length - k ∧ St w w10 [] [atF bs os [.int .i64 s.fKinds, .slice asParents s.fParents.length csParents, .slice asRules s.fRules.length csRules], isF false FsParents (.slice asParents s.fParents.length csParents) s.fParents, isF false FsRules (.slice asRules s.fRules.length csRules) s.fRules, atF bt ot [.slice (some ⟨b4, o5, none⟩) t.fAlive.length ctAlive, .slice atBags t.fBags.length ctBags, .slice atAround t.fAround.length ctAround], isF false FtAlive (.slice (some ⟨b4, o5, none⟩) t.fAlive.length ctAlive) t.fAlive, isF false FtBags (.slice atBags t.fBags.length ctBags) t.fBags, isF false FtAround (.slice atAround t.fAround.length ctAround) t.fAround]) (t.fBags.length - 0) ⟨_, 0, (by exact upd_eq (upd_eq (upd_eq (rfl) rfl) rfl) rfl), (by omega), (by exact fun j hj => by omega), rfl, H⟩ ?_
     clear H
     rintro m' ρ w11 ⟨junk, k, rfl, i0, i1, rfl, H⟩
     refine c_seq ?_
     refine c_seq ?_
     refine c_reg ?_
     refine sp (.int .i64 k) ?_
     refine sp (.pointer (some ⟨bt, ot, none⟩)) ?_
     refine sp (.pointer (some ⟨bt, ot, none⟩)) ?_
     refine sw (o_field bt (ot) 1 Try.underlying41 rfl rfl Try.sizeOf37 rfl ?_)
     refine sw (o_load1 (.slice atBags t.fBags.length ctBags) Try.isAgg37 rfl (H.cellF 3 rfl 1 rfl) ?_)
     refine sw (o_len Try.underlying37 atBags t.fBags.length ctBags rfl ?_)
     refine sp (.bool (decide ((k : Int) < t.fBags.length))) ?_
     refine c_nil (t_n ?_)
     refine c_cond (decide ((k : Int) < t.fBags.length)) rfl (fun h12 => ?_) (fun h12 => ?_)
     ·skip
      replace h12 := of_decide_eq_true h12
      refine c_skip (t_n ?_)
      refine c_seq ?_
      refine c_block ?_
      refine c_seq ?_
      refine c_reg ?_
      refine sp (.pointer (some ⟨bs, os, none⟩)) ?_
      refine sp (.pointer (some ⟨bt, ot, none⟩)) ?_
      refine sp (.pointer (some ⟨bt, ot, none⟩)) ?_
      refine sw (o_field bt (ot) 1 Try.underlying41 rfl rfl Try.sizeOf37 rfl ?_)
      refine sw (o_load1 (.slice atBags t.fBags.length ctBags) Try.isAgg37 rfl (H.cellF 3 rfl 1 rfl) ?_)
      refine sp (.int .i64 k) ?_
      obtain ⟨b13, o14, rfl⟩ := H.addr 5 rfl (by omega)
      obtain ⟨ae15, ce15, Fe15, H⟩ := H.elemList 5 rfl k k (by omega) (by omega) (by omega)
      refine sw (o_idxAt k Try.underlying37 ti22 rfl rfl (by omega) (by omega) ?_)
      refine sw (o_load1 (.slice ae15 ((t.fBags[k]!).length) ce15) Try.isAgg22 rfl (H.cellF 1 rfl 0 rfl) ?_)
      refine sw (o_call #[.pointer (some ⟨bs, os, none⟩), .slice ae15 ((t.fBags[k]!).length) ce15] rfl rfl Try.call105 (l02Bag_ok w11 s (t.fBags[k]!) bs os asParents csParents FsParents asRules csRules FsRules ae15 ce15 Fe15 (cellsAt_sub (H.get 2 rfl) 0 3) (H.get 3 rfl).1 (H.get 4 rfl).1 (H.get 0 rfl).1) ?_)
      rintro _ w16 rfl x17
      replace H := H.ext x17
      refine sp (.bool (!(dec (BagOk s.fKinds (t.fBags[k]!))))) ?_
      refine sp (.bool (!(dec (BagOk s.fKinds (t.fBags[k]!))))) ?_
      cases h18 : (!(dec (BagOk s.fKinds (t.fBags[k]!))))
      ·skip
       replace h18 := not_false_of h18
       replace h18 := of_dec h18
       refine g_take 67 rfl rfl ?_
       refine sp (.pointer (some ⟨bt, ot, none⟩)) ?_
       refine g_take 67 rfl rfl ?_
       refine sp (.pointer (some ⟨bt, ot, none⟩)) ?_
       refine g_take 67 rfl rfl ?_
       refine sw (o_field bt (ot) 0 Try.underlying41 rfl rfl Try.sizeOf36 rfl ?_)
       refine g_take 67 rfl rfl ?_
       refine sw (o_load1 (.slice (some ⟨b4, o5, none⟩) t.fAlive.length ctAlive) Try.isAgg36 rfl (H.cellF 5 rfl 0 rfl) ?_)
       refine g_take 67 rfl rfl ?_
       refine sp (.int .i64 k) ?_
       refine g_take 67 rfl rfl ?_
       refine sw (o_idxAt k Try.underlying36 ti4 rfl rfl (by omega) (by omega) ?_)
       refine g_take 67 rfl rfl ?_
       refine sw (o_load1 (.bool (t.fAlive[k]!)) Try.isAgg4 rfl (H.elemBool 6 rfl k (by omega) (by omega)) ?_)
       refine g_take 67 rfl rfl ?_
       refine sp (.bool (!(t.fAlive[k]!))) ?_
       refine g_take 67 rfl rfl ?_
       refine sp (.bool (!(t.fAlive[k]!))) ?_
       cases h19 : (!(t.fAlive[k]!))
       ·skip
        replace h19 := not_false_of h19
        refine g_skips [77, 78, 79, 80, 81, 82, 83, 84, 85] ?_
        refine g_take 67 rfl rfl ?_
        refine sp (.bool false) ?_
        refine sp (.bool false) ?_
        refine c_nil (t_n ?_)
        refine c_cond false rfl (fun h => absurd h (by decide)) (fun _ => ?_)
        refine c_skip (b_n (t_n ?_))
        refine c_reg ?_
        refine sp (.int .i64 k) ?_
        refine sw (o_add k 1 rfl rfl (by omega) ?_)
        refine sp (.int .i64 (k + 1)) ?_
        refine c_nil (?_)
        refine loop_end (m' := t.fBags.length - (k + 1)) (by omega) ⟨_, k + 1, (by exact upd_eq (upd_eq (upd_eq (rfl) rfl) rfl) rfl), ?_, ?_, rfl, H.sel _ (.refl _) _ (by simp)⟩
        · omega
        · exact i1.succ ‹_› (fun hk => by first | omega | simp_all)
       ·skip
        replace h19 := not_true_of h19
        refine g_take 76 rfl rfl ?_
        refine sp (.pointer (some ⟨bt, ot, none⟩)) ?_
        refine g_take 76 rfl rfl ?_
        refine sp (.pointer (some ⟨bt, ot, none⟩)) ?_
        refine g_take 76 rfl rfl ?_
        refine sw (o_field bt (ot) 1 Try.underlying41 rfl rfl Try.sizeOf37 rfl ?_)
        refine g_take 76 rfl rfl ?_
        refine sw (o_load1 (.slice (some ⟨b13, o14, none⟩) t.fBags.length ctBags) Try.isAgg37 rfl (H.cellF 5 rfl 1 rfl) ?_)
        refine g_take 76 rfl rfl ?_
        refine sp (.int .i64 k) ?_
        refine g_take 76 rfl rfl ?_
        refine sw (o_idxAt k Try.underlying37 ti22 rfl rfl (by omega) (by omega) ?_)
        refine g_take 76 rfl rfl ?_
        refine sw (o_load1 (.slice ae15 ((t.fBags[k]!).length) ce15) Try.isAgg22 rfl (H.cellF 1 rfl 0 rfl) ?_)
        refine g_take 76 rfl rfl ?_
        refine sw (o_call #[.slice ae15 ((t.fBags[k]!).length) ce15] rfl rfl Try.call106 (l01Size_ok w16 (t.fBags[k]!) ae15 ce15 Fe15 (H.get 0 rfl).1 (by first | assumption | exact bagOk_small (by assumption) | exact bag_small (by assumption))) ?_)
        rintro _ w20 rfl x21
        replace H := H.ext x21
        refine g_take 76 rfl rfl ?_
        refine sp (.bool (decide ((sumL (t.fBags[k]!) : Int) > 0))) ?_
        refine g_take 67 rfl rfl ?_
        refine sp (.bool (decide ((sumL (t.fBags[k]!) : Int) > 0))) ?_
        refine sp (.bool (decide ((sumL (t.fBags[k]!) : Int) > 0))) ?_
        refine c_nil (t_n ?_)
        refine c_cond (decide ((sumL (t.fBags[k]!) : Int) > 0)) rfl (fun h22 => ?_) (fun h22 => ?_)
        ·skip
         replace h22 := of_decide_eq_true h22
         refine c_seq ?_
         refine c_reg ?_
         refine sp (.bool false) ?_
         refine c_nil (t_n ?_)
         refine c_ret (b_r (t_r (t_r (b_r (t_r (?_))))))
         refine ret1 (.bool false) rfl rfl ⟨_, rfl, ?_, H.base⟩
         rw [dec_false (fun h => by obtain ⟨h1, h2, h3, h4, h5⟩ := h; first | contradiction | omega | (simp_all; done) | (obtain ⟨q1, q2⟩ := h5 k (by omega); first | contradiction | (have := q2 (by assumption); omega)))]
        ·skip
         replace h22 := of_decide_eq_false h22
         refine c_skip (b_n (t_n ?_))
         refine c_reg ?_
         refine sp (.int .i64 k) ?_
         refine sw (o_add k 1 rfl rfl (by omega) ?_)
         refine sp (.int .i64 (k + 1)) ?_
         refine c_nil (?_)
         refine loop_end (m' := t.fBags.length - (k + 1)) (by omega) ⟨_, k + 1, (by exact upd_eq (upd_eq (upd_eq (rfl) rfl) rfl) rfl), ?_, ?_, rfl, H.sel _ (.refl _) _ (by simp)⟩
         · omega
         · exact i1.succ ‹_› (fun hk => by first | omega | simp_all)
      ·skip
       replace h18 := not_true_of h18
       replace h18 := not_of_dec h18
       refine g_skips [68, 69, 70, 71, 72, 73, 74, 75, 76, 77, 78, 79, 80, 81, 82, 83, 84, 85, 86] ?_
       refine sp (.bool true) ?_
       refine c_nil (t_n ?_)
       refine c_cond true rfl (fun _ => ?_) (fun h => absurd h (by decide))
       refine c_seq ?_
       refine c_reg ?_
       refine sp (.bool false) ?_
       refine c_nil (t_n ?_)
       refine c_ret (b_r (t_r (t_r (b_r (t_r (?_))))))
       refine ret1 (.bool false) rfl rfl ⟨_, rfl, ?_, H.base⟩
       rw [dec_false (fun h => by obtain ⟨h1, h2, h3, h4, h5⟩ := h; first | contradiction | omega | (simp_all; done) | (obtain ⟨q1, q2⟩ := h5 k (by omega); first | contradiction | (have := q2 (by assumption); omega)))]
     ·skip
      replace h12 := of_decide_eq_false h12
      refine c_exit (t_x (t_x (b_x (t_n ?_))))
      refine c_seq ?_
      refine c_reg ?_
      refine sp (.bool true) ?_
      refine c_nil (t_n ?_)
      refine c_ret (?_)
      refine ret1 (.bool true) rfl rfl ⟨_, rfl, ?_, H.base⟩
      obtain rfl : k = t.fBags.length := by omega
      rw [dec_true ⟨by omega, by omega, by first | assumption | simp_all, by assumption, i1⟩]
   ·skip
    replace h6 := not_true_of h6
    refine r_skips [34, 35, 36, 37, 38, 39, 40] 7 (H) ?_
    refine rtp 41 (.bool true) H ?_
    refine r_done (by kernel_rfl) (t_n ?_)
    refine c_cond true rfl (fun _ => ?_) (fun h => absurd h (by decide))
    refine c_seq ?_
    refine c_reg ?_
    refine sp (.bool false) ?_
    refine c_nil (t_n ?_)
    refine c_ret (t_r (?_))
    refine ret1 (.bool false) rfl rfl ⟨_, rfl, ?_, H.base⟩
    rw [dec_false (fun h => by obtain ⟨h1, h2, h3, h4, h5⟩ := h; first | contradiction | omega | (simp_all; done) | (obtain ⟨q1, q2⟩ := h5 k (by omega); first | contradiction | (have := q2 (by assumption); omega)))]
  ·skip
   replace h3 := bne_iff_ne.1 h3
   refine r_skips [25, 26, 27, 28, 29, 30, 31] 7 (H) ?_
   refine rtp 32 (.bool true) H ?_
   refine rtp 33 (.bool true) H ?_
   refine r_skips [34, 35, 36, 37, 38, 39, 40] 7 (H) ?_
   refine rtp 41 (.bool true) H ?_
   refine r_done (by kernel_rfl) (t_n ?_)
   refine c_cond true rfl (fun _ => ?_) (fun h => absurd h (by decide))
   refine c_seq ?_
   refine c_reg ?_
   refine sp (.bool false) ?_
   refine c_nil (t_n ?_)
   refine c_ret (t_r (?_))
   refine ret1 (.bool false) rfl rfl ⟨_, rfl, ?_, H.base⟩
   rw [dec_false (fun h => by obtain ⟨h1, h2, h3, h4, h5⟩ := h; first | contradiction | omega | (simp_all; done) | (obtain ⟨q1, q2⟩ := h5 k (by omega); first | contradiction | (have := q2 (by assumption); omega)))]
 ·skip
  replace h2 := bne_iff_ne.1 h2
  refine r_skips [12, 13, 14, 15, 16, 17, 18, 19, 20, 21, 22] 11 (H) ?_
  refine rtp 23 (.bool true) H ?_
  refine rtp 24 (.bool true) H ?_
  refine r_skips [25, 26, 27, 28, 29, 30, 31] 7 (H) ?_
  refine rtp 32 (.bool true) H ?_
  refine rtp 33 (.bool true) H ?_
  refine r_skips [34, 35, 36, 37, 38, 39, 40] 7 (H) ?_
  refine rtp 41 (.bool true) H ?_
  refine r_done (by kernel_rfl) (t_n ?_)
  refine c_cond true rfl (fun _ => ?_) (fun h => absurd h (by decide))
  refine c_seq ?_
  refine c_reg ?_
  refine sp (.bool false) ?_
  refine c_nil (t_n ?_)
  refine c_ret (t_r (?_))
  refine ret1 (.bool false) rfl rfl ⟨_, rfl, ?_, H.base⟩
  rw [dec_false (fun h => by obtain ⟨h1, h2, h3, h4, h5⟩ := h; first | contradiction | omega | (simp_all; done) | (obtain ⟨q1, q2⟩ := h5 k (by omega); first | contradiction | (have := q2 (by assumption); omega)))]

theorem l02Parent_ok (w : World) (s : SystemD) (t : StateD) (c : Int) (bs os : Nat) (asParents : Option Addr) (csParents : Nat) (FsParents : List Nat) (asRules : Option Addr) (csRules : Nat) (FsRules : List Nat) (bt ot : Nat) (atAlive : Option Addr) (ctAlive : Nat) (FtAlive : List Nat) (atBags : Option Addr) (ctBags : Nat) (FtBags : List Nat) (atAround : Option Addr) (ctAround : Nat) (FtAround : List Nat) (hs : CellsAt w bs os [.int .i64 s.fKinds, .slice asParents s.fParents.length csParents, .slice asRules s.fRules.length csRules]) (hsParents : GoRep.rep w FsParents [.slice asParents s.fParents.length csParents] s.fParents) (hsRules : GoRep.rep w FsRules [.slice asRules s.fRules.length csRules] s.fRules) (ht : CellsAt w bt ot [.slice atAlive t.fAlive.length ctAlive, .slice atBags t.fBags.length ctBags, .slice atAround t.fAround.length ctAround]) (htAlive : GoRep.rep w FtAlive [.slice atAlive t.fAlive.length ctAlive] t.fAlive) (htBags : GoRep.rep w FtBags [.slice atBags t.fBags.length ctBags] t.fBags) (htAround : GoRep.rep w FtAround [.slice atAround t.fAround.length ctAround] t.fAround) (p0 : FrameOk s) (p1 : CellIn s c) (p2 : t.fAlive.length = s.fParents.length) : Calls Try.prog 78 #[.pointer (some ⟨bs, os, none⟩), .pointer (some ⟨bt, ot, none⟩), .int .i64 c] w (Ret (fun v w' => v = .int .i64 (parentNow s t c)) w) := by
 refine enter (n := 35) Try.func78 rfl Try.ntmps78 (Nat.le_of_ble_eq_true rfl) ?_
 have H := St.start w
 replace H := H.add (isF false FtAround (.slice atAround t.fAround.length ctAround) t.fAround) ⟨htAround, by simp⟩ (start_lt htAround)
 replace H := H.add (isF false FtBags (.slice atBags t.fBags.length ctBags) t.fBags) ⟨htBags, by simp⟩ (start_lt htBags)
 replace H := H.add (isF false FtAlive (.slice atAlive t.fAlive.length ctAlive) t.fAlive) ⟨htAlive, by simp⟩ (start_lt htAlive)
 replace H := H.add (atF bt ot [.slice atAlive t.fAlive.length ctAlive, .slice atBags t.fBags.length ctBags, .slice atAround t.fAround.length ctAround]) ht (start_at ht)
 replace H := H.add (isF false FsRules (.slice asRules s.fRules.length csRules) s.fRules) ⟨hsRules, by simp⟩ (start_lt hsRules)
 replace H := H.add (isF false FsParents (.slice asParents s.fParents.length csParents) s.fParents) ⟨hsParents, by simp⟩ (start_lt hsParents)
 replace H := H.add (atF bs os [.int .i64 s.fKinds, .slice asParents s.fParents.length csParents, .slice asRules s.fRules.length csRules]) hs (start_at hs)
 have nhsParents := rep_len hsParents
 have nhsRules := rep_len hsRules
 have nhtAlive := rep_len htAlive
 have nhtBags := rep_len htBags
 have nhtAround := rep_len htAround
 clear hs hsParents hsRules ht htAlive htBags htAround
 have p3 := p0.step p1.1 p1.2
 refine c_seq ?_
 refine c_reg ?_
 refine sp (.int .i64 0) ?_
 refine c_nil (t_n ?_)
 refine c_seq ?_
 refine c_reg ?_
 refine sp (.pointer (some ⟨bs, os, none⟩)) ?_
 refine sp (.pointer (some ⟨bs, os, none⟩)) ?_
 refine sw (o_field bs (os) 1 Try.underlying30 rfl rfl Try.sizeOf22 rfl ?_)
 refine sw (o_load1 (.slice asParents s.fParents.length csParents) Try.isAgg22 rfl (H.cellF 0 rfl 1 rfl) ?_)
 refine sp (.int .i64 c) ?_
 obtain ⟨b1, o2, rfl⟩ := H.addr 1 rfl (by omega)
 refine sw (o_idxAt c Try.underlying22 ti2 rfl rfl (by omega) (by omega) ?_)
 refine sw (o_load1 (.int .i64 (s.fParents[c.toNat]!)) Try.isAgg2 rfl (H.elemInt 1 rfl c (by omega) (by omega)) ?_)
 refine sp (.int .i64 (s.fParents[c.toNat]!)) ?_
 refine c_nil (t_n ?_)
 refine c_seq ?_
 refine c_block ?_
 refine c_loop (fun m' ρ w3 => ∃ (junk : Env) (y : Int) (n : Nat), ρ = upd (upd (upd (upd junk 0 (.pointer (some ⟨bs, os, none⟩))) 1 (.pointer (some ⟨bt, ot, none⟩))) 6 (.int .i64 0)) 7 (.int .i64 y) ∧ (-1 ≤ y ∧ y ≤ (s.fParents.length : Int) - 1) ∧ (y < n) ∧ (parentNow s t c = climb s.fParents t.fAlive n y) ∧ m' = (y + 1).toNat ∧ St w w3 [] [atF bs os [.int .i64 s.fKinds, .slice (some ⟨b1, o2, none⟩) s.fParents.length csParents, .slice asRules s.fRules.length csRules], isF false FsParents (.slice (some ⟨b1, o2, none⟩) s.fParents.length csParents) s.fParents, isF false FsRules (.slice asRules s.fRules.length csRules) s.fRules, atF bt ot [.slice atAlive t.fAlive.length ctAlive, .slice atBags t.fBags.length ctBags, .slice atAround t.fAround.length ctAround], isF false FtAlive (.slice atAlive t.fAlive.length ctAlive) t.fAlive, isF false FtBags (.slice atBags t.fBags.length ctBags) t.fBags, isF false FtAround (.slice atAround t.fAround.length ctAround) t.fAround]) (((s.fParents[c.toNat]!) + 1).toNat) ⟨_, s.fParents[c.toNat]!, s.fParents.length, (by exact upd_eq (upd_eq (upd_eq (upd_eq (rfl) rfl) rfl) rfl) rfl), (by omega), (by omega), (by rfl), rfl, H⟩ ?_
 clear H
 rintro m' ρ w4 ⟨junk, y, n, rfl, i0, i1, i2, rfl, H⟩
 have up := fun h => p0.step (c := y) h i0.2
 refine c_seq ?_
 refine c_seq ?_
 refine c_reg ?_
 refine sp (.int .i64 y) ?_
 refine sp (.bool (decide ((y : Int) ≥ 0))) ?_
 refine sp (.bool (decide ((y : Int) ≥ 0))) ?_
 cases h5 : (decide ((y : Int) ≥ 0))
 ·skip
  replace h5 := of_decide_eq_false h5
  refine g_skips [18, 19, 20, 21, 22, 23, 24, 25] ?_
  refine sp (.bool false) ?_
  refine c_nil (t_n ?_)
  refine c_cond false rfl (fun h => absurd h (by decide)) (fun _ => ?_)
  refine c_exit (t_x (t_x (b_x (t_n ?_))))
  refine c_seq ?_
  refine c_reg ?_
  refine sp (.int .i64 y) ?_
  refine sp (.int .i64 y) ?_
  refine c_nil (t_n ?_)
  refine c_ret (?_)
  refine ret1 (.int .i64 y) rfl rfl ⟨_, rfl, ?_, H.base⟩
  rw [i2, climb_end (by first | omega | simp_all)]
 ·skip
  replace h5 := of_decide_eq_true h5
  refine g_take 17 rfl rfl ?_
  refine sp (.pointer (some ⟨bt, ot, none⟩)) ?_
  refine g_take 17 rfl rfl ?_
  refine sp (.pointer (some ⟨bt, ot, none⟩)) ?_
  refine g_take 17 rfl rfl ?_
  refine sw (o_field bt (ot) 0 Try.underlying41 rfl rfl Try.sizeOf36 rfl ?_)
  refine g_take 17 rfl rfl ?_
  refine sw (o_load1 (.slice atAlive t.fAlive.length ctAlive) Try.isAgg36 rfl (H.cellF 3 rfl 0 rfl) ?_)
  refine g_take 17 rfl rfl ?_
  refine sp (.int .i64 y) ?_
  refine g_take 17 rfl rfl ?_
  obtain ⟨b6, o7, rfl⟩ := H.addr 4 rfl (by omega)
  refine sw (o_idxAt y Try.underlying36 ti4 rfl rfl (by omega) (by omega) ?_)
  refine g_take 17 rfl rfl ?_
  refine sw (o_load1 (.bool (t.fAlive[y.toNat]!)) Try.isAgg4 rfl (H.elemBool 4 rfl y (by omega) (by omega)) ?_)
  refine g_take 17 rfl rfl ?_
  refine sp (.bool (!(t.fAlive[y.toNat]!))) ?_
  refine sp (.bool (!(t.fAlive[y.toNat]!))) ?_
  refine c_nil (t_n ?_)
  refine c_cond (!(t.fAlive[y.toNat]!)) rfl (fun h8 => ?_) (fun h8 => ?_)
  ·skip
   replace h8 := not_true_of h8
   refine c_skip (t_n ?_)
   refine c_block ?_
   refine c_reg ?_
   refine sp (.pointer (some ⟨bs, os, none⟩)) ?_
   refine sp (.pointer (some ⟨bs, os, none⟩)) ?_
   refine sw (o_field bs (os) 1 Try.underlying30 rfl rfl Try.sizeOf22 rfl ?_)
   refine sw (o_load1 (.slice (some ⟨b1, o2, none⟩) s.fParents.length csParents) Try.isAgg22 rfl (H.cellF 0 rfl 1 rfl) ?_)
   refine sp (.int .i64 y) ?_
   refine sw (o_idxAt y Try.underlying22 ti2 rfl rfl (by omega) (by omega) ?_)
   refine sw (o_load1 (.int .i64 (s.fParents[y.toNat]!)) Try.isAgg2 rfl (H.elemInt 1 rfl y (by omega) (by omega)) ?_)
   refine sp (.int .i64 (s.fParents[y.toNat]!)) ?_
   refine c_nil (b_n (?_))
   have up1 := up (by omega)
   refine loop_end (m' := ((s.fParents[y.toNat]!) + 1).toNat) (by omega) ⟨_, (s.fParents[y.toNat]!), n - 1, (by exact upd_eq (upd_eq (upd_eq (upd_eq (rfl) rfl) rfl) rfl) rfl), ?_, ?_, ?_, rfl, H⟩
   · omega
   · omega
   · exact i2.trans (climb_go (by omega) (by omega) ‹_›)
  ·skip
   replace h8 := not_false_of h8
   refine c_exit (t_x (t_x (b_x (t_n ?_))))
   refine c_seq ?_
   refine c_reg ?_
   refine sp (.int .i64 y) ?_
   refine sp (.int .i64 y) ?_
   refine c_nil (t_n ?_)
   refine c_ret (?_)
   refine ret1 (.int .i64 y) rfl rfl ⟨_, rfl, ?_, H.base⟩
   rw [i2, climb_end (by first | omega | simp_all)]

theorem l02Ok_ok (w : World) (s : SystemD) (bs os : Nat) (asParents : Option Addr) (csParents : Nat) (FsParents : List Nat) (asRules : Option Addr) (csRules : Nat) (FsRules : List Nat) (hs : CellsAt w bs os [.int .i64 s.fKinds, .slice asParents s.fParents.length csParents, .slice asRules s.fRules.length csRules]) (hsParents : GoRep.rep w FsParents [.slice asParents s.fParents.length csParents] s.fParents) (hsRules : GoRep.rep w FsRules [.slice asRules s.fRules.length csRules] s.fRules) : Calls Try.prog 65 #[.pointer (some ⟨bs, os, none⟩)] w (Ret (fun v w' => v = .bool (dec (SysOk s))) w) := by
 refine enter (n := 65) Try.func65 rfl Try.ntmps65 (Nat.le_of_ble_eq_true rfl) ?_
 have H := St.start w
 replace H := H.add (isF false FsRules (.slice asRules s.fRules.length csRules) s.fRules) ⟨hsRules, by simp⟩ (start_lt hsRules)
 replace H := H.add (isF false FsParents (.slice asParents s.fParents.length csParents) s.fParents) ⟨hsParents, by simp⟩ (start_lt hsParents)
 replace H := H.add (atF bs os [.int .i64 s.fKinds, .slice asParents s.fParents.length csParents, .slice asRules s.fRules.length csRules]) hs (start_at hs)
 have nhsParents := rep_len hsParents
 have nhsRules := rep_len hsRules
 clear hs hsParents hsRules
 have p1 := fun h : FrameOk s => h.2.1
 refine c_seq ?_
 refine c_reg ?_
 refine sp (.bool false) ?_
 refine c_nil (t_n ?_)
 refine c_seq ?_
 refine c_seq ?_
 refine c_reg ?_
 refine sp (.pointer (some ⟨bs, os, none⟩)) ?_
 refine sw (o_call #[.pointer (some ⟨bs, os, none⟩)] rfl rfl Try.call97 (l02Frame_ok w s bs os asParents csParents FsParents asRules csRules FsRules (cellsAt_sub (H.get 0 rfl) 0 3) (H.get 1 rfl).1 (H.get 2 rfl).1) ?_)
 rintro _ w1 rfl x2
 replace H := H.ext x2
 refine sp (.bool (!(dec (FrameOk s)))) ?_
 refine sp (.bool (!(dec (FrameOk s)))) ?_
 cases h3 : (!(dec (FrameOk s)))
 ·skip
  replace h3 := not_false_of h3
  replace h3 := of_dec h3
  refine g_take 8 rfl rfl ?_
  refine sp (.pointer (some ⟨bs, os, none⟩)) ?_
  refine g_take 8 rfl rfl ?_
  refine sp (.pointer (some ⟨bs, os, none⟩)) ?_
  refine g_take 8 rfl rfl ?_
  refine sw (o_field bs (os) 2 Try.underlying30 rfl rfl Try.sizeOf28 rfl ?_)
  refine g_take 8 rfl rfl ?_
  refine sw (o_load1 (.slice asRules s.fRules.length csRules) Try.isAgg28 rfl (H.cellF 0 rfl 2 rfl) ?_)
  refine g_take 8 rfl rfl ?_
  refine sw (o_len Try.underlying28 asRules s.fRules.length csRules rfl ?_)
  refine g_take 8 rfl rfl ?_
  refine sp (.bool (decide ((s.fRules.length : Int) > 16))) ?_
  refine sp (.bool (decide ((s.fRules.length : Int) > 16))) ?_
  refine c_nil (t_n ?_)
  refine c_cond (decide ((s.fRules.length : Int) > 16)) rfl (fun h4 => ?_) (fun h4 => ?_)
  ·skip
   replace h4 := of_decide_eq_true h4
   refine c_seq ?_
   refine c_reg ?_
   refine sp (.bool false) ?_
   refine c_nil (t_n ?_)
   refine c_ret (t_r (?_))
   refine ret1 (.bool false) rfl rfl ⟨_, rfl, ?_, H.base⟩
   rw [dec_false (fun h => by obtain ⟨h1, h2, h3⟩ := h; first | contradiction | omega | (obtain ⟨q1, q2⟩ := h3 k (by omega); first | contradiction | (have := counts_get (k := k + 1) q; omega)))]
  ·skip
   replace h4 := of_decide_eq_false h4
   have p2 := p1 (by assumption)
   refine c_skip (t_n ?_)
   refine c_seq ?_
   refine c_reg ?_
   refine sp (.pointer (some ⟨bs, os, none⟩)) ?_
   refine sp (.pointer (some ⟨bs, os, none⟩)) ?_
   refine sw (o_field bs (os) 1 Try.underlying30 rfl rfl Try.sizeOf22 rfl ?_)
   refine sw (o_load1 (.slice asParents s.fParents.length csParents) Try.isAgg22 rfl (H.cellF 0 rfl 1 rfl) ?_)
   refine sw (o_len Try.underlying22 asParents s.fParents.length csParents rfl ?_)
   refine sw (o_make1 H Try.underlying22 ti2 rfl s.fParents.length rfl rfl (by omega) (by omega) fun b5 w6 H => ?_)
   replace H : St _ _ [.box b5 (List.replicate s.fParents.length (.int .i64 0)) 2] _ := H
   refine sp (.slice (some ⟨b5, 0, none⟩) s.fParents.length s.fParents.length) ?_
   refine c_nil (t_n ?_)
   refine c_seq ?_
   refine c_seq ?_
   refine c_reg ?_
   refine sp (.int .i64 0) ?_
   refine c_nil (t_n ?_)
   refine c_block ?_
   rw [ints_zero, counts_zero] at H
   refine c_loop (fun m' ρ w7 => ∃ (junk : Env) (k : Nat), ρ = upd (upd (upd junk 0 (.pointer (some ⟨bs, os, none⟩))) 3 (.slice (some ⟨b5, 0, none⟩) s.fParents.length s.fParents.length)) 4 (.int .i64 k) ∧ (k ≤ s.fRules.length) ∧ (RulesTo s k) ∧ m' = s.fRules.length - k ∧ St w w7 [.box b5 ((counts s k).map (Value.int .i64)) 2] [atF bs os [.int .i64 s.fKinds, .slice asParents s.fParents.length csParents, .slice asRules s.fRules.length csRules], isF false FsParents (.slice asParents s.fParents.length csParents) s.fParents, isF false FsRules (.slice asRules s.fRules.length csRules) s.fRules]) (s.fRules.length - 0) ⟨_, 0, (by exact upd_eq (upd_eq (upd_eq (rfl) rfl) rfl) rfl), (by omega), (by exact fun j hj => by omega), rfl, H⟩ ?_
   clear H
   rintro m' ρ w8 ⟨junk, k, rfl, i0, i1, rfl, H⟩
   refine c_seq ?_
   refine c_seq ?_
   refine c_reg ?_
   refine sp (.int .i64 k) ?_
   refine sp (.pointer (some ⟨bs, os, none⟩)) ?_
   refine sp (.pointer (some ⟨bs, os, none⟩)) ?_
   refine sw (o_field bs (os) 2 Try.underlying30 rfl rfl Try.sizeOf28 rfl ?_)
   refine sw (o_load1 (.slice asRules s.fRules.length csRules) Try.isAgg28 rfl (H.cellF 0 rfl 2 rfl) ?_)
   refine sw (o_len Try.underlying28 asRules s.fRules.length csRules rfl ?_)
   refine sp (.bool (decide ((k : Int) < s.fRules.length))) ?_
   refine c_nil (t_n ?_)
   refine c_cond (decide ((k : Int) < s.fRules.length)) rfl (fun h9 => ?_) (fun h9 => ?_)
   ·skip
    replace h9 := of_decide_eq_true h9
    refine c_skip (t_n ?_)
    refine c_seq ?_
    refine c_block ?_
    refine c_seq ?_
    refine c_seq ?_
    refine c_reg ?_
    refine sp (.pointer (some ⟨bs, os, none⟩)) ?_
    refine sp (.pointer (some ⟨bs, os, none⟩)) ?_
    refine sp (.pointer (some ⟨bs, os, none⟩)) ?_
    refine sw (o_field bs (os) 2 Try.underlying30 rfl rfl Try.sizeOf28 rfl ?_)
    refine sw (o_load1 (.slice asRules s.fRules.length csRules) Try.isAgg28 rfl (H.cellF 0 rfl 2 rfl) ?_)
    refine sp (.int .i64 k) ?_
    obtain ⟨b10, o11, rfl⟩ := H.addr 2 rfl (by omega)
    obtain ⟨ae12Need, ce12Need, Fe12Need, ae12Have, ce12Have, Fe12Have, ae12Lack, ce12Lack, Fe12Lack, ae12Here, ce12Here, Fe12Here, ae12Out, ce12Out, Fe12Out, ae12Into, ce12Into, Fe12Into, H⟩ := H.elem_RuleD 2 rfl k k (by omega) (by omega) (by omega)
    refine sw (o_idxAt k Try.underlying28 ti92 rfl rfl (by omega) (by omega) ?_)
    refine sw (o_call #[.pointer (some ⟨bs, os, none⟩), .pointer (some ⟨b10, o11 + (k : Int).toNat * 9, none⟩)] rfl rfl Try.call98 (l02Rule_ok w8 s (s.fRules[k]!) bs os asParents csParents FsParents (some ⟨b10, o11, none⟩) csRules FsRules b10 (o11 + (k : Int).toNat * 9) ae12Need ce12Need Fe12Need ae12Have ce12Have Fe12Have ae12Lack ce12Lack Fe12Lack ae12Here ce12Here Fe12Here ae12Out ce12Out Fe12Out ae12Into ce12Into Fe12Into (cellsAt_sub (H.get 7 rfl) 0 3) (H.get 8 rfl).1 (H.get 9 rfl).1 (cellsAt_sub (H.get 6 rfl) 0 9) (H.get 0 rfl).1 (H.get 1 rfl).1 (H.get 2 rfl).1 (H.get 3 rfl).1 (H.get 4 rfl).1 (H.get 5 rfl).1 (by assumption)) ?_)
    rintro _ w13 rfl x14
    replace H := H.ext x14
    refine sp (.bool (!(dec (RuleOk s (s.fRules[k]!))))) ?_
    refine c_nil (t_n ?_)
    refine c_cond (!(dec (RuleOk s (s.fRules[k]!)))) rfl (fun h15 => ?_) (fun h15 => ?_)
    ·skip
     replace h15 := not_true_of h15
     replace h15 := not_of_dec h15
     refine c_seq ?_
     refine c_reg ?_
     refine sp (.bool false) ?_
     refine c_nil (t_n ?_)
     refine c_ret (t_r (b_r (t_r (t_r (b_r (t_r (?_)))))))
     refine ret1 (.bool false) rfl rfl ⟨_, rfl, ?_, H.base⟩
     rw [dec_false (fun h => by obtain ⟨h1, h2, h3⟩ := h; first | contradiction | omega | (obtain ⟨q1, q2⟩ := h3 k (by omega); first | contradiction | (have := counts_get (k := k + 1) q; omega)))]
    ·skip
     replace h15 := not_false_of h15
     replace h15 := of_dec h15
     have q := (h15).1
     refine c_skip (t_n ?_)
     refine c_seq ?_
     refine c_reg ?_
     refine sp (.slice (some ⟨b5, 0, none⟩) s.fParents.length s.fParents.length) ?_
     refine sp (.pointer (some ⟨bs, os, none⟩)) ?_
     refine sp (.pointer (some ⟨bs, os, none⟩)) ?_
     refine sw (o_field bs (os) 2 Try.underlying30 rfl rfl Try.sizeOf28 rfl ?_)
     refine sw (o_load1 (.slice (some ⟨b10, o11, none⟩) s.fRules.length csRules) Try.isAgg28 rfl (H.cellF 7 rfl 2 rfl) ?_)
     refine sp (.int .i64 k) ?_
     refine sw (o_idxAt k Try.underlying28 ti92 rfl rfl (by omega) (by omega) ?_)
     refine sw (o_field b10 (o11 + (k : Int).toNat * 9) 0 Try.underlying92 rfl rfl Try.sizeOf2 rfl ?_)
     refine sw (o_load1 (.int .i64 ((s.fRules[k]!).fCell)) Try.isAgg2 rfl (H.cellF 6 rfl 0 rfl) ?_)
     refine sw (o_idxAt ((s.fRules[k]!).fCell) Try.underlying22 ti2 rfl rfl (by omega) (by omega) ?_)
     refine sw (o_load1 (.int .i64 ((counts s k)[((s.fRules[k]!).fCell : Int).toNat]!)) Try.isAgg2 rfl (H.cell 0 rfl (ints_get (by rw [counts_len]; omega))) ?_)
     refine sw (o_add ((counts s k)[((s.fRules[k]!).fCell : Int).toNat]!) 1 rfl rfl (by (first | omega | (rw [counts_get q]; have := ofCell_bd s.fRules (s.fRules[k]!).fCell k; omega))) ?_)
     refine sw (o_idxAt ((s.fRules[k]!).fCell) Try.underlying22 ti2 rfl rfl (by omega) (by omega) ?_)
     refine sw (o_store1 H 0 rfl (.int .i64 (((counts s k)[((s.fRules[k]!).fCell : Int).toNat]!) + 1)) Try.sizeOf2 rfl rfl rfl (ints_lt (by rw [counts_len]; omega)) fun w16 H => ?_)
     rw [ints_set] at H
     rw [counts_succ q] at H
     replace H : St _ _ [.box b5 ((counts s (k + 1)).map (Value.int .i64)) 2] _ := H
     refine c_nil (t_n ?_)
     refine c_seq ?_
     refine c_reg ?_
     refine sp (.slice (some ⟨b5, 0, none⟩) s.fParents.length s.fParents.length) ?_
     refine sp (.pointer (some ⟨bs, os, none⟩)) ?_
     refine sp (.pointer (some ⟨bs, os, none⟩)) ?_
     refine sw (o_field bs (os) 2 Try.underlying30 rfl rfl Try.sizeOf28 rfl ?_)
     refine sw (o_load1 (.slice (some ⟨b10, o11, none⟩) s.fRules.length csRules) Try.isAgg28 rfl (H.cellF 7 rfl 2 rfl) ?_)
     refine sp (.int .i64 k) ?_
     refine sw (o_idxAt k Try.underlying28 ti92 rfl rfl (by omega) (by omega) ?_)
     refine sw (o_field b10 (o11 + (k : Int).toNat * 9) 0 Try.underlying92 rfl rfl Try.sizeOf2 rfl ?_)
     refine sw (o_load1 (.int .i64 ((s.fRules[k]!).fCell)) Try.isAgg2 rfl (H.cellF 6 rfl 0 rfl) ?_)
     refine sw (o_idxAt ((s.fRules[k]!).fCell) Try.underlying22 ti2 rfl rfl (by omega) (by omega) ?_)
     refine sw (o_load1 (.int .i64 ((counts s (k + 1))[((s.fRules[k]!).fCell : Int).toNat]!)) Try.isAgg2 rfl (H.cell 0 rfl (ints_get (by rw [counts_len]; omega))) ?_)
     refine sp (.bool (decide (((counts s (k + 1))[((s.fRules[k]!).fCell : Int).toNat]! : Int) > 8))) ?_
     refine c_nil (t_n ?_)
     refine c_cond (decide (((counts s (k + 1))[((s.fRules[k]!).fCell : Int).toNat]! : Int) > 8)) rfl (fun h17 => ?_) (fun h17 => ?_)
     ·skip
      replace h17 := of_decide_eq_true h17
      refine c_seq ?_
      refine c_reg ?_
      refine sp (.bool false) ?_
      refine c_nil (t_n ?_)
      refine c_ret (b_r (t_r (t_r (b_r (t_r (?_))))))
      refine ret1 (.bool false) rfl rfl ⟨_, rfl, ?_, H.base⟩
      rw [dec_false (fun h => by obtain ⟨h1, h2, h3⟩ := h; first | contradiction | omega | (obtain ⟨q1, q2⟩ := h3 k (by omega); first | contradiction | (have := counts_get (k := k + 1) q; omega)))]
     ·skip
      replace h17 := of_decide_eq_false h17
      refine c_skip (b_n (t_n ?_))
      refine c_reg ?_
      refine sp (.int .i64 k) ?_
      refine sw (o_add k 1 rfl rfl (by (first | omega | (rw [counts_get q]; have := ofCell_bd s.fRules (s.fRules[k]!).fCell k; omega))) ?_)
      refine sp (.int .i64 (k + 1)) ?_
      refine c_nil (?_)
      refine loop_end (m' := s.fRules.length - (k + 1)) (by omega) ⟨_, k + 1, (by exact upd_eq (upd_eq (upd_eq (rfl) rfl) rfl) rfl), ?_, ?_, rfl, H.sel _ (.refl _) _ (by simp)⟩
      · omega
      · exact i1.succ ‹_› (by have := counts_get (k := k + 1) q; omega)
   ·skip
    replace h9 := of_decide_eq_false h9
    refine c_exit (t_x (t_x (b_x (t_n ?_))))
    refine c_seq ?_
    refine c_reg ?_
    refine sp (.bool true) ?_
    refine c_nil (t_n ?_)
    refine c_ret (?_)
    refine ret1 (.bool true) rfl rfl ⟨_, rfl, ?_, H.base⟩
    obtain rfl : k = s.fRules.length := by omega
    rw [dec_true ⟨by assumption, by omega, i1⟩]
 ·skip
  replace h3 := not_true_of h3
  replace h3 := not_of_dec h3
  refine g_skips [9, 10, 11, 12, 13, 14] ?_
  refine sp (.bool true) ?_
  refine c_nil (t_n ?_)
  refine c_cond true rfl (fun _ => ?_) (fun h => absurd h (by decide))
  refine c_seq ?_
  refine c_reg ?_
  refine sp (.bool false) ?_
  refine c_nil (t_n ?_)
  refine c_ret (t_r (?_))
  refine ret1 (.bool false) rfl rfl ⟨_, rfl, ?_, H.base⟩
  rw [dec_false (fun h => by obtain ⟨h1, h2, h3⟩ := h; first | contradiction | omega | (obtain ⟨q1, q2⟩ := h3 k (by omega); first | contradiction | (have := counts_get (k := k + 1) q; omega)))]

theorem l02Cell_ok (w : World) (s : SystemD) (t : StateD) (c : Int) (bs os : Nat) (asParents : Option Addr) (csParents : Nat) (FsParents : List Nat) (asRules : Option Addr) (csRules : Nat) (FsRules : List Nat) (bt ot : Nat) (atAlive : Option Addr) (ctAlive : Nat) (FtAlive : List Nat) (atBags : Option Addr) (ctBags : Nat) (FtBags : List Nat) (atAround : Option Addr) (ctAround : Nat) (FtAround : List Nat) (hs : CellsAt w bs os [.int .i64 s.fKinds, .slice asParents s.fParents.length csParents, .slice asRules s.fRules.length csRules]) (hsParents : GoRep.rep w FsParents [.slice asParents s.fParents.length csParents] s.fParents) (hsRules : GoRep.rep w FsRules [.slice asRules s.fRules.length csRules] s.fRules) (ht : CellsAt w bt ot [.slice atAlive t.fAlive.length ctAlive, .slice atBags t.fBags.length ctBags, .slice atAround t.fAround.length ctAround]) (htAlive : GoRep.rep w FtAlive [.slice atAlive t.fAlive.length ctAlive] t.fAlive) (htBags : GoRep.rep w FtBags [.slice atBags t.fBags.length ctBags] t.fBags) (htAround : GoRep.rep w FtAround [.slice atAround t.fAround.length ctAround] t.fAround) : Calls Try.prog 35 #[.pointer (some ⟨bs, os, none⟩), .pointer (some ⟨bt, ot, none⟩), .int .i64 c] w (Ret (fun v w' => v = .int .i64 (cellCodeOf s t c)) w) := by
 refine enter (n := 33) Try.func35 rfl Try.ntmps35 (Nat.le_of_ble_eq_true rfl) ?_
 have H := St.start w
 replace H := H.add (isF false FtAround (.slice atAround t.fAround.length ctAround) t.fAround) ⟨htAround, by simp⟩ (start_lt htAround)
 replace H := H.add (isF false FtBags (.slice atBags t.fBags.length ctBags) t.fBags) ⟨htBags, by simp⟩ (start_lt htBags)
 replace H := H.add (isF false FtAlive (.slice atAlive t.fAlive.length ctAlive) t.fAlive) ⟨htAlive, by simp⟩ (start_lt htAlive)
 replace H := H.add (atF bt ot [.slice atAlive t.fAlive.length ctAlive, .slice atBags t.fBags.length ctBags, .slice atAround t.fAround.length ctAround]) ht (start_at ht)
 replace H := H.add (isF false FsRules (.slice asRules s.fRules.length csRules) s.fRules) ⟨hsRules, by simp⟩ (start_lt hsRules)
 replace H := H.add (isF false FsParents (.slice asParents s.fParents.length csParents) s.fParents) ⟨hsParents, by simp⟩ (start_lt hsParents)
 replace H := H.add (atF bs os [.int .i64 s.fKinds, .slice asParents s.fParents.length csParents, .slice asRules s.fRules.length csRules]) hs (start_at hs)
 have nhsParents := rep_len hsParents
 have nhsRules := rep_len hsRules
 have nhtAlive := rep_len htAlive
 have nhtBags := rep_len htBags
 have nhtAround := rep_len htAround
 clear hs hsParents hsRules ht htAlive htBags htAround
 refine c_seq ?_
 refine c_reg ?_
 refine sp (.int .i64 0) ?_
 refine c_nil (t_n ?_)
 refine c_seq ?_
 refine c_seq ?_
 refine c_reg ?_
 refine sp (.pointer (some ⟨bs, os, none⟩)) ?_
 refine sw (o_call #[.pointer (some ⟨bs, os, none⟩)] rfl rfl Try.call65 (l02Ok_ok w s bs os asParents csParents FsParents asRules csRules FsRules (cellsAt_sub (H.get 0 rfl) 0 3) (H.get 1 rfl).1 (H.get 2 rfl).1) ?_)
 rintro _ w1 rfl x2
 replace H := H.ext x2
 refine sp (.bool (!(dec (SysOk s)))) ?_
 refine sp (.bool (!(dec (SysOk s)))) ?_
 cases h3 : (!(dec (SysOk s)))
 ·skip
  replace h3 := not_false_of h3
  replace h3 := of_dec h3
  refine g_take 10 rfl rfl ?_
  refine sp (.pointer (some ⟨bs, os, none⟩)) ?_
  refine g_take 10 rfl rfl ?_
  refine sp (.pointer (some ⟨bt, ot, none⟩)) ?_
  refine g_take 10 rfl rfl ?_
  refine sw (o_call #[.pointer (some ⟨bs, os, none⟩), .pointer (some ⟨bt, ot, none⟩)] rfl rfl Try.call76 (l02State_ok w1 s t bs os asParents csParents FsParents asRules csRules FsRules bt ot atAlive ctAlive FtAlive atBags ctBags FtBags atAround ctAround FtAround (cellsAt_sub (H.get 0 rfl) 0 3) (H.get 1 rfl).1 (H.get 2 rfl).1 (cellsAt_sub (H.get 3 rfl) 0 3) (H.get 4 rfl).1 (H.get 5 rfl).1 (H.get 6 rfl).1 (by first | assumption | exact (And.left (by assumption : SysOk _)))) ?_)
  rintro _ w4 rfl x5
  replace H := H.ext x5
  refine g_take 10 rfl rfl ?_
  refine sp (.bool (!(dec (StateOk s t)))) ?_
  refine sp (.bool (!(dec (StateOk s t)))) ?_
  refine c_nil (t_n ?_)
  refine c_cond (!(dec (StateOk s t))) rfl (fun h6 => ?_) (fun h6 => ?_)
  ·skip
   replace h6 := not_true_of h6
   replace h6 := not_of_dec h6
   refine c_seq ?_
   refine c_reg ?_
   refine sp (.int .i64 1) ?_
   refine c_nil (t_n ?_)
   refine c_ret (t_r (?_))
   refine ret1 (.int .i64 1) rfl rfl ⟨_, rfl, ?_, H.base⟩
   rw [code_1 (by rintro ⟨_, _⟩; contradiction)]
  ·skip
   replace h6 := not_false_of h6
   replace h6 := of_dec h6
   have p4 : StateOk s t := by assumption
   have p5 := p4.1
   refine c_skip (t_n ?_)
   refine c_seq ?_
   refine c_seq ?_
   refine c_reg ?_
   refine sp (.int .i64 c) ?_
   refine sp (.pointer (some ⟨bs, os, none⟩)) ?_
   refine sp (.pointer (some ⟨bs, os, none⟩)) ?_
   refine sw (o_field bs (os) 1 Try.underlying30 rfl rfl Try.sizeOf22 rfl ?_)
   refine sw (o_load1 (.slice asParents s.fParents.length csParents) Try.isAgg22 rfl (H.cellF 0 rfl 1 rfl) ?_)
   refine sw (o_len Try.underlying22 asParents s.fParents.length csParents rfl ?_)
   refine sw (o_sub s.fParents.length 1 rfl rfl (by omega) ?_)
   refine sw (o_call #[.int .i64 c, .int .i64 0, .int .i64 (s.fParents.length - 1)] rfl rfl Try.call55 (l00In_ok w4 c 0 (s.fParents.length - 1)) ?_)
   rintro _ w7 rfl x8
   replace H := H.ext x8
   refine sp (.bool (!(inR c 0 (s.fParents.length - 1)))) ?_
   refine c_nil (t_n ?_)
   refine c_cond (!(inR c 0 (s.fParents.length - 1))) rfl (fun h9 => ?_) (fun h9 => ?_)
   ·skip
    replace h9 := not_true_of h9
    replace h9 := inR_not h9
    refine c_seq ?_
    refine c_reg ?_
    refine sp (.int .i64 2) ?_
    refine c_nil (t_n ?_)
    refine c_ret (t_r (?_))
    refine ret1 (.int .i64 2) rfl rfl ⟨_, rfl, ?_, H.base⟩
    rw [code_2 (by assumption) (by assumption) (by assumption)]
   ·skip
    replace h9 := not_false_of h9
    replace h9 := inR_iff.1 h9
    refine c_skip (t_n ?_)
    refine c_seq ?_
    refine c_seq ?_
    refine c_reg ?_
    refine sp (.pointer (some ⟨bt, ot, none⟩)) ?_
    refine sp (.pointer (some ⟨bt, ot, none⟩)) ?_
    refine sw (o_field bt (ot) 0 Try.underlying41 rfl rfl Try.sizeOf36 rfl ?_)
    refine sw (o_load1 (.slice atAlive t.fAlive.length ctAlive) Try.isAgg36 rfl (H.cellF 3 rfl 0 rfl) ?_)
    refine sp (.int .i64 c) ?_
    obtain ⟨b10, o11, rfl⟩ := H.addr 4 rfl (by omega)
    refine sw (o_idxAt c Try.underlying36 ti4 rfl rfl (by omega) (by omega) ?_)
    refine sw (o_load1 (.bool (t.fAlive[c.toNat]!)) Try.isAgg4 rfl (H.elemBool 4 rfl c (by omega) (by omega)) ?_)
    refine sp (.bool (!(t.fAlive[c.toNat]!))) ?_
    refine c_nil (t_n ?_)
    refine c_cond (!(t.fAlive[c.toNat]!)) rfl (fun h12 => ?_) (fun h12 => ?_)
    ·skip
     replace h12 := not_true_of h12
     refine c_seq ?_
     refine c_reg ?_
     refine sp (.int .i64 4) ?_
     refine c_nil (t_n ?_)
     refine c_ret (t_r (?_))
     refine ret1 (.int .i64 4) rfl rfl ⟨_, rfl, ?_, H.base⟩
     rw [code_4 (by assumption) (by assumption) (by assumption) (by first | assumption | simp_all)]
    ·skip
     replace h12 := not_false_of h12
     refine c_skip (t_n ?_)
     refine c_seq ?_
     refine c_reg ?_
     refine sp (.int .i64 0) ?_
     refine c_nil (t_n ?_)
     refine c_ret (?_)
     refine ret1 (.int .i64 0) rfl rfl ⟨_, rfl, ?_, H.base⟩
     rw [code_0 (by assumption) (by assumption) (by assumption) (by first | assumption | simp_all)]
 ·skip
  replace h3 := not_true_of h3
  replace h3 := not_of_dec h3
  refine g_skips [11, 12, 13, 14] ?_
  refine sp (.bool true) ?_
  refine c_nil (t_n ?_)
  refine c_cond true rfl (fun _ => ?_) (fun h => absurd h (by decide))
  refine c_seq ?_
  refine c_reg ?_
  refine sp (.int .i64 1) ?_
  refine c_nil (t_n ?_)
  refine c_ret (t_r (?_))
  refine ret1 (.int .i64 1) rfl rfl ⟨_, rfl, ?_, H.base⟩
  rw [code_1 (by rintro ⟨_, _⟩; contradiction)]

end Go.Proofs.Ytkmlihdacnfhdaa
