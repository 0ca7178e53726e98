/- FnExactDeedText, part 4: the program's DeedText. Condition: the library's table of powers of ten reads as its initialiser lays it. -/
import Derived.Test.YtjdfgmhlojfkkabDoorSpec
import Derived.Lib.AppendIntMem
namespace Go.Proofs.YtjdfgmhlojfkkabDoor.DeedText
open Go.Proofs.YtjdfgmhlojfkkabDoor.Tot (tot)
open Go.Proofs.YtjdfgmhlojfkkabDoor.Mark (cnt mrk mkd mkd_mark cnt_mark)
open Go.ChangeShapes Go.WideShapes Go.ChangeAt Go.RowKit Go.Joins Go.Sort
set_option linter.unusedVariables false
set_option linter.unusedSimpArgs false

abbrev tab (w : World) : Prop := Lib.TabIs Tryd.prog w "internal/strconv.uint64pow10" .u64 Lib.pow10Tab
theorem gTab : Tryd.prog.globalNamed "internal/strconv.uint64pow10" = some 0 := by kernel_rfl

theorem decimal_any (n : Nat) (hn : n < 1000) (w : World) (htab : tab w) : Calls Tryd.prog 12 #[.int .i64 n] w fun e w' => e = .returned (.string ⟨(Lib.decDigits n).toArray⟩) ∧ Below w.heap.size w w' := by
  have c := Any.strconv_FormatInt_10 layF (n : Int) (by omega) (by omega) w htab
  rw [Lib.itoa_nonneg] at c
  go_enter Tryd.func12, Tryd.ntmps12
  go_wp2_with (go_at_call 15; refine c.mono ?_; rintro e w' ⟨rfl, k, os, rfl⟩)
  go_ret
  exact ⟨rfl, Lib.below_grow _ _ (Nat.le_refl _) _ _⟩

theorem implText_no (k a b : Int) (w : World) (h : validB k a b = false) : Calls Tryd.prog 6 #[.agg #[.int .i64 k, .int .i64 a, .int .i64 b]] w fun e w' => e = .returned (.string ⟨(text k a b).toArray⟩) ∧ Below w.heap.size w w' := by
  have ht : text k a b = [] := by simp [text, h]
  rw [ht]
  go_enter Tryd.func6, Tryd.ntmps6
  go_wp2_with fail
  refine (implValid_any _ _ _ _).mono ?_
  rw [h]
  rintro e w1 ⟨rfl, hb⟩
  have Hfin := hid (((Below.refl w.heap.size w).alloc (Nat.le_refl _) _).trans (hb.mono (by simp)))
  clear hb
  go_wp2
  go_ret
  exact ⟨rfl, Hfin.out⟩

/-- The text behind i numbers. -/
def part (n A B : Nat) : Nat → List UInt8
  | 0 => word n
  | i + 1 => part n A B i ++ ([32] ++ Lib.decDigits (if i = 0 then A else B))
theorem part_text (n A B m : Nat) (hm : many n = m) (h : m = 1 ∨ m = 2) (hv : validB n A B = true) : part n A B m = text n A B := by
  rcases h with rfl | rfl
  · have h' : ¬ many n = 2 := by omega
    simp only [text, hv, h', if_true, if_false, Int.toNat_natCast, List.append_nil, part, List.append_assoc]
  · have h' : many n = 2 := by omega
    simp only [text, hv, h', if_true, Int.toNat_natCast, part, List.append_assoc, if_true, Nat.succ_ne_zero, Nat.one_ne_zero, if_false]
theorem part_len (n A B i : Nat) (hn : n < 10) (hA : A < 1000) (hB : B < 1000) : (part n A B i).length ≤ 7 + 4 * i := by
  induction i with
  | zero => exact word_len n hn
  | succ i ih =>
    have : (Lib.decDigits (if i = 0 then A else B)).length ≤ 3 := dec_len _ (by split <;> omega)
    simp only [part, List.length_append, List.length_cons, List.length_nil]
    omega
theorem many_of (n : Nat) (A B : Int) (hv : validB n A B = true) : ∃ m : Nat, many n = m ∧ (m = 1 ∨ m = 2) := by
  have hk : kindB n = true := by
    simp only [validB, Bool.and_eq_true] at hv
    exact hv.1.1.1
  have h1 : 1 ≤ (n : Int) ∧ (n : Int) ≤ 9 := by simpa [kindB] using hk
  unfold many
  split
  · exact ⟨2, rfl, Or.inr rfl⟩
  · exact ⟨1, rfl, Or.inl rfl⟩

theorem ti2 : TI Tryd.prog 2 (.int .i64 0) 1 8 := by unfold TI; kernel_rfl
section
variable {P : Program} {Q : Exit → Act → World → Prop} {n : Nat} {ρ : Env} {w : World} {d : Nat} {ty : TypeId} {pos : String} {af : Array Edge} {K : Env → World → Prop}
theorem o_upto {x y : Operand} {t e : TypeId} {z : Value} {by' m c : Nat} {a : Option Addr} (kk : Nat) (hu : P.underlying t = some (.slice e)) (he : TI P e z 1 by') (hx : ev n ρ x = .slice a m c) (hy : ev n ρ y = .int .i64 (kk : Int)) (hk : kk ≤ c) (h0 : 0 < c)
    (k : K (upd ρ d (.slice a kk c)) w) : OW P Q ⟨some d, .slice t x none (some y) none, ty, pos, af, none⟩ n ρ w K := by
  refine o_val _ ?_ k
  have hne : ¬ c = 0 := by omega
  cases a <;> simp [execOp, hx, hy, Instr.sliceAt, Instr.slice, Instr.sliceBounds, Instr.sliceBound, asIntOf, run_underlying hu, he.sizeOf, hk, hne, Addr.add]
end

set_option maxRecDepth 100000 in
theorem implText_yes (n A B : Nat) (hn : n < 10) (hA : A < 1000) (hB : B < 1000) (hv : validB n A B = true) (w : World) (htab : tab w) :
    Calls Tryd.prog 6 #[.agg #[.int .i64 n, .int .i64 A, .int .i64 B]] w fun e w' => e = .returned (.string ⟨(text n A B).toArray⟩) ∧ Below w.heap.size w w' := by
  obtain ⟨m, hm, hm2⟩ := many_of n A B hv
  rw [← part_text n A B m hm hm2 hv]
  have pl := fun i => part_len n A B i hn hA hB
  refine enter Tryd.func6 rfl Tryd.ntmps6 (Nat.le_of_ble_eq_true rfl) ?_
  refine c_seq (c_reg (sw (o_boxC (St.start w) [.int .i64 n, .int .i64 A, .int .i64 B] fun b1 w1 H => sp (.string ⟨#[]⟩) (c_nil (t_n ?_)))))
  refine c_seq (c_seq (c_reg (sw (o_loadN [.int .i64 n, .int .i64 A, .int .i64 B] Tryd.isAgg25 Tryd.sizeOf25 rfl (H.cells 0 rfl) (sw (o_call (R := fun v _ => v = .bool (validB n A B)) #[.agg #[.int .i64 n, .int .i64 A, .int .i64 B]] rfl rfl Tryd.call10 ((implValid_any _ _ _ _).mono fun e w' h => ⟨_, h.1, rfl, h.2⟩) ?_))))))
  rintro v w2 rfl x2
  replace H := H.ext x2
  refine sp (.bool (!validB n A B)) (c_nil (t_n ?_))
  refine c_cond false (by rw [hv]; rfl) (fun h => by cases h) (fun _ => c_skip (t_n ?_))
  refine c_seq (c_reg (sw (o_field b1 0 0 Tryd.underlying25 rfl rfl Tryd.sizeOf2 rfl (sw (o_load1 (.int .i64 n) Tryd.isAgg2 rfl (by simpa using H.cells 0 rfl 0 _ rfl) (sw (o_call (R := fun v _ => v = .tuple #[.string ⟨(word n).toArray⟩, .int .i64 m]) #[.int .i64 n] rfl rfl Tryd.call11 ((deedWord_any _ _).mono fun e w' h => ⟨_, h.1, by rw [hm], by rw [h.2]; exact Below.refl _ _⟩) ?_)))))))
  rintro v w3 rfl x3
  replace H := H.ext x3
  refine sp (.tuple #[.string ⟨(word n).toArray⟩, .int .i64 m]) (sp (.string ⟨(word n).toArray⟩) (sp (.int .i64 m) (sp (.string ⟨(word n).toArray⟩) (sp (.int .i64 m) (c_nil (t_n ?_))))))
  refine c_seq (c_seq (c_reg (sw (o_field b1 0 1 Tryd.underlying25 rfl rfl Tryd.sizeOf2 rfl (sw (o_load1 (.int .i64 A) Tryd.isAgg2 rfl (by simpa using H.cells 0 rfl 1 _ rfl) (sw (o_field b1 0 2 Tryd.underlying25 rfl rfl Tryd.sizeOf2 rfl (sw (o_load1 (.int .i64 B) Tryd.isAgg2 rfl (by simpa using H.cells 0 rfl 2 _ rfl) ?_))))))))))
  refine sw (o_buildF H Tryd.underlying36 ti2 [.int .i64 A, .int .i64 B] rfl (by simp [Value.cells]) rfl (by decide) (by decide) fun b2 w4 H => ?_)
  refine sp (.int .i64 m) (sw (o_upto m Tryd.underlying36 ti2 rfl rfl (by omega) (by decide) (sw (o_len Tryd.underlying36 (some ⟨b2, 0, none⟩) m 2 rfl (sp (.int .i64 0) (c_nil (t_n ?_)))))))
  refine c_block ?_
  refine c_loop (fun m' ρ w' => ∃ (junk : Env) (i : Nat), ρ = upd (upd (upd (upd junk 3 (.string ⟨(part n A B i).toArray⟩)) 22 (.slice (some ⟨b2, 0, none⟩) m 2)) 23 (.int .i64 m)) 24 (.int .i64 i) ∧ i ≤ m ∧ m' = m - i ∧
    St w w' [.box b2 [.int .i64 A, .int .i64 B] 2, .box b1 [.int .i64 n, .int .i64 A, .int .i64 B] 25] []) m ⟨_, 0, uE4, by omega, by omega, H⟩ ?_
  clear H
  rintro m' ρ w5 ⟨junk, i, rfl, hi, rfl, H⟩
  refine c_seq (c_reg (sp (.bool (decide ((i : Int) < m))) (c_nil (t_n (c_seq ?_)))))
  refine c_cond (decide ((i : Int) < m)) rfl (fun h => ?_) (fun h => ?_)
  · have h : i < m := by have := of_decide_eq_true h; omega
    have hnum : (if i = 0 then A else B) < 1000 := by split <;> omega
    have dl := dec_len _ hnum
    have pi := pl i
    have hcell : w5.cell? ⟨b2, 0 + (i : Int).toNat * 1, none⟩ = some (.int .i64 ((if i = 0 then A else B : Nat) : Int)) := by
      have hh : [Value.int .i64 A, .int .i64 B][i]? = some (.int .i64 ((if i = 0 then A else B : Nat) : Int)) := by
        rcases (show i = 0 ∨ i = 1 by omega) with rfl | rfl <;> rfl
      simpa using H.cells 0 rfl i _ hh
    refine c_skip (t_n (c_seq (c_block (c_seq (c_reg (sw (o_idxAt (i : Int) Tryd.underlying36 ti2 rfl rfl (by omega) (by omega) (sw (o_load1 (.int .i64 ((if i = 0 then A else B : Nat) : Int)) Tryd.isAgg2 rfl hcell (sp (.int .i64 ((if i = 0 then A else B : Nat) : Int)) (c_nil (t_n ?_))))))))))))
    refine c_reg (sp (.string ⟨(part n A B i).toArray⟩) (sp (.int .i64 ((if i = 0 then A else B : Nat) : Int)) (sw (o_call (R := fun v w' => v = .string ⟨(Lib.decDigits (if i = 0 then A else B)).toArray⟩) #[.int .i64 ((if i = 0 then A else B : Nat) : Int)] rfl rfl Tryd.call12 ((decimal_any _ hnum _ (tab_stays gTab htab H.base (Nat.le_refl _))).mono fun e w' h => ⟨_, h.1, rfl, h.2⟩) ?_))))
    rintro v w6 rfl x6
    replace H := H.ext x6
    refine sw (o_cat [32] (Lib.decDigits (if i = 0 then A else B)) rfl rfl (by simp; omega) (sw (o_cat (part n A B i) ([32] ++ Lib.decDigits (if i = 0 then A else B)) rfl rfl (by simp; omega) (sp (.string ⟨(part n A B (i + 1)).toArray⟩) (c_nil ?_)))))
    refine b_n (t_n (c_reg (sw (o_add (i : Int) 1 rfl rfl (by omega) (sp (.int .i64 ((i : Int) + 1)) (c_nil ?_))))))
    exact loop_end (m' := m - (i + 1)) (by omega) ⟨_, i + 1, uE4, by omega, rfl, H⟩
  · have h : i = m := by have := of_decide_eq_false h; omega
    subst h
    refine c_exit (t_x (t_x (b_x (t_n (c_seq (c_reg (sp (.string ⟨(part n A B i).toArray⟩) (sp (.string ⟨(part n A B i).toArray⟩) (c_nil (t_n (c_ret ?_)))))))))))
    exact ret1 (.string ⟨(part n A B i).toArray⟩) rfl rfl ⟨rfl, H.base⟩
end Go.Proofs.YtjdfgmhlojfkkabDoor.DeedText
