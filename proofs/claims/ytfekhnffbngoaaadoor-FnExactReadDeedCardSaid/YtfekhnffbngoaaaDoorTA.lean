/- The functions of deeds' texts, each walked once: validity, words, the program's DeedText. -/
import Derived.Test.YtfekhnffbngoaaaDoorRows
import Derived.Test.YtfekhnffbngoaaaDoorRD
import Derived.Test.YtfekhnffbngoaaaDoorI
import Derived.Test.YtfekhnffbngoaaaDoorQ
import Derived.Test.YtfekhnffbngoaaaDoorTL
import Derived.WalkKit
import Derived.ProofKit
import Derived.OpenShut
import Derived.Carry
import Derived.Lib.SmallJoins
import Derived.BigQuiet
import Derived.Shelf.Strconv.Itoa4
import Derived.Shelf.Strings.SplitShaped
import Derived.Shelf.Strconv.ErrVarParseInt
import Derived.Lib.ItoaMem
import Derived.Deep.RegionWith
import Derived.Lib.AppendIntMem
namespace Go.Proofs.YtfekhnffbngoaaaDoor.DeedRead
open Go.Proofs.YtfekhnffbngoaaaDoor.Tot (tot)
open Go.Proofs.YtfekhnffbngoaaaDoor.Mark (cnt mrk mkd mkd_mark cnt_mark)
open Go.ChangeShapes Go.WideShapes Go.ChangeAt Go.RowKit Go.Joins Go.Sort
open Go.Proofs.YtfekhnffbngoaaaDoor.DeedPlain (word many kindB validB text splitL valL numOk kindTo readOf numsOf second)
set_option linter.unusedVariables false
set_option linter.unusedSimpArgs false


/-- A fact kept from the walk. -/
theorem hid {p : Prop} (h : p) : Hid p := h
theorem ret_bool {a b : Bool} (h : a = b) : Ending.returned (.bool a) = .returned (.bool b) := by rw [h]

theorem inR_yes {n lo hi : Int} (h : lo ≤ n) : DeedPlain.inR n lo hi = decide (n ≤ hi) := by simp [DeedPlain.inR, h]
theorem inR_no {n lo hi : Int} (h : n < lo) : DeedPlain.inR n lo hi = false := by simp [DeedPlain.inR]; omega

theorem inRange_any (n lo hi : Int) (w : World) : Calls Tryd.prog 20 #[.int .i64 n, .int .i64 lo, .int .i64 hi] w fun e w' => e = .returned (.bool (DeedPlain.inR n lo hi)) ∧ w = w' := by
  go_enter Tryd.func20, Tryd.ntmps20
  go_wp2
  · go_ret
    exact ⟨by rw [inR_yes ‹_›]; rfl, rfl⟩
  · go_ret
    exact ⟨by rw [inR_no ‹_›]; rfl, rfl⟩

theorem l00In_any (n lo hi : Int) (w : World) : Calls Tryd.prog 15 #[.int .i64 n, .int .i64 lo, .int .i64 hi] w fun e w' => e = .returned (.bool (DeedPlain.inR n lo hi)) ∧ w = w' := by
  go_enter Tryd.func15, Tryd.ntmps15
  go_wp2
  · go_ret
    exact ⟨by rw [inR_yes ‹_›]; rfl, rfl⟩
  · go_ret
    exact ⟨by rw [inR_no ‹_›]; rfl, rfl⟩

theorem deedWord_any (k : Int) (w : World) : Calls Tryd.prog 19 #[.int .i64 k] w fun e w' => e = .returned (.tuple #[.string ⟨(word k).toArray⟩, .int .i64 (many k)]) ∧ w = w' := by
  by_cases hk : 1 ≤ k ∧ k ≤ 9
  · obtain ⟨h1, h9⟩ := hk
    have hc : k = 1 ∨ k = 2 ∨ k = 3 ∨ k = 4 ∨ k = 5 ∨ k = 6 ∨ k = 7 ∨ k = 8 ∨ k = 9 := by omega
    rcases hc with rfl | rfl | rfl | rfl | rfl | rfl | rfl | rfl | rfl
    all_goals
      go_enter Tryd.func19, Tryd.ntmps19
      go_wp2
      go_ret2
      exact ⟨rfl, rfl⟩
  · have e : word k = [] ∧ many k = 0 := by unfold word many; constructor <;> (repeat' split) <;> first | rfl | omega
    obtain ⟨e1, e2⟩ := e
    have n1 : (k == 1) = false := by simp; omega
    have n2 : (k == 2) = false := by simp; omega
    have n3 : (k == 3) = false := by simp; omega
    have n4 : (k == 4) = false := by simp; omega
    have n5 : (k == 5) = false := by simp; omega
    have n6 : (k == 6) = false := by simp; omega
    have n7 : (k == 7) = false := by simp; omega
    have n8 : (k == 8) = false := by simp; omega
    have n9 : (k == 9) = false := by simp; omega
    rw [e1, e2]
    clear e1 e2 hk
    go_enter Tryd.func19, Tryd.ntmps19
    go_wp2
    go_ret2
    exact ⟨rfl, rfl⟩

theorem word_nil {k : Int} (h : word k = []) : kindB k = false := by
  unfold kindB; unfold word at h
  by_cases h1 : 1 ≤ k <;> by_cases h9 : k ≤ 9 <;> simp [h1, h9]
  have hc : k = 1 ∨ k = 2 ∨ k = 3 ∨ k = 4 ∨ k = 5 ∨ k = 6 ∨ k = 7 ∨ k = 8 ∨ k = 9 := by omega
  rcases hc with rfl | rfl | rfl | rfl | rfl | rfl | rfl | rfl | rfl <;> simp at h
theorem word_some {k : Int} (h : ¬ word k = []) : kindB k = true := by
  unfold kindB
  by_cases h1 : 1 ≤ k <;> by_cases h9 : k ≤ 9 <;> simp [h1, h9] <;> exact h (by unfold word; (repeat' split) <;> first | rfl | omega)

theorem implValid_any (k a b : Int) (w : World) : Calls Tryd.prog 13 #[.agg #[.int .i64 k, .int .i64 a, .int .i64 b]] w fun e w' => e = .returned (.bool (validB k a b)) ∧ Below w.heap.size w w' := by
  obtain ⟨B, hB⟩ : ∃ B, B = validB k a b := ⟨_, rfl⟩
  rw [← hB]
  have HB := hid hB
  clear hB
  go_enter Tryd.func13, Tryd.ntmps13
  go_wp2_with (first | (go_at_call 19; refine (deedWord_any _ _).mono ?_; rintro e w' ⟨rfl, rfl⟩) | (go_at_call 20; refine (inRange_any _ _ _ _).mono ?_; rintro e w' ⟨rfl, rfl⟩))
  all_goals go_ret
  all_goals refine ⟨?_, (Below.refl _ _).alloc (Nat.le_refl _) _⟩
  all_goals rw [HB.out]
  all_goals refine ret_bool ?_
  all_goals first
    | (have k1 := word_nil ‹_›; simp [validB, k1]; done)
    | (have k1 := word_some ‹_›; have k2 : (!(word k).isEmpty) = true := by simp [*]
       rw [validB, k1]; simp_all; done)
    | (have k1 := word_some ‹_›; have k2 : (!(word k).isEmpty) = true := by simp [*]
       have k3 : decide (1 < many k) = false := by simp [*]
       rw [validB, k1]; simp [*]; rfl)

theorem words_any (w : World) : Calls Tryd.prog 8 #[] w fun e w' =>
    ∃ a b : Nat, w.heap.size ≤ a ∧ w.heap.size ≤ b ∧ e = .returned (.tuple #[.slice (some ⟨a, 0, none⟩) 10 10, .slice (some ⟨b, 0, none⟩) 10 10]) ∧
      w'.heap[a]? = some (.cells #[.string ⟨#[]⟩, .string ⟨#[119, 111, 114, 107]⟩, .string ⟨#[115, 97, 118, 101]⟩, .string ⟨#[112, 111, 115, 116]⟩, .string ⟨#[98, 97, 99, 107]⟩, .string ⟨#[97, 100, 118, 97, 110, 99, 101]⟩, .string ⟨#[100, 101, 108, 105, 118, 101, 114]⟩, .string ⟨#[99, 111, 112, 121]⟩, .string ⟨#[100, 114, 111, 112]⟩, .string ⟨#[99, 114, 97, 115, 104]⟩] 9) ∧
      w'.heap[b]? = some (.cells #[.int .i64 0, .int .i64 1, .int .i64 1, .int .i64 2, .int .i64 2, .int .i64 1, .int .i64 1, .int .i64 1, .int .i64 1, .int .i64 1] 3) ∧ Below w.heap.size w w' := by
  go_enter Tryd.func8, Tryd.ntmps8
  go_wp2
  go_ret2
  refine ⟨_, _, Nat.le_refl _, ?_, rfl, ?_, by simpa using heap_alloc_new (w.alloc _) _, ((Below.refl _ _).alloc (Nat.le_refl _) _).alloc (by simp) _⟩
  · simp
  · rw [Below.heap_alloc _ _ _ (by simp)]
    exact heap_alloc_new w _

theorem in_kind {k : Int} : DeedPlain.inR k 1 9 = kindB k := rfl


theorem specDeed_no (k a b : Int) (w : World) (h : (kindB k && DeedPlain.inR a 0 999 && DeedPlain.inR b 0 999) = false) : Calls Tryd.prog 10 #[.agg #[.int .i64 k, .int .i64 a, .int .i64 b]] w fun e w' => e = .returned (.bool false) ∧ Below w.heap.size w w' := by
  rw [← in_kind] at h
  have H := hid h
  clear h
  go_enter Tryd.func10, Tryd.ntmps10
  go_wp2_with (first | (go_at_call 15; refine (l00In_any _ _ _ _).mono ?_; rintro e w' ⟨rfl, rfl⟩) | (exfalso; have h := H.out; simp_all; done))
  all_goals go_ret
  all_goals exact ⟨rfl, (Below.refl _ _).alloc (Nat.le_refl _) _⟩

theorem bcell {W w1 : World} (hb : Below W.heap.size W w1) : (∀ b o, b < W.heap.size → w1.cell? ⟨b, o, none⟩ = W.cell? ⟨b, o, none⟩) ∧ (∀ b o, b < W.heap.size → w1.frozen? ⟨b, o, none⟩ = W.frozen? ⟨b, o, none⟩) :=
  ⟨fun b o h => hb.cell (p := ⟨b, o, none⟩) h, fun b o h => hb.frozen (p := ⟨b, o, none⟩) h⟩

theorem ten {w : World} {b : Nat} {t : TypeId} (h : w.heap[b]? = some (.cells #[.int .i64 0, .int .i64 1, .int .i64 1, .int .i64 2, .int .i64 2, .int .i64 1, .int .i64 1, .int .i64 1, .int .i64 1, .int .i64 1] t)) (i : Nat) (hi : i < 10) :
    w.cell? ⟨b, i, none⟩ = some (.int .i64 (many i)) := by
  rw [cell_of_block h]
  have hc : i = 0 ∨ i = 1 ∨ i = 2 ∨ i = 3 ∨ i = 4 ∨ i = 5 ∨ i = 6 ∨ i = 7 ∨ i = 8 ∨ i = 9 := by omega
  rcases hc with rfl | rfl | rfl | rfl | rfl | rfl | rfl | rfl | rfl | rfl <;> rfl
theorem tenW {w : World} {b : Nat} {t : TypeId} (h : w.heap[b]? = some (.cells #[.string ⟨#[]⟩, .string ⟨#[119, 111, 114, 107]⟩, .string ⟨#[115, 97, 118, 101]⟩, .string ⟨#[112, 111, 115, 116]⟩, .string ⟨#[98, 97, 99, 107]⟩, .string ⟨#[97, 100, 118, 97, 110, 99, 101]⟩, .string ⟨#[100, 101, 108, 105, 118, 101, 114]⟩, .string ⟨#[99, 111, 112, 121]⟩, .string ⟨#[100, 114, 111, 112]⟩, .string ⟨#[99, 114, 97, 115, 104]⟩] t)) (i : Nat) (hi : i < 10) :
    w.cell? ⟨b, i, none⟩ = some (.string ⟨(word i).toArray⟩) := by
  rw [cell_of_block h]
  have hc : i = 0 ∨ i = 1 ∨ i = 2 ∨ i = 3 ∨ i = 4 ∨ i = 5 ∨ i = 6 ∨ i = 7 ∨ i = 8 ∨ i = 9 := by omega
  rcases hc with rfl | rfl | rfl | rfl | rfl | rfl | rfl | rfl | rfl | rfl <;> rfl
theorem word_len (i : Nat) (hi : i < 10) : (word i).length ≤ 7 := by
  have hc : i = 0 ∨ i = 1 ∨ i = 2 ∨ i = 3 ∨ i = 4 ∨ i = 5 ∨ i = 6 ∨ i = 7 ∨ i = 8 ∨ i = 9 := by omega
  rcases hc with rfl | rfl | rfl | rfl | rfl | rfl | rfl | rfl | rfl | rfl <;> decide

def isTwo (k b : Int) : Bool := many k == 2 || b == 0
theorem isTwo_yes {k b : Int} (h : many k = 2) : isTwo k b = true := by simp [isTwo, h]
theorem isTwo_no {k b : Int} (h : ¬ many k = 2) : isTwo k b = (b == 0) := by simp [isTwo, h]

theorem specDeed_yes (k a b : Int) (w : World) (hk : kindB k = true) (ha : DeedPlain.inR a 0 999 = true) (hb : DeedPlain.inR b 0 999 = true) : Calls Tryd.prog 10 #[.agg #[.int .i64 k, .int .i64 a, .int .i64 b]] w fun e w' => e = .returned (.bool (isTwo k b)) ∧ Below w.heap.size w w' := by
  have hi : DeedPlain.inR k 1 9 = true := hk
  have h1 : 1 ≤ k ∧ k ≤ 9 := by simpa [kindB] using hk
  obtain ⟨hl, hu⟩ := h1
  obtain ⟨n, rfl⟩ := Int.eq_ofNat_of_zero_le (show 0 ≤ k by omega)
  have hn : n < 10 := by omega
  have hn' : ((n : Int) < 10) := by omega
  clear hk
  go_enter Tryd.func10, Tryd.ntmps10
  go_wp2_with (go_at_call 15; refine (l00In_any _ _ _ _).mono ?_; rintro e w' ⟨rfl, rfl⟩)
  refine (words_any _).mono ?_
  rintro e w1 ⟨p, q, hp, hq, rfl, hw0, hw, hbelow⟩
  have hten := ten hw n hn
  obtain ⟨hc, hf⟩ := bcell hbelow
  have hfin : Below w.heap.size w w1 := ((Below.refl _ _).alloc (Nat.le_refl _) _).trans (hbelow.mono (by simp))
  have Hfin := hid hfin
  clear hfin hbelow hw hq hw0 hp
  go_wp2
  all_goals go_ret
  · exact ⟨by rw [isTwo_yes ‹_›]; rfl, Hfin.out⟩
  · exact ⟨rfl, Hfin.out⟩

theorem validB_no {k a b : Int} (h : (kindB k && DeedPlain.inR a 0 999 && DeedPlain.inR b 0 999) = false) : validB k a b = false := by rw [validB, h]; rfl
theorem validB_yes {k a b : Int} (h : (kindB k && DeedPlain.inR a 0 999 && DeedPlain.inR b 0 999) = true) : validB k a b = isTwo k b := by
  rw [validB, h, isTwo]
  have e : decide (1 < many k) = (many k == 2) := by
    unfold many
    (repeat' split) <;> rfl
  rw [e]
  rfl

theorem specValid_any (k a b : Int) (w : World) : Calls Tryd.prog 10 #[.agg #[.int .i64 k, .int .i64 a, .int .i64 b]] w fun e w' => e = .returned (.bool (validB k a b)) ∧ Below w.heap.size w w' := by
  cases h : (kindB k && DeedPlain.inR a 0 999 && DeedPlain.inR b 0 999) with
  | false => rw [validB_no h]; exact specDeed_no k a b w h
  | true =>
    rw [validB_yes h]
    simp only [Bool.and_eq_true] at h
    exact specDeed_yes k a b w h.1.1 h.1.2 h.2


theorem dec_len (n : Nat) (h : n < 1000) : (Lib.decDigits n).length ≤ 3 := by
  rw [Lib.decDigits_length]
  by_cases h1 : n < 10
  · rw [Lib.nDigits_small h1]; omega
  · rw [Lib.nDigits_big h1]
    by_cases h2 : n / 10 < 10
    · rw [Lib.nDigits_small h2]; omega
    · rw [Lib.nDigits_big h2, Lib.nDigits_small (by omega)]
      omega
section
variable {Q : Exit → Act → World → Prop} {n : Nat} {ρ : Env} {w : World} {d : Nat} {ty : TypeId} {pos : String} {af : Array Edge} {K : Env → World → Prop} {S : World → Prop} {gd : Option (Nat × Bool)}
theorem y_cat {x y : Operand} (a b : List UInt8) (hx : ev n ρ x = .string ⟨a.toArray⟩) (hy : ev n ρ y = .string ⟨b.toArray⟩) (h : a.length + b.length ≤ 1000) :
    ∀ w', S w' → (execOp (ev n ρ) ⟨some d, .binOp .add 9 x y 9, ty, pos, af, gd⟩).run Tryd.prog w' = .ok (.value (.string ⟨(a ++ b).toArray⟩)) w' := fun w' _ => by
  have e := run_string_add_sum (P := Tryd.prog) w' (⟨a.toArray⟩ : ByteArray) ⟨b.toArray⟩ (by simp [ByteArray.size]; omega)
  have e2 : ((⟨a.toArray⟩ : ByteArray) ++ ⟨b.toArray⟩) = ⟨(a ++ b).toArray⟩ := by
    apply ByteArray.ext
    simp
  rw [e2] at e
  simp [execOp, hx, hy, eqGuard, binOp, e]
theorem o_cat {x y : Operand} (a b : List UInt8) (hx : ev n ρ x = .string ⟨a.toArray⟩) (hy : ev n ρ y = .string ⟨b.toArray⟩) (h : a.length + b.length ≤ 1000)
    (k : K (upd ρ d (.string ⟨(a ++ b).toArray⟩)) w) : OW Tryd.prog Q ⟨some d, .binOp .add 9 x y 9, ty, pos, af, none⟩ n ρ w K :=
  o_val _ (y_cat (S := fun _ => True) a b hx hy h w trivial) k
end
theorem nats {k a b : Int} (hv : validB k a b = true) : ∃ n A B : Nat, k = n ∧ a = A ∧ b = B ∧ n < 10 ∧ A < 1000 ∧ B < 1000 := by
  simp only [validB, kindB, DeedPlain.inR, Bool.and_eq_true, decide_eq_true_eq] at hv
  obtain ⟨⟨⟨⟨h1, h2⟩, h3, h4⟩, h5, h6⟩, _⟩ := hv
  exact ⟨k.toNat, a.toNat, b.toNat, by omega, by omega, by omega, by omega, by omega, by omega⟩

abbrev tab (w : World) : Prop := Lib.TabIs Tryd.prog w "internal/strconv.uint64pow10" .u64 Lib.pow10Tab
theorem gTab : Tryd.prog.globalNamed "internal/strconv.uint64pow10" = some 5 := by kernel_rfl

theorem decimal_any (n : Nat) (hn : n < 1000) (w : World) (htab : tab w) : Calls Tryd.prog 21 #[.int .i64 n] w fun e w' => e = .returned (.string ⟨(Lib.decDigits n).toArray⟩) ∧ Below w.heap.size w w' := by
  have c := Any.strconv_FormatInt_10 layFi (n : Int) (by omega) (by omega) w htab
  rw [Lib.itoa_nonneg] at c
  go_enter Tryd.func21, Tryd.ntmps21
  go_wp2_with (go_at_call 30; refine c.mono ?_; rintro e w' ⟨rfl, k, os, rfl⟩)
  go_ret
  exact ⟨rfl, Lib.below_grow _ _ (Nat.le_refl _) _ _⟩

theorem implText_no (k a b : Int) (w : World) (h : validB k a b = false) : Calls Tryd.prog 14 #[.agg #[.int .i64 k, .int .i64 a, .int .i64 b]] w fun e w' => e = .returned (.string ⟨(text k a b).toArray⟩) ∧ Below w.heap.size w w' := by
  have ht : text k a b = [] := by simp [text, h]
  rw [ht]
  go_enter Tryd.func14, Tryd.ntmps14
  go_wp2_with fail
  refine (implValid_any _ _ _ _).mono ?_
  rw [h]
  rintro e w1 ⟨rfl, hb⟩
  have Hfin := hid (((Below.refl w.heap.size w).alloc (Nat.le_refl _) _).trans (hb.mono (by simp)))
  clear hb
  go_wp2
  go_ret
  exact ⟨rfl, Hfin.out⟩

/-- The text behind i numbers. -/
def part (n A B : Nat) : Nat → List UInt8
  | 0 => word n
  | i + 1 => part n A B i ++ ([32] ++ Lib.decDigits (if i = 0 then A else B))
theorem part_text (n A B m : Nat) (hm : many n = m) (h : m = 1 ∨ m = 2) (hv : validB n A B = true) : part n A B m = text n A B := by
  rcases h with rfl | rfl
  · have h' : ¬ many n = 2 := by omega
    simp only [text, hv, h', if_true, if_false, Int.toNat_natCast, List.append_nil, part, List.append_assoc]
  · have h' : many n = 2 := by omega
    simp only [text, hv, h', if_true, Int.toNat_natCast, part, List.append_assoc, if_true, Nat.succ_ne_zero, Nat.one_ne_zero, if_false]
theorem part_len (n A B i : Nat) (hn : n < 10) (hA : A < 1000) (hB : B < 1000) : (part n A B i).length ≤ 7 + 4 * i := by
  induction i with
  | zero => exact word_len n hn
  | succ i ih =>
    have : (Lib.decDigits (if i = 0 then A else B)).length ≤ 3 := dec_len _ (by split <;> omega)
    simp only [part, List.length_append, List.length_cons, List.length_nil]
    omega
theorem many_of (n : Nat) (A B : Int) (hv : validB n A B = true) : ∃ m : Nat, many n = m ∧ (m = 1 ∨ m = 2) := by
  have hk : kindB n = true := by
    simp only [validB, Bool.and_eq_true] at hv
    exact hv.1.1.1
  have h1 : 1 ≤ (n : Int) ∧ (n : Int) ≤ 9 := by simpa [kindB] using hk
  unfold many
  split
  · exact ⟨2, rfl, Or.inr rfl⟩
  · exact ⟨1, rfl, Or.inl rfl⟩

theorem ti2 : TI Tryd.prog 2 (.int .i64 0) 1 8 := by unfold TI; kernel_rfl
section
variable {P : Program} {Q : Exit → Act → World → Prop} {n : Nat} {ρ : Env} {w : World} {d : Nat} {ty : TypeId} {pos : String} {af : Array Edge} {K : Env → World → Prop}
theorem o_upto {x y : Operand} {t e : TypeId} {z : Value} {by' m c : Nat} {a : Option Addr} (kk : Nat) (hu : P.underlying t = some (.slice e)) (he : TI P e z 1 by') (hx : ev n ρ x = .slice a m c) (hy : ev n ρ y = .int .i64 (kk : Int)) (hk : kk ≤ c) (h0 : 0 < c)
    (k : K (upd ρ d (.slice a kk c)) w) : OW P Q ⟨some d, .slice t x none (some y) none, ty, pos, af, none⟩ n ρ w K := by
  refine o_val _ ?_ k
  have hne : ¬ c = 0 := by omega
  cases a <;> simp [execOp, hx, hy, Instr.sliceAt, Instr.slice, Instr.sliceBounds, Instr.sliceBound, asIntOf, run_underlying hu, he.sizeOf, hk, hne, Addr.add]
end

set_option maxRecDepth 100000 in
theorem implText_yes (n A B : Nat) (hn : n < 10) (hA : A < 1000) (hB : B < 1000) (hv : validB n A B = true) (w : World) (htab : tab w) :
    Calls Tryd.prog 14 #[.agg #[.int .i64 n, .int .i64 A, .int .i64 B]] w fun e w' => e = .returned (.string ⟨(text n A B).toArray⟩) ∧ Below w.heap.size w w' := by
  obtain ⟨m, hm, hm2⟩ := many_of n A B hv
  rw [← part_text n A B m hm hm2 hv]
  have pl := fun i => part_len n A B i hn hA hB
  refine enter Tryd.func14 rfl Tryd.ntmps14 (Nat.le_of_ble_eq_true rfl) ?_
  refine c_seq (c_reg (sw (o_boxC (St.start w) [.int .i64 n, .int .i64 A, .int .i64 B] fun b1 w1 H => sp (.string ⟨#[]⟩) (c_nil (t_n ?_)))))
  refine c_seq (c_seq (c_reg (sw (o_loadN [.int .i64 n, .int .i64 A, .int .i64 B] Tryd.isAgg23 Tryd.sizeOf23 rfl (H.cells 0 rfl) (sw (o_call (R := fun v _ => v = .bool (validB n A B)) #[.agg #[.int .i64 n, .int .i64 A, .int .i64 B]] rfl rfl Tryd.call13 ((implValid_any _ _ _ _).mono fun e w' h => ⟨_, h.1, rfl, h.2⟩) ?_))))))
  rintro v w2 rfl x2
  replace H := H.ext x2
  refine sp (.bool (!validB n A B)) (c_nil (t_n ?_))
  refine c_cond false (by rw [hv]; rfl) (fun h => by cases h) (fun _ => c_skip (t_n ?_))
  refine c_seq (c_reg (sw (o_field b1 0 0 Tryd.underlying23 rfl rfl Tryd.sizeOf2 rfl (sw (o_load1 (.int .i64 n) Tryd.isAgg2 rfl (by simpa using H.cells 0 rfl 0 _ rfl) (sw (o_call (R := fun v _ => v = .tuple #[.string ⟨(word n).toArray⟩, .int .i64 m]) #[.int .i64 n] rfl rfl Tryd.call19 ((deedWord_any _ _).mono fun e w' h => ⟨_, h.1, by rw [hm], by rw [h.2]; exact Below.refl _ _⟩) ?_)))))))
  rintro v w3 rfl x3
  replace H := H.ext x3
  refine sp (.tuple #[.string ⟨(word n).toArray⟩, .int .i64 m]) (sp (.string ⟨(word n).toArray⟩) (sp (.int .i64 m) (sp (.string ⟨(word n).toArray⟩) (sp (.int .i64 m) (c_nil (t_n ?_))))))
  refine c_seq (c_seq (c_reg (sw (o_field b1 0 1 Tryd.underlying23 rfl rfl Tryd.sizeOf2 rfl (sw (o_load1 (.int .i64 A) Tryd.isAgg2 rfl (by simpa using H.cells 0 rfl 1 _ rfl) (sw (o_field b1 0 2 Tryd.underlying23 rfl rfl Tryd.sizeOf2 rfl (sw (o_load1 (.int .i64 B) Tryd.isAgg2 rfl (by simpa using H.cells 0 rfl 2 _ rfl) ?_))))))))))
  refine sw (o_buildF H Tryd.underlying48 ti2 [.int .i64 A, .int .i64 B] rfl (by simp [Value.cells]) rfl (by decide) (by decide) fun b2 w4 H => ?_)
  refine sp (.int .i64 m) (sw (o_upto m Tryd.underlying48 ti2 rfl rfl (by omega) (by decide) (sw (o_len Tryd.underlying48 (some ⟨b2, 0, none⟩) m 2 rfl (sp (.int .i64 0) (c_nil (t_n ?_)))))))
  refine c_block ?_
  refine c_loop (fun m' ρ w' => ∃ (junk : Env) (i : Nat), ρ = upd (upd (upd (upd junk 3 (.string ⟨(part n A B i).toArray⟩)) 22 (.slice (some ⟨b2, 0, none⟩) m 2)) 23 (.int .i64 m)) 24 (.int .i64 i) ∧ i ≤ m ∧ m' = m - i ∧
    St w w' [.box b2 [.int .i64 A, .int .i64 B] 2, .box b1 [.int .i64 n, .int .i64 A, .int .i64 B] 23] []) m ⟨_, 0, uE4, by omega, by omega, H⟩ ?_
  clear H
  rintro m' ρ w5 ⟨junk, i, rfl, hi, rfl, H⟩
  refine c_seq (c_reg (sp (.bool (decide ((i : Int) < m))) (c_nil (t_n (c_seq ?_)))))
  refine c_cond (decide ((i : Int) < m)) rfl (fun h => ?_) (fun h => ?_)
  · have h : i < m := by have := of_decide_eq_true h; omega
    have hnum : (if i = 0 then A else B) < 1000 := by split <;> omega
    have dl := dec_len _ hnum
    have pi := pl i
    have hcell : w5.cell? ⟨b2, 0 + (i : Int).toNat * 1, none⟩ = some (.int .i64 ((if i = 0 then A else B : Nat) : Int)) := by
      have hh : [Value.int .i64 A, .int .i64 B][i]? = some (.int .i64 ((if i = 0 then A else B : Nat) : Int)) := by
        rcases (show i = 0 ∨ i = 1 by omega) with rfl | rfl <;> rfl
      simpa using H.cells 0 rfl i _ hh
    refine c_skip (t_n (c_seq (c_block (c_seq (c_reg (sw (o_idxAt (i : Int) Tryd.underlying48 ti2 rfl rfl (by omega) (by omega) (sw (o_load1 (.int .i64 ((if i = 0 then A else B : Nat) : Int)) Tryd.isAgg2 rfl hcell (sp (.int .i64 ((if i = 0 then A else B : Nat) : Int)) (c_nil (t_n ?_))))))))))))
    refine c_reg (sp (.string ⟨(part n A B i).toArray⟩) (sp (.int .i64 ((if i = 0 then A else B : Nat) : Int)) (sw (o_call (R := fun v w' => v = .string ⟨(Lib.decDigits (if i = 0 then A else B)).toArray⟩) #[.int .i64 ((if i = 0 then A else B : Nat) : Int)] rfl rfl Tryd.call21 ((decimal_any _ hnum _ (tab_stays gTab htab H.base (Nat.le_refl _))).mono fun e w' h => ⟨_, h.1, rfl, h.2⟩) ?_))))
    rintro v w6 rfl x6
    replace H := H.ext x6
    refine sw (o_cat [32] (Lib.decDigits (if i = 0 then A else B)) rfl rfl (by simp; omega) (sw (o_cat (part n A B i) ([32] ++ Lib.decDigits (if i = 0 then A else B)) rfl rfl (by simp; omega) (sp (.string ⟨(part n A B (i + 1)).toArray⟩) (c_nil ?_)))))
    refine b_n (t_n (c_reg (sw (o_add (i : Int) 1 rfl rfl (by omega) (sp (.int .i64 ((i : Int) + 1)) (c_nil ?_))))))
    exact loop_end (m' := m - (i + 1)) (by omega) ⟨_, i + 1, uE4, by omega, rfl, H⟩
  · have h : i = m := by have := of_decide_eq_false h; omega
    subst h
    refine c_exit (t_x (t_x (b_x (t_n (c_seq (c_reg (sp (.string ⟨(part n A B i).toArray⟩) (sp (.string ⟨(part n A B i).toArray⟩) (c_nil (t_n (c_ret ?_)))))))))))
    exact ret1 (.string ⟨(part n A B i).toArray⟩) rfl rfl ⟨rfl, H.base⟩
theorem implText_any (k a b : Int) (w : World) (htab : tab w) : Calls Tryd.prog 14 #[.agg #[.int .i64 k, .int .i64 a, .int .i64 b]] w fun e w' => e = .returned (.string ⟨(text k a b).toArray⟩) ∧ Below w.heap.size w w' := by
  cases hv : validB k a b with
  | false => exact implText_no k a b w hv
  | true =>
    obtain ⟨n, A, B, rfl, rfl, rfl, hn, hA, hB⟩ := nats hv
    exact implText_yes n A B hn hA hB hv w htab

end Go.Proofs.YtfekhnffbngoaaaDoor.DeedRead
