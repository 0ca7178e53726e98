/- FnExactValidDeed: for every deed the program's ValidDeed returns what the reference's returns. No condition. -/
import Derived.Test.YtjdfgmhlojfkkaaLaw
import Derived.BigQuiet
namespace Go.Proofs.Ytjdfgmhlojfkkaa.ValidDeed
open Go.ChangeShapes Go.WideShapes Go.ChangeAt Go.RowKit Go.Joins
set_option linter.unusedVariables false

theorem own : ownKnob Try.prog.godebug = none := by kernel_rfl
theorem cellsDeed : Try.prog.cellsOf 23 = 3 := by kernel_rfl

def inR (n lo hi : Int) : Bool := decide (lo ≤ n) && decide (n ≤ hi)
theorem inR_yes {n lo hi : Int} (h : lo ≤ n) : inR n lo hi = decide (n ≤ hi) := by simp [inR, h]
theorem inR_no {n lo hi : Int} (h : n < lo) : inR n lo hi = false := by simp [inR]; omega

theorem inRange_any (n lo hi : Int) (w : World) : Calls Try.prog 9 #[.int .i64 n, .int .i64 lo, .int .i64 hi] w fun e w' => e = .returned (.bool (inR n lo hi)) ∧ w = w' := by
  go_enter Try.func9, Try.ntmps9
  go_wp2
  · go_ret
    exact ⟨by rw [inR_yes ‹_›]; rfl, rfl⟩
  · go_ret
    exact ⟨by rw [inR_no ‹_›]; rfl, rfl⟩

theorem l00In_any (n lo hi : Int) (w : World) : Calls Try.prog 10 #[.int .i64 n, .int .i64 lo, .int .i64 hi] w fun e w' => e = .returned (.bool (inR n lo hi)) ∧ w = w' := by
  go_enter Try.func10, Try.ntmps10
  go_wp2
  · go_ret
    exact ⟨by rw [inR_yes ‹_›]; rfl, rfl⟩
  · go_ret
    exact ⟨by rw [inR_no ‹_›]; rfl, rfl⟩

theorem toDeed_any (k a b : Int) (w : World) : Calls Try.prog 5 #[.agg #[.int .i64 k, .int .i64 a, .int .i64 b]] w fun e w' => e = .returned (.agg #[.int .i64 k, .int .i64 a, .int .i64 b]) ∧ Below w.heap.size w w' := by
  go_enter Try.func5, Try.ntmps5
  go_wp2
  exact bodyPost_ret (v := .agg #[.int .i64 k, .int .i64 a, .int .i64 b]) (by simp [results, Try.results5, go_sem]) rfl ⟨rfl, (((Below.refl _ _).alloc (Nat.le_refl _) _).alloc (by simp) _).alloc (by simp; omega) _⟩

/-- The word of a kind, as bytes; how many numbers its text has. -/
def word (k : Int) : List UInt8 :=
  if k = 1 then [119, 111, 114, 107] else if k = 2 then [115, 97, 118, 101] else if k = 3 then [112, 111, 115, 116] else if k = 4 then [98, 97, 99, 107]
  else if k = 5 then [97, 100, 118, 97, 110, 99, 101] else if k = 6 then [100, 101, 108, 105, 118, 101, 114] else if k = 7 then [99, 111, 112, 121]
  else if k = 8 then [100, 114, 111, 112] else if k = 9 then [99, 114, 97, 115, 104] else []
def many (k : Int) : Int := if k = 3 ∨ k = 4 then 2 else if 1 ≤ k ∧ k ≤ 9 then 1 else 0

theorem deedWord_any (k : Int) (w : World) : Calls Try.prog 8 #[.int .i64 k] w fun e w' => e = .returned (.tuple #[.string ⟨(word k).toArray⟩, .int .i64 (many k)]) ∧ w = w' := by
  by_cases hk : 1 ≤ k ∧ k ≤ 9
  · obtain ⟨h1, h9⟩ := hk
    have hc : k = 1 ∨ k = 2 ∨ k = 3 ∨ k = 4 ∨ k = 5 ∨ k = 6 ∨ k = 7 ∨ k = 8 ∨ k = 9 := by omega
    rcases hc with rfl | rfl | rfl | rfl | rfl | rfl | rfl | rfl | rfl
    all_goals
      go_enter Try.func8, Try.ntmps8
      go_wp2
      go_ret2
      exact ⟨rfl, rfl⟩
  · have e : word k = [] ∧ many k = 0 := by unfold word many; constructor <;> (repeat' split) <;> first | rfl | omega
    obtain ⟨e1, e2⟩ := e
    have n1 : (k == 1) = false := by simp; omega
    have n2 : (k == 2) = false := by simp; omega
    have n3 : (k == 3) = false := by simp; omega
    have n4 : (k == 4) = false := by simp; omega
    have n5 : (k == 5) = false := by simp; omega
    have n6 : (k == 6) = false := by simp; omega
    have n7 : (k == 7) = false := by simp; omega
    have n8 : (k == 8) = false := by simp; omega
    have n9 : (k == 9) = false := by simp; omega
    rw [e1, e2]
    clear e1 e2 hk
    go_enter Try.func8, Try.ntmps8
    go_wp2
    go_ret2
    exact ⟨rfl, rfl⟩

def kindB (k : Int) : Bool := decide (1 ≤ k) && decide (k ≤ 9)
theorem word_nil {k : Int} (h : word k = []) : kindB k = false := by
  unfold kindB; unfold word at h
  by_cases h1 : 1 ≤ k <;> by_cases h9 : k ≤ 9 <;> simp [h1, h9]
  have hc : k = 1 ∨ k = 2 ∨ k = 3 ∨ k = 4 ∨ k = 5 ∨ k = 6 ∨ k = 7 ∨ k = 8 ∨ k = 9 := by omega
  rcases hc with rfl | rfl | rfl | rfl | rfl | rfl | rfl | rfl | rfl <;> simp at h
theorem word_some {k : Int} (h : ¬ word k = []) : kindB k = true := by
  unfold kindB
  by_cases h1 : 1 ≤ k <;> by_cases h9 : k ≤ 9 <;> simp [h1, h9] <;> exact h (by unfold word; (repeat' split) <;> first | rfl | omega)
def validB (k a b : Int) : Bool := kindB k && inR a 0 999 && inR b 0 999 && (decide (1 < many k) || decide (b = 0))

theorem impl_any (k a b : Int) (w : World) : Calls Try.prog 6 #[.agg #[.int .i64 k, .int .i64 a, .int .i64 b]] w fun e w' => e = .returned (.bool (validB k a b)) ∧ Below w.heap.size w w' := by
  obtain ⟨B, hB⟩ : ∃ B, B = validB k a b := ⟨_, rfl⟩
  rw [← hB]
  have HB := hid hB
  clear hB
  go_enter Try.func6, Try.ntmps6
  go_wp2_with (first | (go_at_call 8; refine (deedWord_any _ _).mono ?_; rintro e w' ⟨rfl, rfl⟩) | (go_at_call 9; refine (inRange_any _ _ _ _).mono ?_; rintro e w' ⟨rfl, rfl⟩))
  all_goals go_ret
  all_goals refine ⟨?_, (Below.refl _ _).alloc (Nat.le_refl _) _⟩
  all_goals rw [HB.out]
  all_goals refine ret_bool ?_
  all_goals first
    | (have k1 := word_nil ‹_›; simp [validB, k1]; done)
    | (have k1 := word_some ‹_›; have k2 : (!(word k).isEmpty) = true := by simp [*]
       rw [validB, k1]; simp_all; done)
    | (have k1 := word_some ‹_›; have k2 : (!(word k).isEmpty) = true := by simp [*]
       have k3 : decide (1 < many k) = false := by simp [*]
       rw [validB, k1]; simp [*]; rfl)

theorem words_any (w : World) : Calls Try.prog 11 #[] w fun e w' =>
    ∃ a b : Nat, w.heap.size ≤ b ∧ e = .returned (.tuple #[.slice (some ⟨a, 0, none⟩) 10 10, .slice (some ⟨b, 0, none⟩) 10 10]) ∧
      w'.heap[b]? = some (.cells #[.int .i64 0, .int .i64 1, .int .i64 1, .int .i64 2, .int .i64 2, .int .i64 1, .int .i64 1, .int .i64 1, .int .i64 1, .int .i64 1] 3) ∧ Below w.heap.size w w' := by
  go_enter Try.func11, Try.ntmps11
  go_wp2
  go_ret2
  exact ⟨_, _, by simp, rfl, by simpa using heap_alloc_new (w.alloc _) _, ((Below.refl _ _).alloc (Nat.le_refl _) _).alloc (by simp) _⟩

theorem in_kind {k : Int} : inR k 1 9 = kindB k := rfl

theorem spec_no (k a b : Int) (w : World) (h : (kindB k && inR a 0 999 && inR b 0 999) = false) : Calls Try.prog 7 #[.agg #[.int .i64 k, .int .i64 a, .int .i64 b]] w fun e w' => e = .returned (.bool false) ∧ Below w.heap.size w w' := by
  rw [← in_kind] at h
  have H := hid h
  clear h
  go_enter Try.func7, Try.ntmps7
  go_wp2_with (first | (go_at_call 10; refine (l00In_any _ _ _ _).mono ?_; rintro e w' ⟨rfl, rfl⟩) | (exfalso; have h := H.out; simp_all; done))
  all_goals go_ret
  all_goals exact ⟨rfl, (Below.refl _ _).alloc (Nat.le_refl _) _⟩

theorem bcell {W w1 : World} (hb : Below W.heap.size W w1) : (∀ b o, b < W.heap.size → w1.cell? ⟨b, o, none⟩ = W.cell? ⟨b, o, none⟩) ∧ (∀ b o, b < W.heap.size → w1.frozen? ⟨b, o, none⟩ = W.frozen? ⟨b, o, none⟩) :=
  ⟨fun b o h => hb.cell (p := ⟨b, o, none⟩) h, fun b o h => hb.frozen (p := ⟨b, o, none⟩) h⟩

theorem ten {w : World} {b : Nat} {t : TypeId} (h : w.heap[b]? = some (.cells #[.int .i64 0, .int .i64 1, .int .i64 1, .int .i64 2, .int .i64 2, .int .i64 1, .int .i64 1, .int .i64 1, .int .i64 1, .int .i64 1] t)) (i : Nat) (hi : i < 10) :
    w.cell? ⟨b, i, none⟩ = some (.int .i64 (many i)) := by
  rw [cell_of_block h]
  have hc : i = 0 ∨ i = 1 ∨ i = 2 ∨ i = 3 ∨ i = 4 ∨ i = 5 ∨ i = 6 ∨ i = 7 ∨ i = 8 ∨ i = 9 := by omega
  rcases hc with rfl | rfl | rfl | rfl | rfl | rfl | rfl | rfl | rfl | rfl <;> rfl

def isTwo (k b : Int) : Bool := many k == 2 || b == 0
theorem isTwo_yes {k b : Int} (h : many k = 2) : isTwo k b = true := by simp [isTwo, h]
theorem isTwo_no {k b : Int} (h : ¬ many k = 2) : isTwo k b = (b == 0) := by simp [isTwo, h]

theorem spec_yes (k a b : Int) (w : World) (hk : kindB k = true) (ha : inR a 0 999 = true) (hb : inR b 0 999 = true) : Calls Try.prog 7 #[.agg #[.int .i64 k, .int .i64 a, .int .i64 b]] w fun e w' => e = .returned (.bool (isTwo k b)) ∧ Below w.heap.size w w' := by
  have hi : inR k 1 9 = true := hk
  have h1 : 1 ≤ k ∧ k ≤ 9 := by simpa [kindB] using hk
  obtain ⟨hl, hu⟩ := h1
  obtain ⟨n, rfl⟩ := Int.eq_ofNat_of_zero_le (show 0 ≤ k by omega)
  have hn : n < 10 := by omega
  have hn' : ((n : Int) < 10) := by omega
  clear hk
  go_enter Try.func7, Try.ntmps7
  go_wp2_with (go_at_call 10; refine (l00In_any _ _ _ _).mono ?_; rintro e w' ⟨rfl, rfl⟩)
  refine (words_any _).mono ?_
  rintro e w1 ⟨p, q, hq, rfl, hw, hbelow⟩
  have hten := ten hw n hn
  obtain ⟨hc, hf⟩ := bcell hbelow
  have hfin : Below w.heap.size w w1 := ((Below.refl _ _).alloc (Nat.le_refl _) _).trans (hbelow.mono (by simp))
  have Hfin := hid hfin
  clear hfin hbelow hw hq
  go_wp2
  all_goals go_ret
  · exact ⟨by rw [isTwo_yes ‹_›]; rfl, Hfin.out⟩
  · exact ⟨rfl, Hfin.out⟩

theorem validB_no {k a b : Int} (h : (kindB k && inR a 0 999 && inR b 0 999) = false) : validB k a b = false := by rw [validB, h]; rfl
theorem validB_yes {k a b : Int} (h : (kindB k && inR a 0 999 && inR b 0 999) = true) : validB k a b = isTwo k b := by
  rw [validB, h, isTwo]
  have e : decide (1 < many k) = (many k == 2) := by
    unfold many
    (repeat' split) <;> rfl
  rw [e]
  rfl

theorem spec_any (k a b : Int) (w : World) : Calls Try.prog 7 #[.agg #[.int .i64 k, .int .i64 a, .int .i64 b]] w fun e w' => e = .returned (.bool (validB k a b)) ∧ Below w.heap.size w w' := by
  cases h : (kindB k && inR a 0 999 && inR b 0 999) with
  | false => rw [validB_no h]; exact spec_no k a b w h
  | true =>
    rw [validB_yes h]
    simp only [Bool.and_eq_true] at h
    exact spec_yes k a b w h.1.1 h.1.2 h.2

theorem spec_top (k a b : Int) (w : World) : Calls Try.prog 4 #[.agg #[.int .i64 k, .int .i64 a, .int .i64 b]] w fun e w' => e = .returned (.bool (validB k a b)) ∧ Below w.heap.size w w' := by
  go_enter Try.func4, Try.ntmps4
  go_wp2_with fail
  refine (spec_any _ _ _ _).mono ?_
  rintro e w1 ⟨rfl, hb⟩
  have Hfin := hid (((Below.refl _ _).alloc (Nat.le_refl _) _).trans (hb.mono (by simp)))
  clear hb
  go_wp2
  go_ret
  exact ⟨rfl, Hfin.out⟩

theorem law_any (k a b : Int) (w : World) : Calls Try.prog 3 #[.agg #[.int .i64 k, .int .i64 a, .int .i64 b]] w fun e w' => e = .returned (.bool true) ∧ Below w.heap.size w w' := by
  go_enter Try.func3, Try.ntmps3
  go_wp2_with fail
  refine (toDeed_any _ _ _ _).mono ?_
  rintro e w1 ⟨rfl, hb⟩
  obtain ⟨hc1, hf1⟩ := bcell hb
  have H1 := hid (((Below.refl _ _).alloc (Nat.le_refl _) _).trans (hb.mono (by simp)))
  have Hs1 := hid hb.size
  clear hb
  go_wp2_with fail
  refine (spec_top _ _ _ _).mono ?_
  rintro e w2 ⟨rfl, hb⟩
  obtain ⟨hc2, hf2⟩ := bcell hb
  have H2 := hid (H1.out.trans (hb.mono H1.out.size))
  have hz1 : w.heap.size < w1.heap.size := by have := Hs1.out; simp at this; omega
  have Hs2 := hid (Nat.lt_of_lt_of_le hz1 hb.size)
  clear hb H1 Hs1
  go_wp2_with fail
  refine (toDeed_any _ _ _ _).mono ?_
  rintro e w3 ⟨rfl, hb⟩
  have H3 := hid (H2.out.trans (hb.mono H2.out.size))
  clear hb
  go_wp2_with fail
  refine (impl_any _ _ _ _).mono ?_
  rintro e w4 ⟨rfl, hb⟩
  have H4 := hid (H3.out.trans (hb.mono H3.out.size))
  clear hb
  go_wp2
  go_ret
  exact ⟨rfl, H4.out⟩

theorem contract (H : Type) (enc : TypeId × Value → H) (W : World) (base : Nat) (args : Array Value) (ds gs : List (DataW H)) (before : List MemPlace)
    (hval : ∀ (j : Nat) t v, Try.f3.params[j]? = some t → args[j]? = some v → Value.okWide Try.prog W .any base t v)
    (hW : DataW.Whole enc Try.prog Try.f3.params.toList Rows.fnExactValidDeedSpec.vars false W args.toList ds gs before) :
    Calls Try.prog 3 args W fun e W' => ∃ v, e = .returned v ∧ Rows.fnExactValidDeedSpec.post enc Try.prog Try.f3 false true false false W args v W' := by
  have hW' := hW
  obtain ⟨p, q, hA0, hV, rfl, hfz, hnd⟩ := hW
  have hA : DataW.TrodAll enc Try.prog W 0 (fun _ => true) true Try.f3.params.toList args.toList ds p := hA0
  rw [Try.params3] at hA hval
  obtain ⟨v0, d0, rfl, rfl, h0⟩ := trodAll_one hA
  obtain ⟨c0, c1, c2, y0, y1, y2, m, rfl, rfl, rfl, hy0, hy1, hy2⟩ := open_agg3 Try.underlying23 (by kernel_rfl) cellsDeed (hval 0 23 v0 rfl rfl) h0
  obtain ⟨k, e0, rfl, wa⟩ := DataW.trod_int Try.underlying2 hy0
  obtain ⟨a, e1, rfl, wb⟩ := DataW.trod_int Try.underlying2 hy1
  obtain ⟨b, e2, rfl, wc⟩ := DataW.trod_int Try.underlying2 hy2
  simp at e0 e1 e2
  subst e0 e1 e2
  refine (law_any k a b W).mono fun e W' ⟨he, hb⟩ => ?_
  subst he
  exact ⟨_, rfl, post_law hW' rfl rfl (tb := 4) (by kernel_rfl) Try.underlying4 (by kernel_rfl) (by intro t ht; rw [Try.params3] at ht; simp at ht; subst ht; exact ⟨by kernel_rfl, of_decide_eq_true (by kernel_rfl)⟩) hb⟩

set_option maxRecDepth 100000 in
theorem lifted (os : Os) (started : os.Started) (H : Type) (enc : TypeId × Value → H) :
    ReturnsInHanded {} Try.checked os 3 .any (Rows.fnExactValidDeedSpec.pre6 enc Try.prog Try.f3 Rows.fnExactValidDeedRow.domain false) (Rows.fnExactValidDeedSpec.post enc Try.prog Try.f3 false true false false) := by
  refine returnsInHanded_of_change (C := Try.checked) own started (by kernel_rfl) Try.func3
    (ChangeSpec.witness6 (enc := enc) (C := Try.checked) false ⟨#[], #[.agg #[.int .i64 0, .int .i64 0, .int .i64 0]], []⟩ 8 (by kernel_rfl) (by kernel_rfl) (by kernel_rfl) (by kernel_rfl)) ?_
  intro W base args ds gs before hval hW _ _
  exact contract H enc W base args ds gs before hval hW

theorem holds : Rows.FnExactValidDeedSaid :=
  OpenClaim.holds_of_wide 3 Try.f3 rfl rfl rfl rfl rfl rfl rfl ⟨rfl, rfl, rfl, rfl, rfl⟩ rfl rfl rfl rfl rfl (by kernel_rfl) Try.func3 (by kernel_rfl)
    (of_decide_eq_true (by kernel_rfl)) (by unfold Func.isWrapper; rw [if_neg (of_decide_eq_false (by kernel_rfl))]; exact ⟨rfl, rfl⟩)
    (fun os started H enc _ => lifted os started H enc)
end Go.Proofs.Ytjdfgmhlojfkkaa.ValidDeed
