/- FnExactDeedText, part 3: the reference's DeedText. No condition. -/
import Derived.Test.YtjdfgmhlojfkkabDoorDec
namespace Go.Proofs.YtjdfgmhlojfkkabDoor.DeedText
open Go.Proofs.YtjdfgmhlojfkkabDoor.Tot (tot)
open Go.Proofs.YtjdfgmhlojfkkabDoor.Mark (cnt mrk mkd mkd_mark cnt_mark)
open Go.ChangeShapes Go.WideShapes Go.ChangeAt Go.RowKit Go.Joins Go.Sort
set_option linter.unusedVariables false
set_option linter.unusedSimpArgs false

theorem spec_no (k a b : Int) (w : World) (h : (kindB k && inR a 0 999 && inR b 0 999) = false) : Calls Tryd.prog 7 #[.agg #[.int .i64 k, .int .i64 a, .int .i64 b]] w fun e w' => e = .returned (.bool false) ∧ Below w.heap.size w w' := by
  rw [← in_kind] at h
  have H := hid h
  clear h
  go_enter Tryd.func7, Tryd.ntmps7
  go_wp2_with (first | (go_at_call 13; refine (l00In_any _ _ _ _).mono ?_; rintro e w' ⟨rfl, rfl⟩) | (exfalso; have h := H.out; simp_all; done))
  all_goals go_ret
  all_goals exact ⟨rfl, (Below.refl _ _).alloc (Nat.le_refl _) _⟩

theorem bcell {W w1 : World} (hb : Below W.heap.size W w1) : (∀ b o, b < W.heap.size → w1.cell? ⟨b, o, none⟩ = W.cell? ⟨b, o, none⟩) ∧ (∀ b o, b < W.heap.size → w1.frozen? ⟨b, o, none⟩ = W.frozen? ⟨b, o, none⟩) :=
  ⟨fun b o h => hb.cell (p := ⟨b, o, none⟩) h, fun b o h => hb.frozen (p := ⟨b, o, none⟩) h⟩

theorem ten {w : World} {b : Nat} {t : TypeId} (h : w.heap[b]? = some (.cells #[.int .i64 0, .int .i64 1, .int .i64 1, .int .i64 2, .int .i64 2, .int .i64 1, .int .i64 1, .int .i64 1, .int .i64 1, .int .i64 1] t)) (i : Nat) (hi : i < 10) :
    w.cell? ⟨b, i, none⟩ = some (.int .i64 (many i)) := by
  rw [cell_of_block h]
  have hc : i = 0 ∨ i = 1 ∨ i = 2 ∨ i = 3 ∨ i = 4 ∨ i = 5 ∨ i = 6 ∨ i = 7 ∨ i = 8 ∨ i = 9 := by omega
  rcases hc with rfl | rfl | rfl | rfl | rfl | rfl | rfl | rfl | rfl | rfl <;> rfl
theorem tenW {w : World} {b : Nat} {t : TypeId} (h : w.heap[b]? = some (.cells #[.string ⟨#[]⟩, .string ⟨#[119, 111, 114, 107]⟩, .string ⟨#[115, 97, 118, 101]⟩, .string ⟨#[112, 111, 115, 116]⟩, .string ⟨#[98, 97, 99, 107]⟩, .string ⟨#[97, 100, 118, 97, 110, 99, 101]⟩, .string ⟨#[100, 101, 108, 105, 118, 101, 114]⟩, .string ⟨#[99, 111, 112, 121]⟩, .string ⟨#[100, 114, 111, 112]⟩, .string ⟨#[99, 114, 97, 115, 104]⟩] t)) (i : Nat) (hi : i < 10) :
    w.cell? ⟨b, i, none⟩ = some (.string ⟨(word i).toArray⟩) := by
  rw [cell_of_block h]
  have hc : i = 0 ∨ i = 1 ∨ i = 2 ∨ i = 3 ∨ i = 4 ∨ i = 5 ∨ i = 6 ∨ i = 7 ∨ i = 8 ∨ i = 9 := by omega
  rcases hc with rfl | rfl | rfl | rfl | rfl | rfl | rfl | rfl | rfl | rfl <;> rfl
theorem word_len (i : Nat) (hi : i < 10) : (word i).length ≤ 7 := by
  have hc : i = 0 ∨ i = 1 ∨ i = 2 ∨ i = 3 ∨ i = 4 ∨ i = 5 ∨ i = 6 ∨ i = 7 ∨ i = 8 ∨ i = 9 := by omega
  rcases hc with rfl | rfl | rfl | rfl | rfl | rfl | rfl | rfl | rfl | rfl <;> decide

def isTwo (k b : Int) : Bool := many k == 2 || b == 0
theorem isTwo_yes {k b : Int} (h : many k = 2) : isTwo k b = true := by simp [isTwo, h]
theorem isTwo_no {k b : Int} (h : ¬ many k = 2) : isTwo k b = (b == 0) := by simp [isTwo, h]

theorem spec_yes (k a b : Int) (w : World) (hk : kindB k = true) (ha : inR a 0 999 = true) (hb : inR b 0 999 = true) : Calls Tryd.prog 7 #[.agg #[.int .i64 k, .int .i64 a, .int .i64 b]] w fun e w' => e = .returned (.bool (isTwo k b)) ∧ Below w.heap.size w w' := by
  have hi : inR k 1 9 = true := hk
  have h1 : 1 ≤ k ∧ k ≤ 9 := by simpa [kindB] using hk
  obtain ⟨hl, hu⟩ := h1
  obtain ⟨n, rfl⟩ := Int.eq_ofNat_of_zero_le (show 0 ≤ k by omega)
  have hn : n < 10 := by omega
  have hn' : ((n : Int) < 10) := by omega
  clear hk
  go_enter Tryd.func7, Tryd.ntmps7
  go_wp2_with (go_at_call 13; refine (l00In_any _ _ _ _).mono ?_; rintro e w' ⟨rfl, rfl⟩)
  refine (words_any _).mono ?_
  rintro e w1 ⟨p, q, hp, hq, rfl, hw0, hw, hbelow⟩
  have hten := ten hw n hn
  obtain ⟨hc, hf⟩ := bcell hbelow
  have hfin : Below w.heap.size w w1 := ((Below.refl _ _).alloc (Nat.le_refl _) _).trans (hbelow.mono (by simp))
  have Hfin := hid hfin
  clear hfin hbelow hw hq hw0 hp
  go_wp2
  all_goals go_ret
  · exact ⟨by rw [isTwo_yes ‹_›]; rfl, Hfin.out⟩
  · exact ⟨rfl, Hfin.out⟩

theorem validB_no {k a b : Int} (h : (kindB k && inR a 0 999 && inR b 0 999) = false) : validB k a b = false := by rw [validB, h]; rfl
theorem validB_yes {k a b : Int} (h : (kindB k && inR a 0 999 && inR b 0 999) = true) : validB k a b = isTwo k b := by
  rw [validB, h, isTwo]
  have e : decide (1 < many k) = (many k == 2) := by
    unfold many
    (repeat' split) <;> rfl
  rw [e]
  rfl

theorem specValid_any (k a b : Int) (w : World) : Calls Tryd.prog 7 #[.agg #[.int .i64 k, .int .i64 a, .int .i64 b]] w fun e w' => e = .returned (.bool (validB k a b)) ∧ Below w.heap.size w w' := by
  cases h : (kindB k && inR a 0 999 && inR b 0 999) with
  | false => rw [validB_no h]; exact spec_no k a b w h
  | true =>
    rw [validB_yes h]
    simp only [Bool.and_eq_true] at h
    exact spec_yes k a b w h.1.1 h.1.2 h.2

/-- What both sides write: nothing for a deed that is not valid, else the word and its numbers. -/
def text (k a b : Int) : List UInt8 :=
  if validB k a b then (word k ++ [32]) ++ Lib.decDigits a.toNat ++ (if many k = 2 then [32] ++ Lib.decDigits b.toNat else []) else []

theorem specText_no (k a b : Int) (w : World) (h : validB k a b = false) : Calls Tryd.prog 4 #[.agg #[.int .i64 k, .int .i64 a, .int .i64 b]] w fun e w' => e = .returned (.string ⟨(text k a b).toArray⟩) ∧ Below w.heap.size w w' := by
  have ht : text k a b = [] := by simp [text, h]
  rw [ht]
  go_enter Tryd.func4, Tryd.ntmps4
  go_wp2_with fail
  refine (specValid_any _ _ _ _).mono ?_
  rw [h]
  rintro e w1 ⟨rfl, hb⟩
  have Hfin := hid (((Below.refl w.heap.size w).alloc (Nat.le_refl _) _).trans (hb.mono (by simp)))
  clear hb
  go_wp2
  go_ret
  exact ⟨rfl, Hfin.out⟩

section
variable {Q : Exit → Act → World → Prop} {n : Nat} {ρ : Env} {w : World} {d : Nat} {ty : TypeId} {pos : String} {af : Array Edge} {K : Env → World → Prop}
theorem o_cat {x y : Operand} (a b : List UInt8) (hx : ev n ρ x = .string ⟨a.toArray⟩) (hy : ev n ρ y = .string ⟨b.toArray⟩) (h : a.length + b.length ≤ 1000)
    (k : K (upd ρ d (.string ⟨(a ++ b).toArray⟩)) w) : OW Tryd.prog Q ⟨some d, .binOp .add 9 x y 9, ty, pos, af, none⟩ n ρ w K :=
  o_val _ (y_cat (S := fun _ => True) a b hx hy h w trivial) k
theorem ti9 : TI Tryd.prog 9 (.string ⟨#[]⟩) 1 16 := by unfold TI; kernel_rfl
theorem ti3 : TI Tryd.prog 3 (.int .i64 0) 1 8 := by unfold TI; kernel_rfl
end

set_option maxRecDepth 100000 in
theorem specText_yes (n A B : Nat) (hn : n < 10) (hA : A < 1000) (hB : B < 1000) (hv : validB n A B = true) (w : World) :
    Calls Tryd.prog 4 #[.agg #[.int .i64 n, .int .i64 A, .int .i64 B]] w fun e w' => e = .returned (.string ⟨(text n A B).toArray⟩) ∧ Below w.heap.size w w' := by
  refine enter Tryd.func4 rfl Tryd.ntmps4 (Nat.le_of_ble_eq_true rfl) ?_
  refine c_seq (c_reg (sw (o_boxC (St.start w) [.int .i64 n, .int .i64 A, .int .i64 B] fun b1 w1 H => sp (.string ⟨#[]⟩) (c_nil (t_n ?_)))))
  refine c_seq (c_seq (c_reg (sw (o_loadN [.int .i64 n, .int .i64 A, .int .i64 B] Tryd.isAgg25 Tryd.sizeOf25 rfl (H.cells 0 rfl) (sw (o_call (R := fun v _ => v = .bool (validB n A B)) #[.agg #[.int .i64 n, .int .i64 A, .int .i64 B]] rfl rfl Tryd.call7 ((specValid_any _ _ _ _).mono fun e w' h => ⟨_, h.1, rfl, h.2⟩) ?_))))))
  rintro v w2 rfl x2
  replace H := H.ext x2
  refine sp (.bool (!validB n A B)) (c_nil (t_n ?_))
  refine c_cond false (by rw [hv]; rfl) (fun h => by cases h) (fun _ => c_skip (t_n ?_))
  refine c_seq (c_reg (sw (o_call (R := fun v w3 => ∃ p q, v = .tuple #[.slice (some ⟨p, 0, none⟩) 10 10, .slice (some ⟨q, 0, none⟩) 10 10] ∧ (∀ i, i < 10 → w3.cell? ⟨p, i, none⟩ = some (.string ⟨(word i).toArray⟩)) ∧
      (∀ i, i < 10 → w3.cell? ⟨q, i, none⟩ = some (.int .i64 (many i))) ∧ p < w3.heap.size ∧ q < w3.heap.size) #[] rfl rfl Tryd.call8
    ((words_any _).mono fun e w' ⟨p, q, _, _, h3, h4, h5, h6⟩ => ⟨_, h3, ⟨p, q, rfl, fun i hi => tenW h4 i hi, fun i hi => ten h5 i hi, (Array.getElem?_eq_some_iff.1 h4).1, (Array.getElem?_eq_some_iff.1 h5).1⟩, h6⟩) ?_)))
  rintro v w3 ⟨p, q, rfl, hp, hq, lp, lq⟩ x3
  replace H := H.ext x3
  refine sp (.tuple #[.slice (some ⟨p, 0, none⟩) 10 10, .slice (some ⟨q, 0, none⟩) 10 10]) (sp (.slice (some ⟨p, 0, none⟩) 10 10) (sp (.slice (some ⟨q, 0, none⟩) 10 10) (sp (.slice (some ⟨p, 0, none⟩) 10 10) (sp (.slice (some ⟨q, 0, none⟩) 10 10) (c_nil (t_n ?_))))))
  have e0 : Below w3.heap.size w3 w3.drew := ext_drew _
  have hb : ∀ w', Below w3.heap.size w3 w' → CellsAt w' b1 0 [.int .i64 n, .int .i64 A, .int .i64 B] := fun w' h => (H.ext h).cells 0 rfl
  have wl := word_len n hn
  have al := dec_len A hA
  have bl := dec_len B hB
  refine c_seq (c_draw (fun w' => Below w3.heap.size w3 w') rfl e0 ?_)
  refine rtp 0 (.slice (some ⟨p, 0, none⟩) 10 10) e0 ?_
  refine rt 1 (.pointer (some ⟨b1, 0 + 0, none⟩)) (y_field b1 0 0 Tryd.underlying25 rfl rfl Tryd.sizeOf2 rfl) e0 ?_
  refine rt 2 (.int .i64 n) (y_load1 Tryd.isAgg2 rfl (fun w' h => by simpa using hb w' h 0 _ rfl)) e0 ?_
  refine rt 3 (.pointer (some ⟨p, 0 + (n : Int).toNat * 1, none⟩)) (y_idxAt p 0 10 10 n Tryd.underlying29 ti9 rfl rfl (by omega) (by omega)) e0 ?_
  have hp' : ∀ w', Below w3.heap.size w3 w' → w'.cell? ⟨p, 0 + (n : Int).toNat * 1, none⟩ = some (.string ⟨(word n).toArray⟩) := fun w' h => by rw [h.cell lp]; simpa using hp n hn
  have hq' : ∀ w', Below w3.heap.size w3 w' → w'.cell? ⟨q, 0 + (n : Int).toNat * 1, none⟩ = some (.int .i64 (many n)) := fun w' h => by rw [h.cell lq]; simpa using hq n hn
  refine rt 4 (.string ⟨(word n).toArray⟩) (y_load1 Tryd.isAgg9 rfl hp') e0 ?_
  refine rt 5 (.string ⟨(word n ++ [32]).toArray⟩) (y_cat (word n) [32] rfl rfl (by simp; omega)) e0 ?_
  refine rt 6 (.pointer (some ⟨b1, 0 + 1, none⟩)) (y_field b1 0 1 Tryd.underlying25 rfl rfl Tryd.sizeOf2 rfl) e0 ?_
  refine rt 7 (.int .i64 A) (y_load1 Tryd.isAgg2 rfl (fun w' h => by simpa using hb w' h 1 _ rfl)) e0 ?_
  refine ro 8 rfl (o_call (R := fun v w' => v = .string ⟨(Lib.decDigits A).toArray⟩) #[.int .i64 A] rfl rfl Tryd.call9 ((dec_any A hA _).mono fun e w' h => ⟨_, h.1, rfl, h.2⟩) ?_)
  rintro v w4 rfl x4
  have e4 : Below w3.heap.size w3 w4 := Ext.trans' e0 x4
  refine ⟨e4, ?_⟩
  refine rt 9 (.string ⟨((word n ++ [32]) ++ Lib.decDigits A).toArray⟩) (y_cat (word n ++ [32]) (Lib.decDigits A) rfl rfl (by simp; omega)) e4 ?_
  refine rtp 10 (.string ⟨((word n ++ [32]) ++ Lib.decDigits A).toArray⟩) e4 ?_
  refine r_done (by kernel_rfl) (t_n ?_)
  replace H := H.ext e4
  refine c_seq (c_seq (c_reg (sp (.slice (some ⟨q, 0, none⟩) 10 10) (sw (o_field b1 0 0 Tryd.underlying25 rfl rfl Tryd.sizeOf2 rfl (sw (o_load1 (.int .i64 n) Tryd.isAgg2 rfl (by simpa using H.cells 0 rfl 0 _ rfl) (sw (o_idxAt (n : Int) Tryd.underlying30 ti3 rfl rfl (by omega) (by omega) (sw (o_load1 (.int .i64 (many n)) Tryd.isAgg3 rfl (hq' _ e4) (sp (.bool (many n == 2)) (c_nil (t_n ?_))))))))))))))
  refine c_cond (many n == 2) rfl (fun h => ?_) (fun h => ?_)
  · refine c_reg (sp (.string ⟨((word n ++ [32]) ++ Lib.decDigits A).toArray⟩) (sw (o_field b1 0 2 Tryd.underlying25 rfl rfl Tryd.sizeOf2 rfl (sw (o_load1 (.int .i64 B) Tryd.isAgg2 rfl (by simpa using H.cells 0 rfl 2 _ rfl) (sw (o_call (R := fun v w' => v = .string ⟨(Lib.decDigits B).toArray⟩) #[.int .i64 B] rfl rfl Tryd.call9 ((dec_any B hB _).mono fun e w' h => ⟨_, h.1, rfl, h.2⟩) ?_)))))))
    rintro v w5 rfl x5
    replace H := H.ext x5
    refine sw (o_cat [32] (Lib.decDigits B) rfl rfl (by simp; omega) (sw (o_cat ((word n ++ [32]) ++ Lib.decDigits A) ([32] ++ Lib.decDigits B) rfl rfl (by simp; omega) (sp (.string ⟨(((word n ++ [32]) ++ Lib.decDigits A) ++ ([32] ++ Lib.decDigits B)).toArray⟩) (c_nil (t_n ?_))))))
    have ht : text n A B = ((word n ++ [32]) ++ Lib.decDigits A) ++ ([32] ++ Lib.decDigits B) := by
      have h' : many n = 2 := by simpa using h
      simp only [text, hv, h', if_true, Int.toNat_natCast]
    rw [← ht]
    exact c_seq (c_reg (sp (.string ⟨(text n A B).toArray⟩) (sp (.string ⟨(text n A B).toArray⟩) (c_nil (t_n (c_ret (ret1 (.string ⟨(text n A B).toArray⟩) rfl rfl ⟨rfl, H.base⟩)))))))
  · have ht : text n A B = ((word n ++ [32]) ++ Lib.decDigits A) := by
      have h' : ¬ many n = 2 := by simpa using h
      simp only [text, hv, h', if_true, if_false, Int.toNat_natCast, List.append_nil]
    rw [← ht]
    exact c_skip (t_n (c_seq (c_reg (sp (.string ⟨(text n A B).toArray⟩) (sp (.string ⟨(text n A B).toArray⟩) (c_nil (t_n (c_ret (ret1 (.string ⟨(text n A B).toArray⟩) rfl rfl ⟨rfl, H.base⟩)))))))))
end Go.Proofs.YtjdfgmhlojfkkabDoor.DeedText
