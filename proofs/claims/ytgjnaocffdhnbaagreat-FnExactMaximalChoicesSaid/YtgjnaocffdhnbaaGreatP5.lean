/- Plain laws of steps, part two: choices, first choices, states behind steps. No program here. -/
import Derived.Test.YtgjnaocffdhnbaaGreatP4
namespace Go.Proofs.YtgjnaocffdhnbaaGreat
set_option linter.unusedVariables false
set_option linter.unusedSimpArgs false
open Go.Proofs.YtgjnaocffdhnbaaGreat.Tot (tot)
open Go.Proofs.YtgjnaocffdhnbaaGreat.Mark (cnt mrk mkd mkd_mark cnt_mark)

theorem yw.rule {s : qK} (h : yw s) {i : Nat} (hi : i < s.qh.length) : RuleOk s (s.qh[i]!) := (h.2.2 i hi).1
theorem RuleOk.cell {s : qK} {r : Qm} (h : RuleOk s r) : r.qw.toNat < CellsN s := by have := h.1.1; have := h.1.2; unfold CellsN; omega
theorem zg.len {s : qK} {l : List Int} (h : zg s.qH l) : l.length = KindsN s := by have := h.2; unfold KindsN; omega
theorem zg.get {n : Int} {l : List Int} (h : zg n l) {k : Nat} (hk : k < l.length) : 0 ≤ l[k]! ∧ l[k]! ≤ 1000 := h.1.1 k hk
theorem zg.mul {s : qK} {m : List Int} (h : zg s.qH m) {t : Int} (ht : -1000 ≤ t ∧ t ≤ 1000) : ∀ k, k < KindsN s → -1000000 ≤ t * m[k]! ∧ t * m[k]! ≤ 1000000 := fun k hk => by
  have h1 := h.1.1 k (by rw [h.len]; exact hk)
  rcases Int.le_total 0 t with h0 | h0
  · have h2 := Int.mul_nonneg h0 h1.1
    have h3 := Int.mul_le_mul_of_nonneg_left h1.2 h0
    omega
  · have h2 := Int.mul_nonneg (show 0 ≤ -t by omega) h1.1
    have h3 := Int.mul_le_mul_of_nonneg_left h1.2 (show 0 ≤ -t by omega)
    have h4 : -t * m[k]! = -(t * m[k]!) := Int.neg_mul ..
    omega
theorem kinds_le {s : qK} (h : yw s) : KindsN s ≤ 8 := by have := h.1.1.2; unfold KindsN; omega
/-! ### What a choice leaves -/
def BadAt (s : qK) (t : xu) (counts : List Int) (i : Nat) : Prop := 0 < counts[i]! ∧ ¬ Appl s t i
def GoodTo (s : qK) (t : xu) (counts : List Int) (k : Nat) : Prop := ∀ i, i < k → ¬ BadAt s t counts i
theorem GoodTo.succ {s : qK} {t : xu} {counts : List Int} {k : Nat} (h : GoodTo s t counts k) (h1 : ¬ BadAt s t counts k) : GoodTo s t counts (k + 1) := fun j hj => by
  by_cases e : j = k
  · subst e; exact h1
  · exact h j (by omega)
def NonNeg (b : List (List Int)) (n : Nat) : Prop := ∀ p, p < n → ∀ k, k < (b[p]!).length → 0 ≤ (b[p]!)[k]!
theorem NonNeg.succ {b : List (List Int)} {n : Nat} (h : NonNeg b n) (h1 : ∀ k, k < (b[n]!).length → 0 ≤ (b[n]!)[k]!) : NonNeg b (n + 1) := fun j hj => by
  by_cases e : j = n
  · subst e; exact h1
  · exact h j (by omega)
/-! ### First choices -/
def jg (l m : List Int) : Nat → Int
  | 0 => 1000
  | k + 1 => if 0 < l[k]! then min (jg l m k) (m[k]! / l[k]!) else jg l m k
def zI (l m : List Int) : Int := jg l m l.length
theorem timesTo_pos {l m : List Int} {k : Nat} (h : 0 < l[k]!) : jg l m (k + 1) = min (jg l m k) (m[k]! / l[k]!) := by rw [jg, if_pos h]
theorem timesTo_skip {l m : List Int} {k : Nat} (h : ¬ 0 < l[k]!) : jg l m (k + 1) = jg l m k := by rw [jg, if_neg h]
theorem timesTo_bd {l m : List Int} (hm : ∀ k, k < l.length → 0 ≤ m[k]!) : ∀ k, k ≤ l.length → 0 ≤ jg l m k ∧ jg l m k ≤ 1000
  | 0, _ => by simp [jg]
  | k + 1, h => by
    have := timesTo_bd hm k (by omega)
    rw [jg]
    split
    · next h1 => have := Int.ediv_nonneg (hm k (by omega)) (show 0 ≤ l[k]! by omega); omega
    · exact this
theorem timesTo_le {l m : List Int} : ∀ {k j : Nat}, j < k → 0 < l[j]! → jg l m k ≤ m[j]! / l[j]!
  | k + 1, j, h, h1 => by
    rw [jg]
    by_cases e : j = k
    · subst e; rw [if_pos h1]; omega
    · have := timesTo_le (m := m) (show j < k by omega) h1
      split <;> omega
theorem timesL_left {l m : List Int} (hl : ∀ k, k < l.length → 0 ≤ l[k]!) (hm : ∀ k, k < l.length → 0 ≤ m[k]!) {k : Nat} (hk : k < l.length) : 0 ≤ m[k]! + -(zI l m) * l[k]! := by
  have h0 := timesTo_bd hm l.length (Nat.le_refl _)
  rcases Int.lt_or_eq_of_le (hl k hk) with h | h
  · have h1 := timesTo_le (m := m) hk h
    have h2 : m[k]! / l[k]! * l[k]! ≤ m[k]! := Int.ediv_mul_le _ (by omega)
    have h3 := Int.mul_le_mul_of_nonneg_right h1 (show 0 ≤ l[k]! by omega)
    have h4 : -(zI l m) * l[k]! = -(zI l m * l[k]!) := Int.neg_mul ..
    unfold zI at *
    omega
  · rw [← h]; have := hm k hk; omega
/-- What the reference has found so far. -/
def yS (l m : List Int) (i : Nat) (best : Int) : Prop := (best = jg l m i ∧ ∃ j, j < i ∧ 0 < l[j]!) ∨ (best = -1 ∧ jg l m i = 1000 ∧ ∀ j, j < i → l[j]! ≤ 0)
theorem yS.zero (l m : List Int) : yS l m 0 (-1) := .inr ⟨rfl, rfl, fun j hj => by omega⟩
theorem yS.take {l m : List Int} {i : Nat} {best : Int} (h : yS l m i best) (hm : 0 ≤ m[i]! ∧ m[i]! ≤ 1000) (hl : 0 < l[i]!) (hb : best < 0 ∨ m[i]! / l[i]! < best) (hn : 0 ≤ jg l m i) : yS l m (i + 1) (m[i]! / l[i]!) := by
  refine .inl ⟨?_, i, by omega, hl⟩
  rw [timesTo_pos hl]
  have h1 : m[i]! / l[i]! ≤ m[i]! := Int.ediv_le_self _ hm.1
  rcases h with ⟨h, _⟩ | ⟨h, h2, _⟩ <;> omega
theorem yS.keep {l m : List Int} {i : Nat} {best : Int} (h : yS l m i best) (hl : ¬ 0 < l[i]!) : yS l m (i + 1) best := by
  unfold yS
  rw [timesTo_skip hl]
  rcases h with ⟨h, j, h1, h2⟩ | ⟨h, h2, h3⟩
  · exact .inl ⟨h, j, by omega, h2⟩
  · refine .inr ⟨h, h2, fun j hj => ?_⟩
    by_cases e : j = i
    · subst e; omega
    · exact h3 j (by omega)
theorem yS.keep2 {l m : List Int} {i : Nat} {best : Int} (h : yS l m i best) (hl : 0 < l[i]!) (hb : ¬ best < 0) (hn : ¬ m[i]! / l[i]! < best) : yS l m (i + 1) best := by
  refine .inl ⟨?_, i, by omega, hl⟩
  rw [timesTo_pos hl]
  rcases h with ⟨h, _⟩ | ⟨h, _⟩ <;> omega
theorem yS.done {l m : List Int} {i : Nat} {best : Int} (h : yS l m i best) (hp : ∃ j, j < i ∧ 0 < l[j]!) : best = jg l m i := by
  rcases h with ⟨h, _⟩ | ⟨_, _, h3⟩
  · exact h
  · obtain ⟨j, h1, h2⟩ := hp
    have := h3 j h1; omega
theorem sum_pos {l : List Int} (h : QN l) (h1 : Qz l ≠ 0) : ∃ j, j < l.length ∧ 0 < l[j]! := by
  apply Classical.byContradiction
  intro hn
  have h0 : ∀ k, k ≤ l.length → sumTo l k = 0 := by
    intro k
    induction k with
    | zero => intro _; rfl
    | succ k ih =>
      intro hk
      have h2 := h.1 k (by omega)
      have h3 : ¬ 0 < l[k]! := fun h4 => hn ⟨k, by omega, h4⟩
      rw [sumTo, ih (by omega)]; omega
  exact h1 (h0 _ (Nat.le_refl _))
/-- Bags that are right in number and length. -/
def Box (n K : Nat) (b : List (List Int)) : Prop := b.length = n ∧ ∀ p, p < n → (b[p]!).length = K ∧ ∀ k, k < K → 0 ≤ (b[p]!)[k]! ∧ (b[p]!)[k]! ≤ 1000
theorem zS.box {s : qK} {t : xu} (h : zS s t) : Box (CellsN s) (KindsN s) t.qy := by
  refine ⟨h.2.1, fun p hp => ?_⟩
  have hb := h.bagLen (k := p) (by rw [h.2.1]; exact hp)
  exact ⟨hb.len, fun k hk => hb.get (by rw [hb.len]; exact hk)⟩
end Go.Proofs.YtgjnaocffdhnbaaGreat
