/- Plain laws of lists of numbers in order. No program here. -/
import Derived.Test.YtgjnaocffdhnbaaGreatP4
namespace Go.Proofs.YtgjnaocffdhnbaaGreat
set_option linter.unusedVariables false
set_option linter.unusedSimpArgs false
open Go.Proofs.YtgjnaocffdhnbaaGreat.Tot (tot)
open Go.Proofs.YtgjnaocffdhnbaaGreat.Mark (cnt mrk mkd mkd_mark cnt_mark)

/-- One list comes ahead of another one, by the first place at which they differ. -/
def ahead (a b : List Int) : Prop := ∃ i, i < a.length ∧ (∀ j, j < i → a[j]! = b[j]!) ∧ a[i]! < b[i]!
def SameTo (a b : List Int) (k : Nat) : Prop := ∀ j, j < k → a[j]! = b[j]!
theorem SameTo.succ {a b : List Int} {k : Nat} (h : SameTo a b k) (h1 : a[k]! = b[k]!) : SameTo a b (k + 1) := fun j hj => by
  by_cases e : j = k
  · subst e; exact h1
  · exact h j (by omega)
theorem ahead_yes {a b : List Int} {k : Nat} (h : SameTo a b k) (hk : k < a.length) (h1 : a[k]! < b[k]!) : ahead a b := ⟨k, hk, h, h1⟩
theorem ahead_no {a b : List Int} {k : Nat} (h : SameTo a b k) (h1 : ¬ a[k]! < b[k]!) (h2 : a[k]! ≠ b[k]!) : ¬ ahead a b := by
  rintro ⟨i, hi, hs, hl⟩
  rcases Nat.lt_or_ge i k with hik | hik
  · rw [h i hik] at hl; omega
  · rcases Nat.lt_or_eq_of_le hik with hki | hki
    · exact h2 (hs k hki)
    · subst hki; exact h1 hl
theorem ahead_same {a b : List Int} (h : SameTo a b a.length) : ¬ ahead a b := by
  rintro ⟨i, hi, _, hl⟩
  rw [h i hi] at hl; omega
theorem ahead_irr (a : List Int) : ¬ ahead a a := ahead_same fun _ _ => rfl
theorem ahead_trans {a b c : List Int} (hab : a.length = b.length) (h1 : ahead a b) (h2 : ahead b c) : ahead a c := by
  obtain ⟨i, hi, hs, hl⟩ := h1
  obtain ⟨k, hk, ht, hm⟩ := h2
  rcases Nat.lt_or_ge i k with h | h
  · exact ⟨i, hi, fun j hj => (hs j hj).trans (ht j (by omega)), by rw [← ht i h]; exact hl⟩
  · rcases Nat.lt_or_eq_of_le h with h' | h'
    · exact ⟨k, by omega, fun j hj => (hs j (by omega)).trans (ht j hj), by rw [hs k h']; exact hm⟩
    · subst h'
      exact ⟨k, hi, fun j hj => (hs j hj).trans (ht j hj), by omega⟩
/-- Of two lists of one length that differ, one comes ahead. -/
theorem ahead_tri {a b : List Int} (hl : a.length = b.length) (h1 : ¬ ahead a b) (h2 : ¬ ahead b a) : a = b := by
  have key : ∀ k, k ≤ a.length → SameTo a b k := by
    intro k
    induction k with
    | zero => intro _ j hj; omega
    | succ k ih =>
      intro hk
      have hs := ih (by omega)
      refine hs.succ ?_
      apply Classical.byContradiction
      intro hne
      rcases Int.lt_or_gt_of_ne hne with h | h
      · exact h1 ⟨k, by omega, hs, h⟩
      · exact h2 ⟨k, by omega, fun j hj => (hs j hj).symm, h⟩
  exact ext_get hl fun k hk => key _ (Nat.le_refl _) k hk
/-- In order: none comes ahead of one that stands before it. -/
def InOrder (l : List (List Int)) : Prop := l.Pairwise fun a b => ¬ ahead b a
/-- Lists with the same members, each as often, that are in order, are one. -/
theorem order_one {n : Nat} : ∀ {l m : List (List Int)}, (∀ x ∈ l, x.length = n) → l.Perm m → InOrder l → InOrder m → l = m
  | [], m, _, hp, _, _ => (List.Perm.nil_eq hp)
  | x :: l, m, hn, hp, hl, hm => by
    cases m with
    | nil => exact absurd hp.length_eq (by simp)
    | cons y m =>
      have hl' := List.pairwise_cons.1 hl
      have hm' := List.pairwise_cons.1 hm
      have hy : y ∈ x :: l := hp.symm.subset (List.mem_cons_self ..)
      have hx : x ∈ y :: m := hp.subset (List.mem_cons_self ..)
      have e : x = y := by
        rcases List.mem_cons.1 hx with h | h
        · exact h
        · rcases List.mem_cons.1 hy with h' | h'
          · exact h'.symm
          · exact ahead_tri ((hn x (List.mem_cons_self ..)).trans (hn y (List.mem_cons_of_mem _ h')).symm) (hm'.1 x h) (hl'.1 y h')
      subst e
      rw [order_one (fun z hz => hn z (List.mem_cons_of_mem _ hz)) (List.Perm.cons_inv hp) hl'.2 hm'.2]
/-- Two neighbours change places. -/
def swapAt (l : List (List Int)) (k : Nat) : List (List Int) := (l.set k (l[k - 1]!)).set (k - 1) (l[k]!)
/-- The first k are in order. -/
def OrderTo (l : List (List Int)) (k : Nat) : Prop := InOrder (l.take k)
theorem orderTo_iff {l : List (List Int)} {k : Nat} (hk : k ≤ l.length) : OrderTo l k ↔ ∀ i j, i < j → j < k → ¬ ahead (l[j]!) (l[i]!) := by
  unfold OrderTo InOrder
  rw [List.pairwise_iff_getElem]
  constructor
  · intro h i j hij hj
    have := h i j (by rw [List.length_take]; omega) (by rw [List.length_take]; omega) hij
    rw [List.getElem_take, List.getElem_take] at this
    rwa [getElem!_pos l i (by omega), getElem!_pos l j (by omega)]
  · intro h i j hi hj hij
    rw [List.length_take] at hi hj
    rw [List.getElem_take, List.getElem_take, ← getElem!_pos l i (by omega), ← getElem!_pos l j (by omega)]
    exact h i j hij (by omega)
theorem swap_len (l : List (List Int)) (k : Nat) : (swapAt l k).length = l.length := by simp [swapAt]
theorem swap_get {l : List (List Int)} {k p : Nat} (hk : 0 < k) (hl : k < l.length) : (swapAt l k)[p]! = if p = k - 1 then l[k]! else if p = k then l[k - 1]! else l[p]! := by
  unfold swapAt
  rw [getset (by rw [List.length_set]; omega), getset hl]
theorem swap_perm {l : List (List Int)} {k : Nat} (hk : 0 < k) (hl : k < l.length) : (swapAt l k).Perm l := by
  obtain ⟨j, rfl⟩ : ∃ j, k = j + 1 := ⟨k - 1, by omega⟩
  have e1 : l = l.take j ++ (l[j]! :: l[j + 1]! :: l.drop (j + 2)) := by
    rw [getElem!_pos l j (by omega), getElem!_pos l (j + 1) hl]
    conv => lhs; rw [← List.take_append_drop j l]
    rw [List.drop_eq_getElem_cons (show j < l.length by omega), List.drop_eq_getElem_cons hl]
  have e2 : swapAt l (j + 1) = l.take j ++ (l[j + 1]! :: l[j]! :: l.drop (j + 2)) := by
    have hlen : (l.take j).length = j := List.length_take_of_le (by omega)
    refine ext_get (by rw [swap_len]; simp; omega) fun p hp => ?_
    rw [swap_len] at hp
    rw [swap_get hk hl]
    have hp' : p < (l.take j ++ (l[j + 1]! :: l[j]! :: l.drop (j + 2))).length := by simp; omega
    rw [getElem!_pos (l.take j ++ (l[j + 1]! :: l[j]! :: l.drop (j + 2))) p hp']
    by_cases h1 : p < j
    · rw [if_neg (by omega), if_neg (by omega), List.getElem_append_left (by omega), List.getElem_take, getElem!_pos l p hp]
    · rw [List.getElem_append_right (by omega)]
      simp only [hlen]
      by_cases h2 : p = j
      · subst h2; simp
      · by_cases h3 : p = j + 1
        · subst h3; simp
        · rw [if_neg (by omega), if_neg (by omega)]
          obtain ⟨q, rfl⟩ : ∃ q, p = j + 2 + q := ⟨p - (j + 2), by omega⟩
          rw [getElem!_pos l _ hp]
          have : j + 2 + q - j = q + 1 + 1 := by omega
          simp only [this, List.getElem_cons_succ, List.getElem_drop]
  rw [e2]
  conv => rhs; rw [e1]
  exact List.Perm.append_left _ (List.Perm.swap ..)
/-- The element at k is on its way down; all other pairs up to i are in order. -/
def InsTo (l : List (List Int)) (i k : Nat) : Prop := ∀ a b, a < b → b ≤ i → b ≠ k → ¬ ahead (l[b]!) (l[a]!)
theorem InsTo.start {l : List (List Int)} {i : Nat} (h : ∀ a b, a < b → b < i → ¬ ahead (l[b]!) (l[a]!)) : InsTo l i i := fun a b hab hb hne => h a b hab (by omega)
theorem InsTo.down {l : List (List Int)} {i k n : Nat} (h : InsTo l i k) (hn : ∀ j, j < l.length → (l[j]!).length = n) (hk : 0 < k) (hki : k ≤ i) (hi : i < l.length) (h1 : ahead (l[k]!) (l[k - 1]!)) : InsTo (swapAt l k) i (k - 1) := by
  intro a b hab hb hne
  have hlk := hn k (by omega)
  have hlk1 := hn (k - 1) (by omega)
  rw [swap_get hk (by omega), swap_get hk (by omega), if_neg hne]
  by_cases hbk : b = k
  · subst hbk
    rw [if_pos rfl]
    by_cases ha : a = b - 1
    · rw [if_pos ha]
      intro h2
      exact ahead_irr _ (ahead_trans (by omega) h1 h2)
    · rw [if_neg ha, if_neg (by omega)]
      exact h a (b - 1) (by omega) (by omega) (by omega)
  · rw [if_neg hbk]
    by_cases ha : a = k - 1
    · rw [if_pos ha]; exact h k b (by omega) hb hbk
    · rw [if_neg ha]
      by_cases hak : a = k
      · rw [if_pos hak]; exact h (k - 1) b (by omega) hb hbk
      · rw [if_neg hak]; exact h a b hab hb hbk
theorem InsTo.stop {l : List (List Int)} {i k n : Nat} (h : InsTo l i k) (hn : ∀ j, j < l.length → (l[j]!).length = n) (hki : k ≤ i) (hi : i < l.length) (h1 : k = 0 ∨ ¬ ahead (l[k]!) (l[k - 1]!)) : ∀ a b, a < b → b < i + 1 → ¬ ahead (l[b]!) (l[a]!) := by
  intro a b hab hb
  by_cases hbk : b = k
  · subst hbk
    have h1 : ¬ ahead (l[b]!) (l[b - 1]!) := h1.resolve_left (by omega)
    by_cases ha : a = b - 1
    · subst ha; exact h1
    · intro h2
      have h3 := h a (b - 1) (by omega) (by omega) (by omega)
      have hla := hn a (by omega)
      have hlb := hn b (by omega)
      have hlb1 := hn (b - 1) (by omega)
      by_cases h4 : ahead (l[a]!) (l[b - 1]!)
      · exact h1 (ahead_trans (by omega) h2 h4)
      · have e := ahead_tri (by omega) h4 h3
        rw [e] at h2; exact h1 h2
  · exact h a b hab (by omega) hbk
end Go.Proofs.YtgjnaocffdhnbaaGreat
