/- Plain functions on lists of numbers, and their laws. No program here. -/
namespace Go.Proofs.YtfekhnffbngoaaaDoor
set_option linter.unusedVariables false
set_option linter.unusedSimpArgs false

def inR (n lo hi : Int) : Bool := decide (lo ≤ n) && decide (n ≤ hi)
theorem inR_no {n lo hi : Int} (h : ¬ lo ≤ n) : inR n lo hi = false := by simp [inR, h]
theorem inR_yes {n lo hi : Int} (h : lo ≤ n) : inR n lo hi = decide (n ≤ hi) := by simp [inR, h]
theorem inR_iff {n lo hi : Int} : inR n lo hi = true ↔ lo ≤ n ∧ n ≤ hi := by simp [inR]
theorem inR_not {n lo hi : Int} (h : inR n lo hi = false) : ¬ (lo ≤ n ∧ n ≤ hi) := fun h' => by rw [inR_iff.2 h'] at h; cases h

def withinTo (l m : List Int) (j : Nat) : Prop := ∀ k, k < j → l[k]! ≤ m[k]!
theorem withinTo_zero (l m : List Int) : withinTo l m 0 := fun k hk => by omega
theorem withinTo_succ {l m : List Int} {k : Nat} (h : withinTo l m k) (h1 : l[k]! ≤ m[k]!) : withinTo l m (k + 1) := fun j hj => by
  by_cases hjk : j = k
  · subst hjk; exact h1
  · exact h j (by omega)
open Classical in
noncomputable def within (l m : List Int) : Bool := decide (withinTo l m l.length)
theorem within_iff {l m : List Int} : within l m = true ↔ withinTo l m l.length := by simp [within]
theorem within_no {l m : List Int} {k : Nat} (h : l[k]! > m[k]!) (hk : k < l.length) : within l m = false := by
  cases hw : within l m with
  | false => rfl
  | true => have := within_iff.1 hw k hk; omega
theorem within_yes {l m : List Int} {k : Nat} (h : withinTo l m k) (hk : l.length ≤ k) : within l m = true := within_iff.2 fun j hj => h j (by omega)

/-- Two lists are equal. -/
theorem eqTo_succ {α : Type} [Inhabited α] {l m : List α} {k : Nat} (hl : l.length = m.length) (hk : k < l.length) (h : l.take k = m.take k) (h1 : l[k]! = m[k]!) : l.take (k + 1) = m.take (k + 1) := by
  rw [List.take_succ_eq_append_getElem hk, List.take_succ_eq_append_getElem (by omega), h]
  rw [getElem!_pos l k hk, getElem!_pos m k (by omega)] at h1
  rw [h1]
theorem eq_of_take {α : Type} {l m : List α} {k : Nat} (hl : l.length = m.length) (hk : l.length ≤ k) (h : l.take k = m.take k) : l = m := by
  rwa [List.take_of_length_le hk, List.take_of_length_le (by omega)] at h
theorem ne_of_get {α : Type} [Inhabited α] {l m : List α} {k : Nat} (h : l[k]! ≠ m[k]!) : l ≠ m := fun e => h (by rw [e])

theorem take_snoc {α : Type} [Inhabited α] {l : List α} {k : Nat} (hk : k < l.length) : l.take k ++ [l[k]!] = l.take (k + 1) := by
  rw [List.take_succ_eq_append_getElem hk, getElem!_pos l k hk]
theorem map_take_snoc {α β : Type} [Inhabited α] {l : List α} (f : α → β) {k : Nat} (hk : k < l.length) : (l.take k).map f ++ [f (l[k]!)] = (l.take (k + 1)).map f := by
  rw [← take_snoc hk]; simp

/-- Numbers that are not great. -/
def Small (l : List Int) : Prop := l.length ≤ 1000000 ∧ ∀ k, k < l.length → -1000000000 ≤ l[k]! ∧ l[k]! ≤ 1000000000
def Mid (l : List Int) : Prop := l.length ≤ 1000000 ∧ ∀ k, k < l.length → -1000000000000000 ≤ l[k]! ∧ l[k]! ≤ 1000000000000000
theorem Small.mid {l : List Int} (h : Small l) : Mid l := ⟨h.1, fun k hk => by have := h.2 k hk; omega⟩
def sumTo (l : List Int) : Nat → Int
  | 0 => 0
  | k + 1 => sumTo l k + l[k]!
def sumL (l : List Int) : Int := sumTo l l.length
theorem sumTo_bd {l : List Int} (h : Small l) : ∀ k, k ≤ l.length → -(1000000000 * (k : Int)) ≤ sumTo l k ∧ sumTo l k ≤ 1000000000 * (k : Int)
  | 0, _ => by simp [sumTo]
  | k + 1, hk => by
    have h1 := sumTo_bd h k (by omega)
    have h2 := h.2 k (by omega)
    simp only [sumTo]
    omega
theorem sumTo_small {l : List Int} (h : Small l) {k : Nat} (hk : k ≤ l.length) : -1000000000000000 ≤ sumTo l k ∧ sumTo l k ≤ 1000000000000000 := by
  have h1 := sumTo_bd h k hk
  have h2 := h.1
  omega

/-- What is left of a number of values when a list has been counted. -/
def szI (l : List Int) (left : Int) : Int := if left - l.length < 0 then -1 else left - l.length
theorem szI_no {l : List Int} {left : Int} (h : left - l.length < 0) : szI l left = -1 := by simp [szI, h]
theorem szI_yes {l : List Int} {left : Int} (h : ¬ left - l.length < 0) : szI l left = left - l.length := by simp [szI, h]

/-- The first place, from 0 to n - 1, of which something is so; -1 if there is none. -/
def firstIdx (g : Nat → Bool) (n : Nat) : Int := match (List.range n).find? g with | some k => k | none => -1
theorem firstIdx_some {g : Nat → Bool} {n k : Nat} (hk : k < n) (h : ∀ j, j < k → g j = false) (h1 : g k = true) : firstIdx g n = k := by
  have : (List.range n).find? g = some k := by
    rw [List.find?_range_eq_some]
    exact ⟨h1, by simpa using hk, fun j hj => by simp [h j hj]⟩
  simp [firstIdx, this]
theorem firstIdx_none {g : Nat → Bool} {n : Nat} (h : ∀ j, j < n → g j = false) : firstIdx g n = -1 := by
  have : (List.range n).find? g = none := by
    rw [List.find?_range_eq_none]
    exact fun j hj => by simp [h j hj]
  simp [firstIdx, this]
def noneTo (g : Nat → Bool) (k : Nat) : Prop := ∀ j, j < k → g j = false
theorem noneTo_succ {g : Nat → Bool} {k : Nat} (h : noneTo g k) (h1 : g k = false) : noneTo g (k + 1) := fun j hj => by
  by_cases hjk : j = k
  · subst hjk; exact h1
  · exact h j (by omega)
open Classical in
/-- Is something so of a place from 0 to n - 1? -/
noncomputable def anyTo (g : Nat → Bool) (n : Nat) : Bool := decide (∃ k, k < n ∧ g k = true)
theorem anyTo_first (g : Nat → Bool) (n : Nat) : decide (firstIdx g n ≥ 0) = anyTo g n := by
  by_cases h : ∃ k, k < n ∧ g k = true
  · have hs : ((List.range n).find? g).isSome := by
      rw [List.find?_isSome]
      obtain ⟨k, h1, h2⟩ := h
      exact ⟨k, by simpa using h1, h2⟩
    obtain ⟨k, hk⟩ := Option.isSome_iff_exists.1 hs
    simp [firstIdx, hk, anyTo, h]
  · have : (List.range n).find? g = none := by
      rw [List.find?_range_eq_none]
      intro j hj
      cases hg : g j with
      | false => rfl
      | true => exact absurd ⟨j, hj, hg⟩ h
    simp [firstIdx, this, anyTo, h]
theorem anyTo_iff {g : Nat → Bool} {n : Nat} : anyTo g n = true ↔ ∃ k, k < n ∧ g k = true := by simp [anyTo]
theorem anyTo_false {g : Nat → Bool} {n : Nat} : anyTo g n = false ↔ noneTo g n := by
  rw [← Bool.not_eq_true, anyTo_iff]
  constructor
  · intro h j hj
    cases hg : g j with
    | false => rfl
    | true => exact absurd ⟨j, hj, hg⟩ h
  · rintro h ⟨k, h1, h2⟩
    rw [h k h1] at h2; cases h2

/-- Are all numbers of a list from 0 to 1000? -/
def isCnt (n : Int) : Bool := inR n 0 1000
noncomputable def bagB (kinds : Int) (l : List Int) : Bool := inR kinds 1 8 && ((l.length : Int) == kinds) && !anyTo (fun k => !isCnt (l[k]!)) l.length

def tabTo (g : Nat → Int) (k : Nat) : List Int := (List.range k).map g
theorem tabTo_succ (g : Nat → Int) (k : Nat) : tabTo g (k + 1) = tabTo g k ++ [g k] := by simp [tabTo, List.range_succ]
@[simp] theorem tabTo_len (g : Nat → Int) (k : Nat) : (tabTo g k).length = k := by simp [tabTo]
/-- So many times these numbers are not great. -/
def SmallT (m : List Int) (t : Int) : Prop := ∀ k, k < m.length → -1000000000000000 ≤ t * m[k]! ∧ t * m[k]! ≤ 1000000000000000
def plusTo (l m : List Int) (t : Int) (k : Nat) : List Int := (List.range k).map fun j => l[j]! + t * m[j]!
def plusL (l m : List Int) (t : Int) : List Int := plusTo l m t l.length
theorem plusTo_succ (l m : List Int) (t : Int) (k : Nat) : plusTo l m t (k + 1) = plusTo l m t k ++ [l[k]! + t * m[k]!] := by simp [plusTo, List.range_succ]
theorem plusTo_len (l m : List Int) (t : Int) (k : Nat) : (plusTo l m t k).length = k := by simp [plusTo]
theorem plusL_len (l m : List Int) (t : Int) : (plusL l m t).length = l.length := by simp [plusL, plusTo]
theorem map_snoc {α : Type} {xs : List Int} {x : Int} {ys : List Int} (h : ys = xs ++ [x]) (f : Int → α) : xs.map f ++ [f x] = ys.map f := by rw [h]; simp

/-- A proposition as a truth value. -/
noncomputable def dec (p : Prop) : Bool := @decide p (Classical.propDecidable p)
theorem dec_true {p : Prop} (h : p) : dec p = true := by simp [dec, h]
theorem dec_false {p : Prop} (h : ¬ p) : dec p = false := by simp [dec, h]
theorem of_dec {p : Prop} (h : dec p = true) : p := by simpa [dec] using h
theorem not_of_dec {p : Prop} (h : dec p = false) : ¬ p := by simpa [dec] using h
theorem dec_eq {p : Prop} {b : Bool} (h : b = true ↔ p) : b = dec p := by
  cases b
  · exact (dec_false fun hp => by simp at h; exact h hp).symm
  · exact (dec_true (h.1 rfl)).symm
theorem dec_congr {p q : Prop} (h : p ↔ q) : dec p = dec q := by rw [show p = q from propext h]

/-- A bag of n kinds. -/
def Counts (l : List Int) (k : Nat) : Prop := ∀ j, j < k → 0 ≤ l[j]! ∧ l[j]! ≤ 1000
theorem Counts.zero (l : List Int) : Counts l 0 := fun j hj => by omega
theorem Counts.succ {l : List Int} {k : Nat} (h : Counts l k) (h1 : 0 ≤ l[k]! ∧ l[k]! ≤ 1000) : Counts l (k + 1) := fun j hj => by
  by_cases e : j = k
  · subst e; exact h1
  · exact h j (by omega)
def BagAny (l : List Int) : Prop := Counts l l.length ∧ 1 ≤ l.length ∧ l.length ≤ 8
def BagOk (n : Int) (l : List Int) : Prop := BagAny l ∧ (l.length : Int) = n
theorem bag_small {l : List Int} (h : BagAny l) : Small l := ⟨by have := h.2.2; omega, fun k hk => by have := h.1 k hk; omega⟩

theorem bagOk_small {n : Int} {l : List Int} (h : BagOk n l) : Small l := bag_small h.1
theorem isCnt_iff {n : Int} : isCnt n = true ↔ 0 ≤ n ∧ n ≤ 1000 := inR_iff
theorem anyCnt_iff {l : List Int} : (!anyTo (fun k => !isCnt (l[k]!)) l.length) = true ↔ Counts l l.length := by
  rw [Bool.not_eq_true', anyTo_false]
  constructor
  · intro h j hj
    have := h j hj
    simp only [Bool.not_eq_false'] at this
    exact isCnt_iff.1 this
  · intro h j hj
    simp only [Bool.not_eq_false']
    exact isCnt_iff.2 (h j hj)

/-! ### How many values a thing has -/
def szR (n : Nat) (left : Int) : Int := if (n : Int) ≤ left then left - n else -1
theorem szR_cases (n : Nat) (left : Int) : ((n : Int) ≤ left ∧ szR n left = left - n) ∨ (left < n ∧ szR n left = -1) := by
  unfold szR; split <;> omega
class Tot (α : Type) where
  tot : α → Nat
open Go.Proofs.YtfekhnffbngoaaaDoor.Tot (tot)
instance : Tot Int := ⟨fun _ => 0⟩
instance : Tot Bool := ⟨fun _ => 0⟩
section
variable {α : Type} [Tot α] [Inhabited α]
def totTo (l : List α) : Nat → Nat
  | 0 => 0
  | k + 1 => totTo l k + tot (l[k]!)
instance : Tot (List α) := ⟨fun l => l.length + totTo l l.length⟩
theorem totTo_mono {l : List α} : ∀ {k m : Nat}, k ≤ m → totTo l k ≤ totTo l m
  | k, 0, h => by obtain rfl : k = 0 := by omega
                  exact Nat.le_refl _
  | k, m + 1, h => by
    by_cases e : k = m + 1
    · subst e; exact Nat.le_refl _
    · exact Nat.le_trans (totTo_mono (by omega : k ≤ m)) (Nat.le_add_right _ _)
theorem tot_list (l : List α) : tot l = l.length + totTo l l.length := rfl
theorem tot_get {l : List α} {k : Nat} (h : k < l.length) : l.length + totTo l k + tot (l[k]!) ≤ tot l := by
  have h1 : totTo l (k + 1) ≤ totTo l l.length := totTo_mono h
  have h2 : totTo l (k + 1) = totTo l k + tot (l[k]!) := rfl
  rw [tot_list]; omega
theorem totTo_succ (l : List α) (k : Nat) : totTo l (k + 1) = totTo l k + tot (l[k]!) := rfl
theorem totTo_zero (l : List α) : totTo l 0 = 0 := rfl
theorem len_tot (l : List α) : l.length ≤ tot l := Nat.le_add_right _ _
end
theorem tot_ints (l : List Int) : tot l = l.length := by
  have : ∀ k, totTo l k = 0 := fun k => by induction k with | zero => rfl | succ k ih => rw [totTo_succ, ih]; rfl
  rw [tot_list, this]; rfl
theorem tot_bools (l : List Bool) : tot l = l.length := by
  have : ∀ k, totTo l k = 0 := fun k => by induction k with | zero => rfl | succ k ih => rw [totTo_succ, ih]; rfl
  rw [tot_list, this]; rfl
end Go.Proofs.YtfekhnffbngoaaaDoor
