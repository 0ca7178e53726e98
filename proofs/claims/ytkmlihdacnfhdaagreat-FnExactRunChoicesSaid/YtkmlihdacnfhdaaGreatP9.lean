/- Plain laws of steps by given choices and by single rules. No program here. -/
import Derived.Test.YtkmlihdacnfhdaaGreatP8
namespace Go.Proofs.YtkmlihdacnfhdaaGreat
open Go.Proofs.YtkmlihdacnfhdaaGreat.Tot (tot)
open Go.Proofs.YtkmlihdacnfhdaaGreat.Mark (cnt mrk mkd mkd_mark cnt_mark)

theorem anyTo_mem {l : List Int} {x : Int} : anyTo (fun k => x == l[k]!) l.length = dec (x ∈ l) := by
  refine dec_eq ?_
  rw [anyTo_iff]
  constructor
  · rintro ⟨k, h, h1⟩
    rw [beq_iff_eq, getElem!_pos l k h] at h1
    rw [h1]; exact List.getElem_mem h
  · intro h
    obtain ⟨k, hk, e⟩ := List.mem_iff_getElem.1 h
    exact ⟨k, hk, by rw [beq_iff_eq, getElem!_pos l k hk, e]⟩
theorem mem_appls {s : qX} {t : qU} {i : Nat} (hi : i < s.qg.length) : (i : Int) ∈ appls s t ↔ Appl s t i := by
  unfold appls
  rw [mem_applL]
  constructor
  · rintro ⟨_, _, h⟩; simpa using h
  · intro h; exact ⟨Int.natCast_nonneg i, by simpa using hi, by simpa using h⟩
/-- The least of a list's numbers. -/
def minTo (l : List Int) : Nat → Int
  | 0 => l[0]!
  | k + 1 => if k = 0 then l[0]! else min (minTo l k) (l[k]!)
theorem minTo_one (l : List Int) : minTo l 1 = l[0]! := rfl
theorem minTo_succ {l : List Int} {k : Nat} (h : 1 ≤ k) : minTo l (k + 1) = min (minTo l k) (l[k]!) := by rw [minTo, if_neg (by omega)]
def minL (l : List Int) : Int := minTo l l.length
theorem minTo_neg {l : List Int} : ∀ {k : Nat}, 1 ≤ k → (minTo l k < 0 ↔ ∃ j, j < k ∧ l[j]! < 0)
  | 1, _ => by
    rw [minTo_one]
    constructor
    · intro h; exact ⟨0, by omega, h⟩
    · rintro ⟨j, h, h1⟩; obtain rfl : j = 0 := by omega
      exact h1
  | k + 2, _ => by
    have ih := minTo_neg (l := l) (k := k + 1) (by omega)
    rw [minTo_succ (by omega)]
    constructor
    · intro h
      by_cases h1 : minTo l (k + 1) < 0
      · obtain ⟨j, h2, h3⟩ := ih.1 h1; exact ⟨j, by omega, h3⟩
      · exact ⟨k + 1, by omega, by omega⟩
    · rintro ⟨j, h, h1⟩
      by_cases e : j = k + 1
      · subst e; omega
      · have := ih.2 ⟨j, by omega, h1⟩; omega
theorem minL_neg {l : List Int} (h : 1 ≤ l.length) : minL l < 0 ↔ ¬ ∀ k, k < l.length → 0 ≤ l[k]! := by
  unfold minL
  rw [minTo_neg h]
  constructor
  · rintro ⟨j, h1, h2⟩ h3; have := h3 j h1; omega
  · intro h1
    apply Classical.byContradiction
    intro h2
    refine h1 fun k hk => ?_
    have : ¬ l[k]! < 0 := fun h3 => h2 ⟨k, hk, h3⟩
    omega
open Classical in
/-- The code of a system, a state and counts. -/
noncomputable def QT (s : qX) (t : qU) (counts : List Int) : Int := if ¬ (yI s ∧ zu s t) then 1 else if ¬ CntOk s counts then 2 else 0
theorem ask_1 {s : qX} {t : qU} {counts : List Int} (h : ¬ (yI s ∧ zu s t)) : QT s t counts = 1 := by rw [QT, if_pos h]
theorem ask_2 {s : qX} {t : qU} {counts : List Int} (h : yI s ∧ zu s t) (h1 : ¬ CntOk s counts) : QT s t counts = 2 := by rw [QT, if_neg (by simpa using h), if_pos h1]
theorem ask_0 {s : qX} {t : qU} {counts : List Int} (h : yI s ∧ zu s t) (h1 : CntOk s counts) : QT s t counts = 0 := by rw [QT, if_neg (by simpa using h), if_neg (by simpa using h1)]
theorem ask_ok {s : qX} {t : qU} {counts : List Int} (h : QT s t counts = 0) : yI s ∧ zu s t ∧ CntOk s counts := by
  by_cases h1 : yI s ∧ zu s t
  · by_cases h2 : CntOk s counts
    · exact ⟨h1.1, h1.2, h2⟩
    · rw [ask_2 h1 h2] at h; omega
  · rw [ask_1 h1] at h; omega
/-! ### Single rules -/
def single (s : qX) (i : Nat) : List Int := (List.replicate s.qg.length (0 : Int)).set i 1
end Go.Proofs.YtkmlihdacnfhdaaGreat
