/- Plain laws of steps, part four: what the program does otherwise than the reference; runs. No program here. -/
import Derived.Test.YtgjnaocffdhnbaaGreatP6
namespace Go.Proofs.YtgjnaocffdhnbaaGreat
set_option linter.unusedVariables false
set_option linter.unusedSimpArgs false
open Go.Proofs.YtgjnaocffdhnbaaGreat.Tot (tot)
open Go.Proofs.YtgjnaocffdhnbaaGreat.Mark (cnt mrk mkd mkd_mark cnt_mark)

def minus (k : Nat) : List Int := (List.range 6).map fun j => if j < k then -1 else 0
theorem minus_len (k : Nat) : (minus k).length = 6 := by simp [minus]
theorem minus_get {k j : Nat} (h : j < 6) : (minus k)[j]! = if j < k then -1 else 0 := by
  rw [getElem!_pos (minus k) j (by rw [minus_len]; exact h)]; simp [minus]
theorem minus_set {k : Nat} (h : k < 6) : (minus k).set k (-1) = minus (k + 1) := by
  refine ext_get (by simp [minus_len]) fun p hp => ?_
  rw [List.length_set, minus_len] at hp
  rw [getset (by rw [minus_len]; exact h), minus_get hp, minus_get hp]
  by_cases e : p = k
  · rw [if_pos e, if_pos (by omega)]
  · rw [if_neg e]
    by_cases h1 : p < k
    · rw [if_pos h1, if_pos (by omega)]
    · rw [if_neg h1, if_neg (by omega)]
theorem minus_six {k : Nat} (h : k = 6) (s : qK) (t : xu) : minus k = bests s t (-1) 6 0 := by
  subst h
  rw [← bests_zero]; rfl
theorem appl_yes {s : qK} {t : xu} {i k n : Nat} {z : Int} (hk : k = s.qh.length) (hi : i < s.qh.length) (hz : z ≤ (s.qh[i]!).xN) (hc : (s.qh[i]!).qw.toNat < n) (h1 : (s.qh[i]!).xN = (bests s t z n k)[(s.qh[i]!).qw.toNat]!) (h2 : EnOk s t (s.qh[i]!)) : Appl s t i := by
  rw [bests_get hc, hk] at h1
  exact (appl_iff hi hz).2 ⟨h2, h1⟩
theorem appl_no {s : qK} {t : xu} {i k n : Nat} {z : Int} (hk : k = s.qh.length) (hi : i < s.qh.length) (hz : z ≤ (s.qh[i]!).xN) (hc : (s.qh[i]!).qw.toNat < n) (h1 : (s.qh[i]!).xN ≠ (bests s t z n k)[(s.qh[i]!).qw.toNat]!) : ¬ Appl s t i := fun h => by
  rw [bests_get hc, hk] at h1
  exact h1 ((appl_iff hi hz).1 h).2
/-! ### Runs by first choices -/
end Go.Proofs.YtgjnaocffdhnbaaGreat
