/- Plain laws of steps, part four: what the program does otherwise than the reference; runs. No program here. -/
import Derived.Test.YtkmlihdacnfhdaaGreatP6
namespace Go.Proofs.YtkmlihdacnfhdaaGreat
open Go.Proofs.YtkmlihdacnfhdaaGreat.Tot (tot)

def minus (k : Nat) : List Int := (List.range 6).map fun j => if j < k then -1 else 0
theorem minus_len (k : Nat) : (minus k).length = 6 := by simp [minus]
theorem minus_get {k j : Nat} (h : j < 6) : (minus k)[j]! = if j < k then -1 else 0 := by
  rw [getElem!_pos (minus k) j (by rw [minus_len]; exact h)]; simp [minus]
theorem minus_set {k : Nat} (h : k < 6) : (minus k).set k (-1) = minus (k + 1) := by
  refine ext_get (by simp [minus_len]) fun p hp => ?_
  rw [List.length_set, minus_len] at hp
  rw [getset (by rw [minus_len]; exact h), minus_get hp, minus_get hp]
  by_cases e : p = k
  · rw [if_pos e, if_pos (by omega)]
  · rw [if_neg e]
    by_cases h1 : p < k
    · rw [if_pos h1, if_pos (by omega)]
    · rw [if_neg h1, if_neg (by omega)]
theorem minus_six {k : Nat} (h : k = 6) (s : qR) (t : xF) : minus k = bests s t (-1) 6 0 := by
  subst h
  rw [← bests_zero]; rfl
theorem appl_yes {s : qR} {t : xF} {i k n : Nat} {z : Int} (hk : k = s.qf.length) (hi : i < s.qf.length) (hz : z ≤ (s.qf[i]!).xM) (hc : (s.qf[i]!).qw.toNat < n) (h1 : (s.qf[i]!).xM = (bests s t z n k)[(s.qf[i]!).qw.toNat]!) (h2 : EnOk s t (s.qf[i]!)) : Appl s t i := by
  rw [bests_get hc, hk] at h1
  exact (appl_iff hi hz).2 ⟨h2, h1⟩
theorem appl_no {s : qR} {t : xF} {i k n : Nat} {z : Int} (hk : k = s.qf.length) (hi : i < s.qf.length) (hz : z ≤ (s.qf[i]!).xM) (hc : (s.qf[i]!).qw.toNat < n) (h1 : (s.qf[i]!).xM ≠ (bests s t z n k)[(s.qf[i]!).qw.toNat]!) : ¬ Appl s t i := fun h => by
  rw [bests_get hc, hk] at h1
  exact h1 ((appl_iff hi hz).1 h).2
theorem outPl_in {s : qR} {t : xF} {r : yB} (hs : vZ s) (h : 0 ≤ xK s t r.qw) : outPl s t r = (xK s t r.qw).toNat := by
  refine outPl_up fun e => ?_
  rw [e, parentNow_root hs] at h; omega
theorem outPl_out {s : qR} {t : xF} {r : yB} (hs : vZ s) (h0 : t.qy[0]! = true) (hc : CellIn s r.qw) (h : ¬ 0 ≤ xK s t r.qw) : outPl s t r = s.qg.length := by
  refine outPl_root ?_
  rcases Int.lt_or_eq_of_le hc.1 with h1 | h1
  · exact absurd (parentNow_in hs h0 h1 hc.2).1 h
  · exact h1.symm
theorem parentNow_lt {s : qR} {t : xF} (hs : vZ s) (h0 : t.qy[0]! = true) {c : Int} (hc : CellIn s c) : xK s t c ≤ (s.qg.length : Int) - 1 := by
  rcases Int.lt_or_eq_of_le hc.1 with h1 | h1
  · have := parentNow_in hs h0 h1 hc.2; have := hc.2; omega
  · rw [← h1, parentNow_root hs]; have := hs.2.1; omega
theorem appls_at' {s : qR} {t : xF} {q m : Nat} (hm : (applL s t m).length = q) (hn : m ≤ s.qf.length) (hq : q < (appls s t).length) :
    0 ≤ (appls s t)[q]! ∧ m ≤ ((appls s t)[q]!).toNat ∧ ((appls s t)[q]!).toNat < s.qf.length ∧ Appl s t ((appls s t)[q]!).toNat ∧ (∀ j, m ≤ j → j < ((appls s t)[q]!).toNat → ¬ Appl s t j) ∧ (applL s t (((appls s t)[q]!).toNat + 1)).length = q + 1 := by
  obtain ⟨i, h1, h2, h3, h4, h5, h6⟩ := appls_at hm hn hq
  rw [h1]
  exact ⟨Int.natCast_nonneg i, h2, h3, h4, h5, h6⟩
theorem firstR_step {s : qR} {t : xF} {m j : Nat} (h1 : m ≤ j) (hj : j < s.qf.length) (ha : Appl s t j) (h4 : ∀ i, m ≤ i → i < j → ¬ Appl s t i) {x : Int} (hx : x = jq (s.qf[j]!).qI ((zk s t m)[(s.qf[j]!).qw.toNat]!)) :
    (zk s t m).set (s.qf[j]!).qw.toNat (yc ((zk s t m)[(s.qf[j]!).qw.toNat]!) (s.qf[j]!).qI (-x)) = zk s t (j + 1) := by
  rw [hx, ← firstR_same h1 h4, firstR_yes ha]
theorem firstC_step {s : qR} {t : xF} {m j : Nat} (h1 : m ≤ j) (ha : Appl s t j) (h4 : ∀ i, m ≤ i → i < j → ¬ Appl s t i) : jq (s.qf[j]!).qI ((zk s t m)[(s.qf[j]!).qw.toNat]!) = firstC s t j := by
  rw [QQ ha, firstR_same h1 h4]
/-! ### Runs by first choices -/
end Go.Proofs.YtkmlihdacnfhdaaGreat
