/- Plain laws of steps by given choices and by single rules. No program here. -/
import Derived.Test.YtkmlihdacnfhdaaGreatP8
namespace Go.Proofs.YtkmlihdacnfhdaaGreat
open Go.Proofs.YtkmlihdacnfhdaaGreat.Tot (tot)
open Go.Proofs.YtkmlihdacnfhdaaGreat.Mark (cnt mrk mkd mkd_mark cnt_mark)

/-! ### Single rules -/
def single (s : qU) (i : Nat) : List Int := (List.replicate s.qg.length (0 : Int)).set i 1
theorem single_len (s : qU) (i : Nat) : (single s i).length = s.qg.length := by simp [single]
theorem single_get {s : qU} {i j : Nat} (hi : i < s.qg.length) (hj : j < s.qg.length) : (single s i)[j]! = if j = i then 1 else 0 := by
  unfold single
  rw [getset (by simpa using hi)]
  by_cases e : j = i
  · rw [if_pos e, if_pos e]
  · rw [if_neg e, if_neg e, getElem!_pos (List.replicate s.qg.length (0 : Int)) j (by simpa using hj)]; simp
theorem single_cnt {s : qU} {i : Nat} (hi : i < s.qg.length) : CntOk s (single s i) := by
  refine ⟨single_len s i, fun j hj => ?_⟩
  rw [single_len] at hj
  rw [single_get hi hj]
  split <;> omega
theorem single_rest {s : qU} {t : qP} (hs : Qb s) (ht : zM s t) {i : Nat} (hi : i < s.qg.length) : ∀ k, k ≤ s.qg.length →
    vg s t (single s i) k = if k ≤ i then t.qx else t.qx.set (s.qg[i]!).qA.toNat (jV (t.qx[(s.qg[i]!).qA.toNat]!) (s.qg[i]!).qW (-1))
  | 0, _ => by rw [if_pos (by omega)]; rfl
  | k + 1, h => by
    have ih := single_rest hs ht hi k (by omega)
    by_cases e : k = i
    · subst e
      rw [if_neg (by omega), vg, ih, if_pos (by omega), single_get hi hi, if_pos rfl]
    · rw [restR_skip hs ht (by omega) (by rw [single_get hi (by omega), if_neg e]), ih]
      by_cases h1 : k ≤ i
      · rw [if_pos h1, if_pos (by omega)]
      · rw [if_neg h1, if_neg (by omega)]
theorem single_isCh {s : qU} {t : qP} (hs : Qb s) (ht : zM s t) {i : Nat} (hi : i < s.qg.length) : IsCh s t (single s i) ↔ Appl s t i := by
  constructor
  · intro h
    apply Classical.byContradiction
    intro hn
    exact h.1 i (by rw [single_len]; exact hi) ⟨by rw [single_get hi hi, if_pos rfl]; omega, hn⟩
  · intro ha
    constructor
    · intro j hj
      rw [single_len] at hj
      rintro ⟨h1, h2⟩
      rw [single_get hi hj] at h1
      by_cases e : j = i
      · subst e; exact h2 ha
      · rw [if_neg e] at h1; omega
    · rw [single_len, single_rest hs ht hi _ (Nat.le_refl _), if_neg (by omega)]
      have hr := hs.rule hi
      have hb := hr.2.2.2.2.1
      have hbox := ht.box
      intro p hp k hk
      rw [ht.2.1] at hp
      rw [getset (by rw [ht.2.1]; exact hr.cell)] at hk ⊢
      by_cases e : p = (s.qg[i]!).qA.toNat
      · rw [if_pos e] at hk ⊢
        rw [plusL_len] at hk
        rw [plus_get hk]
        have h1 := within_iff.1 ha.1.2.1 k (by rw [hb.len, ← (hbox.2 _ hr.cell).1]; exact hk)
        omega
      · rw [if_neg e] at hk ⊢
        have := hbox.2 p hp
        exact (this.2 k (by rw [← this.1]; exact hk)).1
end Go.Proofs.YtkmlihdacnfhdaaGreat
