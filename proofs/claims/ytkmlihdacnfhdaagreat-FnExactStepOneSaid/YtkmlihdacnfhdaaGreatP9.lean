/- Plain laws of steps by given choices and by single rules. No program here. -/
import Derived.Test.YtkmlihdacnfhdaaGreatP8
namespace Go.Proofs.YtkmlihdacnfhdaaGreat
open Go.Proofs.YtkmlihdacnfhdaaGreat.Tot (tot)
open Go.Proofs.YtkmlihdacnfhdaaGreat.Mark (cnt mrk mkd mkd_mark cnt_mark)

theorem anyTo_mem {l : List Int} {x : Int} : anyTo (fun k => x == l[k]!) l.length = dec (x ∈ l) := by
  refine dec_eq ?_
  rw [anyTo_iff]
  constructor
  · rintro ⟨k, h, h1⟩
    rw [beq_iff_eq, getElem!_pos l k h] at h1
    rw [h1]; exact List.getElem_mem h
  · intro h
    obtain ⟨k, hk, e⟩ := List.mem_iff_getElem.1 h
    exact ⟨k, hk, by rw [beq_iff_eq, getElem!_pos l k hk, e]⟩
theorem mem_appls {s : qW} {t : qU} {i : Nat} (hi : i < s.qg.length) : (i : Int) ∈ appls s t ↔ Appl s t i := by
  unfold appls
  rw [mem_applL]
  constructor
  · rintro ⟨_, _, h⟩; simpa using h
  · intro h; exact ⟨Int.natCast_nonneg i, by simpa using hi, by simpa using h⟩
theorem mem_applsI {s : qW} {t : qU} {i : Int} (h0 : 0 ≤ i) (hi : i.toNat < s.qg.length) : i ∈ appls s t ↔ Appl s t i.toNat := by
  have := mem_appls (s := s) (t := t) hi
  rwa [show ((i.toNat : Nat) : Int) = i by omega] at this
/-! ### Single rules -/
def single (s : qW) (i : Nat) : List Int := (List.replicate s.qg.length (0 : Int)).set i 1
theorem single_len (s : qW) (i : Nat) : (single s i).length = s.qg.length := by simp [single]
theorem single_get {s : qW} {i j : Nat} (hi : i < s.qg.length) (hj : j < s.qg.length) : (single s i)[j]! = if j = i then 1 else 0 := by
  unfold single
  rw [getset (by simpa using hi)]
  by_cases e : j = i
  · rw [if_pos e, if_pos e]
  · rw [if_neg e, if_neg e, getElem!_pos (List.replicate s.qg.length (0 : Int)) j (by simpa using hj)]; simp
theorem single_cnt {s : qW} {i : Nat} (hi : i < s.qg.length) : CntOk s (single s i) := by
  refine ⟨single_len s i, fun j hj => ?_⟩
  rw [single_len] at hj
  rw [single_get hi hj]
  split <;> omega
theorem single_rest {s : qW} {t : qU} (hs : yC s) (ht : zH s t) {i : Nat} (hi : i < s.qg.length) : ∀ k, k ≤ s.qg.length →
    vz s t (single s i) k = if k ≤ i then t.qp else t.qp.set (s.qg[i]!).qA.toNat (jX (t.qp[(s.qg[i]!).qA.toNat]!) (s.qg[i]!).qV (-1))
  | 0, _ => by rw [if_pos (by omega)]; rfl
  | k + 1, h => by
    have ih := single_rest hs ht hi k (by omega)
    by_cases e : k = i
    · subst e
      rw [if_neg (by omega), vz, ih, if_pos (by omega), single_get hi hi, if_pos rfl]
    · rw [restR_skip hs ht (by omega) (by rw [single_get hi (by omega), if_neg e]), ih]
      by_cases h1 : k ≤ i
      · rw [if_pos h1, if_pos (by omega)]
      · rw [if_neg h1, if_neg (by omega)]
theorem single_isCh {s : qW} {t : qU} (hs : yC s) (ht : zH s t) {i : Nat} (hi : i < s.qg.length) : IsCh s t (single s i) ↔ Appl s t i := by
  constructor
  · intro h
    apply Classical.byContradiction
    intro hn
    exact h.1 i (by rw [single_len]; exact hi) ⟨by rw [single_get hi hi, if_pos rfl]; omega, hn⟩
  · intro ha
    constructor
    · intro j hj
      rw [single_len] at hj
      rintro ⟨h1, h2⟩
      rw [single_get hi hj] at h1
      by_cases e : j = i
      · subst e; exact h2 ha
      · rw [if_neg e] at h1; omega
    · rw [single_len, single_rest hs ht hi _ (Nat.le_refl _), if_neg (by omega)]
      have hr := hs.rule hi
      have hb := hr.2.2.2.2.1
      have hbox := ht.box
      intro p hp k hk
      rw [ht.2.1] at hp
      rw [getset (by rw [ht.2.1]; exact hr.cell)] at hk ⊢
      by_cases e : p = (s.qg[i]!).qA.toNat
      · rw [if_pos e] at hk ⊢
        rw [plusL_len] at hk
        rw [plus_get hk]
        have h1 := within_iff.1 ha.1.2.1 k (by rw [hb.len, ← (hbox.2 _ hr.cell).1]; exact hk)
        omega
      · rw [if_neg e] at hk ⊢
        have := hbox.2 p hp
        exact (this.2 k (by rw [← this.1]; exact hk)).1
open Classical in
noncomputable def qx (s : qW) (t : qU) (i : Int) : qU × Int :=
  if ¬ (yC s ∧ zH s t) then (default, 1) else if ¬ (0 ≤ i ∧ i ≤ (s.qg.length : Int) - 1) then (default, 2) else yw s t (single s i.toNat)
theorem one_1 {s : qW} {t : qU} {i : Int} (h : ¬ (yC s ∧ zH s t)) : qx s t i = (default, 1) := by rw [qx, if_pos h]
theorem one_2 {s : qW} {t : qU} {i : Int} (h : yC s ∧ zH s t) (h1 : ¬ (0 ≤ i ∧ i ≤ (s.qg.length : Int) - 1)) : qx s t i = (default, 2) := by rw [qx, if_neg (by simpa using h), if_pos h1]
theorem one_0 {s : qW} {t : qU} {i : Int} (h : yC s ∧ zH s t) (h1 : 0 ≤ i ∧ i ≤ (s.qg.length : Int) - 1) : qx s t i = yw s t (single s i.toNat) := by rw [qx, if_neg (by simpa using h), if_neg (by simpa using h1)]
theorem one_4 {s : qW} {t : qU} {i : Int} (h : yC s ∧ zH s t) (h1 : 0 ≤ i ∧ i ≤ (s.qg.length : Int) - 1) (h2 : ¬ i ∈ appls s t) : qx s t i = (default, 4) := by
  rw [one_0 h h1, stepBy_no fun hc => h2 ((mem_applsI h1.1 (by omega)).2 ((single_isCh h.1 h.2 (by omega)).1 hc))]
theorem few_one (s : qW) (t : qU) (i : Int) : FewState (qx s t i).1 := by
  by_cases h : yC s ∧ zH s t
  · by_cases h1 : 0 ≤ i ∧ i ≤ (s.qg.length : Int) - 1
    · rw [one_0 h h1]; exact few_stepBy h.1.1
    · rw [one_2 h h1]; exact few_default
  · rw [one_1 h]; exact few_default
end Go.Proofs.YtkmlihdacnfhdaaGreat
