/- Plain laws of melting cells and of steps. No program here. -/
import Derived.Test.YtgjnaocffdhnbaaGreatP1
namespace Go.Proofs.YtgjnaocffdhnbaaGreat
set_option linter.unusedVariables false
set_option linter.unusedSimpArgs false
open Go.Proofs.YtgjnaocffdhnbaaGreat.Tot (tot)
open Go.Proofs.YtgjnaocffdhnbaaGreat.Mark (cnt mrk mkd mkd_mark cnt_mark)

open Classical in
/-- A state, if it is right. -/
noncomputable def told (s : qK) (t : xu) : xu × Int := if zS s t then (t, 0) else (default, 3)
theorem zS.bagLen {s : qK} {t : xu} (h : zS s t) {k : Nat} (hk : k < t.qy.length) : zg s.qH (t.qy[k]!) := (h.2.2.2.2 k hk).1
theorem bagOk_smallT {n : Int} {l : List Int} (h : zg n l) {t : Int} (ht : -1000000 ≤ t ∧ t ≤ 1000000) : SmallT l t := fun k hk => by
  have := h.1.1 k hk
  constructor
  · have h1 : -(1000000 * 1000) ≤ t * l[k]! := by
      rcases Int.le_total 0 t with h0 | h0
      · have := Int.mul_nonneg h0 this.1; omega
      · have h2 := Int.mul_le_mul_of_nonneg_left this.2 (show 0 ≤ -t by omega)
        have h3 : -t * l[k]! = -(t * l[k]!) := Int.neg_mul ..
        have h4 : -t * 1000 ≤ 1000000 * 1000 := by omega
        omega
    omega
  · have h1 : t * l[k]! ≤ 1000000 * 1000 := by
      rcases Int.le_total 0 t with h0 | h0
      · have h2 := Int.mul_le_mul_of_nonneg_left this.2 h0
        omega
      · have h2 := Int.mul_nonneg (show 0 ≤ -t by omega) this.1
        have h3 : -t * l[k]! = -(t * l[k]!) := Int.neg_mul ..
        omega
    omega
/-- What is needed to add two bags of a state. -/
theorem zS.add {s : qK} {t : xu} (h : zS s t) {j k : Nat} (hj : j < t.qy.length) (hk : k < t.qy.length) : (t.qy[j]!).length ≤ (t.qy[k]!).length ∧ Mid (t.qy[j]!) ∧ SmallT (t.qy[k]!) 1 := by
  have h1 := h.bagLen hj
  have h2 := h.bagLen hk
  exact ⟨by have := h1.2; have := h2.2; omega, (zo h1).mid, bagOk_smallT h2 (by omega)⟩
theorem drop_get {l : List Int} {k : Nat} (h : k + 1 < l.length) : (l.drop 1)[k]! = l[k + 1]! := by
  rw [getElem!_pos (l.drop 1) k (by rw [List.length_drop]; omega), getElem!_pos l (k + 1) h]
  simp [Nat.add_comm]
/-- A cell lies in another one just if its parent does, or is it. -/
theorem lies_up {s : qK} (hs : yt s) {c o : Int} (hc : CellIn s c) : Lies s.qf o c ↔ 0 ≤ s.qf[c.toNat]! ∧ (s.qf[c.toNat]! = o ∨ Lies s.qf o (s.qf[c.toNat]!)) := by
  rw [lies_iff]
  rcases Int.lt_or_eq_of_le hc.1 with h | h
  · have := hs.up h hc.2
    constructor
    · rintro ⟨_, h1⟩; exact ⟨this.1, h1⟩
    · rintro ⟨_, h1⟩; exact ⟨h, h1⟩
  · subst h
    have := hs.2.2.1
    simp only [Int.toNat_zero] at *
    constructor
    · rintro ⟨h1, _⟩; omega
    · rintro ⟨h1, _⟩; omega
def counts6 (s : qK) (k : Nat) : List Int := (List.range 6).map fun c : Nat => Q7 s.qh (c : Int) k
theorem counts6_len (s : qK) (k : Nat) : (counts6 s k).length = 6 := by simp [counts6]
theorem counts6_zero (s : qK) : ([0, 0, 0, 0, 0, 0] : List Int) = counts6 s 0 := by simp [counts6, List.range_succ, Q7]
theorem Xy {s : qK} {k : Nat} {c : Int} (h : 0 ≤ c) (h1 : c ≤ 5) : (counts6 s k)[c.toNat]! = Q7 s.qh c k := by
  rw [getElem!_pos _ _ (by rw [counts6_len]; omega)]
  simp only [counts6, List.getElem_map, List.getElem_range]
  rw [show ((c.toNat : Nat) : Int) = c by omega]
theorem counts6_succ {s : qK} {k : Nat} (h : 0 ≤ (s.qh[k]!).qw) (h1 : (s.qh[k]!).qw ≤ 5) :
    (counts6 s k).set (s.qh[k]!).qw.toNat ((counts6 s k)[(s.qh[k]!).qw.toNat]! + 1) = counts6 s (k + 1) := by
  rw [Xy h h1]
  apply List.ext_getElem
  · simp [counts6]
  · intro i h1 h2
    rw [List.getElem_set]
    simp only [counts6, List.getElem_map, List.getElem_range, Q7]
    by_cases e : (s.qh[k]!).qw.toNat = i
    · subst e
      rw [if_pos rfl, if_pos (by omega), show (((s.qh[k]!).qw.toNat : Nat) : Int) = (s.qh[k]!).qw by omega]
    · rw [if_neg e, if_neg (by omega)]; omega
theorem sum_nonneg {l : List Int} (h : QN l) : 0 ≤ Qz l := by
  have : ∀ k, k ≤ l.length → 0 ≤ sumTo l k := fun k => by
    induction k with
    | zero => intro _; exact Int.le_refl _
    | succ k ih => intro hk; have := ih (by omega); have := h.1 k (by omega); simp only [sumTo]; omega
  exact this _ (Nat.le_refl _)
end Go.Proofs.YtgjnaocffdhnbaaGreat
