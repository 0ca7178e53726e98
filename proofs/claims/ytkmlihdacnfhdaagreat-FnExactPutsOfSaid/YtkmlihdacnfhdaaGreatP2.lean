/- Plain laws of melting cells and of steps. No program here. -/
import Derived.Test.YtkmlihdacnfhdaaGreatP1
namespace Go.Proofs.YtkmlihdacnfhdaaGreat
open Go.Proofs.YtkmlihdacnfhdaaGreat.Tot (tot)

/-- What the first cell that is alive is, from a cell upwards. -/
theorem climb_in {s : qR} {t : xF} (hs : vZ s) (h0 : t.qy[0]! = true) : ∀ (n : Nat) (c : Int), 0 ≤ c → c < n → c ≤ (s.qg.length : Int) - 1 →
    0 ≤ climb s.qg t.qy n c ∧ climb s.qg t.qy n c ≤ c ∧ t.qy[(climb s.qg t.qy n c).toNat]! = true
  | 0, c, h1, h2, h3 => by omega
  | n + 1, c, h1, h2, h3 => by
    rw [climb]
    by_cases ha : 0 ≤ c ∧ t.qy[c.toNat]! = false
    · rw [if_pos ha]
      have hc : 0 < c := by
        rcases Int.lt_or_eq_of_le h1 with h | h
        · exact h
        · rw [← h] at ha; simp [h0] at ha
      have hu := hs.up hc h3
      have := climb_in hs h0 n (s.qg[c.toNat]!) hu.1 (by omega) (by omega)
      exact ⟨this.1, by omega, this.2.2⟩
    · rw [if_neg ha]
      refine ⟨h1, Int.le_refl _, ?_⟩
      cases hx : t.qy[c.toNat]! with
      | true => rfl
      | false => exact absurd ⟨h1, hx⟩ ha
theorem parentNow_in {s : qR} {t : xF} (hs : vZ s) (h0 : t.qy[0]! = true) {c : Int} (h1 : 0 < c) (h2 : c ≤ (s.qg.length : Int) - 1) : 0 ≤ xK s t c ∧ xK s t c < c ∧ t.qy[(xK s t c).toNat]! = true := by
  have hu := hs.up h1 h2
  have := climb_in hs h0 s.qg.length (s.qg[c.toNat]!) hu.1 (by omega) (by omega)
  exact ⟨this.1, by have := this.2.1; unfold xK; omega, this.2.2⟩

open Classical in
/-- A state, if it is right. -/
noncomputable def told (s : qR) (t : xF) : xF × Int := if zY s t then (t, 0) else (default, 3)
theorem zY.bagLen {s : qR} {t : xF} (h : zY s t) {k : Nat} (hk : k < t.qG.length) : zi s.qF (t.qG[k]!) := (h.2.2.2.2 k hk).1
theorem bagOk_smallT {n : Int} {l : List Int} (h : zi n l) {t : Int} (ht : -1000000 ≤ t ∧ t ≤ 1000000) : SmallT l t := fun k hk => by
  have := h.1.1 k hk
  constructor
  · have h1 : -(1000000 * 1000) ≤ t * l[k]! := by
      rcases Int.le_total 0 t with h0 | h0
      · have := Int.mul_nonneg h0 this.1; omega
      · have h2 := Int.mul_le_mul_of_nonneg_left this.2 (show 0 ≤ -t by omega)
        have h3 : -t * l[k]! = -(t * l[k]!) := Int.neg_mul ..
        have h4 : -t * 1000 ≤ 1000000 * 1000 := by omega
        omega
    omega
  · have h1 : t * l[k]! ≤ 1000000 * 1000 := by
      rcases Int.le_total 0 t with h0 | h0
      · have h2 := Int.mul_le_mul_of_nonneg_left this.2 h0
        omega
      · have h2 := Int.mul_nonneg (show 0 ≤ -t by omega) this.1
        have h3 : -t * l[k]! = -(t * l[k]!) := Int.neg_mul ..
        omega
    omega
/-- What is needed to add two bags of a state. -/
theorem zY.add {s : qR} {t : xF} (h : zY s t) {j k : Nat} (hj : j < t.qG.length) (hk : k < t.qG.length) : (t.qG[j]!).length ≤ (t.qG[k]!).length ∧ Mid (t.qG[j]!) ∧ SmallT (t.qG[k]!) 1 := by
  have h1 := h.bagLen hj
  have h2 := h.bagLen hk
  exact ⟨by have := h1.2; have := h2.2; omega, (vG h1).mid, bagOk_smallT h2 (by omega)⟩
theorem drop_get {l : List Int} {k : Nat} (h : k + 1 < l.length) : (l.drop 1)[k]! = l[k + 1]! := by
  rw [getElem!_pos (l.drop 1) k (by rw [List.length_drop]; omega), getElem!_pos l (k + 1) h]
  simp [Nat.add_comm]
/-- A cell lies in another one just if its parent does, or is it. -/
theorem lies_up {s : qR} (hs : vZ s) {c o : Int} (hc : CellIn s c) : Lies s.qg o c ↔ 0 ≤ s.qg[c.toNat]! ∧ (s.qg[c.toNat]! = o ∨ Lies s.qg o (s.qg[c.toNat]!)) := by
  rw [lies_iff]
  rcases Int.lt_or_eq_of_le hc.1 with h | h
  · have := hs.up h hc.2
    constructor
    · rintro ⟨_, h1⟩; exact ⟨this.1, h1⟩
    · rintro ⟨_, h1⟩; exact ⟨h, h1⟩
  · subst h
    have := hs.2.2.1
    simp only [Int.toNat_zero] at *
    constructor
    · rintro ⟨h1, _⟩; omega
    · rintro ⟨h1, _⟩; omega
def counts6 (s : qR) (k : Nat) : List Int := (List.range 6).map fun c : Nat => ofCell s.qf (c : Int) k
theorem counts6_len (s : qR) (k : Nat) : (counts6 s k).length = 6 := by simp [counts6]
theorem counts6_zero (s : qR) : ([0, 0, 0, 0, 0, 0] : List Int) = counts6 s 0 := by simp [counts6, List.range_succ, ofCell]
theorem Xn {s : qR} {k : Nat} {c : Int} (h : 0 ≤ c) (h1 : c ≤ 5) : (counts6 s k)[c.toNat]! = ofCell s.qf c k := by
  rw [getElem!_pos _ _ (by rw [counts6_len]; omega)]
  simp only [counts6, List.getElem_map, List.getElem_range]
  rw [show ((c.toNat : Nat) : Int) = c by omega]
theorem counts6_succ {s : qR} {k : Nat} (h : 0 ≤ (s.qf[k]!).qw) (h1 : (s.qf[k]!).qw ≤ 5) :
    (counts6 s k).set (s.qf[k]!).qw.toNat ((counts6 s k)[(s.qf[k]!).qw.toNat]! + 1) = counts6 s (k + 1) := by
  rw [Xn h h1]
  apply List.ext_getElem
  · simp [counts6]
  · intro i h1 h2
    rw [List.getElem_set]
    simp only [counts6, List.getElem_map, List.getElem_range, ofCell]
    by_cases e : (s.qf[k]!).qw.toNat = i
    · subst e
      rw [if_pos rfl, if_pos (by omega), show (((s.qf[k]!).qw.toNat : Nat) : Int) = (s.qf[k]!).qw by omega]
    · rw [if_neg e, if_neg (by omega)]; omega
theorem sum_nonneg {l : List Int} (h : BagAny l) : 0 ≤ sumL l := by
  have : ∀ k, k ≤ l.length → 0 ≤ sumTo l k := fun k => by
    induction k with
    | zero => intro _; exact Int.le_refl _
    | succ k ih => intro hk; have := ih (by omega); have := h.1 k (by omega); simp only [sumTo]; omega
  exact this _ (Nat.le_refl _)
end Go.Proofs.YtkmlihdacnfhdaaGreat
