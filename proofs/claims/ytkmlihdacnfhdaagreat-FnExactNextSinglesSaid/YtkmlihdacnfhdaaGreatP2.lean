/- Plain laws of melting cells and of steps. No program here. -/
import Derived.Test.YtkmlihdacnfhdaaGreatP1
namespace Go.Proofs.YtkmlihdacnfhdaaGreat
open Go.Proofs.YtkmlihdacnfhdaaGreat.Tot (tot)

/-- What the first cell that is alive is, from a cell upwards. -/
theorem climb_in {s : qU} {t : qP} (hs : jH s) (h0 : t.qh[0]! = true) : ∀ (n : Nat) (c : Int), 0 ≤ c → c < n → c ≤ (s.qf.length : Int) - 1 →
    0 ≤ climb s.qf t.qh n c ∧ climb s.qf t.qh n c ≤ c ∧ t.qh[(climb s.qf t.qh n c).toNat]! = true
  | 0, c, h1, h2, h3 => by omega
  | n + 1, c, h1, h2, h3 => by
    rw [climb]
    by_cases ha : 0 ≤ c ∧ t.qh[c.toNat]! = false
    · rw [if_pos ha]
      have hc : 0 < c := by
        rcases Int.lt_or_eq_of_le h1 with h | h
        · exact h
        · rw [← h] at ha; simp [h0] at ha
      have hu := hs.up hc h3
      have := climb_in hs h0 n (s.qf[c.toNat]!) hu.1 (by omega) (by omega)
      exact ⟨this.1, by omega, this.2.2⟩
    · rw [if_neg ha]
      refine ⟨h1, Int.le_refl _, ?_⟩
      cases hx : t.qh[c.toNat]! with
      | true => rfl
      | false => exact absurd ⟨h1, hx⟩ ha
theorem Vy {s : qU} {t : qP} (hs : jH s) (h0 : t.qh[0]! = true) {c : Int} (h1 : 0 < c) (h2 : c ≤ (s.qf.length : Int) - 1) : 0 ≤ qZ s t c ∧ qZ s t c < c ∧ t.qh[(qZ s t c).toNat]! = true := by
  have hu := hs.up h1 h2
  have := climb_in hs h0 s.qf.length (s.qf[c.toNat]!) hu.1 (by omega) (by omega)
  exact ⟨this.1, by have := this.2.1; unfold qZ; omega, this.2.2⟩

/-- A state in which a cell has dissolved. -/
def melted (s : qU) (t : qP) (c : Int) : qP :=
  ⟨t.qh.set c.toNat false, (t.qx.set (qZ s t c).toNat (jV (t.qx[(qZ s t c).toNat]!) (t.qx[c.toNat]!) 1)).set c.toNat (List.replicate s.qI.toNat 0), t.ql⟩
open Classical in
/-- A state, if it is right. -/
noncomputable def told (s : qU) (t : qP) : qP × Int := if zM s t then (t, 0) else (default, 3)
theorem told_yes {s : qU} {t : qP} (h : zM s t) : told s t = (t, 0) := by rw [told, if_pos h]
theorem told_no {s : qU} {t : qP} (h : ¬ zM s t) : told s t = (default, 3) := by rw [told, if_neg h]
theorem zM.bagLen {s : qU} {t : qP} (h : zM s t) {k : Nat} (hk : k < t.qx.length) : zK s.qI (t.qx[k]!) := (h.2.2.2.2 k hk).1
theorem bagOk_smallT {n : Int} {l : List Int} (h : zK n l) {t : Int} (ht : -1000000 ≤ t ∧ t ≤ 1000000) : SmallT l t := fun k hk => by
  have := h.1.1 k hk
  constructor
  · have h1 : -(1000000 * 1000) ≤ t * l[k]! := by
      rcases Int.le_total 0 t with h0 | h0
      · have := Int.mul_nonneg h0 this.1; omega
      · have h2 := Int.mul_le_mul_of_nonneg_left this.2 (show 0 ≤ -t by omega)
        have h3 : -t * l[k]! = -(t * l[k]!) := Int.neg_mul ..
        have h4 : -t * 1000 ≤ 1000000 * 1000 := by omega
        omega
    omega
  · have h1 : t * l[k]! ≤ 1000000 * 1000 := by
      rcases Int.le_total 0 t with h0 | h0
      · have h2 := Int.mul_le_mul_of_nonneg_left this.2 h0
        omega
      · have h2 := Int.mul_nonneg (show 0 ≤ -t by omega) this.1
        have h3 : -t * l[k]! = -(t * l[k]!) := Int.neg_mul ..
        omega
    omega
theorem zM.sizes {s : qU} {t : qP} (hs : jH s) (h : zM s t) : t.qh.length ≤ 6 ∧ t.ql.length ≤ 8 ∧ t.qx.length ≤ 6 ∧ ∀ k, k < t.qx.length → (t.qx[k]!).length ≤ 8 :=
  ⟨by have := h.1; have := hs.2.1; omega, h.2.2.2.1.1.2.2, by have := h.2.1; have := hs.2.1; omega, fun k hk => (h.bagLen hk).1.2.2⟩
/-- What is needed to add two bags of a state. -/
theorem zM.add {s : qU} {t : qP} (h : zM s t) {j k : Nat} (hj : j < t.qx.length) (hk : k < t.qx.length) : (t.qx[j]!).length ≤ (t.qx[k]!).length ∧ Mid (t.qx[j]!) ∧ SmallT (t.qx[k]!) 1 := by
  have h1 := h.bagLen hj
  have h2 := h.bagLen hk
  exact ⟨by have := h1.2; have := h2.2; omega, (jd h1).mid, bagOk_smallT h2 (by omega)⟩
theorem drop_get {l : List Int} {k : Nat} (h : k + 1 < l.length) : (l.drop 1)[k]! = l[k + 1]! := by
  rw [getElem!_pos (l.drop 1) k (by rw [List.length_drop]; omega), getElem!_pos l (k + 1) h]
  simp [Nat.add_comm]
/-- A cell lies in another one just if its parent does, or is it. -/
theorem lies_up {s : qU} (hs : jH s) {c o : Int} (hc : CellIn s c) : Lies s.qf o c ↔ 0 ≤ s.qf[c.toNat]! ∧ (s.qf[c.toNat]! = o ∨ Lies s.qf o (s.qf[c.toNat]!)) := by
  rw [lies_iff]
  rcases Int.lt_or_eq_of_le hc.1 with h | h
  · have := hs.up h hc.2
    constructor
    · rintro ⟨_, h1⟩; exact ⟨this.1, h1⟩
    · rintro ⟨_, h1⟩; exact ⟨h, h1⟩
  · subst h
    have := hs.2.2.1
    simp only [Int.toNat_zero] at *
    constructor
    · rintro ⟨h1, _⟩; omega
    · rintro ⟨h1, _⟩; omega
def counts6 (s : qU) (k : Nat) : List Int := (List.range 6).map fun c : Nat => ofCell s.qg (c : Int) k
theorem counts6_len (s : qU) (k : Nat) : (counts6 s k).length = 6 := by simp [counts6]
theorem counts6_zero (s : qU) : ([0, 0, 0, 0, 0, 0] : List Int) = counts6 s 0 := by simp [counts6, List.range_succ, ofCell]
theorem Vu {s : qU} {k : Nat} {c : Int} (h : 0 ≤ c) (h1 : c ≤ 5) : (counts6 s k)[c.toNat]! = ofCell s.qg c k := by
  rw [getElem!_pos _ _ (by rw [counts6_len]; omega)]
  simp only [counts6, List.getElem_map, List.getElem_range]
  rw [show ((c.toNat : Nat) : Int) = c by omega]
theorem counts6_succ {s : qU} {k : Nat} (h : 0 ≤ (s.qg[k]!).qA) (h1 : (s.qg[k]!).qA ≤ 5) :
    (counts6 s k).set (s.qg[k]!).qA.toNat ((counts6 s k)[(s.qg[k]!).qA.toNat]! + 1) = counts6 s (k + 1) := by
  rw [Vu h h1]
  apply List.ext_getElem
  · simp [counts6]
  · intro i h1 h2
    rw [List.getElem_set]
    simp only [counts6, List.getElem_map, List.getElem_range, ofCell]
    by_cases e : (s.qg[k]!).qA.toNat = i
    · subst e
      rw [if_pos rfl, if_pos (by omega), show (((s.qg[k]!).qA.toNat : Nat) : Int) = (s.qg[k]!).qA by omega]
    · rw [if_neg e, if_neg (by omega)]; omega
theorem sum_nonneg {l : List Int} (h : BagAny l) : 0 ≤ sumL l := by
  have : ∀ k, k ≤ l.length → 0 ≤ sumTo l k := fun k => by
    induction k with
    | zero => intro _; exact Int.le_refl _
    | succ k ih => intro hk; have := ih (by omega); have := h.1 k (by omega); simp only [sumTo]; omega
  exact this _ (Nat.le_refl _)
end Go.Proofs.YtkmlihdacnfhdaaGreat
