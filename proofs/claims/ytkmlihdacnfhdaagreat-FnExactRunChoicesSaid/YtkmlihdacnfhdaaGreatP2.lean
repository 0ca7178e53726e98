/- Plain laws of melting cells and of steps. No program here. -/
import Derived.Test.YtkmlihdacnfhdaaGreatP1
namespace Go.Proofs.YtkmlihdacnfhdaaGreat
open Go.Proofs.YtkmlihdacnfhdaaGreat.Tot (tot)

/-- What the first cell that is alive is, from a cell upwards. -/
theorem climb_in {s : qX} {t : qU} (hs : yE s) (h0 : t.qh[0]! = true) : ∀ (n : Nat) (c : Int), 0 ≤ c → c < n → c ≤ (s.qf.length : Int) - 1 →
    0 ≤ climb s.qf t.qh n c ∧ climb s.qf t.qh n c ≤ c ∧ t.qh[(climb s.qf t.qh n c).toNat]! = true
  | 0, c, h1, h2, h3 => by omega
  | n + 1, c, h1, h2, h3 => by
    rw [climb]
    by_cases ha : 0 ≤ c ∧ t.qh[c.toNat]! = false
    · rw [if_pos ha]
      have hc : 0 < c := by
        rcases Int.lt_or_eq_of_le h1 with h | h
        · exact h
        · rw [← h] at ha; simp [h0] at ha
      have hu := hs.up hc h3
      have := climb_in hs h0 n (s.qf[c.toNat]!) hu.1 (by omega) (by omega)
      exact ⟨this.1, by omega, this.2.2⟩
    · rw [if_neg ha]
      refine ⟨h1, Int.le_refl _, ?_⟩
      cases hx : t.qh[c.toNat]! with
      | true => rfl
      | false => exact absurd ⟨h1, hx⟩ ha
theorem Vw {s : qX} {t : qU} (hs : yE s) (h0 : t.qh[0]! = true) {c : Int} (h1 : 0 < c) (h2 : c ≤ (s.qf.length : Int) - 1) : 0 ≤ xf s t c ∧ xf s t c < c ∧ t.qh[(xf s t c).toNat]! = true := by
  have hu := hs.up h1 h2
  have := climb_in hs h0 s.qf.length (s.qf[c.toNat]!) hu.1 (by omega) (by omega)
  exact ⟨this.1, by have := this.2.1; unfold xf; omega, this.2.2⟩

/-- A state in which a cell has dissolved. -/
def melted (s : qX) (t : qU) (c : Int) : qU :=
  ⟨t.qh.set c.toNat false, (t.qp.set (xf s t c).toNat (yM (t.qp[(xf s t c).toNat]!) (t.qp[c.toNat]!) 1)).set c.toNat (List.replicate s.qJ.toNat 0), t.ql⟩
open Classical in
/-- A state, if it is right. -/
noncomputable def told (s : qX) (t : qU) : qU × Int := if zu s t then (t, 0) else (default, 3)
theorem told_yes {s : qX} {t : qU} (h : zu s t) : told s t = (t, 0) := by rw [told, if_pos h]
theorem told_no {s : qX} {t : qU} (h : ¬ zu s t) : told s t = (default, 3) := by rw [told, if_neg h]
theorem zu.bagLen {s : qX} {t : qU} (h : zu s t) {k : Nat} (hk : k < t.qp.length) : zW s.qJ (t.qp[k]!) := (h.2.2.2.2 k hk).1
theorem bagOk_smallT {n : Int} {l : List Int} (h : zW n l) {t : Int} (ht : -1000000 ≤ t ∧ t ≤ 1000000) : SmallT l t := fun k hk => by
  have := h.1.1 k hk
  constructor
  · have h1 : -(1000000 * 1000) ≤ t * l[k]! := by
      rcases Int.le_total 0 t with h0 | h0
      · have := Int.mul_nonneg h0 this.1; omega
      · have h2 := Int.mul_le_mul_of_nonneg_left this.2 (show 0 ≤ -t by omega)
        have h3 : -t * l[k]! = -(t * l[k]!) := Int.neg_mul ..
        have h4 : -t * 1000 ≤ 1000000 * 1000 := by omega
        omega
    omega
  · have h1 : t * l[k]! ≤ 1000000 * 1000 := by
      rcases Int.le_total 0 t with h0 | h0
      · have h2 := Int.mul_le_mul_of_nonneg_left this.2 h0
        omega
      · have h2 := Int.mul_nonneg (show 0 ≤ -t by omega) this.1
        have h3 : -t * l[k]! = -(t * l[k]!) := Int.neg_mul ..
        omega
    omega
theorem zu.sizes {s : qX} {t : qU} (hs : yE s) (h : zu s t) : t.qh.length ≤ 6 ∧ t.ql.length ≤ 8 ∧ t.qp.length ≤ 6 ∧ ∀ k, k < t.qp.length → (t.qp[k]!).length ≤ 8 :=
  ⟨by have := h.1; have := hs.2.1; omega, h.2.2.2.1.1.2.2, by have := h.2.1; have := hs.2.1; omega, fun k hk => (h.bagLen hk).1.2.2⟩
/-- What is needed to add two bags of a state. -/
theorem zu.add {s : qX} {t : qU} (h : zu s t) {j k : Nat} (hj : j < t.qp.length) (hk : k < t.qp.length) : (t.qp[j]!).length ≤ (t.qp[k]!).length ∧ Mid (t.qp[j]!) ∧ SmallT (t.qp[k]!) 1 := by
  have h1 := h.bagLen hj
  have h2 := h.bagLen hk
  exact ⟨by have := h1.2; have := h2.2; omega, (jK h1).mid, bagOk_smallT h2 (by omega)⟩
theorem drop_get {l : List Int} {k : Nat} (h : k + 1 < l.length) : (l.drop 1)[k]! = l[k + 1]! := by
  rw [getElem!_pos (l.drop 1) k (by rw [List.length_drop]; omega), getElem!_pos l (k + 1) h]
  simp [Nat.add_comm]
/-- A cell lies in another one just if its parent does, or is it. -/
theorem lies_up {s : qX} (hs : yE s) {c o : Int} (hc : CellIn s c) : Lies s.qf o c ↔ 0 ≤ s.qf[c.toNat]! ∧ (s.qf[c.toNat]! = o ∨ Lies s.qf o (s.qf[c.toNat]!)) := by
  rw [lies_iff]
  rcases Int.lt_or_eq_of_le hc.1 with h | h
  · have := hs.up h hc.2
    constructor
    · rintro ⟨_, h1⟩; exact ⟨this.1, h1⟩
    · rintro ⟨_, h1⟩; exact ⟨h, h1⟩
  · subst h
    have := hs.2.2.1
    simp only [Int.toNat_zero] at *
    constructor
    · rintro ⟨h1, _⟩; omega
    · rintro ⟨h1, _⟩; omega
def counts6 (s : qX) (k : Nat) : List Int := (List.range 6).map fun c : Nat => ofCell s.qg (c : Int) k
theorem counts6_len (s : qX) (k : Nat) : (counts6 s k).length = 6 := by simp [counts6]
theorem counts6_zero (s : qX) : ([0, 0, 0, 0, 0, 0] : List Int) = counts6 s 0 := by simp [counts6, List.range_succ, ofCell]
theorem Vq {s : qX} {k : Nat} {c : Int} (h : 0 ≤ c) (h1 : c ≤ 5) : (counts6 s k)[c.toNat]! = ofCell s.qg c k := by
  rw [getElem!_pos _ _ (by rw [counts6_len]; omega)]
  simp only [counts6, List.getElem_map, List.getElem_range]
  rw [show ((c.toNat : Nat) : Int) = c by omega]
theorem counts6_succ {s : qX} {k : Nat} (h : 0 ≤ (s.qg[k]!).qy) (h1 : (s.qg[k]!).qy ≤ 5) :
    (counts6 s k).set (s.qg[k]!).qy.toNat ((counts6 s k)[(s.qg[k]!).qy.toNat]! + 1) = counts6 s (k + 1) := by
  rw [Vq h h1]
  apply List.ext_getElem
  · simp [counts6]
  · intro i h1 h2
    rw [List.getElem_set]
    simp only [counts6, List.getElem_map, List.getElem_range, ofCell]
    by_cases e : (s.qg[k]!).qy.toNat = i
    · subst e
      rw [if_pos rfl, if_pos (by omega), show (((s.qg[k]!).qy.toNat : Nat) : Int) = (s.qg[k]!).qy by omega]
    · rw [if_neg e, if_neg (by omega)]; omega
theorem sum_nonneg {l : List Int} (h : BagAny l) : 0 ≤ sumL l := by
  have : ∀ k, k ≤ l.length → 0 ≤ sumTo l k := fun k => by
    induction k with
    | zero => intro _; exact Int.le_refl _
    | succ k ih => intro hk; have := ih (by omega); have := h.1 k (by omega); simp only [sumTo]; omega
  exact this _ (Nat.le_refl _)
end Go.Proofs.YtkmlihdacnfhdaaGreat
