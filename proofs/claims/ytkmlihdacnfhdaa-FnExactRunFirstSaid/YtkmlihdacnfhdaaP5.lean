/- Plain laws of steps, part two: choices, first choices, states behind steps. No program here. -/
import Derived.Test.YtkmlihdacnfhdaaP4
namespace Go.Proofs.Ytkmlihdacnfhdaa
open Go.Proofs.Ytkmlihdacnfhdaa.Tot (tot)

theorem yP.rule {s : qV} (h : yP s) {i : Nat} (hi : i < s.qg.length) : RuleOk s (s.qg[i]!) := (h.2.2 i hi).1
theorem RuleOk.cell {s : qV} {r : QK} (h : RuleOk s r) : r.qy.toNat < jg s := by have := h.1.1; have := h.1.2; unfold jg; omega
theorem zZ.len {s : qV} {l : List Int} (h : zZ s.qI l) : l.length = QC s := by have := h.2; unfold QC; omega
theorem zZ.get {n : Int} {l : List Int} (h : zZ n l) {k : Nat} (hk : k < l.length) : 0 ≤ l[k]! ∧ l[k]! ≤ 1000 := h.1.1 k hk
theorem zZ.mul {s : qV} {m : List Int} (h : zZ s.qI m) {t : Int} (ht : -1000 ≤ t ∧ t ≤ 1000) : ∀ k, k < QC s → -1000000 ≤ t * m[k]! ∧ t * m[k]! ≤ 1000000 := fun k hk => by
  have h1 := h.1.1 k (by rw [h.len]; exact hk)
  rcases Int.le_total 0 t with h0 | h0
  · have h2 := Int.mul_nonneg h0 h1.1
    have h3 := Int.mul_le_mul_of_nonneg_left h1.2 h0
    omega
  · have h2 := Int.mul_nonneg (show 0 ≤ -t by omega) h1.1
    have h3 := Int.mul_le_mul_of_nonneg_left h1.2 (show 0 ≤ -t by omega)
    have h4 : -t * m[k]! = -(t * m[k]!) := Int.neg_mul ..
    omega
theorem zZ.yz {s : qV} {m : List Int} (h : zZ s.qI m) {t : Int} (ht : -1000 ≤ t ∧ t ≤ 1000) : SmallT m t := bagOk_smallT h (by omega)
theorem kinds_le {s : qV} (h : yP s) : QC s ≤ 8 := by have := h.1.1.2; unfold QC; omega
theorem zJ.shape {s : qV} {t : qQ} (h : zJ s t) : Shape (jg s) (QC s) 1000 t.qp := by
  refine ⟨h.2.1, fun p hp => ?_⟩
  have hb := h.bagLen (k := p) (by rw [h.2.1]; exact hp)
  refine ⟨hb.len, fun k hk => ?_⟩
  have := hb.get (k := k) (by rw [hb.len]; exact hk)
  omega
def CntOk (s : qV) (counts : List Int) : Prop := counts.length = s.qg.length ∧ ∀ i, i < counts.length → 0 ≤ counts[i]! ∧ counts[i]! ≤ 1000
theorem CntOk.bd {s : qV} {counts : List Int} (h : CntOk s counts) {i : Nat} (hi : i < s.qg.length) : 0 ≤ counts[i]! ∧ counts[i]! ≤ 1000 := h.2 i (by rw [h.1]; exact hi)

/-! ### What a choice leaves -/
def vT (s : qV) (t : qQ) (counts : List Int) : Nat → List (List Int)
  | 0 => t.qp
  | k + 1 => (vT s t counts k).set (s.qg[k]!).qy.toNat (yj ((vT s t counts k)[(s.qg[k]!).qy.toNat]!) (s.qg[k]!).qR (-(counts[k]!)))
def needF (s : qV) (counts : List Int) (i p k : Nat) : Int := at' p (s.qg[i]!).qy.toNat (-(counts[i]!) * ((s.qg[i]!).qR)[k]!)
def needS (s : qV) (counts : List Int) : Nat → Nat → Nat → Int
  | 0, _, _ => 0
  | i + 1, p, k => needS s counts i p k + needF s counts i p k
theorem restR_ent {s : qV} {t : qQ} {counts : List Int} (hs : yP s) (ht : zJ s t) (hc : CntOk s counts) : ∀ k, k ≤ s.qg.length →
    Ent (jg s) (QC s) (fun p q => (t.qp[p]!)[q]! + needS s counts k p q) (1000 + 1000000 * k) (vT s t counts k)
  | 0, _ => ⟨by simpa [vT] using ht.shape, fun p k hp hk => by simp [vT, needS]⟩
  | k + 1, h => by
    have hr := hs.rule (i := k) (by omega)
    have hcb := hc.bd (i := k) (by omega)
    refine ((restR_ent hs ht hc k (by omega)).add (D := 1000000) rfl hr.cell (hr.2.2.2.2.1.mul (by omega)) (by omega)).to (fun p q => ?_) (by omega)
    show _ = _ + (needS s counts k p q + needF s counts k p q)
    unfold needF; omega
theorem restR_row {s : qV} {t : qQ} {counts : List Int} (hs : yP s) (ht : zJ s t) (hc : CntOk s counts) {k c : Nat} (hk : k ≤ s.qg.length) (h : c < jg s) :
    ((vT s t counts k)[c]!).length = QC s ∧ Mid ((vT s t counts k)[c]!) := (restR_ent hs ht hc k hk).sh.row (by have := hs.2.1; omega) (kinds_le hs) h
theorem restR_len {s : qV} {t : qQ} {counts : List Int} : ∀ k, (vT s t counts k).length = t.qp.length
  | 0 => rfl
  | k + 1 => by rw [vT, List.length_set]; exact restR_len k
theorem restR_skip {s : qV} {t : qQ} {counts : List Int} (hs : yP s) (ht : zJ s t) {k : Nat} (hk : k < s.qg.length) (h : counts[k]! = 0) : vT s t counts (k + 1) = vT s t counts k := by
  rw [vT, plus_zero (by omega)]
  exact set_self (by rw [restR_len, ht.2.1]; exact (hs.rule hk).cell) rfl
open Classical in
/-- The first of n places of which something is so, or n. -/
noncomputable def vY (P : Nat → Prop) : Nat → Nat
  | 0 => 0
  | n + 1 => if vY P n < n then vY P n else if P n then n else n + 1
theorem stop_none {P : Nat → Prop} : ∀ {n : Nat}, (∀ j, j < n → ¬ P j) → vY P n = n
  | 0, _ => rfl
  | n + 1, h => by rw [vY, stop_none (n := n) (fun j hj => h j (by omega)), if_neg (by omega), if_neg (h n (by omega))]
theorem stop_first {P : Nat → Prop} : ∀ {n k : Nat}, (∀ j, j < k → ¬ P j) → k < n → P k → vY P n = k
  | n + 1, k, h, hk, hp => by
    rw [vY]
    by_cases e : k = n
    · subst e; rw [stop_none h, if_neg (by omega), if_pos hp]
    · rw [stop_first (n := n) h (by omega) hp, if_pos (by omega)]
def yQ (s : qV) (t : qQ) (counts : List Int) (i : Nat) : Prop := 0 < counts[i]! ∧ ¬ Appl s t i
def GoodTo (s : qV) (t : qQ) (counts : List Int) (k : Nat) : Prop := ∀ i, i < k → ¬ yQ s t counts i
theorem GoodTo.succ {s : qV} {t : qQ} {counts : List Int} {k : Nat} (h : GoodTo s t counts k) (h1 : ¬ yQ s t counts k) : GoodTo s t counts (k + 1) := fun j hj => by
  by_cases e : j = k
  · subst e; exact h1
  · exact h j (by omega)
def NonNeg (b : List (List Int)) (n : Nat) : Prop := ∀ p, p < n → ∀ k, k < (b[p]!).length → 0 ≤ (b[p]!)[k]!
theorem NonNeg.succ {b : List (List Int)} {n : Nat} (h : NonNeg b n) (h1 : ∀ k, k < (b[n]!).length → 0 ≤ (b[n]!)[k]!) : NonNeg b (n + 1) := fun j hj => by
  by_cases e : j = n
  · subst e; exact h1
  · exact h j (by omega)
/-- Counts are a choice. -/
def IsCh (s : qV) (t : qQ) (counts : List Int) : Prop := GoodTo s t counts counts.length ∧ NonNeg (vT s t counts counts.length) t.qp.length
/-! ### First choices -/
def yX (l m : List Int) : Nat → Int
  | 0 => 1000
  | k + 1 => if 0 < l[k]! then min (yX l m k) (m[k]! / l[k]!) else yX l m k
def yR (l m : List Int) : Int := yX l m l.length
theorem timesTo_pos {l m : List Int} {k : Nat} (h : 0 < l[k]!) : yX l m (k + 1) = min (yX l m k) (m[k]! / l[k]!) := by rw [yX, if_pos h]
theorem timesTo_skip {l m : List Int} {k : Nat} (h : ¬ 0 < l[k]!) : yX l m (k + 1) = yX l m k := by rw [yX, if_neg h]
theorem Vu {l m : List Int} (hm : ∀ k, k < l.length → 0 ≤ m[k]!) : ∀ k, k ≤ l.length → 0 ≤ yX l m k ∧ yX l m k ≤ 1000
  | 0, _ => by simp [yX]
  | k + 1, h => by
    have := Vu hm k (by omega)
    rw [yX]
    split
    · next h1 => have := Int.ediv_nonneg (hm k (by omega)) (show 0 ≤ l[k]! by omega); omega
    · exact this
theorem timesTo_le {l m : List Int} : ∀ {k j : Nat}, j < k → 0 < l[j]! → yX l m k ≤ m[j]! / l[j]!
  | k + 1, j, h, h1 => by
    rw [yX]
    by_cases e : j = k
    · subst e; rw [if_pos h1]; omega
    · have := timesTo_le (m := m) (show j < k by omega) h1
      split <;> omega
theorem timesL_left {l m : List Int} (hl : ∀ k, k < l.length → 0 ≤ l[k]!) (hm : ∀ k, k < l.length → 0 ≤ m[k]!) {k : Nat} (hk : k < l.length) : 0 ≤ m[k]! + -(yR l m) * l[k]! := by
  have h0 := Vu hm l.length (Nat.le_refl _)
  rcases Int.lt_or_eq_of_le (hl k hk) with h | h
  · have h1 := timesTo_le (m := m) hk h
    have h2 : m[k]! / l[k]! * l[k]! ≤ m[k]! := Int.ediv_mul_le _ (by omega)
    have h3 := Int.mul_le_mul_of_nonneg_right h1 (show 0 ≤ l[k]! by omega)
    have h4 : -(yR l m) * l[k]! = -(yR l m * l[k]!) := Int.neg_mul ..
    unfold yR at *
    omega
  · rw [← h]; have := hm k hk; omega
/-- What the reference has found so far. -/
def Xg (l m : List Int) (i : Nat) (best : Int) : Prop := (best = yX l m i ∧ ∃ j, j < i ∧ 0 < l[j]!) ∨ (best = -1 ∧ yX l m i = 1000 ∧ ∀ j, j < i → l[j]! ≤ 0)
theorem Xg.zero (l m : List Int) : Xg l m 0 (-1) := .inr ⟨rfl, rfl, fun j hj => by omega⟩
theorem Xg.take {l m : List Int} {i : Nat} {best : Int} (h : Xg l m i best) (hm : 0 ≤ m[i]! ∧ m[i]! ≤ 1000) (hl : 0 < l[i]!) (hb : best < 0 ∨ m[i]! / l[i]! < best) (hn : 0 ≤ yX l m i) : Xg l m (i + 1) (m[i]! / l[i]!) := by
  refine .inl ⟨?_, i, by omega, hl⟩
  rw [timesTo_pos hl]
  have h1 : m[i]! / l[i]! ≤ m[i]! := Int.ediv_le_self _ hm.1
  rcases h with ⟨h, _⟩ | ⟨h, h2, _⟩ <;> omega
theorem Xg.keep {l m : List Int} {i : Nat} {best : Int} (h : Xg l m i best) (hl : ¬ 0 < l[i]!) : Xg l m (i + 1) best := by
  unfold Xg
  rw [timesTo_skip hl]
  rcases h with ⟨h, j, h1, h2⟩ | ⟨h, h2, h3⟩
  · exact .inl ⟨h, j, by omega, h2⟩
  · refine .inr ⟨h, h2, fun j hj => ?_⟩
    by_cases e : j = i
    · subst e; omega
    · exact h3 j (by omega)
theorem Xg.keep2 {l m : List Int} {i : Nat} {best : Int} (h : Xg l m i best) (hl : 0 < l[i]!) (hb : ¬ best < 0) (hn : ¬ m[i]! / l[i]! < best) : Xg l m (i + 1) best := by
  refine .inl ⟨?_, i, by omega, hl⟩
  rw [timesTo_pos hl]
  rcases h with ⟨h, _⟩ | ⟨h, _⟩ <;> omega
theorem Xg.done {l m : List Int} {i : Nat} {best : Int} (h : Xg l m i best) (hp : ∃ j, j < i ∧ 0 < l[j]!) : best = yX l m i := by
  rcases h with ⟨h, _⟩ | ⟨_, _, h3⟩
  · exact h
  · obtain ⟨j, h1, h2⟩ := hp
    have := h3 j h1; omega
theorem sum_pos {l : List Int} (h : BagAny l) (h1 : sumL l ≠ 0) : ∃ j, j < l.length ∧ 0 < l[j]! := by
  apply Classical.byContradiction
  intro hn
  have h0 : ∀ k, k ≤ l.length → sumTo l k = 0 := by
    intro k
    induction k with
    | zero => intro _; rfl
    | succ k ih =>
      intro hk
      have h2 := h.1 k (by omega)
      have h3 : ¬ 0 < l[k]! := fun h4 => hn ⟨k, by omega, h4⟩
      rw [sumTo, ih (by omega)]; omega
  exact h1 (h0 _ (Nat.le_refl _))
open Classical in
noncomputable def zX (s : qV) (t : qQ) : Nat → List (List Int)
  | 0 => t.qp
  | k + 1 => if Appl s t k then (zX s t k).set (s.qg[k]!).qy.toNat (yj ((zX s t k)[(s.qg[k]!).qy.toNat]!) (s.qg[k]!).qR (-(yR (s.qg[k]!).qR ((zX s t k)[(s.qg[k]!).qy.toNat]!)))) else zX s t k
open Classical in
noncomputable def firstC (s : qV) (t : qQ) (k : Nat) : Int := if Appl s t k then yR (s.qg[k]!).qR ((zX s t k)[(s.qg[k]!).qy.toNat]!) else 0
/-- The first m numbers of the first choice, and nothing for the rest of n. -/
noncomputable def firstTo (s : qV) (t : qQ) (m n : Nat) : List Int := (List.range n).map fun j => if j < m then firstC s t j else 0
noncomputable def xY (s : qV) (t : qQ) : List Int := firstTo s t s.qg.length s.qg.length
theorem firstR_yes {s : qV} {t : qQ} {k : Nat} (h : Appl s t k) : zX s t (k + 1) = (zX s t k).set (s.qg[k]!).qy.toNat (yj ((zX s t k)[(s.qg[k]!).qy.toNat]!) (s.qg[k]!).qR (-(yR (s.qg[k]!).qR ((zX s t k)[(s.qg[k]!).qy.toNat]!)))) := by rw [zX, if_pos h]
theorem firstR_no {s : qV} {t : qQ} {k : Nat} (h : ¬ Appl s t k) : zX s t (k + 1) = zX s t k := by rw [zX, if_neg h]
theorem firstR_skip {s : qV} {t : qQ} {m : Nat} : ∀ {d : Nat}, (∀ j, m ≤ j → j < m + d → ¬ Appl s t j) → zX s t (m + d) = zX s t m
  | 0, _ => rfl
  | d + 1, h => by rw [← Nat.add_assoc, firstR_no (h (m + d) (by omega) (by omega)), firstR_skip fun j h1 h2 => h j h1 (by omega)]
theorem firstR_same {s : qV} {t : qQ} {m i : Nat} (hm : m ≤ i) (h : ∀ j, m ≤ j → j < i → ¬ Appl s t j) : zX s t i = zX s t m := by
  obtain ⟨d, rfl⟩ : ∃ d, i = m + d := ⟨i - m, by omega⟩
  exact firstR_skip h
theorem Xz {s : qV} {t : qQ} {k : Nat} (h : Appl s t k) : firstC s t k = yR (s.qg[k]!).qR ((zX s t k)[(s.qg[k]!).qy.toNat]!) := by rw [firstC, if_pos h]
theorem firstC_no {s : qV} {t : qQ} {k : Nat} (h : ¬ Appl s t k) : firstC s t k = 0 := by rw [firstC, if_neg h]
theorem jA (s : qV) (t : qQ) (m n : Nat) : (firstTo s t m n).length = n := by simp [firstTo]
theorem Xa {s : qV} {t : qQ} {m n j : Nat} (h : j < n) : (firstTo s t m n)[j]! = if j < m then firstC s t j else 0 := by
  rw [getElem!_pos (firstTo s t m n) j (by rw [jA]; exact h)]; simp [firstTo]
theorem firstTo_snoc (s : qV) (t : qQ) (m : Nat) : firstTo s t m m ++ [firstC s t m] = firstTo s t (m + 1) (m + 1) := by
  refine ext_get (by simp [jA]) fun k hk => ?_
  rw [List.length_append, jA] at hk
  simp only [List.length_cons, List.length_nil] at hk
  rw [Xa (by omega), if_pos (by omega)]
  rw [getElem!_pos (firstTo s t m m ++ [firstC s t m]) k (by simp [jA]; omega)]
  by_cases e : k = m
  · subst e; rw [List.getElem_append_right (by simp [jA])]; simp [jA]
  · rw [List.getElem_append_left (by rw [jA]; omega)]
    have := Xa (s := s) (t := t) (m := m) (n := m) (j := k) (by omega)
    rw [getElem!_pos (firstTo s t m m) k (by rw [jA]; omega), if_pos (by omega)] at this
    exact this
theorem firstTo_snoc' {s : qV} {t : qQ} {m : Nat} {x : Int} (h : x = firstC s t m) : firstTo s t m m ++ [x] = firstTo s t (m + 1) (m + 1) := h ▸ firstTo_snoc s t m
theorem firstTo_zero (s : qV) (t : qQ) (n : Nat) : List.replicate n (0 : Int) = firstTo s t 0 n := by
  refine ext_get (by simp [jA]) fun k hk => ?_
  rw [List.length_replicate] at hk
  rw [Xa hk, if_neg (by omega), getElem!_pos (List.replicate n (0 : Int)) k (by simpa using hk)]; simp
theorem firstTo_set {s : qV} {t : qQ} {m i n : Nat} (hm : m ≤ i) (hi : i < n) (h : ∀ j, m ≤ j → j < i → ¬ Appl s t j) {x : Int} (hx : x = firstC s t i) : (firstTo s t m n).set i x = firstTo s t (i + 1) n := by
  refine ext_get (by simp [jA]) fun k hk => ?_
  rw [List.length_set, jA] at hk
  rw [getset (by rw [jA]; exact hi), Xa hk, Xa hk]
  by_cases e : k = i
  · subst e; rw [if_pos rfl, if_pos (by omega), hx]
  · rw [if_neg e]
    by_cases h1 : k < m
    · rw [if_pos h1, if_pos (by omega)]
    · rw [if_neg h1]
      by_cases h2 : k < i
      · rw [if_pos (by omega), firstC_no (h k (by omega) h2)]
      · rw [if_neg (by omega)]
theorem firstTo_end {s : qV} {t : qQ} {m n : Nat} (hm : m ≤ n) (h : ∀ j, m ≤ j → j < n → ¬ Appl s t j) : firstTo s t m n = firstTo s t n n := by
  refine ext_get (by simp [jA]) fun k hk => ?_
  rw [jA] at hk
  rw [Xa hk, Xa hk, if_pos hk]
  by_cases h1 : k < m
  · rw [if_pos h1]
  · rw [if_neg h1, firstC_no (h k (by omega) hk)]
/-- Bags that are right in number and length. -/
def Box (n K : Nat) (b : List (List Int)) : Prop := b.length = n ∧ ∀ p, p < n → (b[p]!).length = K ∧ ∀ k, k < K → 0 ≤ (b[p]!)[k]! ∧ (b[p]!)[k]! ≤ 1000
theorem zJ.box {s : qV} {t : qQ} (h : zJ s t) : Box (jg s) (QC s) t.qp := by
  refine ⟨h.2.1, fun p hp => ?_⟩
  have hb := h.bagLen (k := p) (by rw [h.2.1]; exact hp)
  exact ⟨hb.len, fun k hk => hb.get (by rw [hb.len]; exact hk)⟩
theorem firstR_box {s : qV} {t : qQ} (hs : yP s) (ht : zJ s t) : ∀ k, k ≤ s.qg.length → Box (jg s) (QC s) (zX s t k)
  | 0, _ => ht.box
  | k + 1, h => by
    have ih := firstR_box hs ht k (by omega)
    by_cases ha : Appl s t k
    · rw [firstR_yes ha]
      have hr := hs.rule (i := k) (by omega)
      have hb := hr.2.2.2.2.1
      have hc := ih.2 _ hr.cell
      refine ⟨by rw [List.length_set]; exact ih.1, fun p hp => ?_⟩
      rw [getset (by rw [ih.1]; exact hr.cell)]
      by_cases e : p = (s.qg[k]!).qy.toNat
      · rw [if_pos e, plusL_len]
        refine ⟨hc.1, fun q hq => ?_⟩
        rw [plus_get (by rw [hc.1]; exact hq)]
        have h1 := timesL_left (l := (s.qg[k]!).qR) (m := (zX s t k)[(s.qg[k]!).qy.toNat]!) (fun j hj => (hb.get hj).1) (fun j hj => (hc.2 j (by rw [← hb.len]; exact hj)).1) (k := q) (by rw [hb.len]; exact hq)
        refine ⟨h1, ?_⟩
        have h2 := Vu (l := (s.qg[k]!).qR) (m := (zX s t k)[(s.qg[k]!).qy.toNat]!) (fun j hj => (hc.2 j (by rw [← hb.len]; exact hj)).1) _ (Nat.le_refl _)
        have h3 := Int.mul_nonneg h2.1 (hb.get (k := q) (by rw [hb.len]; exact hq)).1
        have h4 := (hc.2 q hq).2
        have h5 : -(yR (s.qg[k]!).qR ((zX s t k)[(s.qg[k]!).qy.toNat]!)) * ((s.qg[k]!).qR)[q]! = -(yR (s.qg[k]!).qR ((zX s t k)[(s.qg[k]!).qy.toNat]!) * ((s.qg[k]!).qR)[q]!) := Int.neg_mul ..
        unfold yR at *
        omega
      · rw [if_neg e]; exact ih.2 p hp
    · rw [firstR_no ha]; exact ih
theorem firstR_row {s : qV} {t : qQ} (hs : yP s) (ht : zJ s t) {k c : Nat} (hk : k ≤ s.qg.length) (h : c < jg s) :
    ((zX s t k)[c]!).length = QC s ∧ Mid ((zX s t k)[c]!) ∧ ∀ q, q < QC s → 0 ≤ ((zX s t k)[c]!)[q]! ∧ ((zX s t k)[c]!)[q]! ≤ 1000 := by
  have h1 := (firstR_box hs ht k hk).2 c h
  have := kinds_le hs
  exact ⟨h1.1, ⟨by have := h1.1; omega, fun q hq => by have := h1.2 q (by have := h1.1; omega); omega⟩, h1.2⟩
theorem firstC_bd {s : qV} {t : qQ} (hs : yP s) (ht : zJ s t) {k : Nat} (hk : k < s.qg.length) : 0 ≤ firstC s t k ∧ firstC s t k ≤ 1000 := by
  by_cases ha : Appl s t k
  · rw [Xz ha]
    have hr := hs.rule hk
    have hc := firstR_row hs ht (Nat.le_of_lt hk) hr.cell
    exact Vu (fun j hj => (hc.2.2 j (by rw [← hr.2.2.2.2.1.len]; exact hj)).1) _ (Nat.le_refl _)
  · rw [firstC_no ha]; omega
theorem first_cnt {s : qV} {t : qQ} (hs : yP s) (ht : zJ s t) : CntOk s (xY s t) := by
  refine ⟨jA _ _ _ _, fun i hi => ?_⟩
  rw [xY, jA] at hi
  rw [xY, Xa hi, if_pos hi]
  exact firstC_bd hs ht hi
theorem first_rest {s : qV} {t : qQ} (hs : yP s) (ht : zJ s t) : ∀ k, k ≤ s.qg.length → vT s t (xY s t) k = zX s t k
  | 0, _ => rfl
  | k + 1, h => by
    have ih := first_rest hs ht k (by omega)
    have hg : (xY s t)[k]! = firstC s t k := by rw [xY, Xa (by omega), if_pos (by omega)]
    by_cases ha : Appl s t k
    · rw [firstR_yes ha, vT, ih, hg, Xz ha]
    · rw [firstR_no ha, restR_skip hs ht (by omega) (by rw [hg, firstC_no ha]), ih]
theorem first_isCh {s : qV} {t : qQ} (hs : yP s) (ht : zJ s t) : IsCh s t (xY s t) := by
  have hl : (xY s t).length = s.qg.length := jA _ _ _ _
  constructor
  · intro i hi
    rw [hl] at hi
    rintro ⟨h1, h2⟩
    rw [xY, Xa hi, if_pos hi, firstC_no h2] at h1
    omega
  · rw [hl, first_rest hs ht _ (Nat.le_refl _)]
    have hb := firstR_box hs ht _ (Nat.le_refl _)
    intro p hp k hk
    rw [ht.2.1] at hp
    have := hb.2 p hp
    exact (this.2 k (by rw [← this.1]; exact hk)).1
end Go.Proofs.Ytkmlihdacnfhdaa
