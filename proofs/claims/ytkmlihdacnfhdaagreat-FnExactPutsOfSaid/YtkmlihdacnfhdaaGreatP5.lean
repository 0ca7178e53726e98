/- Plain laws of steps, part two: choices, first choices, states behind steps. No program here. -/
import Derived.Test.YtkmlihdacnfhdaaGreatP4
namespace Go.Proofs.YtkmlihdacnfhdaaGreat
open Go.Proofs.YtkmlihdacnfhdaaGreat.Tot (tot)

theorem Qj.rule {s : qR} (h : Qj s) {i : Nat} (hi : i < s.qf.length) : RuleOk s (s.qf[i]!) := (h.2.2 i hi).1
theorem RuleOk.cell {s : qR} {r : yB} (h : RuleOk s r) : r.qw.toNat < CellsN s := by have := h.1.1; have := h.1.2; unfold CellsN; omega
theorem zi.len {s : qR} {l : List Int} (h : zi s.qF l) : l.length = yQ s := by have := h.2; unfold yQ; omega
theorem zi.get {n : Int} {l : List Int} (h : zi n l) {k : Nat} (hk : k < l.length) : 0 ≤ l[k]! ∧ l[k]! ≤ 1000 := h.1.1 k hk
theorem zi.mul {s : qR} {m : List Int} (h : zi s.qF m) {t : Int} (ht : -1000 ≤ t ∧ t ≤ 1000) : ∀ k, k < yQ s → -1000000 ≤ t * m[k]! ∧ t * m[k]! ≤ 1000000 := fun k hk => by
  have h1 := h.1.1 k (by rw [h.len]; exact hk)
  rcases Int.le_total 0 t with h0 | h0
  · have h2 := Int.mul_nonneg h0 h1.1
    have h3 := Int.mul_le_mul_of_nonneg_left h1.2 h0
    omega
  · have h2 := Int.mul_nonneg (show 0 ≤ -t by omega) h1.1
    have h3 := Int.mul_le_mul_of_nonneg_left h1.2 (show 0 ≤ -t by omega)
    have h4 : -t * m[k]! = -(t * m[k]!) := Int.neg_mul ..
    omega
theorem zi.jw {s : qR} {m : List Int} (h : zi s.qF m) {t : Int} (ht : -1000 ≤ t ∧ t ≤ 1000) : SmallT m t := bagOk_smallT h (by omega)
theorem kinds_le {s : qR} (h : Qj s) : yQ s ≤ 8 := by have := h.1.1.2; unfold yQ; omega
def CntOk (s : qR) (counts : List Int) : Prop := counts.length = s.qf.length ∧ ∀ i, i < counts.length → 0 ≤ counts[i]! ∧ counts[i]! ≤ 1000
theorem CntOk.bd {s : qR} {counts : List Int} (h : CntOk s counts) {i : Nat} (hi : i < s.qf.length) : 0 ≤ counts[i]! ∧ counts[i]! ≤ 1000 := h.2 i (by rw [h.1]; exact hi)

/-! ### What a choice leaves -/
def BadAt (s : qR) (t : xF) (counts : List Int) (i : Nat) : Prop := 0 < counts[i]! ∧ ¬ Appl s t i
def GoodTo (s : qR) (t : xF) (counts : List Int) (k : Nat) : Prop := ∀ i, i < k → ¬ BadAt s t counts i
theorem GoodTo.succ {s : qR} {t : xF} {counts : List Int} {k : Nat} (h : GoodTo s t counts k) (h1 : ¬ BadAt s t counts k) : GoodTo s t counts (k + 1) := fun j hj => by
  by_cases e : j = k
  · subst e; exact h1
  · exact h j (by omega)
def NonNeg (b : List (List Int)) (n : Nat) : Prop := ∀ p, p < n → ∀ k, k < (b[p]!).length → 0 ≤ (b[p]!)[k]!
theorem NonNeg.succ {b : List (List Int)} {n : Nat} (h : NonNeg b n) (h1 : ∀ k, k < (b[n]!).length → 0 ≤ (b[n]!)[k]!) : NonNeg b (n + 1) := fun j hj => by
  by_cases e : j = n
  · subst e; exact h1
  · exact h j (by omega)
/-! ### First choices -/
def jA (l m : List Int) : Nat → Int
  | 0 => 1000
  | k + 1 => if 0 < l[k]! then min (jA l m k) (m[k]! / l[k]!) else jA l m k
def jq (l m : List Int) : Int := jA l m l.length
theorem timesTo_pos {l m : List Int} {k : Nat} (h : 0 < l[k]!) : jA l m (k + 1) = min (jA l m k) (m[k]! / l[k]!) := by rw [jA, if_pos h]
theorem timesTo_skip {l m : List Int} {k : Nat} (h : ¬ 0 < l[k]!) : jA l m (k + 1) = jA l m k := by rw [jA, if_neg h]
theorem Xr {l m : List Int} (hm : ∀ k, k < l.length → 0 ≤ m[k]!) : ∀ k, k ≤ l.length → 0 ≤ jA l m k ∧ jA l m k ≤ 1000
  | 0, _ => by simp [jA]
  | k + 1, h => by
    have := Xr hm k (by omega)
    rw [jA]
    split
    · next h1 => have := Int.ediv_nonneg (hm k (by omega)) (show 0 ≤ l[k]! by omega); omega
    · exact this
theorem timesTo_le {l m : List Int} : ∀ {k j : Nat}, j < k → 0 < l[j]! → jA l m k ≤ m[j]! / l[j]!
  | k + 1, j, h, h1 => by
    rw [jA]
    by_cases e : j = k
    · subst e; rw [if_pos h1]; omega
    · have := timesTo_le (m := m) (show j < k by omega) h1
      split <;> omega
theorem timesL_left {l m : List Int} (hl : ∀ k, k < l.length → 0 ≤ l[k]!) (hm : ∀ k, k < l.length → 0 ≤ m[k]!) {k : Nat} (hk : k < l.length) : 0 ≤ m[k]! + -(jq l m) * l[k]! := by
  have h0 := Xr hm l.length (Nat.le_refl _)
  rcases Int.lt_or_eq_of_le (hl k hk) with h | h
  · have h1 := timesTo_le (m := m) hk h
    have h2 : m[k]! / l[k]! * l[k]! ≤ m[k]! := Int.ediv_mul_le _ (by omega)
    have h3 := Int.mul_le_mul_of_nonneg_right h1 (show 0 ≤ l[k]! by omega)
    have h4 : -(jq l m) * l[k]! = -(jq l m * l[k]!) := Int.neg_mul ..
    unfold jq at *
    omega
  · rw [← h]; have := hm k hk; omega
/-- What the reference has found so far. -/
def Qd (l m : List Int) (i : Nat) (best : Int) : Prop := (best = jA l m i ∧ ∃ j, j < i ∧ 0 < l[j]!) ∨ (best = -1 ∧ jA l m i = 1000 ∧ ∀ j, j < i → l[j]! ≤ 0)
theorem Qd.zero (l m : List Int) : Qd l m 0 (-1) := .inr ⟨rfl, rfl, fun j hj => by omega⟩
theorem Qd.take {l m : List Int} {i : Nat} {best : Int} (h : Qd l m i best) (hm : 0 ≤ m[i]! ∧ m[i]! ≤ 1000) (hl : 0 < l[i]!) (hb : best < 0 ∨ m[i]! / l[i]! < best) (hn : 0 ≤ jA l m i) : Qd l m (i + 1) (m[i]! / l[i]!) := by
  refine .inl ⟨?_, i, by omega, hl⟩
  rw [timesTo_pos hl]
  have h1 : m[i]! / l[i]! ≤ m[i]! := Int.ediv_le_self _ hm.1
  rcases h with ⟨h, _⟩ | ⟨h, h2, _⟩ <;> omega
theorem Qd.keep {l m : List Int} {i : Nat} {best : Int} (h : Qd l m i best) (hl : ¬ 0 < l[i]!) : Qd l m (i + 1) best := by
  unfold Qd
  rw [timesTo_skip hl]
  rcases h with ⟨h, j, h1, h2⟩ | ⟨h, h2, h3⟩
  · exact .inl ⟨h, j, by omega, h2⟩
  · refine .inr ⟨h, h2, fun j hj => ?_⟩
    by_cases e : j = i
    · subst e; omega
    · exact h3 j (by omega)
theorem Qd.keep2 {l m : List Int} {i : Nat} {best : Int} (h : Qd l m i best) (hl : 0 < l[i]!) (hb : ¬ best < 0) (hn : ¬ m[i]! / l[i]! < best) : Qd l m (i + 1) best := by
  refine .inl ⟨?_, i, by omega, hl⟩
  rw [timesTo_pos hl]
  rcases h with ⟨h, _⟩ | ⟨h, _⟩ <;> omega
theorem Qd.done {l m : List Int} {i : Nat} {best : Int} (h : Qd l m i best) (hp : ∃ j, j < i ∧ 0 < l[j]!) : best = jA l m i := by
  rcases h with ⟨h, _⟩ | ⟨_, _, h3⟩
  · exact h
  · obtain ⟨j, h1, h2⟩ := hp
    have := h3 j h1; omega
theorem sum_pos {l : List Int} (h : BagAny l) (h1 : sumL l ≠ 0) : ∃ j, j < l.length ∧ 0 < l[j]! := by
  apply Classical.byContradiction
  intro hn
  have h0 : ∀ k, k ≤ l.length → sumTo l k = 0 := by
    intro k
    induction k with
    | zero => intro _; rfl
    | succ k ih =>
      intro hk
      have h2 := h.1 k (by omega)
      have h3 : ¬ 0 < l[k]! := fun h4 => hn ⟨k, by omega, h4⟩
      rw [sumTo, ih (by omega)]; omega
  exact h1 (h0 _ (Nat.le_refl _))
open Classical in
noncomputable def zk (s : qR) (t : xF) : Nat → List (List Int)
  | 0 => t.qG
  | k + 1 => if Appl s t k then (zk s t k).set (s.qf[k]!).qw.toNat (yc ((zk s t k)[(s.qf[k]!).qw.toNat]!) (s.qf[k]!).qI (-(jq (s.qf[k]!).qI ((zk s t k)[(s.qf[k]!).qw.toNat]!)))) else zk s t k
open Classical in
noncomputable def firstC (s : qR) (t : xF) (k : Nat) : Int := if Appl s t k then jq (s.qf[k]!).qI ((zk s t k)[(s.qf[k]!).qw.toNat]!) else 0
/-- The first m numbers of the first choice, and nothing for the rest of n. -/
noncomputable def firstTo (s : qR) (t : xF) (m n : Nat) : List Int := (List.range n).map fun j => if j < m then firstC s t j else 0
noncomputable def xC (s : qR) (t : xF) : List Int := firstTo s t s.qf.length s.qf.length
theorem firstR_yes {s : qR} {t : xF} {k : Nat} (h : Appl s t k) : zk s t (k + 1) = (zk s t k).set (s.qf[k]!).qw.toNat (yc ((zk s t k)[(s.qf[k]!).qw.toNat]!) (s.qf[k]!).qI (-(jq (s.qf[k]!).qI ((zk s t k)[(s.qf[k]!).qw.toNat]!)))) := by rw [zk, if_pos h]
theorem firstR_no {s : qR} {t : xF} {k : Nat} (h : ¬ Appl s t k) : zk s t (k + 1) = zk s t k := by rw [zk, if_neg h]
theorem firstR_skip {s : qR} {t : xF} {m : Nat} : ∀ {d : Nat}, (∀ j, m ≤ j → j < m + d → ¬ Appl s t j) → zk s t (m + d) = zk s t m
  | 0, _ => rfl
  | d + 1, h => by rw [← Nat.add_assoc, firstR_no (h (m + d) (by omega) (by omega)), firstR_skip fun j h1 h2 => h j h1 (by omega)]
theorem firstR_same {s : qR} {t : xF} {m i : Nat} (hm : m ≤ i) (h : ∀ j, m ≤ j → j < i → ¬ Appl s t j) : zk s t i = zk s t m := by
  obtain ⟨d, rfl⟩ : ∃ d, i = m + d := ⟨i - m, by omega⟩
  exact firstR_skip h
theorem QQ {s : qR} {t : xF} {k : Nat} (h : Appl s t k) : firstC s t k = jq (s.qf[k]!).qI ((zk s t k)[(s.qf[k]!).qw.toNat]!) := by rw [firstC, if_pos h]
theorem firstC_no {s : qR} {t : xF} {k : Nat} (h : ¬ Appl s t k) : firstC s t k = 0 := by rw [firstC, if_neg h]
theorem vw (s : qR) (t : xF) (m n : Nat) : (firstTo s t m n).length = n := by simp [firstTo]
theorem QH {s : qR} {t : xF} {m n j : Nat} (h : j < n) : (firstTo s t m n)[j]! = if j < m then firstC s t j else 0 := by
  rw [getElem!_pos (firstTo s t m n) j (by rw [vw]; exact h)]; simp [firstTo]
theorem firstTo_snoc (s : qR) (t : xF) (m : Nat) : firstTo s t m m ++ [firstC s t m] = firstTo s t (m + 1) (m + 1) := by
  refine ext_get (by simp [vw]) fun k hk => ?_
  rw [List.length_append, vw] at hk
  simp only [List.length_cons, List.length_nil] at hk
  rw [QH (by omega), if_pos (by omega)]
  rw [getElem!_pos (firstTo s t m m ++ [firstC s t m]) k (by simp [vw]; omega)]
  by_cases e : k = m
  · subst e; rw [List.getElem_append_right (by simp [vw])]; simp [vw]
  · rw [List.getElem_append_left (by rw [vw]; omega)]
    have := QH (s := s) (t := t) (m := m) (n := m) (j := k) (by omega)
    rw [getElem!_pos (firstTo s t m m) k (by rw [vw]; omega), if_pos (by omega)] at this
    exact this
theorem firstTo_snoc' {s : qR} {t : xF} {m : Nat} {x : Int} (h : x = firstC s t m) : firstTo s t m m ++ [x] = firstTo s t (m + 1) (m + 1) := h ▸ firstTo_snoc s t m
theorem firstTo_zero (s : qR) (t : xF) (n : Nat) : List.replicate n (0 : Int) = firstTo s t 0 n := by
  refine ext_get (by simp [vw]) fun k hk => ?_
  rw [List.length_replicate] at hk
  rw [QH hk, if_neg (by omega), getElem!_pos (List.replicate n (0 : Int)) k (by simpa using hk)]; simp
theorem firstTo_set {s : qR} {t : xF} {m i n : Nat} (hm : m ≤ i) (hi : i < n) (h : ∀ j, m ≤ j → j < i → ¬ Appl s t j) {x : Int} (hx : x = firstC s t i) : (firstTo s t m n).set i x = firstTo s t (i + 1) n := by
  refine ext_get (by simp [vw]) fun k hk => ?_
  rw [List.length_set, vw] at hk
  rw [getset (by rw [vw]; exact hi), QH hk, QH hk]
  by_cases e : k = i
  · subst e; rw [if_pos rfl, if_pos (by omega), hx]
  · rw [if_neg e]
    by_cases h1 : k < m
    · rw [if_pos h1, if_pos (by omega)]
    · rw [if_neg h1]
      by_cases h2 : k < i
      · rw [if_pos (by omega), firstC_no (h k (by omega) h2)]
      · rw [if_neg (by omega)]
theorem firstTo_end {s : qR} {t : xF} {m n : Nat} (hm : m ≤ n) (h : ∀ j, m ≤ j → j < n → ¬ Appl s t j) : firstTo s t m n = firstTo s t n n := by
  refine ext_get (by simp [vw]) fun k hk => ?_
  rw [vw] at hk
  rw [QH hk, QH hk, if_pos hk]
  by_cases h1 : k < m
  · rw [if_pos h1]
  · rw [if_neg h1, firstC_no (h k (by omega) hk)]
/-- Bags that are right in number and length. -/
def Box (n K : Nat) (b : List (List Int)) : Prop := b.length = n ∧ ∀ p, p < n → (b[p]!).length = K ∧ ∀ k, k < K → 0 ≤ (b[p]!)[k]! ∧ (b[p]!)[k]! ≤ 1000
theorem zY.box {s : qR} {t : xF} (h : zY s t) : Box (CellsN s) (yQ s) t.qG := by
  refine ⟨h.2.1, fun p hp => ?_⟩
  have hb := h.bagLen (k := p) (by rw [h.2.1]; exact hp)
  exact ⟨hb.len, fun k hk => hb.get (by rw [hb.len]; exact hk)⟩
theorem firstR_box {s : qR} {t : xF} (hs : Qj s) (ht : zY s t) : ∀ k, k ≤ s.qf.length → Box (CellsN s) (yQ s) (zk s t k)
  | 0, _ => ht.box
  | k + 1, h => by
    have ih := firstR_box hs ht k (by omega)
    by_cases ha : Appl s t k
    · rw [firstR_yes ha]
      have hr := hs.rule (i := k) (by omega)
      have hb := hr.2.2.2.2.1
      have hc := ih.2 _ hr.cell
      refine ⟨by rw [List.length_set]; exact ih.1, fun p hp => ?_⟩
      rw [getset (by rw [ih.1]; exact hr.cell)]
      by_cases e : p = (s.qf[k]!).qw.toNat
      · rw [if_pos e, plusL_len]
        refine ⟨hc.1, fun q hq => ?_⟩
        rw [plus_get (by rw [hc.1]; exact hq)]
        have h1 := timesL_left (l := (s.qf[k]!).qI) (m := (zk s t k)[(s.qf[k]!).qw.toNat]!) (fun j hj => (hb.get hj).1) (fun j hj => (hc.2 j (by rw [← hb.len]; exact hj)).1) (k := q) (by rw [hb.len]; exact hq)
        refine ⟨h1, ?_⟩
        have h2 := Xr (l := (s.qf[k]!).qI) (m := (zk s t k)[(s.qf[k]!).qw.toNat]!) (fun j hj => (hc.2 j (by rw [← hb.len]; exact hj)).1) _ (Nat.le_refl _)
        have h3 := Int.mul_nonneg h2.1 (hb.get (k := q) (by rw [hb.len]; exact hq)).1
        have h4 := (hc.2 q hq).2
        have h5 : -(jq (s.qf[k]!).qI ((zk s t k)[(s.qf[k]!).qw.toNat]!)) * ((s.qf[k]!).qI)[q]! = -(jq (s.qf[k]!).qI ((zk s t k)[(s.qf[k]!).qw.toNat]!) * ((s.qf[k]!).qI)[q]!) := Int.neg_mul ..
        unfold jq at *
        omega
      · rw [if_neg e]; exact ih.2 p hp
    · rw [firstR_no ha]; exact ih
theorem firstR_row {s : qR} {t : xF} (hs : Qj s) (ht : zY s t) {k c : Nat} (hk : k ≤ s.qf.length) (h : c < CellsN s) :
    ((zk s t k)[c]!).length = yQ s ∧ Mid ((zk s t k)[c]!) ∧ ∀ q, q < yQ s → 0 ≤ ((zk s t k)[c]!)[q]! ∧ ((zk s t k)[c]!)[q]! ≤ 1000 := by
  have h1 := (firstR_box hs ht k hk).2 c h
  have := kinds_le hs
  exact ⟨h1.1, ⟨by have := h1.1; omega, fun q hq => by have := h1.2 q (by have := h1.1; omega); omega⟩, h1.2⟩
theorem firstC_bd {s : qR} {t : xF} (hs : Qj s) (ht : zY s t) {k : Nat} (hk : k < s.qf.length) : 0 ≤ firstC s t k ∧ firstC s t k ≤ 1000 := by
  by_cases ha : Appl s t k
  · rw [QQ ha]
    have hr := hs.rule hk
    have hc := firstR_row hs ht (Nat.le_of_lt hk) hr.cell
    exact Xr (fun j hj => (hc.2.2 j (by rw [← hr.2.2.2.2.1.len]; exact hj)).1) _ (Nat.le_refl _)
  · rw [firstC_no ha]; omega
theorem first_cnt {s : qR} {t : xF} (hs : Qj s) (ht : zY s t) : CntOk s (xC s t) := by
  refine ⟨vw _ _ _ _, fun i hi => ?_⟩
  rw [xC, vw] at hi
  rw [xC, QH hi, if_pos hi]
  exact firstC_bd hs ht hi
end Go.Proofs.YtkmlihdacnfhdaaGreat
