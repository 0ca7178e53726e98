/- Plain laws of steps, part two: choices, first choices, states behind steps. No program here. -/
import Derived.Test.YtkmlihdacnfhdaaGreatP4
namespace Go.Proofs.YtkmlihdacnfhdaaGreat
open Go.Proofs.YtkmlihdacnfhdaaGreat.Tot (tot)

theorem yI.rule {s : qX} (h : yI s) {i : Nat} (hi : i < s.qg.length) : RuleOk s (s.qg[i]!) := (h.2.2 i hi).1
theorem RuleOk.cell {s : qX} {r : QG} (h : RuleOk s r) : r.qy.toNat < jr s := by have := h.1.1; have := h.1.2; unfold jr; omega
theorem zW.len {s : qX} {l : List Int} (h : zW s.qJ l) : l.length = QI s := by have := h.2; unfold QI; omega
theorem zW.get {n : Int} {l : List Int} (h : zW n l) {k : Nat} (hk : k < l.length) : 0 ≤ l[k]! ∧ l[k]! ≤ 1000 := h.1.1 k hk
theorem zW.mul {s : qX} {m : List Int} (h : zW s.qJ m) {t : Int} (ht : -1000 ≤ t ∧ t ≤ 1000) : ∀ k, k < QI s → -1000000 ≤ t * m[k]! ∧ t * m[k]! ≤ 1000000 := fun k hk => by
  have h1 := h.1.1 k (by rw [h.len]; exact hk)
  rcases Int.le_total 0 t with h0 | h0
  · have h2 := Int.mul_nonneg h0 h1.1
    have h3 := Int.mul_le_mul_of_nonneg_left h1.2 h0
    omega
  · have h2 := Int.mul_nonneg (show 0 ≤ -t by omega) h1.1
    have h3 := Int.mul_le_mul_of_nonneg_left h1.2 (show 0 ≤ -t by omega)
    have h4 : -t * m[k]! = -(t * m[k]!) := Int.neg_mul ..
    omega
theorem zW.yK {s : qX} {m : List Int} (h : zW s.qJ m) {t : Int} (ht : -1000 ≤ t ∧ t ≤ 1000) : SmallT m t := bagOk_smallT h (by omega)
theorem kinds_le {s : qX} (h : yI s) : QI s ≤ 8 := by have := h.1.1.2; unfold QI; omega
theorem zu.shape {s : qX} {t : qU} (h : zu s t) : Shape (jr s) (QI s) 1000 t.qp := by
  refine ⟨h.2.1, fun p hp => ?_⟩
  have hb := h.bagLen (k := p) (by rw [h.2.1]; exact hp)
  refine ⟨hb.len, fun k hk => ?_⟩
  have := hb.get (k := k) (by rw [hb.len]; exact hk)
  omega
def CntOk (s : qX) (counts : List Int) : Prop := counts.length = s.qg.length ∧ ∀ i, i < counts.length → 0 ≤ counts[i]! ∧ counts[i]! ≤ 1000
theorem CntOk.bd {s : qX} {counts : List Int} (h : CntOk s counts) {i : Nat} (hi : i < s.qg.length) : 0 ≤ counts[i]! ∧ counts[i]! ≤ 1000 := h.2 i (by rw [h.1]; exact hi)

/-! ### What a choice leaves -/
def zi (s : qX) (t : qU) (counts : List Int) : Nat → List (List Int)
  | 0 => t.qp
  | k + 1 => (zi s t counts k).set (s.qg[k]!).qy.toNat (yM ((zi s t counts k)[(s.qg[k]!).qy.toNat]!) (s.qg[k]!).qR (-(counts[k]!)))
def needF (s : qX) (counts : List Int) (i p k : Nat) : Int := at' p (s.qg[i]!).qy.toNat (-(counts[i]!) * ((s.qg[i]!).qR)[k]!)
def needS (s : qX) (counts : List Int) : Nat → Nat → Nat → Int
  | 0, _, _ => 0
  | i + 1, p, k => needS s counts i p k + needF s counts i p k
theorem restR_ent {s : qX} {t : qU} {counts : List Int} (hs : yI s) (ht : zu s t) (hc : CntOk s counts) : ∀ k, k ≤ s.qg.length →
    Ent (jr s) (QI s) (fun p q => (t.qp[p]!)[q]! + needS s counts k p q) (1000 + 1000000 * k) (zi s t counts k)
  | 0, _ => ⟨by simpa [zi] using ht.shape, fun p k hp hk => by simp [zi, needS]⟩
  | k + 1, h => by
    have hr := hs.rule (i := k) (by omega)
    have hcb := hc.bd (i := k) (by omega)
    refine ((restR_ent hs ht hc k (by omega)).add (D := 1000000) rfl hr.cell (hr.2.2.2.2.1.mul (by omega)) (by omega)).to (fun p q => ?_) (by omega)
    show _ = _ + (needS s counts k p q + needF s counts k p q)
    unfold needF; omega
theorem restR_row {s : qX} {t : qU} {counts : List Int} (hs : yI s) (ht : zu s t) (hc : CntOk s counts) {k c : Nat} (hk : k ≤ s.qg.length) (h : c < jr s) :
    ((zi s t counts k)[c]!).length = QI s ∧ Mid ((zi s t counts k)[c]!) := (restR_ent hs ht hc k hk).sh.row (by have := hs.2.1; omega) (kinds_le hs) h
theorem restR_len {s : qX} {t : qU} {counts : List Int} : ∀ k, (zi s t counts k).length = t.qp.length
  | 0 => rfl
  | k + 1 => by rw [zi, List.length_set]; exact restR_len k
theorem restR_skip {s : qX} {t : qU} {counts : List Int} (hs : yI s) (ht : zu s t) {k : Nat} (hk : k < s.qg.length) (h : counts[k]! = 0) : zi s t counts (k + 1) = zi s t counts k := by
  rw [zi, plus_zero (by omega)]
  exact set_self (by rw [restR_len, ht.2.1]; exact (hs.rule hk).cell) rfl
open Classical in
/-- The first of n places of which something is so, or n. -/
noncomputable def vV (P : Nat → Prop) : Nat → Nat
  | 0 => 0
  | n + 1 => if vV P n < n then vV P n else if P n then n else n + 1
theorem stop_none {P : Nat → Prop} : ∀ {n : Nat}, (∀ j, j < n → ¬ P j) → vV P n = n
  | 0, _ => rfl
  | n + 1, h => by rw [vV, stop_none (n := n) (fun j hj => h j (by omega)), if_neg (by omega), if_neg (h n (by omega))]
theorem stop_first {P : Nat → Prop} : ∀ {n k : Nat}, (∀ j, j < k → ¬ P j) → k < n → P k → vV P n = k
  | n + 1, k, h, hk, hp => by
    rw [vV]
    by_cases e : k = n
    · subst e; rw [stop_none h, if_neg (by omega), if_pos hp]
    · rw [stop_first (n := n) h (by omega) hp, if_pos (by omega)]
def yJ (s : qX) (t : qU) (counts : List Int) (i : Nat) : Prop := 0 < counts[i]! ∧ ¬ Appl s t i
def GoodTo (s : qX) (t : qU) (counts : List Int) (k : Nat) : Prop := ∀ i, i < k → ¬ yJ s t counts i
theorem GoodTo.succ {s : qX} {t : qU} {counts : List Int} {k : Nat} (h : GoodTo s t counts k) (h1 : ¬ yJ s t counts k) : GoodTo s t counts (k + 1) := fun j hj => by
  by_cases e : j = k
  · subst e; exact h1
  · exact h j (by omega)
def NonNeg (b : List (List Int)) (n : Nat) : Prop := ∀ p, p < n → ∀ k, k < (b[p]!).length → 0 ≤ (b[p]!)[k]!
theorem NonNeg.succ {b : List (List Int)} {n : Nat} (h : NonNeg b n) (h1 : ∀ k, k < (b[n]!).length → 0 ≤ (b[n]!)[k]!) : NonNeg b (n + 1) := fun j hj => by
  by_cases e : j = n
  · subst e; exact h1
  · exact h j (by omega)
/-- Counts are a choice. -/
def IsCh (s : qX) (t : qU) (counts : List Int) : Prop := GoodTo s t counts counts.length ∧ NonNeg (zi s t counts counts.length) t.qp.length
/-- A choice is maximal. -/
def Xy (s : qX) (t : qU) (counts : List Int) : Prop := IsCh s t counts ∧ ∀ i, i < s.qg.length → Appl s t i → within (s.qg[i]!).qR ((zi s t counts counts.length)[(s.qg[i]!).qy.toNat]!) = false

/-! ### First choices -/
def timesTo (l m : List Int) : Nat → Int
  | 0 => 1000
  | k + 1 => if 0 < l[k]! then min (timesTo l m k) (m[k]! / l[k]!) else timesTo l m k
theorem timesTo_pos {l m : List Int} {k : Nat} (h : 0 < l[k]!) : timesTo l m (k + 1) = min (timesTo l m k) (m[k]! / l[k]!) := by rw [timesTo, if_pos h]
/-- What the reference has found so far. -/
def TimesInv (l m : List Int) (i : Nat) (best : Int) : Prop := (best = timesTo l m i ∧ ∃ j, j < i ∧ 0 < l[j]!) ∨ (best = -1 ∧ timesTo l m i = 1000 ∧ ∀ j, j < i → l[j]! ≤ 0)
theorem TimesInv.zero (l m : List Int) : TimesInv l m 0 (-1) := .inr ⟨rfl, rfl, fun j hj => by omega⟩
theorem TimesInv.take {l m : List Int} {i : Nat} {best : Int} (h : TimesInv l m i best) (hm : 0 ≤ m[i]! ∧ m[i]! ≤ 1000) (hl : 0 < l[i]!) (hb : best < 0 ∨ m[i]! / l[i]! < best) (hn : 0 ≤ timesTo l m i) : TimesInv l m (i + 1) (m[i]! / l[i]!) := by
  refine .inl ⟨?_, i, by omega, hl⟩
  rw [timesTo_pos hl]
  have h1 : m[i]! / l[i]! ≤ m[i]! := Int.ediv_le_self _ hm.1
  rcases h with ⟨h, _⟩ | ⟨h, h2, _⟩ <;> omega
theorem TimesInv.done {l m : List Int} {i : Nat} {best : Int} (h : TimesInv l m i best) (hp : ∃ j, j < i ∧ 0 < l[j]!) : best = timesTo l m i := by
  rcases h with ⟨h, _⟩ | ⟨_, _, h3⟩
  · exact h
  · obtain ⟨j, h1, h2⟩ := hp
    have := h3 j h1; omega
/-- Bags that are right in number and length. -/
def Box (n K : Nat) (b : List (List Int)) : Prop := b.length = n ∧ ∀ p, p < n → (b[p]!).length = K ∧ ∀ k, k < K → 0 ≤ (b[p]!)[k]! ∧ (b[p]!)[k]! ≤ 1000
theorem zu.box {s : qX} {t : qU} (h : zu s t) : Box (jr s) (QI s) t.qp := by
  refine ⟨h.2.1, fun p hp => ?_⟩
  have hb := h.bagLen (k := p) (by rw [h.2.1]; exact hp)
  exact ⟨hb.len, fun k hk => hb.get (by rw [hb.len]; exact hk)⟩
end Go.Proofs.YtkmlihdacnfhdaaGreat
