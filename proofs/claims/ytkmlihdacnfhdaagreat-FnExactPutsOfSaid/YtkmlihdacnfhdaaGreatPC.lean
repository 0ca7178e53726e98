/- Plain laws of what the rules of a cell put. No program here. -/
import Derived.Test.YtkmlihdacnfhdaaGreatP9
namespace Go.Proofs.YtkmlihdacnfhdaaGreat
open Go.Proofs.YtkmlihdacnfhdaaGreat.Tot (tot)
open Go.Proofs.YtkmlihdacnfhdaaGreat.Mark (cnt mrk mkd mkd_mark cnt_mark)

def StillTo (s : qR) (k : Nat) : Prop := ∀ i, i < k → (s.qf[i]!).xG = false
theorem StillTo.succ {s : qR} {k : Nat} (h : StillTo s k) (h1 : (s.qf[k]!).xG = false) : StillTo s (k + 1) := fun j hj => by
  by_cases e : j = k
  · subst e; exact h1
  · exact h j (by omega)
abbrev Still (s : qR) : Prop := StillTo s s.qf.length
def WholeTo (t : xF) (k : Nat) : Prop := ∀ c, c < k → t.qy[c]! = true
theorem WholeTo.succ {t : xF} {k : Nat} (h : WholeTo t k) (h1 : t.qy[k]! = true) : WholeTo t (k + 1) := fun j hj => by
  by_cases e : j = k
  · subst e; exact h1
  · exact h j (by omega)
abbrev Whole (t : xF) : Prop := WholeTo t t.qy.length
theorem whole_any {t : xF} : anyTo (fun k => false == t.qy[k]!) t.qy.length = dec (¬ Whole t) := by
  refine dec_eq ?_
  rw [anyTo_iff]
  constructor
  · rintro ⟨k, hk, h⟩ hw
    rw [hw k hk] at h; cases h
  · intro h
    apply Classical.byContradiction
    intro hn
    refine h fun c hc => ?_
    cases hx : t.qy[c]! with
    | true => rfl
    | false => exact absurd ⟨c, hc, by rw [hx]; rfl⟩ hn
theorem whole_parent {s : qR} {t : xF} (hw : Whole t) (hs : vZ s) (hl : t.qy.length = s.qg.length) {c : Int} (h0 : 0 < c) (h1 : c ≤ (s.qg.length : Int) - 1) : xK s t c = s.qg[c.toNat]! := by
  have hu := hs.up h0 h1
  unfold xK
  refine climb_end fun h => ?_
  have := hw (s.qg[c.toNat]!).toNat (by omega)
  rw [this] at h; cases h.2
def putsOf (s : qR) (t : xF) (counts : List Int) (cell : Int) : Nat → Nat → Nat → Int
  | 0, _, _ => 0
  | i + 1, p, q => putsOf s t counts cell i p q + if (s.qf[i]!).qw = cell then putF s t (s.qf[i]!) (counts[i]!) p q else 0
theorem puts_yes {s : qR} {t : xF} {counts : List Int} {cell : Int} {i : Nat} (h : (s.qf[i]!).qw = cell) (p q : Nat) : putsOf s t counts cell (i + 1) p q = putsOf s t counts cell i p q + putF s t (s.qf[i]!) (counts[i]!) p q := by rw [putsOf, if_pos h]
theorem puts_no {s : qR} {t : xF} {counts : List Int} {cell : Int} {i : Nat} (h : (s.qf[i]!).qw ≠ cell) (p q : Nat) : putsOf s t counts cell (i + 1) p q = putsOf s t counts cell i p q := by rw [putsOf, if_neg h]; omega
theorem puts_zero {s : qR} {t : xF} {counts : List Int} {cell : Int} {i : Nat} (h : counts[i]! = 0) (p q : Nat) : putsOf s t counts cell (i + 1) p q = putsOf s t counts cell i p q := by
  rw [putsOf]
  split
  · rw [putF_zero s t _ h]; omega
  · omega
def xW (s : qR) (k : Nat) : List (List Int) := List.replicate k (List.replicate s.qF.toNat 0)
theorem zeros_snoc (s : qR) (k : Nat) : xW s k ++ [List.replicate s.qF.toNat 0] = xW s (k + 1) := by
  unfold xW; rw [← List.replicate_succ']
theorem zeros_len (s : qR) (k : Nat) : (xW s k).length = k := by simp [xW]
theorem zeros_ent {s : qR} {n : Nat} {B : Int} (hB : 0 ≤ B) : Ent n (yQ s) (fun _ _ => 0) B (xW s n) := by
  have hr : ∀ p, p < n → (xW s n)[p]! = List.replicate s.qF.toNat 0 := fun p hp => by
    rw [getElem!_pos (xW s n) p (by rw [zeros_len]; exact hp)]; simp [xW]
  have hz : ∀ k, k < yQ s → (List.replicate s.qF.toNat (0 : Int))[k]! = 0 := fun k hk => by
    rw [getElem!_pos (List.replicate s.qF.toNat (0 : Int)) k (by simpa [yQ] using hk)]; simp
  refine ⟨⟨zeros_len _ _, fun p hp => ?_⟩, fun p k hp hk => ?_⟩
  · rw [hr p hp]
    refine ⟨by simp [yQ], fun k hk => ?_⟩
    rw [hz k hk]; omega
  · rw [hr p hp, hz k hk]
def TookOk (s : qR) (l : List Int) (i : Nat) : Prop := l.length = yQ s ∧ ∀ q, q < yQ s → -(1000000 * (i : Int)) ≤ l[q]! ∧ l[q]! ≤ 1000000 * (i : Int)
theorem TookOk.zero (s : qR) : TookOk s (List.replicate s.qF.toNat 0) 0 := by
  refine ⟨by simp [yQ], fun k hk => ?_⟩
  rw [getElem!_pos (List.replicate s.qF.toNat (0 : Int)) k (by simpa [yQ] using hk)]; simp
theorem TookOk.keep {s : qR} {l : List Int} {i : Nat} (h : TookOk s l i) : TookOk s l (i + 1) := ⟨h.1, fun q hq => by have := h.2 q hq; omega⟩
theorem TookOk.plus {s : qR} {l m : List Int} {i : Nat} {n : Int} (h : TookOk s l i) (hm : zi s.qF m) (hn : -1000 ≤ n ∧ n ≤ 1000) : TookOk s (yc l m n) (i + 1) := by
  refine ⟨by rw [plusL_len]; exact h.1, fun q hq => ?_⟩
  rw [plus_get (by rw [h.1]; exact hq)]
  have := h.2 q hq
  have := hm.mul hn q hq
  omega
theorem TookOk.mid {s : qR} {l : List Int} {i : Nat} (h : TookOk s l i) (hi : i ≤ 16) (hk : yQ s ≤ 8) : l.length = yQ s ∧ Mid l := by
  refine ⟨h.1, by have := h.1; omega, fun q hq => ?_⟩
  have := h.2 q (by have := h.1; omega)
  omega
def QL (b : List (List Int)) (k : Nat) : Prop := ∀ j, j < k → BagAny (b[j]!)
theorem QL.succ {b : List (List Int)} {k : Nat} (h : QL b k) (h1 : BagAny (b[k]!)) : QL b (k + 1) := fun j hj => by
  by_cases e : j = k
  · subst e; exact h1
  · exact h j (by omega)
theorem bagAny_ok {l : List Int} : zi (l.length : Int) l ↔ BagAny l := ⟨fun h => h.1, fun h => ⟨h, rfl⟩⟩
def putsL (s : qR) (t : xF) (counts : List Int) (cell : Int) : List (List Int) := tab2 (CellsN s + 1) (yQ s) (putsOf s t counts cell s.qf.length)
open Classical in
noncomputable def xq (s : qR) (t : xF) (cell : Int) : List (List Int) × Int :=
  if ¬ (Qj s ∧ Still s ∧ zY s t ∧ Whole t) then ([], 1) else if ¬ CellIn s cell then ([], 2) else if QL (putsL s t (xC s t) cell) (putsL s t (xC s t) cell).length then (putsL s t (xC s t) cell, 0) else ([], 3)
theorem puts_1 {s : qR} {t : xF} {cell : Int} (h : ¬ (Qj s ∧ Still s ∧ zY s t ∧ Whole t)) : xq s t cell = ([], 1) := by rw [xq, if_pos h]
theorem puts_2 {s : qR} {t : xF} {cell : Int} (h : Qj s ∧ Still s ∧ zY s t ∧ Whole t) (h1 : ¬ CellIn s cell) : xq s t cell = ([], 2) := by rw [xq, if_neg (by simpa using h), if_pos h1]
theorem puts_0 {s : qR} {t : xF} {cell : Int} {b : List (List Int)} (h : Qj s ∧ Still s ∧ zY s t ∧ Whole t) (h1 : CellIn s cell) (e : b = putsL s t (xC s t) cell) (h2 : QL b b.length) : xq s t cell = (b, 0) := by
  subst e; rw [xq, if_neg (fun x => x h), if_neg (fun x => x h1), if_pos h2]
theorem puts_3 {s : qR} {t : xF} {cell : Int} {b : List (List Int)} (h : Qj s ∧ Still s ∧ zY s t ∧ Whole t) (h1 : CellIn s cell) (e : b = putsL s t (xC s t) cell) (h2 : ¬ QL b b.length) : xq s t cell = ([], 3) := by
  subst e; rw [xq, if_neg (fun x => x h), if_neg (fun x => x h1), if_neg h2]
theorem few_puts (s : qR) (t : xF) (cell : Int) : cnt (xq s t cell).1 ≤ 56 := by
  by_cases h : Qj s ∧ Still s ∧ zY s t ∧ Whole t
  · by_cases h1 : CellIn s cell
    · by_cases h2 : QL (putsL s t (xC s t) cell) (putsL s t (xC s t) cell).length
      · rw [puts_0 h h1 rfl h2]
        show cnt (putsL s t (xC s t) cell) ≤ 56
        have hl : (putsL s t (xC s t) cell).length = CellsN s + 1 := tab2_len _ _ _
        have hc := h.1.1.2.1.2
        have hk := kinds_le h.1
        have := cntTo_one (putsL s t (xC s t) cell) 8 (fun k hk' => by
          rw [cnt_ints]
          unfold putsL
          rw [tab2_row (by omega)]
          simpa using hk) _ (Nat.le_refl _)
        rw [cnt_list]
        have : CellsN s = s.qg.length := rfl
        omega
      · rw [puts_3 h h1 rfl h2]; exact Nat.zero_le _
    · rw [puts_2 h h1]; exact Nat.zero_le _
  · rw [puts_1 h]; exact Nat.zero_le _
end Go.Proofs.YtkmlihdacnfhdaaGreat
