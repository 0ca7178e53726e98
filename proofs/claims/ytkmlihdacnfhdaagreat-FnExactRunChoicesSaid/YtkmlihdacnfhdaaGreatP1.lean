/- Plain laws of systems and states of cells. No program here. -/
import Derived.Test.YtkmlihdacnfhdaaGreatT0
namespace Go.Proofs.YtkmlihdacnfhdaaGreat
open Go.Proofs.YtkmlihdacnfhdaaGreat.Tot (tot)

/-- Frames of systems. -/
def FrameTo (s : qX) (k : Nat) : Prop := ∀ c, 1 ≤ c → c < k → 0 ≤ s.qf[c]! ∧ s.qf[c]! ≤ (c : Int) - 1
theorem FrameTo.one (s : qX) : FrameTo s 1 := fun c h1 h2 => by omega
theorem FrameTo.succ {s : qX} {k : Nat} (h : FrameTo s k) (h1 : 0 ≤ s.qf[k]! ∧ s.qf[k]! ≤ (k : Int) - 1) : FrameTo s (k + 1) := fun c hc hk => by
  by_cases e : c = k
  · subst e; exact h1
  · exact h c hc (by omega)
def yE (s : qX) : Prop := (1 ≤ s.qJ ∧ s.qJ ≤ 8) ∧ (1 ≤ s.qf.length ∧ s.qf.length ≤ 6) ∧ s.qf[0]! = -1 ∧ FrameTo s s.qf.length
theorem yE.up {s : qX} (h : yE s) {c : Int} (h0 : 0 < c) (h1 : c ≤ (s.qf.length : Int) - 1) : 0 ≤ s.qf[c.toNat]! ∧ s.qf[c.toNat]! < c := by
  have := h.2.2.2 c.toNat (by omega) (by omega)
  omega
/-- The cell o is one of those that c lies in. -/
inductive Lies (p : List Int) (o : Int) : Int → Prop where
  | here {c : Int} : 0 < c → p[c.toNat]! = o → Lies p o c
  | up {c : Int} : 0 < c → Lies p o (p[c.toNat]!) → Lies p o c
theorem lies_iff {p : List Int} {o c : Int} : Lies p o c ↔ 0 < c ∧ (p[c.toNat]! = o ∨ Lies p o (p[c.toNat]!)) := by
  constructor
  · rintro (⟨h, e⟩ | ⟨h, e⟩)
    · exact ⟨h, .inl e⟩
    · exact ⟨h, .inr e⟩
  · rintro ⟨h, e | e⟩
    · exact .here h e
    · exact .up h e

abbrev CellIn (s : qX) (c : Int) : Prop := 0 ≤ c ∧ c ≤ (s.qf.length : Int) - 1
def IntoOk (s : qX) (r : QG) (j : Nat) : Prop :=
  CellIn s (r.qC[j]!).qy ∧ Lies s.qf r.qy (r.qC[j]!).qy ∧ zW s.qJ (r.qC[j]!).vH ∧ sumL (r.qC[j]!).vH ≠ 0 ∧ (0 < j → (r.qC[j - 1]!).qy < (r.qC[j]!).qy)
def IntosTo (s : qX) (r : QG) (k : Nat) : Prop := ∀ j, j < k → IntoOk s r j
theorem IntosTo.succ {s : qX} {r : QG} {k : Nat} (h : IntosTo s r k) (h1 : IntoOk s r k) : IntosTo s r (k + 1) := fun j hj => by
  by_cases e : j = k
  · subst e; exact h1
  · exact h j (by omega)
def RuleOk (s : qX) (r : QG) : Prop :=
  CellIn s r.qy ∧ (0 ≤ r.zh ∧ r.zh ≤ 9) ∧ ¬ (r.xQ = true ∧ r.qy = 0) ∧ r.qC.length ≤ 3 ∧
    zW s.qJ r.qR ∧ zW s.qJ r.xh ∧ zW s.qJ r.xm ∧ zW s.qJ r.xB ∧ zW s.qJ r.zk ∧ sumL r.qR ≠ 0 ∧ IntosTo s r r.qC.length
/-- How many of the first k rules are of the cell c. -/
def ofCell (rs : List QG) (c : Int) : Nat → Int
  | 0 => 0
  | k + 1 => ofCell rs c k + if (rs[k]!).qy = c then 1 else 0
def RulesTo (s : qX) (k : Nat) : Prop := ∀ j, j < k → RuleOk s (s.qg[j]!) ∧ ofCell s.qg (s.qg[j]!).qy (j + 1) ≤ 8
theorem RulesTo.succ {s : qX} {k : Nat} (h : RulesTo s k) (h1 : RuleOk s (s.qg[k]!)) (h2 : ofCell s.qg (s.qg[k]!).qy (k + 1) ≤ 8) : RulesTo s (k + 1) := fun j hj => by
  by_cases e : j = k
  · subst e; exact ⟨h1, h2⟩
  · exact h j (by omega)
def yI (s : qX) : Prop := yE s ∧ s.qg.length ≤ 16 ∧ RulesTo s s.qg.length
def BagsTo (s : qX) (t : qU) (k : Nat) : Prop := ∀ c, c < k → zW s.qJ (t.qp[c]!) ∧ (t.qh[c]! = false → sumL (t.qp[c]!) ≤ 0)
theorem BagsTo.succ {s : qX} {t : qU} {k : Nat} (h : BagsTo s t k) (h1 : zW s.qJ (t.qp[k]!)) (h2 : t.qh[k]! = false → sumL (t.qp[k]!) ≤ 0) : BagsTo s t (k + 1) := fun j hj => by
  by_cases e : j = k
  · subst e; exact ⟨h1, h2⟩
  · exact h j (by omega)
def zu (s : qX) (t : qU) : Prop :=
  t.qh.length = s.qf.length ∧ t.qp.length = s.qf.length ∧ t.qh[0]! = true ∧ zW s.qJ t.ql ∧ BagsTo s t t.qp.length
theorem yE.step {s : qX} (h : yE s) {c : Int} (h0 : 0 ≤ c) (h1 : c ≤ (s.qf.length : Int) - 1) : -1 ≤ s.qf[c.toNat]! ∧ s.qf[c.toNat]! < c := by
  rcases Int.lt_or_eq_of_le h0 with h2 | h2
  · have := h.up h2 h1; omega
  · subst h2
    have := h.2.2.1
    simp only [Int.toNat_zero]
    omega
/-- The first cell from c upwards that is alive. -/
def climb (p : List Int) (alive : List Bool) : Nat → Int → Int
  | 0, c => c
  | n + 1, c => if 0 ≤ c ∧ alive[c.toNat]! = false then climb p alive n (p[c.toNat]!) else c
theorem climb_go {p : List Int} {alive : List Bool} {n : Nat} {c : Int} (hn : c < n) (h0 : 0 ≤ c) (h : alive[c.toNat]! = false) : climb p alive n c = climb p alive (n - 1) (p[c.toNat]!) := by
  obtain ⟨m, rfl⟩ : ∃ m, n = m + 1 := ⟨n - 1, by omega⟩
  rw [climb, if_pos ⟨h0, h⟩]; rfl
theorem climb_end {p : List Int} {alive : List Bool} {n : Nat} {c : Int} (h : ¬ (0 ≤ c ∧ alive[c.toNat]! = false)) : climb p alive n c = c := by
  cases n with
  | zero => rfl
  | succ m => rw [climb, if_neg h]
def xf (s : qX) (t : qU) (c : Int) : Int := climb s.qf t.qh s.qf.length (s.qf[c.toNat]!)
theorem ofCell_bd (rs : List QG) (c : Int) : ∀ k, 0 ≤ ofCell rs c k ∧ ofCell rs c k ≤ k
  | 0 => by simp [ofCell]
  | k + 1 => by
    have := ofCell_bd rs c k
    simp only [ofCell]
    split <;> omega
def counts (s : qX) (k : Nat) : List Int := (List.range s.qf.length).map fun c : Nat => ofCell s.qg (c : Int) k
theorem counts_len (s : qX) (k : Nat) : (counts s k).length = s.qf.length := by simp [counts]
theorem counts_zero (s : qX) : List.replicate s.qf.length (0 : Int) = counts s 0 := by
  apply List.ext_getElem
  · simp [counts]
  · intro i h1 h2; simp [counts, ofCell]
theorem VA {s : qX} {k : Nat} {c : Int} (h : CellIn s c) : (counts s k)[c.toNat]! = ofCell s.qg c k := by
  rw [getElem!_pos _ _ (by rw [counts_len]; omega)]
  simp only [counts, List.getElem_map, List.getElem_range]
  rw [show ((c.toNat : Nat) : Int) = c by omega]
theorem counts_succ {s : qX} {k : Nat} (h : CellIn s (s.qg[k]!).qy) :
    (counts s k).set (s.qg[k]!).qy.toNat ((counts s k)[(s.qg[k]!).qy.toNat]! + 1) = counts s (k + 1) := by
  rw [VA h]
  apply List.ext_getElem
  · simp [counts]
  · intro i h1 h2
    rw [List.getElem_set]
    simp only [counts, List.getElem_map, List.getElem_range, ofCell]
    by_cases e : (s.qg[k]!).qy.toNat = i
    · subst e
      rw [if_pos rfl, if_pos (by omega), show (((s.qg[k]!).qy.toNat : Nat) : Int) = (s.qg[k]!).qy by omega]
    · rw [if_neg e, if_neg (by omega)]; omega
end Go.Proofs.YtkmlihdacnfhdaaGreat
