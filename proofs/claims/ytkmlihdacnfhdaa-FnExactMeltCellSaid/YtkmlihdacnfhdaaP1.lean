/- Plain laws of systems and states of cells. No program here. -/
import Derived.Test.YtkmlihdacnfhdaaT0
namespace Go.Proofs.Ytkmlihdacnfhdaa
open Go.Proofs.Ytkmlihdacnfhdaa.Tot (tot)

/-- Frames of systems. -/
def FrameTo (s : SystemD) (k : Nat) : Prop := ∀ c, 1 ≤ c → c < k → 0 ≤ s.fParents[c]! ∧ s.fParents[c]! ≤ (c : Int) - 1
theorem FrameTo.one (s : SystemD) : FrameTo s 1 := fun c h1 h2 => by omega
theorem FrameTo.succ {s : SystemD} {k : Nat} (h : FrameTo s k) (h1 : 0 ≤ s.fParents[k]! ∧ s.fParents[k]! ≤ (k : Int) - 1) : FrameTo s (k + 1) := fun c hc hk => by
  by_cases e : c = k
  · subst e; exact h1
  · exact h c hc (by omega)
def FrameOk (s : SystemD) : Prop := (1 ≤ s.fKinds ∧ s.fKinds ≤ 8) ∧ (1 ≤ s.fParents.length ∧ s.fParents.length ≤ 6) ∧ s.fParents[0]! = -1 ∧ FrameTo s s.fParents.length
theorem FrameOk.up {s : SystemD} (h : FrameOk s) {c : Int} (h0 : 0 < c) (h1 : c ≤ (s.fParents.length : Int) - 1) : 0 ≤ s.fParents[c.toNat]! ∧ s.fParents[c.toNat]! < c := by
  have := h.2.2.2 c.toNat (by omega) (by omega)
  omega
/-- The cell o is one of those that c lies in. -/
inductive Lies (p : List Int) (o : Int) : Int → Prop where
  | here {c : Int} : 0 < c → p[c.toNat]! = o → Lies p o c
  | up {c : Int} : 0 < c → Lies p o (p[c.toNat]!) → Lies p o c
theorem lies_iff {p : List Int} {o c : Int} : Lies p o c ↔ 0 < c ∧ (p[c.toNat]! = o ∨ Lies p o (p[c.toNat]!)) := by
  constructor
  · rintro (⟨h, e⟩ | ⟨h, e⟩)
    · exact ⟨h, .inl e⟩
    · exact ⟨h, .inr e⟩
  · rintro ⟨h, e | e⟩
    · exact .here h e
    · exact .up h e

abbrev CellIn (s : SystemD) (c : Int) : Prop := 0 ≤ c ∧ c ≤ (s.fParents.length : Int) - 1
def IntoOk (s : SystemD) (r : RuleD) (j : Nat) : Prop :=
  CellIn s (r.fInto[j]!).fCell ∧ Lies s.fParents r.fCell (r.fInto[j]!).fCell ∧ BagOk s.fKinds (r.fInto[j]!).fBag ∧ sumL (r.fInto[j]!).fBag ≠ 0 ∧ (0 < j → (r.fInto[j - 1]!).fCell < (r.fInto[j]!).fCell)
def IntosTo (s : SystemD) (r : RuleD) (k : Nat) : Prop := ∀ j, j < k → IntoOk s r j
theorem IntosTo.succ {s : SystemD} {r : RuleD} {k : Nat} (h : IntosTo s r k) (h1 : IntoOk s r k) : IntosTo s r (k + 1) := fun j hj => by
  by_cases e : j = k
  · subst e; exact h1
  · exact h j (by omega)
def RuleOk (s : SystemD) (r : RuleD) : Prop :=
  CellIn s r.fCell ∧ (0 ≤ r.fRank ∧ r.fRank ≤ 9) ∧ ¬ (r.fMelts = true ∧ r.fCell = 0) ∧ r.fInto.length ≤ 3 ∧
    BagOk s.fKinds r.fNeed ∧ BagOk s.fKinds r.fHave ∧ BagOk s.fKinds r.fLack ∧ BagOk s.fKinds r.fHere ∧ BagOk s.fKinds r.fOut ∧ sumL r.fNeed ≠ 0 ∧ IntosTo s r r.fInto.length
/-- How many of the first k rules are of the cell c. -/
def ofCell (rs : List RuleD) (c : Int) : Nat → Int
  | 0 => 0
  | k + 1 => ofCell rs c k + if (rs[k]!).fCell = c then 1 else 0
def RulesTo (s : SystemD) (k : Nat) : Prop := ∀ j, j < k → RuleOk s (s.fRules[j]!) ∧ ofCell s.fRules (s.fRules[j]!).fCell (j + 1) ≤ 8
theorem RulesTo.succ {s : SystemD} {k : Nat} (h : RulesTo s k) (h1 : RuleOk s (s.fRules[k]!)) (h2 : ofCell s.fRules (s.fRules[k]!).fCell (k + 1) ≤ 8) : RulesTo s (k + 1) := fun j hj => by
  by_cases e : j = k
  · subst e; exact ⟨h1, h2⟩
  · exact h j (by omega)
def SysOk (s : SystemD) : Prop := FrameOk s ∧ s.fRules.length ≤ 16 ∧ RulesTo s s.fRules.length
def BagsTo (s : SystemD) (t : StateD) (k : Nat) : Prop := ∀ c, c < k → BagOk s.fKinds (t.fBags[c]!) ∧ (t.fAlive[c]! = false → sumL (t.fBags[c]!) ≤ 0)
theorem BagsTo.succ {s : SystemD} {t : StateD} {k : Nat} (h : BagsTo s t k) (h1 : BagOk s.fKinds (t.fBags[k]!)) (h2 : t.fAlive[k]! = false → sumL (t.fBags[k]!) ≤ 0) : BagsTo s t (k + 1) := fun j hj => by
  by_cases e : j = k
  · subst e; exact ⟨h1, h2⟩
  · exact h j (by omega)
def StateOk (s : SystemD) (t : StateD) : Prop :=
  t.fAlive.length = s.fParents.length ∧ t.fBags.length = s.fParents.length ∧ t.fAlive[0]! = true ∧ BagOk s.fKinds t.fAround ∧ BagsTo s t t.fBags.length
theorem FrameOk.step {s : SystemD} (h : FrameOk s) {c : Int} (h0 : 0 ≤ c) (h1 : c ≤ (s.fParents.length : Int) - 1) : -1 ≤ s.fParents[c.toNat]! ∧ s.fParents[c.toNat]! < c := by
  rcases Int.lt_or_eq_of_le h0 with h2 | h2
  · have := h.up h2 h1; omega
  · subst h2
    have := h.2.2.1
    simp only [Int.toNat_zero]
    omega
/-- The first cell from c upwards that is alive. -/
def climb (p : List Int) (alive : List Bool) : Nat → Int → Int
  | 0, c => c
  | n + 1, c => if 0 ≤ c ∧ alive[c.toNat]! = false then climb p alive n (p[c.toNat]!) else c
theorem climb_go {p : List Int} {alive : List Bool} {n : Nat} {c : Int} (hn : c < n) (h0 : 0 ≤ c) (h : alive[c.toNat]! = false) : climb p alive n c = climb p alive (n - 1) (p[c.toNat]!) := by
  obtain ⟨m, rfl⟩ : ∃ m, n = m + 1 := ⟨n - 1, by omega⟩
  rw [climb, if_pos ⟨h0, h⟩]; rfl
theorem climb_end {p : List Int} {alive : List Bool} {n : Nat} {c : Int} (h : ¬ (0 ≤ c ∧ alive[c.toNat]! = false)) : climb p alive n c = c := by
  cases n with
  | zero => rfl
  | succ m => rw [climb, if_neg h]
def parentNow (s : SystemD) (t : StateD) (c : Int) : Int := climb s.fParents t.fAlive s.fParents.length (s.fParents[c.toNat]!)
theorem ofCell_bd (rs : List RuleD) (c : Int) : ∀ k, 0 ≤ ofCell rs c k ∧ ofCell rs c k ≤ k
  | 0 => by simp [ofCell]
  | k + 1 => by
    have := ofCell_bd rs c k
    simp only [ofCell]
    split <;> omega
def counts (s : SystemD) (k : Nat) : List Int := (List.range s.fParents.length).map fun c : Nat => ofCell s.fRules (c : Int) k
theorem counts_len (s : SystemD) (k : Nat) : (counts s k).length = s.fParents.length := by simp [counts]
theorem counts_zero (s : SystemD) : List.replicate s.fParents.length (0 : Int) = counts s 0 := by
  apply List.ext_getElem
  · simp [counts]
  · intro i h1 h2; simp [counts, ofCell]
theorem counts_get {s : SystemD} {k : Nat} {c : Int} (h : CellIn s c) : (counts s k)[c.toNat]! = ofCell s.fRules c k := by
  rw [getElem!_pos _ _ (by rw [counts_len]; omega)]
  simp only [counts, List.getElem_map, List.getElem_range]
  rw [show ((c.toNat : Nat) : Int) = c by omega]
theorem counts_succ {s : SystemD} {k : Nat} (h : CellIn s (s.fRules[k]!).fCell) :
    (counts s k).set (s.fRules[k]!).fCell.toNat ((counts s k)[(s.fRules[k]!).fCell.toNat]! + 1) = counts s (k + 1) := by
  rw [counts_get h]
  apply List.ext_getElem
  · simp [counts]
  · intro i h1 h2
    rw [List.getElem_set]
    simp only [counts, List.getElem_map, List.getElem_range, ofCell]
    by_cases e : (s.fRules[k]!).fCell.toNat = i
    · subst e
      rw [if_pos rfl, if_pos (by omega), show (((s.fRules[k]!).fCell.toNat : Nat) : Int) = (s.fRules[k]!).fCell by omega]
    · rw [if_neg e, if_neg (by omega)]; omega
open Classical in
/-- The code of a system, a state and a cell that has to be alive. -/
noncomputable def cellCodeOf (s : SystemD) (t : StateD) (c : Int) : Int :=
  if ¬ (SysOk s ∧ StateOk s t) then 1 else if ¬ CellIn s c then 2 else if t.fAlive[c.toNat]! = false then 4 else 0
theorem code_1 {s : SystemD} {t : StateD} {c : Int} (h : ¬ (SysOk s ∧ StateOk s t)) : cellCodeOf s t c = 1 := by rw [cellCodeOf, if_pos h]
theorem code_2 {s : SystemD} {t : StateD} {c : Int} (h : SysOk s) (h' : StateOk s t) (h2 : ¬ CellIn s c) : cellCodeOf s t c = 2 := by rw [cellCodeOf, if_neg (by simp [h, h']), if_pos h2]
theorem code_4 {s : SystemD} {t : StateD} {c : Int} (h : SysOk s) (h' : StateOk s t) (h2 : CellIn s c) (h3 : t.fAlive[c.toNat]! = false) : cellCodeOf s t c = 4 := by
  rw [cellCodeOf, if_neg (by simp [h, h']), if_neg (by simpa using h2), if_pos h3]
theorem code_0 {s : SystemD} {t : StateD} {c : Int} (h : SysOk s) (h' : StateOk s t) (h2 : CellIn s c) (h3 : ¬ t.fAlive[c.toNat]! = false) : cellCodeOf s t c = 0 := by
  rw [cellCodeOf, if_neg (by simp [h, h']), if_neg (by simpa using h2), if_neg h3]
theorem code_ok {s : SystemD} {t : StateD} {c : Int} (h : cellCodeOf s t c = 0) : SysOk s ∧ StateOk s t ∧ CellIn s c ∧ t.fAlive[c.toNat]! = true := by
  by_cases h1 : SysOk s ∧ StateOk s t
  · by_cases h2 : CellIn s c
    · by_cases h3 : t.fAlive[c.toNat]! = false
      · rw [code_4 h1.1 h1.2 h2 h3] at h; omega
      · exact ⟨h1.1, h1.2, h2, by simpa using h3⟩
    · rw [code_2 h1.1 h1.2 h2] at h; omega
  · rw [code_1 h1] at h; omega
end Go.Proofs.Ytkmlihdacnfhdaa
