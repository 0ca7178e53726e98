/- Plain laws of systems and states of cells. No program here. -/
import Derived.Test.YtkmlihdacnfhdaaGreatT0
namespace Go.Proofs.YtkmlihdacnfhdaaGreat
open Go.Proofs.YtkmlihdacnfhdaaGreat.Tot (tot)

/-- Frames of systems. -/
def FrameTo (s : qR) (k : Nat) : Prop := ∀ c, 1 ≤ c → c < k → 0 ≤ s.qg[c]! ∧ s.qg[c]! ≤ (c : Int) - 1
theorem FrameTo.one (s : qR) : FrameTo s 1 := fun c h1 h2 => by omega
theorem FrameTo.succ {s : qR} {k : Nat} (h : FrameTo s k) (h1 : 0 ≤ s.qg[k]! ∧ s.qg[k]! ≤ (k : Int) - 1) : FrameTo s (k + 1) := fun c hc hk => by
  by_cases e : c = k
  · subst e; exact h1
  · exact h c hc (by omega)
def vZ (s : qR) : Prop := (1 ≤ s.qF ∧ s.qF ≤ 8) ∧ (1 ≤ s.qg.length ∧ s.qg.length ≤ 6) ∧ s.qg[0]! = -1 ∧ FrameTo s s.qg.length
theorem vZ.up {s : qR} (h : vZ s) {c : Int} (h0 : 0 < c) (h1 : c ≤ (s.qg.length : Int) - 1) : 0 ≤ s.qg[c.toNat]! ∧ s.qg[c.toNat]! < c := by
  have := h.2.2.2 c.toNat (by omega) (by omega)
  omega
/-- The cell o is one of those that c lies in. -/
inductive Lies (p : List Int) (o : Int) : Int → Prop where
  | here {c : Int} : 0 < c → p[c.toNat]! = o → Lies p o c
  | up {c : Int} : 0 < c → Lies p o (p[c.toNat]!) → Lies p o c
theorem lies_iff {p : List Int} {o c : Int} : Lies p o c ↔ 0 < c ∧ (p[c.toNat]! = o ∨ Lies p o (p[c.toNat]!)) := by
  constructor
  · rintro (⟨h, e⟩ | ⟨h, e⟩)
    · exact ⟨h, .inl e⟩
    · exact ⟨h, .inr e⟩
  · rintro ⟨h, e | e⟩
    · exact .here h e
    · exact .up h e

abbrev CellIn (s : qR) (c : Int) : Prop := 0 ≤ c ∧ c ≤ (s.qg.length : Int) - 1
def IntoOk (s : qR) (r : yB) (j : Nat) : Prop :=
  CellIn s (r.qx[j]!).qw ∧ Lies s.qg r.qw (r.qx[j]!).qw ∧ zi s.qF (r.qx[j]!).zF ∧ sumL (r.qx[j]!).zF ≠ 0 ∧ (0 < j → (r.qx[j - 1]!).qw < (r.qx[j]!).qw)
def IntosTo (s : qR) (r : yB) (k : Nat) : Prop := ∀ j, j < k → IntoOk s r j
theorem IntosTo.succ {s : qR} {r : yB} {k : Nat} (h : IntosTo s r k) (h1 : IntoOk s r k) : IntosTo s r (k + 1) := fun j hj => by
  by_cases e : j = k
  · subst e; exact h1
  · exact h j (by omega)
def RuleOk (s : qR) (r : yB) : Prop :=
  CellIn s r.qw ∧ (0 ≤ r.xM ∧ r.xM ≤ 9) ∧ ¬ (r.xG = true ∧ r.qw = 0) ∧ r.qx.length ≤ 3 ∧
    zi s.qF r.qI ∧ zi s.qF r.qW ∧ zi s.qF r.qX ∧ zi s.qF r.xe ∧ zi s.qF r.xO ∧ sumL r.qI ≠ 0 ∧ IntosTo s r r.qx.length
/-- How many of the first k rules are of the cell c. -/
def ofCell (rs : List yB) (c : Int) : Nat → Int
  | 0 => 0
  | k + 1 => ofCell rs c k + if (rs[k]!).qw = c then 1 else 0
def RulesTo (s : qR) (k : Nat) : Prop := ∀ j, j < k → RuleOk s (s.qf[j]!) ∧ ofCell s.qf (s.qf[j]!).qw (j + 1) ≤ 8
theorem RulesTo.succ {s : qR} {k : Nat} (h : RulesTo s k) (h1 : RuleOk s (s.qf[k]!)) (h2 : ofCell s.qf (s.qf[k]!).qw (k + 1) ≤ 8) : RulesTo s (k + 1) := fun j hj => by
  by_cases e : j = k
  · subst e; exact ⟨h1, h2⟩
  · exact h j (by omega)
def Qj (s : qR) : Prop := vZ s ∧ s.qf.length ≤ 16 ∧ RulesTo s s.qf.length
def BagsTo (s : qR) (t : xF) (k : Nat) : Prop := ∀ c, c < k → zi s.qF (t.qG[c]!) ∧ (t.qy[c]! = false → sumL (t.qG[c]!) ≤ 0)
theorem BagsTo.succ {s : qR} {t : xF} {k : Nat} (h : BagsTo s t k) (h1 : zi s.qF (t.qG[k]!)) (h2 : t.qy[k]! = false → sumL (t.qG[k]!) ≤ 0) : BagsTo s t (k + 1) := fun j hj => by
  by_cases e : j = k
  · subst e; exact ⟨h1, h2⟩
  · exact h j (by omega)
def zY (s : qR) (t : xF) : Prop :=
  t.qy.length = s.qg.length ∧ t.qG.length = s.qg.length ∧ t.qy[0]! = true ∧ zi s.qF t.qB ∧ BagsTo s t t.qG.length
theorem vZ.step {s : qR} (h : vZ s) {c : Int} (h0 : 0 ≤ c) (h1 : c ≤ (s.qg.length : Int) - 1) : -1 ≤ s.qg[c.toNat]! ∧ s.qg[c.toNat]! < c := by
  rcases Int.lt_or_eq_of_le h0 with h2 | h2
  · have := h.up h2 h1; omega
  · subst h2
    have := h.2.2.1
    simp only [Int.toNat_zero]
    omega
/-- The first cell from c upwards that is alive. -/
def climb (p : List Int) (alive : List Bool) : Nat → Int → Int
  | 0, c => c
  | n + 1, c => if 0 ≤ c ∧ alive[c.toNat]! = false then climb p alive n (p[c.toNat]!) else c
theorem climb_go {p : List Int} {alive : List Bool} {n : Nat} {c : Int} (hn : c < n) (h0 : 0 ≤ c) (h : alive[c.toNat]! = false) : climb p alive n c = climb p alive (n - 1) (p[c.toNat]!) := by
  obtain ⟨m, rfl⟩ : ∃ m, n = m + 1 := ⟨n - 1, by omega⟩
  rw [climb, if_pos ⟨h0, h⟩]; rfl
theorem climb_end {p : List Int} {alive : List Bool} {n : Nat} {c : Int} (h : ¬ (0 ≤ c ∧ alive[c.toNat]! = false)) : climb p alive n c = c := by
  cases n with
  | zero => rfl
  | succ m => rw [climb, if_neg h]
def xK (s : qR) (t : xF) (c : Int) : Int := climb s.qg t.qy s.qg.length (s.qg[c.toNat]!)
theorem ofCell_bd (rs : List yB) (c : Int) : ∀ k, 0 ≤ ofCell rs c k ∧ ofCell rs c k ≤ k
  | 0 => by simp [ofCell]
  | k + 1 => by
    have := ofCell_bd rs c k
    simp only [ofCell]
    split <;> omega
def counts (s : qR) (k : Nat) : List Int := (List.range s.qg.length).map fun c : Nat => ofCell s.qf (c : Int) k
theorem counts_len (s : qR) (k : Nat) : (counts s k).length = s.qg.length := by simp [counts]
theorem counts_zero (s : qR) : List.replicate s.qg.length (0 : Int) = counts s 0 := by
  apply List.ext_getElem
  · simp [counts]
  · intro i h1 h2; simp [counts, ofCell]
theorem Xt {s : qR} {k : Nat} {c : Int} (h : CellIn s c) : (counts s k)[c.toNat]! = ofCell s.qf c k := by
  rw [getElem!_pos _ _ (by rw [counts_len]; omega)]
  simp only [counts, List.getElem_map, List.getElem_range]
  rw [show ((c.toNat : Nat) : Int) = c by omega]
theorem counts_succ {s : qR} {k : Nat} (h : CellIn s (s.qf[k]!).qw) :
    (counts s k).set (s.qf[k]!).qw.toNat ((counts s k)[(s.qf[k]!).qw.toNat]! + 1) = counts s (k + 1) := by
  rw [Xt h]
  apply List.ext_getElem
  · simp [counts]
  · intro i h1 h2
    rw [List.getElem_set]
    simp only [counts, List.getElem_map, List.getElem_range, ofCell]
    by_cases e : (s.qf[k]!).qw.toNat = i
    · subst e
      rw [if_pos rfl, if_pos (by omega), show (((s.qf[k]!).qw.toNat : Nat) : Int) = (s.qf[k]!).qw by omega]
    · rw [if_neg e, if_neg (by omega)]; omega
end Go.Proofs.YtkmlihdacnfhdaaGreat
