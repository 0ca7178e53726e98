/- Plain laws of systems and states of cells. No program here. -/
import Derived.Test.YtgjnaocffdhnbaaGreatT0
namespace Go.Proofs.YtgjnaocffdhnbaaGreat
set_option linter.unusedVariables false
set_option linter.unusedSimpArgs false
open Go.Proofs.YtgjnaocffdhnbaaGreat.Tot (tot)
open Go.Proofs.YtgjnaocffdhnbaaGreat.Mark (cnt mrk mkd mkd_mark cnt_mark)

/-- Frames of systems. -/
def FrameTo (s : qK) (k : Nat) : Prop := ∀ c, 1 ≤ c → c < k → 0 ≤ s.qf[c]! ∧ s.qf[c]! ≤ (c : Int) - 1
theorem FrameTo.one (s : qK) : FrameTo s 1 := fun c h1 h2 => by omega
theorem FrameTo.succ {s : qK} {k : Nat} (h : FrameTo s k) (h1 : 0 ≤ s.qf[k]! ∧ s.qf[k]! ≤ (k : Int) - 1) : FrameTo s (k + 1) := fun c hc hk => by
  by_cases e : c = k
  · subst e; exact h1
  · exact h c hc (by omega)
def yt (s : qK) : Prop := (1 ≤ s.qH ∧ s.qH ≤ 8) ∧ (1 ≤ s.qf.length ∧ s.qf.length ≤ 6) ∧ s.qf[0]! = -1 ∧ FrameTo s s.qf.length
theorem yt.up {s : qK} (h : yt s) {c : Int} (h0 : 0 < c) (h1 : c ≤ (s.qf.length : Int) - 1) : 0 ≤ s.qf[c.toNat]! ∧ s.qf[c.toNat]! < c := by
  have := h.2.2.2 c.toNat (by omega) (by omega)
  omega
/-- The cell o is one of those that c lies in. -/
inductive Lies (p : List Int) (o : Int) : Int → Prop where
  | here {c : Int} : 0 < c → p[c.toNat]! = o → Lies p o c
  | up {c : Int} : 0 < c → Lies p o (p[c.toNat]!) → Lies p o c
theorem lies_iff {p : List Int} {o c : Int} : Lies p o c ↔ 0 < c ∧ (p[c.toNat]! = o ∨ Lies p o (p[c.toNat]!)) := by
  constructor
  · rintro (⟨h, e⟩ | ⟨h, e⟩)
    · exact ⟨h, .inl e⟩
    · exact ⟨h, .inr e⟩
  · rintro ⟨h, e | e⟩
    · exact .here h e
    · exact .up h e

abbrev CellIn (s : qK) (c : Int) : Prop := 0 ≤ c ∧ c ≤ (s.qf.length : Int) - 1
def IntoOk (s : qK) (r : Qm) (j : Nat) : Prop :=
  CellIn s (r.qF[j]!).qw ∧ Lies s.qf r.qw (r.qF[j]!).qw ∧ zg s.qH (r.qF[j]!).zZ ∧ Qz (r.qF[j]!).zZ ≠ 0 ∧ (0 < j → (r.qF[j - 1]!).qw < (r.qF[j]!).qw)
def IntosTo (s : qK) (r : Qm) (k : Nat) : Prop := ∀ j, j < k → IntoOk s r j
theorem IntosTo.succ {s : qK} {r : Qm} {k : Nat} (h : IntosTo s r k) (h1 : IntoOk s r k) : IntosTo s r (k + 1) := fun j hj => by
  by_cases e : j = k
  · subst e; exact h1
  · exact h j (by omega)
def RuleOk (s : qK) (r : Qm) : Prop :=
  CellIn s r.qw ∧ (0 ≤ r.xN ∧ r.xN ≤ 9) ∧ ¬ (r.xO = true ∧ r.qw = 0) ∧ r.qF.length ≤ 3 ∧
    zg s.qH r.qO ∧ zg s.qH r.qX ∧ zg s.qH r.xe ∧ zg s.qH r.xm ∧ zg s.qH r.xZ ∧ Qz r.qO ≠ 0 ∧ IntosTo s r r.qF.length
/-- How many of the first k rules are of the cell c. -/
def Q7 (rs : List Qm) (c : Int) : Nat → Int
  | 0 => 0
  | k + 1 => Q7 rs c k + if (rs[k]!).qw = c then 1 else 0
def RulesTo (s : qK) (k : Nat) : Prop := ∀ j, j < k → RuleOk s (s.qh[j]!) ∧ Q7 s.qh (s.qh[j]!).qw (j + 1) ≤ 8
theorem RulesTo.succ {s : qK} {k : Nat} (h : RulesTo s k) (h1 : RuleOk s (s.qh[k]!)) (h2 : Q7 s.qh (s.qh[k]!).qw (k + 1) ≤ 8) : RulesTo s (k + 1) := fun j hj => by
  by_cases e : j = k
  · subst e; exact ⟨h1, h2⟩
  · exact h j (by omega)
def yw (s : qK) : Prop := yt s ∧ s.qh.length ≤ 16 ∧ RulesTo s s.qh.length
def BagsTo (s : qK) (t : xu) (k : Nat) : Prop := ∀ c, c < k → zg s.qH (t.qy[c]!) ∧ (t.qo[c]! = false → Qz (t.qy[c]!) ≤ 0)
theorem BagsTo.succ {s : qK} {t : xu} {k : Nat} (h : BagsTo s t k) (h1 : zg s.qH (t.qy[k]!)) (h2 : t.qo[k]! = false → Qz (t.qy[k]!) ≤ 0) : BagsTo s t (k + 1) := fun j hj => by
  by_cases e : j = k
  · subst e; exact ⟨h1, h2⟩
  · exact h j (by omega)
def zS (s : qK) (t : xu) : Prop :=
  t.qo.length = s.qf.length ∧ t.qy.length = s.qf.length ∧ t.qo[0]! = true ∧ zg s.qH t.qm ∧ BagsTo s t t.qy.length
theorem yt.step {s : qK} (h : yt s) {c : Int} (h0 : 0 ≤ c) (h1 : c ≤ (s.qf.length : Int) - 1) : -1 ≤ s.qf[c.toNat]! ∧ s.qf[c.toNat]! < c := by
  rcases Int.lt_or_eq_of_le h0 with h2 | h2
  · have := h.up h2 h1; omega
  · subst h2
    have := h.2.2.1
    simp only [Int.toNat_zero]
    omega
/-- The first cell from c upwards that is alive. -/
def climb (p : List Int) (alive : List Bool) : Nat → Int → Int
  | 0, c => c
  | n + 1, c => if 0 ≤ c ∧ alive[c.toNat]! = false then climb p alive n (p[c.toNat]!) else c
theorem climb_go {p : List Int} {alive : List Bool} {n : Nat} {c : Int} (hn : c < n) (h0 : 0 ≤ c) (h : alive[c.toNat]! = false) : climb p alive n c = climb p alive (n - 1) (p[c.toNat]!) := by
  obtain ⟨m, rfl⟩ : ∃ m, n = m + 1 := ⟨n - 1, by omega⟩
  rw [climb, if_pos ⟨h0, h⟩]; rfl
theorem climb_end {p : List Int} {alive : List Bool} {n : Nat} {c : Int} (h : ¬ (0 ≤ c ∧ alive[c.toNat]! = false)) : climb p alive n c = c := by
  cases n with
  | zero => rfl
  | succ m => rw [climb, if_neg h]
def vI (s : qK) (t : xu) (c : Int) : Int := climb s.qf t.qo s.qf.length (s.qf[c.toNat]!)
theorem ofCell_bd (rs : List Qm) (c : Int) : ∀ k, 0 ≤ Q7 rs c k ∧ Q7 rs c k ≤ k
  | 0 => by simp [Q7]
  | k + 1 => by
    have := ofCell_bd rs c k
    simp only [Q7]
    split <;> omega
def counts (s : qK) (k : Nat) : List Int := (List.range s.qf.length).map fun c : Nat => Q7 s.qh (c : Int) k
theorem counts_len (s : qK) (k : Nat) : (counts s k).length = s.qf.length := by simp [counts]
theorem counts_zero (s : qK) : List.replicate s.qf.length (0 : Int) = counts s 0 := by
  apply List.ext_getElem
  · simp [counts]
  · intro i h1 h2; simp [counts, Q7]
theorem XE {s : qK} {k : Nat} {c : Int} (h : CellIn s c) : (counts s k)[c.toNat]! = Q7 s.qh c k := by
  rw [getElem!_pos _ _ (by rw [counts_len]; omega)]
  simp only [counts, List.getElem_map, List.getElem_range]
  rw [show ((c.toNat : Nat) : Int) = c by omega]
theorem counts_succ {s : qK} {k : Nat} (h : CellIn s (s.qh[k]!).qw) :
    (counts s k).set (s.qh[k]!).qw.toNat ((counts s k)[(s.qh[k]!).qw.toNat]! + 1) = counts s (k + 1) := by
  rw [XE h]
  apply List.ext_getElem
  · simp [counts]
  · intro i h1 h2
    rw [List.getElem_set]
    simp only [counts, List.getElem_map, List.getElem_range, Q7]
    by_cases e : (s.qh[k]!).qw.toNat = i
    · subst e
      rw [if_pos rfl, if_pos (by omega), show (((s.qh[k]!).qw.toNat : Nat) : Int) = (s.qh[k]!).qw by omega]
    · rw [if_neg e, if_neg (by omega)]; omega
end Go.Proofs.YtgjnaocffdhnbaaGreat
