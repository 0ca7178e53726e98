/- How many values the marks of a law count. No program here. -/
import Derived.Test.YtkmlihdacnfhdaaT1
import Derived.Test.YtkmlihdacnfhdaaP2
namespace Go.Proofs.Ytkmlihdacnfhdaa
open Go.Proofs.Ytkmlihdacnfhdaa.Tot (tot)
open Go.Proofs.Ytkmlihdacnfhdaa.Mark (cnt mrk mkd mkd_mark cnt_mark)

class CntTot (α : Type) [Mark α] [Tot α] : Prop where
  le : ∀ x : α, cnt x ≤ 10 + 10 * tot x
instance : CntTot Int := ⟨fun _ => by show 1 ≤ _; omega⟩
instance : CntTot Bool := ⟨fun _ => by show 1 ≤ _; omega⟩
section
variable {α : Type} [Mark α] [Tot α] [Inhabited α] [CntTot α]
theorem cntTo_tot (l : List α) : ∀ k, cntTo l k ≤ 10 * k + 10 * totTo l k
  | 0 => Nat.zero_le _
  | k + 1 => by
    have h1 := cntTo_tot l k
    have h2 := CntTot.le (l[k]!)
    rw [cntTo_succ, totTo_succ]
    omega
theorem cntL_tot (l : List α) : cnt l ≤ 10 * tot l := by
  have := cntTo_tot l l.length
  rw [cnt_list, tot_list]
  omega
instance : CntTot (List α) := ⟨fun l => by have := cntL_tot l; omega⟩
end
instance : CntTot IntoD := ⟨fun x => by
  have h1 := cntL_tot x.fBag
  have h2 := tot_IntoD x
  have h3 := cnt_IntoD x
  omega⟩
instance : CntTot RuleD := ⟨fun x => by
  have h1 := cntL_tot x.fNeed
  have h2 := cntL_tot x.fHave
  have h3 := cntL_tot x.fLack
  have h4 := cntL_tot x.fHere
  have h5 := cntL_tot x.fOut
  have h6 := cntL_tot x.fInto
  have h7 := tot_RuleD x
  have h8 := cnt_RuleD x
  omega⟩
theorem cntTo_one {α : Type} [Mark α] [Inhabited α] (l : List α) (n : Nat) (h : ∀ k, k < l.length → cnt (l[k]!) ≤ n) : ∀ k, k ≤ l.length → cntTo l k ≤ n * k
  | 0, _ => Nat.zero_le _
  | k + 1, hk => by
    have h1 := cntTo_one l n h k (by omega)
    have h2 := h k (by omega)
    rw [cntTo_succ, Nat.mul_add]
    omega
theorem cnt_ints (l : List Int) : cnt l = l.length := by
  have : ∀ k, cntTo l k = k := fun k => by
    induction k with
    | zero => rfl
    | succ k ih => rw [cntTo_succ, ih]; rfl
  rw [cnt_list, this]
theorem cnt_bools (l : List Bool) : cnt l = l.length := by
  have : ∀ k, cntTo l k = k := fun k => by
    induction k with
    | zero => rfl
    | succ k ih => rw [cntTo_succ, ih]; rfl
  rw [cnt_list, this]
/-- A right state has few values. -/
def FewState (t : StateD) : Prop := cnt t.fAlive ≤ 6 ∧ cnt t.fBags ≤ 48 ∧ cnt t.fAround ≤ 8
theorem few_default : FewState default := ⟨Nat.zero_le _, Nat.zero_le _, Nat.zero_le _⟩
theorem few_state {s : SystemD} {t : StateD} (hs : FrameOk s) (h : StateOk s t) : FewState t := by
  obtain ⟨h1, h2, h3, h4⟩ := h.sizes hs
  refine ⟨by rw [cnt_bools]; omega, ?_, by rw [cnt_ints]; omega⟩
  rw [cnt_list]
  have := cntTo_one t.fBags 8 (fun k hk => by rw [cnt_ints]; exact h4 k hk) _ (Nat.le_refl _)
  omega
theorem few_told {s : SystemD} {t : StateD} (hs : FrameOk s) : FewState (told s t).1 := by
  by_cases h : StateOk s t
  · rw [told_yes h]; exact few_state hs h
  · rw [told_no h]; exact few_default
theorem few_melt (s : SystemD) (t : StateD) (c : Int) : FewState (meltRes s t c).1 := by
  by_cases h : cellCodeOf s t c = 0
  · by_cases h1 : c = 0
    · rw [melt_skin h h1]; exact few_default
    · rw [melt_told h h1]; exact few_told (code_ok h).1.1
  · rw [melt_err h]; exact few_default
end Go.Proofs.Ytkmlihdacnfhdaa
