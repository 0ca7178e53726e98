/- How many values the marks of a law count. No program here. -/
import Derived.Test.YtkmlihdacnfhdaaGreatT1
import Derived.Test.YtkmlihdacnfhdaaGreatP2
namespace Go.Proofs.YtkmlihdacnfhdaaGreat
open Go.Proofs.YtkmlihdacnfhdaaGreat.Tot (tot)
open Go.Proofs.YtkmlihdacnfhdaaGreat.Mark (cnt mrk mkd mkd_mark cnt_mark)

class CntTot (α : Type) [Mark α] [Tot α] : Prop where
  le : ∀ x : α, cnt x ≤ 10 + 10 * tot x
instance : CntTot Int := ⟨fun _ => by show 1 ≤ _; omega⟩
instance : CntTot Bool := ⟨fun _ => by show 1 ≤ _; omega⟩
section
variable {α : Type} [Mark α] [Tot α] [Inhabited α] [CntTot α]
theorem cntTo_tot (l : List α) : ∀ k, Vr l k ≤ 10 * k + 10 * totTo l k
  | 0 => Nat.zero_le _
  | k + 1 => by
    have h1 := cntTo_tot l k
    have h2 := CntTot.le (l[k]!)
    rw [y9, totTo_succ]
    omega
theorem XB (l : List α) : cnt l ≤ 10 * tot l := by
  have := cntTo_tot l l.length
  rw [cnt_list, tot_list]
  omega
instance : CntTot (List α) := ⟨fun l => by have := XB l; omega⟩
end
instance : CntTot IntoD := ⟨fun x => by
  have h1 := XB x.vH
  have h2 := tot_IntoD x
  have h3 := cnt_IntoD x
  omega⟩
instance : CntTot QG := ⟨fun x => by
  have h1 := XB x.qR
  have h2 := XB x.xh
  have h3 := XB x.xm
  have h4 := XB x.xB
  have h5 := XB x.zk
  have h6 := XB x.qC
  have h7 := tot_RuleD x
  have h8 := yO x
  omega⟩
theorem cntTo_one {α : Type} [Mark α] [Inhabited α] (l : List α) (n : Nat) (h : ∀ k, k < l.length → cnt (l[k]!) ≤ n) : ∀ k, k ≤ l.length → Vr l k ≤ n * k
  | 0, _ => Nat.zero_le _
  | k + 1, hk => by
    have h1 := cntTo_one l n h k (by omega)
    have h2 := h k (by omega)
    rw [y9, Nat.mul_add]
    omega
theorem cnt_ints (l : List Int) : cnt l = l.length := by
  have : ∀ k, Vr l k = k := fun k => by
    induction k with
    | zero => rfl
    | succ k ih => rw [y9, ih]; rfl
  rw [cnt_list, this]
theorem cnt_bools (l : List Bool) : cnt l = l.length := by
  have : ∀ k, Vr l k = k := fun k => by
    induction k with
    | zero => rfl
    | succ k ih => rw [y9, ih]; rfl
  rw [cnt_list, this]
/-- A right state has few values. -/
def FewState (t : qU) : Prop := cnt t.qh ≤ 6 ∧ cnt t.qp ≤ 48 ∧ cnt t.ql ≤ 8
theorem few_default : FewState default := ⟨Nat.zero_le _, Nat.zero_le _, Nat.zero_le _⟩
theorem few_state {s : qX} {t : qU} (hs : yE s) (h : zu s t) : FewState t := by
  obtain ⟨h1, h2, h3, h4⟩ := h.sizes hs
  refine ⟨by rw [cnt_bools]; omega, ?_, by rw [cnt_ints]; omega⟩
  rw [cnt_list]
  have := cntTo_one t.qp 8 (fun k hk => by rw [cnt_ints]; exact h4 k hk) _ (Nat.le_refl _)
  omega
end Go.Proofs.YtkmlihdacnfhdaaGreat
