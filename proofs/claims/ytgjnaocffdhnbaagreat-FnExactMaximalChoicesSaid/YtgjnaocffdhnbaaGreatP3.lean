/- How many values the marks of a law count. No program here. -/
import Derived.Test.YtgjnaocffdhnbaaGreatT1
import Derived.Test.YtgjnaocffdhnbaaGreatP2
namespace Go.Proofs.YtgjnaocffdhnbaaGreat
set_option linter.unusedVariables false
set_option linter.unusedSimpArgs false
open Go.Proofs.YtgjnaocffdhnbaaGreat.Tot (tot)
open Go.Proofs.YtgjnaocffdhnbaaGreat.Mark (cnt mrk mkd mkd_mark cnt_mark)

class CntTot (α : Type) [Mark α] [Tot α] : Prop where
  le : ∀ x : α, cnt x ≤ 10 + 10 * tot x
instance : CntTot Int := ⟨fun _ => by show 1 ≤ _; omega⟩
instance : CntTot Bool := ⟨fun _ => by show 1 ≤ _; omega⟩
section
variable {α : Type} [Mark α] [Tot α] [Inhabited α] [CntTot α]
theorem cntTo_tot (l : List α) : ∀ k, cntTo l k ≤ 10 * k + 10 * totTo l k
  | 0 => Nat.zero_le _
  | k + 1 => by
    have h1 := cntTo_tot l k
    have h2 := CntTot.le (l[k]!)
    rw [yj, totTo_succ]
    omega
theorem QU (l : List α) : cnt l ≤ 10 * tot l := by
  have := cntTo_tot l l.length
  rw [cnt_list, tot_list]
  omega
instance : CntTot (List α) := ⟨fun l => by have := QU l; omega⟩
end
instance : CntTot IntoD := ⟨fun x => by
  have h1 := QU x.zZ
  have h2 := tot_IntoD x
  have h3 := cnt_IntoD x
  omega⟩
instance : CntTot Qm := ⟨fun x => by
  have h1 := QU x.qO
  have h2 := QU x.qX
  have h3 := QU x.xe
  have h4 := QU x.xm
  have h5 := QU x.xZ
  have h6 := QU x.qF
  have h7 := tot_RuleD x
  have h8 := ji x
  omega⟩
theorem cntTo_one {α : Type} [Mark α] [Inhabited α] (l : List α) (n : Nat) (h : ∀ k, k < l.length → cnt (l[k]!) ≤ n) : ∀ k, k ≤ l.length → cntTo l k ≤ n * k
  | 0, _ => Nat.zero_le _
  | k + 1, hk => by
    have h1 := cntTo_one l n h k (by omega)
    have h2 := h k (by omega)
    rw [yj, Nat.mul_add]
    omega
theorem cnt_ints (l : List Int) : cnt l = l.length := by
  have : ∀ k, cntTo l k = k := fun k => by
    induction k with
    | zero => rfl
    | succ k ih => rw [yj, ih]; rfl
  rw [cnt_list, this]
end Go.Proofs.YtgjnaocffdhnbaaGreat
