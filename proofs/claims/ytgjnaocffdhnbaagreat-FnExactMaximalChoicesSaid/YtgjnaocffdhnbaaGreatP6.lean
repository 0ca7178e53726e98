/- Plain laws of steps, part three: the state behind a step. No program here. -/
import Derived.Test.YtgjnaocffdhnbaaGreatP5
namespace Go.Proofs.YtgjnaocffdhnbaaGreat
set_option linter.unusedVariables false
set_option linter.unusedSimpArgs false
open Go.Proofs.YtgjnaocffdhnbaaGreat.Tot (tot)
open Go.Proofs.YtgjnaocffdhnbaaGreat.Mark (cnt mrk mkd mkd_mark cnt_mark)

theorem zS.around {s : qK} {t : xu} (h : zS s t) : t.qm.length = KindsN s ∧ ∀ k, k < KindsN s → 0 ≤ t.qm[k]! ∧ t.qm[k]! ≤ 1000 := by
  have hb := h.2.2.2.1
  exact ⟨hb.len, fun k hk => hb.get (by rw [hb.len]; exact hk)⟩
/-! ### Cells that dissolve -/
structure Live (s : qK) (B : Int) (u : xu) : Prop where
  alive : u.qo.length = CellsN s
  root : u.qo[0]! = true
  bags : Shape (CellsN s) (KindsN s) B u.qy
  around : u.qm.length = KindsN s
theorem Live.mono {s : qK} {B D : Int} {u : xu} (h : Live s B u) (hD : B ≤ D) : Live s D u := ⟨h.alive, h.root, h.bags.mono hD, h.around⟩
end Go.Proofs.YtgjnaocffdhnbaaGreat
