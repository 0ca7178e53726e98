/- Plain laws of steps, part three: the state behind a step. No program here. -/
import Derived.Test.YtkmlihdacnfhdaaGreatP5
namespace Go.Proofs.YtkmlihdacnfhdaaGreat
open Go.Proofs.YtkmlihdacnfhdaaGreat.Tot (tot)

theorem parentNow_root {s : qR} {t : xF} (hs : vZ s) : xK s t 0 = -1 := by
  unfold xK
  rw [show s.qg[(0 : Int).toNat]! = -1 from hs.2.2.1]
  exact climb_end fun h => by omega
/-- Where a rule puts out. -/
def outPl (s : qR) (t : xF) (r : yB) : Nat := if r.qw = 0 then CellsN s else (xK s t r.qw).toNat
theorem outPl_root {s : qR} {t : xF} {r : yB} (h : r.qw = 0) : outPl s t r = CellsN s := by rw [outPl, if_pos h]
theorem outPl_up {s : qR} {t : xF} {r : yB} (h : r.qw ≠ 0) : outPl s t r = (xK s t r.qw).toNat := by rw [outPl, if_neg h]
def intoF (r : yB) (c : Int) : Nat → Nat → Nat → Int
  | 0, _, _ => 0
  | j + 1, p, k => intoF r c j p k + at' p (r.qx[j]!).qw.toNat (c * ((r.qx[j]!).zF)[k]!)
def putF (s : qR) (t : xF) (r : yB) (c : Int) (p k : Nat) : Int := at' p r.qw.toNat (c * r.xe[k]!) + at' p (outPl s t r) (c * r.xO[k]!) + intoF r c r.qx.length p k
theorem at_zero (p c : Nat) (x : Int) : at' p c (0 * x) = 0 := by unfold at'; split <;> simp
theorem intoF_zero (r : yB) (p k : Nat) : ∀ j, intoF r 0 j p k = 0
  | 0 => rfl
  | j + 1 => by rw [intoF, intoF_zero r p k j, at_zero]; rfl
theorem putF_zero (s : qR) (t : xF) (r : yB) {c : Int} (h : c = 0) (p k : Nat) : putF s t r c p k = 0 := by
  subst h; rw [putF, at_zero, at_zero, intoF_zero]; rfl
theorem zY.around {s : qR} {t : xF} (h : zY s t) : t.qB.length = yQ s ∧ ∀ k, k < yQ s → 0 ≤ t.qB[k]! ∧ t.qB[k]! ≤ 1000 := by
  have hb := h.2.2.2.1
  exact ⟨hb.len, fun k hk => hb.get (by rw [hb.len]; exact hk)⟩
/-! ### Cells that dissolve -/
structure Live (s : qR) (B : Int) (u : xF) : Prop where
  alive : u.qy.length = CellsN s
  root : u.qy[0]! = true
  bags : Shape (CellsN s) (yQ s) B u.qG
  around : u.qB.length = yQ s
theorem Live.mono {s : qR} {B D : Int} {u : xF} (h : Live s B u) (hD : B ≤ D) : Live s D u := ⟨h.alive, h.root, h.bags.mono hD, h.around⟩
end Go.Proofs.YtkmlihdacnfhdaaGreat
