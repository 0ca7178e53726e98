/- An element of a slice of states of the call's own. No program here. -/
import Derived.Test.YtkmlihdacnfhdaaGreatQ
import Derived.Test.YtkmlihdacnfhdaaGreatT0
namespace Go.Proofs.YtkmlihdacnfhdaaGreat
open Go.Proofs.YtkmlihdacnfhdaaGreat.Tot (tot)
open Go.Proofs.YtkmlihdacnfhdaaGreat.Mark (cnt mrk mkd mkd_mark cnt_mark)

theorem St.rowel_StateD {W0 w : World} {ps : List Prv} {Γ : List Fact} (H : St W0 w ps Γ) (k : Nat) {b c : Nat} {e : TypeId} {nn : Nat} {xs : List Value} (hp : ps[k]? = some (.row (.slice (some ⟨b, 0, none⟩) nn c) e 3 nn xs)) (j : Nat) {fr : Bool} {F : List Nat} {l : List qP}
    (hf : Γ[j]? = some (vK fr F xs l)) {iv : Int} (i : Nat) (h : iv.toNat = i) (h1 : i < nn) :
    ∃ (aA : Option Addr) (cA : Nat) (FA : List Nat) (aB : Option Addr) (cB : Nat) (FB : List Nat) (aO : Option Addr) (cO : Nat) (FO : List Nat),
      (∀ (q : Nat) (v : Value), ([.slice aA ((l[i]!).qh.length) cA, .slice aB ((l[i]!).qx.length) cB, .slice aO ((l[i]!).ql.length) cO] : List Value)[q]? = some v → xs[0 + iv.toNat * 3 + q]? = some v) ∧
      St W0 w ps (isF fr FA (.slice aA ((l[i]!).qh.length) cA) ((l[i]!).qh) :: isF fr FB (.slice aB ((l[i]!).qx.length) cB) ((l[i]!).qx) :: isF fr FO (.slice aO ((l[i]!).ql.length) cO) ((l[i]!).ql) :: Γ) := by
  obtain ⟨cs, G, hc, hr, hsub, hfr, v1, v2, hv, hv1⟩ := St.rowElem (α := qP) H k hp j hf (by decide) h h1
  obtain ⟨vA, vB, vO, FA, FB, FO, rfl, hFF, hA, hB, hO⟩ := id hr
  obtain ⟨aA, cA, rfl⟩ := slice_form hA
  obtain ⟨aB, cB, rfl⟩ := slice_form hB
  obtain ⟨aO, cO, rfl⟩ := slice_form hO
  refine ⟨aA, cA, FA, aB, cB, FB, aO, cO, FO, fun q v hq => ?_, ?_⟩
  · have hv1 : v1.length = i * 3 := hv1
    have hlt : q < 3 := by
      rcases Nat.lt_or_ge q 3 with h | h
      · exact h
      · rw [List.getElem?_eq_none (by simpa using h)] at hq; cases hq
    rw [hv, List.append_assoc, Nat.zero_add, h, ← hv1, List.getElem?_append_right (by omega), Nat.add_sub_cancel_left, List.getElem?_append_left (by simpa using hlt)]
    exact hq
  · have s3 := H.QI j hf (isF fr FO (.slice aO ((l[i]!).ql.length) cO) ((l[i]!).ql)) ⟨hO, fun e => (hfr e).sub (by rw [hFF]; intro x hx; simp [hx])⟩ (fun x hx => hsub x (by rw [hFF]; have hx : x ∈ FO := hx; simp [hx]))
    have s2 := s3.QI (j + 1) hf (isF fr FB (.slice aB ((l[i]!).qx.length) cB) ((l[i]!).qx)) ⟨hB, fun e => (hfr e).sub (by rw [hFF]; intro x hx; simp [hx])⟩ (fun x hx => hsub x (by rw [hFF]; have hx : x ∈ FB := hx; simp [hx]))
    exact s2.QI (j + 2) hf (isF fr FA (.slice aA ((l[i]!).qh.length) cA) ((l[i]!).qh)) ⟨hA, fun e => (hfr e).sub (by rw [hFF]; intro x hx; simp [hx])⟩ (fun x hx => hsub x (by rw [hFF]; have hx : x ∈ FA := hx; simp [hx]))
end Go.Proofs.YtkmlihdacnfhdaaGreat
