/- Elements of a slice of the call's own change places. No program here. -/
import Derived.Test.YtgjnaocffdhnbaaGreatQ
import Derived.Test.YtgjnaocffdhnbaaGreatPE
namespace Go.Proofs.YtgjnaocffdhnbaaGreat
set_option linter.unusedVariables false
set_option linter.unusedSimpArgs false
open Go.Proofs.YtgjnaocffdhnbaaGreat.Tot (tot)
open Go.Proofs.YtgjnaocffdhnbaaGreat.Mark (cnt mrk mkd mkd_mark cnt_mark)
open Go.RowKit

section
variable {α : Type} [qE α]
/-- Elements that lie in one cell, in another order. -/
theorem reps_perm {w : World} (h1 : qE.size α = 1) : ∀ {z z' : List (Value × α)}, z.Perm z' → ∀ {F : List Nat}, reps w F (z.map Prod.fst) (z.map Prod.snd) → ∃ F', F'.Perm F ∧ reps w F' (z'.map Prod.fst) (z'.map Prod.snd) := by
  intro z z' hp
  have one : ∀ {c : List Value} {G : List Nat} {x : α}, qE.rep w G c x → ∃ v, c = [v] := fun h => List.length_eq_one_iff.1 ((qE.len h).trans h1)
  induction hp with
  | nil => intro F h; exact ⟨F, .refl _, h⟩
  | cons x _ ih =>
    rintro F ⟨F1, F2, c1, c2, rfl, hv, hx, hr⟩
    obtain ⟨v, rfl⟩ := one hx
    obtain ⟨rfl, rfl⟩ := List.cons.inj hv
    obtain ⟨F', hF, hr'⟩ := ih hr
    exact ⟨F1 ++ F', hF.append_left F1, F1, F', [x.1], _, rfl, rfl, hx, hr'⟩
  | swap x y l =>
    rintro F ⟨F1, F2, c1, c2, rfl, hv, hx, F3, F4, c3, c4, rfl, hv2, hy, hr⟩
    obtain ⟨v, rfl⟩ := one hx
    obtain ⟨u, rfl⟩ := one hy
    subst hv2
    obtain ⟨e1, e2⟩ := List.cons.inj hv
    obtain ⟨e3, e4⟩ := List.cons.inj e2
    subst e1 e3 e4
    refine ⟨F3 ++ (F1 ++ F4), ?_, F3, F1 ++ F4, [x.1], y.1 :: _, rfl, rfl, hy, F1, F4, [y.1], _, rfl, rfl, hx, hr⟩
    rw [← List.append_assoc, ← List.append_assoc]
    exact List.perm_append_comm.append_right F4
  | trans _ _ ih1 ih2 =>
    intro F h
    obtain ⟨F1, h1, h2⟩ := ih1 h
    obtain ⟨F2, h3, h4⟩ := ih2 h2
    exact ⟨F2, h3.trans h1, h4⟩
end
theorem swapZ {α : Type} : ∀ {l : List α} {i : Nat} {a b : α}, l[i]? = some a → l[i + 1]? = some b → l.Perm ((l.set (i + 1) a).set i b)
  | [], _, _, _, h, _ => by simp at h
  | x :: l, 0, a, b, h, h1 => by
    cases l with
    | nil => simp at h1
    | cons y l =>
      simp only [List.getElem?_cons_zero, Option.some.injEq] at h
      simp only [List.getElem?_cons_succ, List.getElem?_cons_zero, Option.some.injEq, Nat.zero_add] at h1
      subst h h1
      exact List.Perm.swap ..
  | x :: l, i + 1, a, b, h, h1 => by
    simp only [List.getElem?_cons_succ] at h h1
    exact (swapZ h h1).cons x
theorem zip_at {α β : Type} : ∀ {xs : List α} {l : List β} {i : Nat} {a : α} {b : β}, xs[i]? = some a → l[i]? = some b → (xs.zip l)[i]? = some (a, b) := by
  intro xs l i a b h h1
  rw [List.getElem?_zip_eq_some]
  exact ⟨h, h1⟩
theorem zip_fst {α β : Type} : ∀ {xs : List α} {l : List β}, xs.length = l.length → (xs.zip l).map Prod.fst = xs := by
  intro xs l h; exact List.map_fst_zip (by omega)
theorem zip_snd {α β : Type} : ∀ {xs : List α} {l : List β}, xs.length = l.length → (xs.zip l).map Prod.snd = l := by
  intro xs l h; exact List.map_snd_zip (by omega)
section
variable {W0 w : World} {ps : List Prv} {Γ : List Fact}
/-- An element that is a slice: its value in the row's list. -/
theorem St.rowElemX {α : Type} [qE α] (H : St W0 w ps Γ) (k : Nat) {b c : Nat} {e : TypeId} {nn : Nat} {xs : List Value} (hp : ps[k]? = some (.row (.slice (some ⟨b, 0, none⟩) nn c) e 1 nn xs)) (j : Nat) {fr : Bool} {F : List Nat} {l : List (List α)}
    (hf : Γ[j]? = some (zn fr F xs l)) {iv : Int} (i : Nat) (h : iv.toNat = i) (h1 : i < nn) :
    ∃ (a : Option Addr) (c' : Nat) (G : List Nat), (∀ x ∈ G, x ∈ F) ∧ w.cell? ⟨b, 0 + iv.toNat * 1, none⟩ = some (.slice a (l[i]!).length c') ∧ xs[0 + iv.toNat * 1]? = some (.slice a (l[i]!).length c') ∧ xs[iv.toNat]? = some (.slice a (l[i]!).length c') ∧ St W0 w ps (isF fr G (.slice a (l[i]!).length c') (l[i]!) :: Γ) := by
  obtain ⟨cs, G, hc, hr, hsub, hfr, v1, v2, hx, hv⟩ := H.rowElem k hp j hf Nat.one_pos h h1
  obtain ⟨a, c', rfl, hx'⟩ := id hr
  have hxi : xs[i]? = some (.slice a (l[i]!).length c') := by
    have hl1 : v1.length = i := by rw [hv]; exact Nat.mul_one _
    rw [hx, List.append_assoc, List.getElem?_append_right (by omega)]
    simp [hl1]
  exact ⟨a, c', G, hsub, by simpa [qE.size] using hc 0 _ rfl, by rw [show 0 + iv.toNat * 1 = i by omega]; exact hxi, by rw [h]; exact hxi, H.yL j hf _ ⟨hr, hfr⟩ hsub⟩
/-- Two neighbours have changed places. -/
theorem St.swapR (H : St W0 w ps Γ) (j : Nat) {fr : Bool} {F : List Nat} {xs : List Value} {l : List (List Int)} (hf : Γ[j]? = some (zn fr F xs l)) {k i : Nat} (hk : 0 < k) (hkl : k < l.length) (hi : i = k - 1) {v0 v1 : Value} (h0 : xs[i]? = some v0) (h1 : xs[k]? = some v1) :
    ∃ F', F'.Perm F ∧ St W0 w ps (zn fr F' ((xs.set k v0).set i v1) (swapAt l k) :: Γ) := by
  obtain ⟨hr, hfr⟩ := H.get j hf
  obtain ⟨i, rfl⟩ : ∃ i, k = i + 1 := ⟨k - 1, by omega⟩
  rw [show i + 1 - 1 = i from rfl] at hi
  subst hi
  have hl : xs.length = l.length := by have := Xp hr; simpa [qE.size] using this
  have e0 : l[i]? = some (l[i]!) := by rw [getElem!_pos l i (by omega)]; exact List.getElem?_eq_getElem (by omega)
  have e1 : l[i + 1]? = some (l[i + 1]!) := by rw [getElem!_pos l (i + 1) hkl]; exact List.getElem?_eq_getElem hkl
  have hp := swapZ (zip_at h0 e0) (zip_at h1 e1)
  have hr' : reps w F ((xs.zip l).map Prod.fst) ((xs.zip l).map Prod.snd) := by
    rw [zip_fst hl, zip_snd hl]
    exact hr
  obtain ⟨F', hF, h2⟩ := reps_perm rfl hp hr'
  refine ⟨F', hF, H.yL j hf _ ⟨?_, fun e x hx => hfr e x (hF.subset hx)⟩ fun x hx => hF.subset hx⟩
  rw [List.map_set, List.map_set, List.map_set, List.map_set, zip_fst hl, zip_snd hl] at h2
  exact h2
theorem Fresh.perm {B : Nat} {L : List (List Nat)} {F F' : List Nat} (N : Fresh B (F :: L)) (h : F'.Perm F) : Fresh B (F' :: L) := N.less (fun b hb => h.subset hb) fun hn => h.nodup_iff.2 hn
end
section
variable {P : Program} {n : Nat} {ρ : Env} {w : World}
theorem ret3 {fn : Func} {R : Ending → World → Prop} {t u z : Nat} (v x y : Value) (hr : fn.results = #[.tmp t, .tmp u, .tmp z]) (hv : ev n ρ (.tmp t) = v) (hx : ev n ρ (.tmp u) = x) (hy : ev n ρ (.tmp z) = y) (h : R (.returned (.tuple #[v, x, y])) w) : bodyPost P fn R .ret (mk n ρ) w := by
  refine bodyPost_ret (results_tmp3 hr _ _ _) rfl ?_
  have e := congrFun (Xw n ρ) (.tmp t)
  have e' := congrFun (Xw n ρ) (.tmp u)
  have e'' := congrFun (Xw n ρ) (.tmp z)
  simp only [Act.eval] at e e' e''
  rw [e, hv, e', hx, e'', hy]
  exact h
end
end Go.Proofs.YtgjnaocffdhnbaaGreat
