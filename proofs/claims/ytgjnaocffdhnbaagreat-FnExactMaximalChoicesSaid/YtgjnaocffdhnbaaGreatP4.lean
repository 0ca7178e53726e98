/- Plain laws of steps: rules that are applicable, what a choice leaves, states behind steps. No program here. -/
import Derived.Test.YtgjnaocffdhnbaaGreatP2
namespace Go.Proofs.YtgjnaocffdhnbaaGreat
set_option linter.unusedVariables false
set_option linter.unusedSimpArgs false
open Go.Proofs.YtgjnaocffdhnbaaGreat.Tot (tot)
open Go.Proofs.YtgjnaocffdhnbaaGreat.Mark (cnt mrk mkd mkd_mark cnt_mark)

theorem ft {b : Bool} (h : b = true) (h' : b = false) : False := by rw [h] at h'; cases h'

/-! ### Tables of numbers -/
theorem getset {α : Type} [Inhabited α] {l : List α} {c p : Nat} {v : α} (hc : c < l.length) : (l.set c v)[p]! = if p = c then v else l[p]! := by
  by_cases hp : p < l.length
  · rw [getElem!_pos _ _ (by simpa using hp), getElem!_pos l p hp, List.getElem_set]
    by_cases e : c = p
    · rw [if_pos e, if_pos e.symm]
    · rw [if_neg e, if_neg (fun h => e h.symm)]
  · rw [if_neg (by omega), getElem!_neg (l.set c v) p (by simpa using hp), getElem!_neg l p hp]
theorem plus_get {l m : List Int} {t : Int} {k : Nat} (hk : k < l.length) : (jH l m t)[k]! = l[k]! + t * m[k]! := by
  rw [getElem!_pos (jH l m t) k (by rw [plusL_len]; exact hk)]
  simp [jH, plusTo]
theorem ext_get {α : Type} [Inhabited α] {l m : List α} (hl : l.length = m.length) (h : ∀ k, k < l.length → l[k]! = m[k]!) : l = m := by
  apply List.ext_getElem hl
  intro i h1 h2
  have := h i h1
  rwa [getElem!_pos l i h1, getElem!_pos m i h2] at this
/-- n lists of K numbers, none greater than B. -/
def Shape (n K : Nat) (B : Int) (b : List (List Int)) : Prop := b.length = n ∧ ∀ p, p < n → (b[p]!).length = K ∧ ∀ k, k < K → -B ≤ (b[p]!)[k]! ∧ (b[p]!)[k]! ≤ B
structure Ent (n K : Nat) (f : Nat → Nat → Int) (B : Int) (b : List (List Int)) : Prop where
  sh : Shape n K B b
  eq : ∀ p k, p < n → k < K → (b[p]!)[k]! = f p k
def at' (p c : Nat) (x : Int) : Int := if p = c then x else 0
theorem Shape.set {n K : Nat} {B D : Int} {b : List (List Int)} (h : Shape n K B b) {c : Nat} {v : List Int} (hc : c < n) (hv : v.length = K) (hb : ∀ k, k < K → -D ≤ v[k]! ∧ v[k]! ≤ D) (hD : B ≤ D) : Shape n K D (b.set c v) := by
  refine ⟨by simp [h.1], fun p hp => ?_⟩
  rw [getset (by rw [h.1]; exact hc)]
  by_cases e : p = c
  · rw [if_pos e]; exact ⟨hv, hb⟩
  · rw [if_neg e]
    refine ⟨(h.2 p hp).1, fun k hk => ?_⟩
    have := (h.2 p hp).2 k hk
    omega
theorem Shape.plus {n K : Nat} {B D : Int} {b : List (List Int)} (h : Shape n K B b) {c : Nat} {m : List Int} {t : Int} (hc : c < n) (ht : ∀ k, k < K → -D ≤ t * m[k]! ∧ t * m[k]! ≤ D) (hD : 0 ≤ D) :
    Shape n K (B + D) (b.set c (jH (b[c]!) m t)) := by
  have h1 := h.2 c hc
  refine h.set hc (by rw [plusL_len]; exact h1.1) (fun k hk => ?_) (by omega)
  rw [plus_get (by rw [h1.1]; exact hk)]
  have := h1.2 k hk
  have := ht k hk
  omega
theorem Shape.row {n K : Nat} {B : Int} {b : List (List Int)} (h : Shape n K B b) (hB : B ≤ 1000000000000000) (hK : K ≤ 8) {c : Nat} (hc : c < n) : (b[c]!).length = K ∧ Mid (b[c]!) := by
  have h1 := h.2 c hc
  refine ⟨h1.1, by have := h1.1; omega, fun k hk => ?_⟩
  have := h1.2 k (by have := h1.1; omega)
  omega
theorem Ent.add {n K : Nat} {f : Nat → Nat → Int} {B : Int} {b : List (List Int)} (h : Ent n K f B b) {c : Nat} {m : List Int} {t : Int} {D : Int} {b' : List (List Int)} (e : b' = b.set c (jH (b[c]!) m t)) (hc : c < n) (ht : ∀ k, k < K → -D ≤ t * m[k]! ∧ t * m[k]! ≤ D) (hD : 0 ≤ D) :
    Ent n K (fun p k => f p k + at' p c (t * m[k]!)) (B + D) b' := by
  subst e
  refine ⟨h.sh.plus hc ht hD, fun p k hp hk => ?_⟩
  rw [getset (by rw [h.sh.1]; exact hc)]
  unfold at'
  by_cases e : p = c
  · subst e
    rw [if_pos rfl, if_pos rfl, plus_get (by rw [(h.sh.2 p hp).1]; exact hk), h.eq p k hp hk]
  · rw [if_neg e, if_neg e, h.eq p k hp hk]; omega
theorem Shape.mono {n K : Nat} {B D : Int} {b : List (List Int)} (h : Shape n K B b) (hD : B ≤ D) : Shape n K D b := ⟨h.1, fun p hp => ⟨(h.2 p hp).1, fun k hk => by have := (h.2 p hp).2 k hk; omega⟩⟩
theorem Ent.to {n K : Nat} {f g : Nat → Nat → Int} {B D : Int} {b : List (List Int)} (h : Ent n K f B b) (e : ∀ p k, f p k = g p k) (hD : B ≤ D) : Ent n K g D b := ⟨h.sh.mono hD, fun p k hp hk => (h.eq p k hp hk).trans (e p k)⟩
theorem Ent.same {n K : Nat} {f g : Nat → Nat → Int} {B D : Int} {b c : List (List Int)} (h : Ent n K f B b) (h' : Ent n K g D c) (e : ∀ p k, p < n → k < K → f p k = g p k) : b = c := by
  refine ext_get (by rw [h.sh.1, h'.sh.1]) fun p hp => ?_
  rw [h.sh.1] at hp
  refine ext_get (by rw [(h.sh.2 p hp).1, (h'.sh.2 p hp).1]) fun k hk => ?_
  rw [(h.sh.2 p hp).1] at hk
  rw [h.eq p k hp hk, h'.eq p k hp hk, e p k hp hk]
/-! ### Rules that are applicable -/
def KindsN (s : qK) : Nat := s.qH.toNat
abbrev CellsN (s : qK) : Nat := s.qf.length
def IntoUp (s : qK) (t : xu) (r : Qm) (k : Nat) : Prop := ∀ j, j < k → t.qo[(r.qF[j]!).qw.toNat]! = true ∧ vI s t (r.qF[j]!).qw = r.qw
theorem IntoUp.succ {s : qK} {t : xu} {r : Qm} {k : Nat} (h : IntoUp s t r k) (h1 : t.qo[(r.qF[k]!).qw.toNat]! = true) (h2 : vI s t (r.qF[k]!).qw = r.qw) : IntoUp s t r (k + 1) := fun j hj => by
  by_cases e : j = k
  · subst e; exact ⟨h1, h2⟩
  · exact h j (by omega)
def EnOk (s : qK) (t : xu) (r : Qm) : Prop :=
  t.qo[r.qw.toNat]! = true ∧ within r.qO (t.qy[r.qw.toNat]!) = true ∧ within r.qX (t.qy[r.qw.toNat]!) = true ∧ ¬ (0 < Qz r.xe ∧ within r.xe (t.qy[r.qw.toNat]!) = true) ∧ IntoUp s t r r.qF.length
open Classical in
noncomputable def bestOf (s : qK) (t : xu) (z : Int) (c : Nat) : Nat → Int
  | 0 => z
  | k + 1 => if EnOk s t (s.qh[k]!) ∧ (s.qh[k]!).qw.toNat = c then max (bestOf s t z c k) (s.qh[k]!).xN else bestOf s t z c k
noncomputable def bests (s : qK) (t : xu) (z : Int) (n k : Nat) : List Int := tabTo (fun c => bestOf s t z c k) n
theorem QB (s : qK) (t : xu) (z : Int) (n k : Nat) : (bests s t z n k).length = n := tabTo_len _ _
theorem tab_get {g : Nat → Int} {n c : Nat} (h : c < n) : (tabTo g n)[c]! = g c := by
  rw [getElem!_pos (tabTo g n) c (by rw [tabTo_len]; exact h)]; simp [tabTo]
theorem bests_zero (s : qK) (t : xu) (z : Int) (n : Nat) : List.replicate n z = bests s t z n 0 := by
  refine ext_get (by simp [QB]) fun k hk => ?_
  rw [List.length_replicate] at hk
  rw [bests, tab_get hk, getElem!_pos (List.replicate n z) k (by simpa using hk)]; simp [bestOf]
theorem bests_get {s : qK} {t : xu} {z : Int} {n k c : Nat} (h : c < n) : (bests s t z n k)[c]! = bestOf s t z c k := tab_get h
theorem bests_set {s : qK} {t : xu} {z : Int} {n k : Nat} (h : EnOk s t (s.qh[k]!)) (hc : (s.qh[k]!).qw.toNat < n) :
    (bests s t z n k).set (s.qh[k]!).qw.toNat (max ((bests s t z n k)[(s.qh[k]!).qw.toNat]!) (s.qh[k]!).xN) = bests s t z n (k + 1) := by
  refine ext_get (by simp [QB]) fun p hp => ?_
  rw [List.length_set, QB] at hp
  rw [getset (by rw [QB]; exact hc), bests_get hc, bests_get hp, bests_get hp, bestOf]
  by_cases e : p = (s.qh[k]!).qw.toNat
  · rw [if_pos e, if_pos ⟨h, e.symm⟩, e]
  · rw [if_neg e, if_neg fun x => e x.2.symm]
theorem bests_skip {s : qK} {t : xu} {z : Int} {n k : Nat} (h : ¬ EnOk s t (s.qh[k]!)) : bests s t z n k = bests s t z n (k + 1) := by
  refine ext_get (by simp [QB]) fun p hp => ?_
  rw [QB] at hp
  rw [bests_get hp, bests_get hp, bestOf, if_neg fun x => h x.1]
/-- A rule is applicable: enabled, and none of its cell that is enabled has a greater rank. -/
def Appl (s : qK) (t : xu) (i : Nat) : Prop :=
  EnOk s t (s.qh[i]!) ∧ ∀ j, j < s.qh.length → EnOk s t (s.qh[j]!) → (s.qh[j]!).qw.toNat = (s.qh[i]!).qw.toNat → (s.qh[j]!).xN ≤ (s.qh[i]!).xN
theorem best_ge {s : qK} {t : xu} {z : Int} {c : Nat} : ∀ {k j : Nat}, j < k → EnOk s t (s.qh[j]!) → (s.qh[j]!).qw.toNat = c → (s.qh[j]!).xN ≤ bestOf s t z c k
  | k + 1, j, h, h1, h2 => by
    rw [bestOf]
    by_cases e : j = k
    · subst e; rw [if_pos ⟨h1, h2⟩]; omega
    · have := best_ge (z := z) (show j < k by omega) h1 h2
      split <;> omega
theorem best_le {s : qK} {t : xu} {z : Int} {c : Nat} {x : Int} (hz : z ≤ x) : ∀ {k : Nat}, (∀ j, j < k → EnOk s t (s.qh[j]!) → (s.qh[j]!).qw.toNat = c → (s.qh[j]!).xN ≤ x) → bestOf s t z c k ≤ x
  | 0, _ => hz
  | k + 1, h => by
    rw [bestOf]
    have h1 := best_le hz (k := k) fun j hj => h j (by omega)
    split
    · next h2 => have := h k (by omega) h2.1 h2.2; omega
    · exact h1
theorem appl_iff {s : qK} {t : xu} {z : Int} {i : Nat} (hi : i < s.qh.length) (hz : z ≤ (s.qh[i]!).xN) :
    Appl s t i ↔ EnOk s t (s.qh[i]!) ∧ (s.qh[i]!).xN = bestOf s t z (s.qh[i]!).qw.toNat s.qh.length := by
  constructor
  · rintro ⟨h1, h2⟩
    refine ⟨h1, ?_⟩
    have h3 := best_ge (z := z) hi h1 rfl
    have h4 := best_le (c := (s.qh[i]!).qw.toNat) hz (k := s.qh.length) h2
    omega
  · rintro ⟨h1, h2⟩
    exact ⟨h1, fun j hj h3 h4 => by rw [h2]; exact best_ge hj h3 h4⟩
/-- For each of the first k rules: is it applicable; for the rest: is it enabled? -/
noncomputable def applB (s : qK) (t : xu) (k m : Nat) : List Bool := (List.range m).map fun j => if j < k then dec (Appl s t j) else dec (EnOk s t (s.qh[j]!))
theorem applB_len (s : qK) (t : xu) (k m : Nat) : (applB s t k m).length = m := by simp [applB]
theorem applB_get {s : qK} {t : xu} {k m j : Nat} (h : j < m) : (applB s t k m)[j]! = if j < k then dec (Appl s t j) else dec (EnOk s t (s.qh[j]!)) := by
  rw [getElem!_pos (applB s t k m) j (by rw [applB_len]; exact h)]; simp [applB]
theorem applB_snoc (s : qK) (t : xu) (m : Nat) : applB s t 0 m ++ [dec (EnOk s t (s.qh[m]!))] = applB s t 0 (m + 1) := by simp [applB, List.range_succ]
theorem applB_set {s : qK} {t : xu} {k m : Nat} {x : Bool} (hk : k < m) (hx : x = dec (Appl s t k)) : (applB s t k m).set k x = applB s t (k + 1) m := by
  refine ext_get (by simp [applB_len]) fun p hp => ?_
  rw [List.length_set, applB_len] at hp
  rw [getset (by rw [applB_len]; exact hk), applB_get hp, applB_get hp]
  by_cases e : p = k
  · subst e; rw [if_pos rfl, if_pos (by omega), hx]
  · rw [if_neg e]
    by_cases e1 : p < k
    · rw [if_pos e1, if_pos (by omega)]
    · rw [if_neg e1, if_neg (by omega)]
theorem applB_step0 {s : qK} {t : xu} {k m : Nat} (hk : k < m) (h : (applB s t k m)[k]! = false) : false = dec (Appl s t k) := by
  rw [applB_get hk, if_neg (by omega)] at h
  exact (qY fun x => xI h x.1).symm
theorem applB_step1 {s : qK} {t : xu} {k m n i : Nat} {z : Int} (hk : k < m) (h : (applB s t k m)[k]! = true) (hm : m = s.qh.length) (hc : (s.qh[k]!).qw.toNat < n) (hz : z ≤ (s.qh[k]!).xN) (hi : i = s.qh.length) :
    ((s.qh[k]!).xN == (bests s t z n i)[(s.qh[k]!).qw.toNat]!) = dec (Appl s t k) := by
  rw [applB_get hk, if_neg (by omega)] at h
  refine dec_eq ?_
  rw [beq_iff_eq, bests_get hc, hi, appl_iff (by omega) hz]
  exact ⟨fun e => ⟨vC h, e⟩, fun e => e.2⟩
/-- All applicable rules. -/
noncomputable def appl (s : qK) (t : xu) : List Bool := applB s t s.qh.length s.qh.length
theorem appl_len (s : qK) (t : xu) : (appl s t).length = s.qh.length := applB_len _ _ _ _
theorem appl_get {s : qK} {t : xu} {j : Nat} (h : j < s.qh.length) : (appl s t)[j]! = dec (Appl s t j) := by rw [appl, applB_get h, if_pos h]
theorem QC {s : qK} {t : xu} {j : Nat} (h : j < s.qh.length) (h1 : (appl s t)[j]! = true) : Appl s t j := vC (appl_get (s := s) (t := t) h ▸ h1)
theorem yz {s : qK} {t : xu} {j : Nat} (h : j < s.qh.length) (h1 : (appl s t)[j]! = false) : ¬ Appl s t j := xI (appl_get (s := s) (t := t) h ▸ h1)
def HaltTo (s : qK) (t : xu) (k : Nat) : Prop := ∀ j, j < k → ¬ Appl s t j
theorem HaltTo.succ {s : qK} {t : xu} {k : Nat} (h : HaltTo s t k) (h1 : ¬ Appl s t k) : HaltTo s t (k + 1) := fun j hj => by
  by_cases e : j = k
  · subst e; exact h1
  · exact h j (by omega)
noncomputable def applL (s : qK) (t : xu) (k : Nat) : List Int := ((List.range k).filter fun j => dec (Appl s t j)).map Int.ofNat
theorem applL_yes {s : qK} {t : xu} {k : Nat} (h : Appl s t k) : applL s t k ++ [(k : Int)] = applL s t (k + 1) := by simp [applL, List.range_succ, List.filter_append, jE h]
theorem applL_no {s : qK} {t : xu} {k : Nat} (h : ¬ Appl s t k) : applL s t k = applL s t (k + 1) := by simp [applL, List.range_succ, List.filter_append, qY h]
noncomputable def appls (s : qK) (t : xu) : List Int := applL s t s.qh.length
theorem applL_le (s : qK) (t : xu) (k : Nat) : (applL s t k).length ≤ k := by
  have := List.length_filter_le (fun j => dec (Appl s t j)) (List.range k)
  simpa [applL] using this
theorem mem_applL {s : qK} {t : xu} {k : Nat} {x : Int} : x ∈ applL s t k ↔ 0 ≤ x ∧ x.toNat < k ∧ Appl s t x.toNat := by
  simp only [applL, List.mem_map, List.mem_filter, List.mem_range]
  constructor
  · rintro ⟨j, ⟨h1, h2⟩, rfl⟩
    exact ⟨Int.natCast_nonneg j, h1, vC h2⟩
  · rintro ⟨h0, h1, h2⟩
    exact ⟨x.toNat, ⟨h1, jE h2⟩, by show ((x.toNat : Nat) : Int) = x; omega⟩
end Go.Proofs.YtgjnaocffdhnbaaGreat
