/- Plain laws of steps: rules that are applicable, what a choice leaves, states behind steps. No program here. -/
import Derived.Test.YtkmlihdacnfhdaaGreatP2
namespace Go.Proofs.YtkmlihdacnfhdaaGreat
open Go.Proofs.YtkmlihdacnfhdaaGreat.Tot (tot)

theorem ft {b : Bool} (h : b = true) (h' : b = false) : False := by rw [h] at h'; cases h'

/-! ### Tables of numbers -/
theorem getset {α : Type} [Inhabited α] {l : List α} {c p : Nat} {v : α} (hc : c < l.length) : (l.set c v)[p]! = if p = c then v else l[p]! := by
  by_cases hp : p < l.length
  · rw [getElem!_pos _ _ (by simpa using hp), getElem!_pos l p hp, List.getElem_set]
    by_cases e : c = p
    · rw [if_pos e, if_pos e.symm]
    · rw [if_neg e, if_neg (fun h => e h.symm)]
  · rw [if_neg (by omega), getElem!_neg (l.set c v) p (by simpa using hp), getElem!_neg l p hp]
theorem plus_get {l m : List Int} {t : Int} {k : Nat} (hk : k < l.length) : (yc l m t)[k]! = l[k]! + t * m[k]! := by
  rw [getElem!_pos (yc l m t) k (by rw [plusL_len]; exact hk)]
  simp [yc, plusTo]
theorem ext_get {α : Type} [Inhabited α] {l m : List α} (hl : l.length = m.length) (h : ∀ k, k < l.length → l[k]! = m[k]!) : l = m := by
  apply List.ext_getElem hl
  intro i h1 h2
  have := h i h1
  rwa [getElem!_pos l i h1, getElem!_pos m i h2] at this
/-- n lists of K numbers, none greater than B. -/
def Shape (n K : Nat) (B : Int) (b : List (List Int)) : Prop := b.length = n ∧ ∀ p, p < n → (b[p]!).length = K ∧ ∀ k, k < K → -B ≤ (b[p]!)[k]! ∧ (b[p]!)[k]! ≤ B
structure Ent (n K : Nat) (f : Nat → Nat → Int) (B : Int) (b : List (List Int)) : Prop where
  sh : Shape n K B b
  eq : ∀ p k, p < n → k < K → (b[p]!)[k]! = f p k
def at' (p c : Nat) (x : Int) : Int := if p = c then x else 0
theorem Shape.set {n K : Nat} {B D : Int} {b : List (List Int)} (h : Shape n K B b) {c : Nat} {v : List Int} (hc : c < n) (hv : v.length = K) (hb : ∀ k, k < K → -D ≤ v[k]! ∧ v[k]! ≤ D) (hD : B ≤ D) : Shape n K D (b.set c v) := by
  refine ⟨by simp [h.1], fun p hp => ?_⟩
  rw [getset (by rw [h.1]; exact hc)]
  by_cases e : p = c
  · rw [if_pos e]; exact ⟨hv, hb⟩
  · rw [if_neg e]
    refine ⟨(h.2 p hp).1, fun k hk => ?_⟩
    have := (h.2 p hp).2 k hk
    omega
theorem Shape.plus {n K : Nat} {B D : Int} {b : List (List Int)} (h : Shape n K B b) {c : Nat} {m : List Int} {t : Int} (hc : c < n) (ht : ∀ k, k < K → -D ≤ t * m[k]! ∧ t * m[k]! ≤ D) (hD : 0 ≤ D) :
    Shape n K (B + D) (b.set c (yc (b[c]!) m t)) := by
  have h1 := h.2 c hc
  refine h.set hc (by rw [plusL_len]; exact h1.1) (fun k hk => ?_) (by omega)
  rw [plus_get (by rw [h1.1]; exact hk)]
  have := h1.2 k hk
  have := ht k hk
  omega
theorem Shape.row {n K : Nat} {B : Int} {b : List (List Int)} (h : Shape n K B b) (hB : B ≤ 1000000000000000) (hK : K ≤ 8) {c : Nat} (hc : c < n) : (b[c]!).length = K ∧ Mid (b[c]!) := by
  have h1 := h.2 c hc
  refine ⟨h1.1, by have := h1.1; omega, fun k hk => ?_⟩
  have := h1.2 k (by have := h1.1; omega)
  omega
theorem Ent.add {n K : Nat} {f : Nat → Nat → Int} {B : Int} {b : List (List Int)} (h : Ent n K f B b) {c : Nat} {m : List Int} {t : Int} {D : Int} {b' : List (List Int)} (e : b' = b.set c (yc (b[c]!) m t)) (hc : c < n) (ht : ∀ k, k < K → -D ≤ t * m[k]! ∧ t * m[k]! ≤ D) (hD : 0 ≤ D) :
    Ent n K (fun p k => f p k + at' p c (t * m[k]!)) (B + D) b' := by
  subst e
  refine ⟨h.sh.plus hc ht hD, fun p k hp hk => ?_⟩
  rw [getset (by rw [h.sh.1]; exact hc)]
  unfold at'
  by_cases e : p = c
  · subst e
    rw [if_pos rfl, if_pos rfl, plus_get (by rw [(h.sh.2 p hp).1]; exact hk), h.eq p k hp hk]
  · rw [if_neg e, if_neg e, h.eq p k hp hk]; omega
theorem Shape.mono {n K : Nat} {B D : Int} {b : List (List Int)} (h : Shape n K B b) (hD : B ≤ D) : Shape n K D b := ⟨h.1, fun p hp => ⟨(h.2 p hp).1, fun k hk => by have := (h.2 p hp).2 k hk; omega⟩⟩
theorem Ent.to {n K : Nat} {f g : Nat → Nat → Int} {B D : Int} {b : List (List Int)} (h : Ent n K f B b) (e : ∀ p k, f p k = g p k) (hD : B ≤ D) : Ent n K g D b := ⟨h.sh.mono hD, fun p k hp hk => (h.eq p k hp hk).trans (e p k)⟩
theorem Ent.same {n K : Nat} {f g : Nat → Nat → Int} {B D : Int} {b c : List (List Int)} (h : Ent n K f B b) (h' : Ent n K g D c) (e : ∀ p k, p < n → k < K → f p k = g p k) : b = c := by
  refine ext_get (by rw [h.sh.1, h'.sh.1]) fun p hp => ?_
  rw [h.sh.1] at hp
  refine ext_get (by rw [(h.sh.2 p hp).1, (h'.sh.2 p hp).1]) fun k hk => ?_
  rw [(h.sh.2 p hp).1] at hk
  rw [h.eq p k hp hk, h'.eq p k hp hk, e p k hp hk]
def tab2 (n K : Nat) (f : Nat → Nat → Int) : List (List Int) := (List.range n).map fun p => (List.range K).map (f p)
theorem tab2_len (n K : Nat) (f : Nat → Nat → Int) : (tab2 n K f).length = n := by simp [tab2]
theorem tab2_row {n K : Nat} {f : Nat → Nat → Int} {p : Nat} (hp : p < n) : (tab2 n K f)[p]! = (List.range K).map (f p) := by
  rw [getElem!_pos (tab2 n K f) p (by rw [tab2_len]; exact hp)]; simp [tab2]
theorem Ent.tab {n K : Nat} {f : Nat → Nat → Int} {B : Int} {b : List (List Int)} (h : Ent n K f B b) : b = tab2 n K f := by
  refine ext_get (by rw [h.sh.1, tab2_len]) fun p hp => ?_
  rw [h.sh.1] at hp
  rw [tab2_row hp]
  refine ext_get (by rw [(h.sh.2 p hp).1]; simp) fun k hk => ?_
  rw [(h.sh.2 p hp).1] at hk
  rw [h.eq p k hp hk, getElem!_pos ((List.range K).map (f p)) k (by simpa using hk)]; simp
/-! ### Rules that are applicable -/
def yQ (s : qR) : Nat := s.qF.toNat
abbrev CellsN (s : qR) : Nat := s.qg.length
def IntoUp (s : qR) (t : xF) (r : yB) (k : Nat) : Prop := ∀ j, j < k → t.qy[(r.qx[j]!).qw.toNat]! = true ∧ xK s t (r.qx[j]!).qw = r.qw
theorem IntoUp.succ {s : qR} {t : xF} {r : yB} {k : Nat} (h : IntoUp s t r k) (h1 : t.qy[(r.qx[k]!).qw.toNat]! = true) (h2 : xK s t (r.qx[k]!).qw = r.qw) : IntoUp s t r (k + 1) := fun j hj => by
  by_cases e : j = k
  · subst e; exact ⟨h1, h2⟩
  · exact h j (by omega)
def EnOk (s : qR) (t : xF) (r : yB) : Prop :=
  t.qy[r.qw.toNat]! = true ∧ within r.qI (t.qG[r.qw.toNat]!) = true ∧ within r.qW (t.qG[r.qw.toNat]!) = true ∧ ¬ (0 < sumL r.qX ∧ within r.qX (t.qG[r.qw.toNat]!) = true) ∧ IntoUp s t r r.qx.length
open Classical in
noncomputable def bestOf (s : qR) (t : xF) (z : Int) (c : Nat) : Nat → Int
  | 0 => z
  | k + 1 => if EnOk s t (s.qf[k]!) ∧ (s.qf[k]!).qw.toNat = c then max (bestOf s t z c k) (s.qf[k]!).xM else bestOf s t z c k
noncomputable def bests (s : qR) (t : xF) (z : Int) (n k : Nat) : List Int := tabTo (fun c => bestOf s t z c k) n
theorem Qv (s : qR) (t : xF) (z : Int) (n k : Nat) : (bests s t z n k).length = n := tabTo_len _ _
theorem tab_get {g : Nat → Int} {n c : Nat} (h : c < n) : (tabTo g n)[c]! = g c := by
  rw [getElem!_pos (tabTo g n) c (by rw [tabTo_len]; exact h)]; simp [tabTo]
theorem bests_zero (s : qR) (t : xF) (z : Int) (n : Nat) : List.replicate n z = bests s t z n 0 := by
  refine ext_get (by simp [Qv]) fun k hk => ?_
  rw [List.length_replicate] at hk
  rw [bests, tab_get hk, getElem!_pos (List.replicate n z) k (by simpa using hk)]; simp [bestOf]
theorem bests_get {s : qR} {t : xF} {z : Int} {n k c : Nat} (h : c < n) : (bests s t z n k)[c]! = bestOf s t z c k := tab_get h
theorem bests_set {s : qR} {t : xF} {z : Int} {n k : Nat} (h : EnOk s t (s.qf[k]!)) (hc : (s.qf[k]!).qw.toNat < n) :
    (bests s t z n k).set (s.qf[k]!).qw.toNat (max ((bests s t z n k)[(s.qf[k]!).qw.toNat]!) (s.qf[k]!).xM) = bests s t z n (k + 1) := by
  refine ext_get (by simp [Qv]) fun p hp => ?_
  rw [List.length_set, Qv] at hp
  rw [getset (by rw [Qv]; exact hc), bests_get hc, bests_get hp, bests_get hp, bestOf]
  by_cases e : p = (s.qf[k]!).qw.toNat
  · rw [if_pos e, if_pos ⟨h, e.symm⟩, e]
  · rw [if_neg e, if_neg fun x => e x.2.symm]
theorem bests_skip {s : qR} {t : xF} {z : Int} {n k : Nat} (h : ¬ EnOk s t (s.qf[k]!)) : bests s t z n k = bests s t z n (k + 1) := by
  refine ext_get (by simp [Qv]) fun p hp => ?_
  rw [Qv] at hp
  rw [bests_get hp, bests_get hp, bestOf, if_neg fun x => h x.1]
/-- A rule is applicable: enabled, and none of its cell that is enabled has a greater rank. -/
def Appl (s : qR) (t : xF) (i : Nat) : Prop :=
  EnOk s t (s.qf[i]!) ∧ ∀ j, j < s.qf.length → EnOk s t (s.qf[j]!) → (s.qf[j]!).qw.toNat = (s.qf[i]!).qw.toNat → (s.qf[j]!).xM ≤ (s.qf[i]!).xM
theorem best_ge {s : qR} {t : xF} {z : Int} {c : Nat} : ∀ {k j : Nat}, j < k → EnOk s t (s.qf[j]!) → (s.qf[j]!).qw.toNat = c → (s.qf[j]!).xM ≤ bestOf s t z c k
  | k + 1, j, h, h1, h2 => by
    rw [bestOf]
    by_cases e : j = k
    · subst e; rw [if_pos ⟨h1, h2⟩]; omega
    · have := best_ge (z := z) (show j < k by omega) h1 h2
      split <;> omega
theorem best_le {s : qR} {t : xF} {z : Int} {c : Nat} {x : Int} (hz : z ≤ x) : ∀ {k : Nat}, (∀ j, j < k → EnOk s t (s.qf[j]!) → (s.qf[j]!).qw.toNat = c → (s.qf[j]!).xM ≤ x) → bestOf s t z c k ≤ x
  | 0, _ => hz
  | k + 1, h => by
    rw [bestOf]
    have h1 := best_le hz (k := k) fun j hj => h j (by omega)
    split
    · next h2 => have := h k (by omega) h2.1 h2.2; omega
    · exact h1
theorem appl_iff {s : qR} {t : xF} {z : Int} {i : Nat} (hi : i < s.qf.length) (hz : z ≤ (s.qf[i]!).xM) :
    Appl s t i ↔ EnOk s t (s.qf[i]!) ∧ (s.qf[i]!).xM = bestOf s t z (s.qf[i]!).qw.toNat s.qf.length := by
  constructor
  · rintro ⟨h1, h2⟩
    refine ⟨h1, ?_⟩
    have h3 := best_ge (z := z) hi h1 rfl
    have h4 := best_le (c := (s.qf[i]!).qw.toNat) hz (k := s.qf.length) h2
    omega
  · rintro ⟨h1, h2⟩
    exact ⟨h1, fun j hj h3 h4 => by rw [h2]; exact best_ge hj h3 h4⟩
/-- For each of the first k rules: is it applicable; for the rest: is it enabled? -/
noncomputable def applB (s : qR) (t : xF) (k m : Nat) : List Bool := (List.range m).map fun j => if j < k then dec (Appl s t j) else dec (EnOk s t (s.qf[j]!))
theorem applB_len (s : qR) (t : xF) (k m : Nat) : (applB s t k m).length = m := by simp [applB]
theorem applB_get {s : qR} {t : xF} {k m j : Nat} (h : j < m) : (applB s t k m)[j]! = if j < k then dec (Appl s t j) else dec (EnOk s t (s.qf[j]!)) := by
  rw [getElem!_pos (applB s t k m) j (by rw [applB_len]; exact h)]; simp [applB]
theorem applB_snoc (s : qR) (t : xF) (m : Nat) : applB s t 0 m ++ [dec (EnOk s t (s.qf[m]!))] = applB s t 0 (m + 1) := by simp [applB, List.range_succ]
theorem applB_set {s : qR} {t : xF} {k m : Nat} {x : Bool} (hk : k < m) (hx : x = dec (Appl s t k)) : (applB s t k m).set k x = applB s t (k + 1) m := by
  refine ext_get (by simp [applB_len]) fun p hp => ?_
  rw [List.length_set, applB_len] at hp
  rw [getset (by rw [applB_len]; exact hk), applB_get hp, applB_get hp]
  by_cases e : p = k
  · subst e; rw [if_pos rfl, if_pos (by omega), hx]
  · rw [if_neg e]
    by_cases e1 : p < k
    · rw [if_pos e1, if_pos (by omega)]
    · rw [if_neg e1, if_neg (by omega)]
theorem applB_step0 {s : qR} {t : xF} {k m : Nat} (hk : k < m) (h : (applB s t k m)[k]! = false) : false = dec (Appl s t k) := by
  rw [applB_get hk, if_neg (by omega)] at h
  exact (xf fun x => xP h x.1).symm
theorem applB_step1 {s : qR} {t : xF} {k m n i : Nat} {z : Int} (hk : k < m) (h : (applB s t k m)[k]! = true) (hm : m = s.qf.length) (hc : (s.qf[k]!).qw.toNat < n) (hz : z ≤ (s.qf[k]!).xM) (hi : i = s.qf.length) :
    ((s.qf[k]!).xM == (bests s t z n i)[(s.qf[k]!).qw.toNat]!) = dec (Appl s t k) := by
  rw [applB_get hk, if_neg (by omega)] at h
  refine dec_eq ?_
  rw [beq_iff_eq, bests_get hc, hi, appl_iff (by omega) hz]
  exact ⟨fun e => ⟨vT h, e⟩, fun e => e.2⟩
/-- All applicable rules. -/
noncomputable def appl (s : qR) (t : xF) : List Bool := applB s t s.qf.length s.qf.length
theorem appl_len (s : qR) (t : xF) : (appl s t).length = s.qf.length := applB_len _ _ _ _
theorem appl_get {s : qR} {t : xF} {j : Nat} (h : j < s.qf.length) : (appl s t)[j]! = dec (Appl s t j) := by rw [appl, applB_get h, if_pos h]
theorem appl_true {s : qR} {t : xF} {j : Nat} (h : j < s.qf.length) (h1 : (appl s t)[j]! = true) : Appl s t j := vT (appl_get (s := s) (t := t) h ▸ h1)
theorem appl_false {s : qR} {t : xF} {j : Nat} (h : j < s.qf.length) (h1 : (appl s t)[j]! = false) : ¬ Appl s t j := xP (appl_get (s := s) (t := t) h ▸ h1)
def HaltTo (s : qR) (t : xF) (k : Nat) : Prop := ∀ j, j < k → ¬ Appl s t j
theorem HaltTo.succ {s : qR} {t : xF} {k : Nat} (h : HaltTo s t k) (h1 : ¬ Appl s t k) : HaltTo s t (k + 1) := fun j hj => by
  by_cases e : j = k
  · subst e; exact h1
  · exact h j (by omega)
noncomputable def applL (s : qR) (t : xF) (k : Nat) : List Int := ((List.range k).filter fun j => dec (Appl s t j)).map Int.ofNat
theorem applL_yes {s : qR} {t : xF} {k : Nat} (h : Appl s t k) : applL s t k ++ [(k : Int)] = applL s t (k + 1) := by simp [applL, List.range_succ, List.filter_append, jD h]
theorem applL_no {s : qR} {t : xF} {k : Nat} (h : ¬ Appl s t k) : applL s t k = applL s t (k + 1) := by simp [applL, List.range_succ, List.filter_append, xf h]
noncomputable def appls (s : qR) (t : xF) : List Int := applL s t s.qf.length
theorem applL_le (s : qR) (t : xF) (k : Nat) : (applL s t k).length ≤ k := by
  have := List.length_filter_le (fun j => dec (Appl s t j)) (List.range k)
  simpa [applL] using this
/-- The applicable rules, one by one: the q-th is the first from m on, if there are q before m. -/
theorem appls_at {s : qR} {t : xF} {q m : Nat} (hm : (applL s t m).length = q) (hn : m ≤ s.qf.length) (hq : q < (appls s t).length) :
    ∃ i : Nat, (appls s t)[q]! = (i : Int) ∧ m ≤ i ∧ i < s.qf.length ∧ Appl s t i ∧ (∀ j, m ≤ j → j < i → ¬ Appl s t j) ∧ (applL s t (i + 1)).length = q + 1 := by
  have key : ∀ d m, m + d = s.qf.length → (applL s t m).length = q → ∃ i : Nat, (appls s t)[q]! = (i : Int) ∧ m ≤ i ∧ i < s.qf.length ∧ Appl s t i ∧ (∀ j, m ≤ j → j < i → ¬ Appl s t j) ∧ (applL s t (i + 1)).length = q + 1 := by
    intro d
    induction d with
    | zero => intro m hd hl; exfalso; have e : m = s.qf.length := by omega
              subst e; unfold appls at hq; omega
    | succ d ih =>
      intro m hd hl
      by_cases ha : Appl s t m
      · have hpre : ∀ d' k, m + 1 + d' = k → ∃ more, applL s t k = applL s t m ++ [(m : Int)] ++ more := by
          intro d'
          induction d' with
          | zero => intro k hk; subst hk; exact ⟨[], by rw [Nat.add_zero, ← applL_yes ha]; simp⟩
          | succ d' ih' =>
            intro k hk
            obtain ⟨more, hmore⟩ := ih' (m + 1 + d') rfl
            subst hk
            by_cases hb : Appl s t (m + 1 + d')
            · exact ⟨more ++ [((m + 1 + d' : Nat) : Int)], by rw [← Nat.add_assoc, ← applL_yes hb, hmore]; simp⟩
            · exact ⟨more, by rw [← Nat.add_assoc, ← applL_no hb, hmore]⟩
        obtain ⟨more, hmore⟩ := hpre d s.qf.length (by omega)
        refine ⟨m, ?_, Nat.le_refl _, by omega, ha, fun j h1 h2 => by omega, by rw [← applL_yes ha]; simp [hl]⟩
        rw [appls, hmore, List.append_assoc, getElem!_pos (applL s t m ++ ([(m : Int)] ++ more)) q (by simp [hl]), List.getElem_append_right (by omega)]
        simp [hl]
      · obtain ⟨i, h1, h2, h3, h4, h5, h6⟩ := ih (m + 1) (by omega) (by rw [← applL_no ha]; exact hl)
        exact ⟨i, h1, by omega, h3, h4, fun j hj1 hj2 => by
          by_cases e : j = m
          · subst e; exact ha
          · exact h5 j (by omega) hj2, h6⟩
  exact key (s.qf.length - m) m (by omega) hm
theorem appls_end {s : qR} {t : xF} {q m : Nat} (hm : (applL s t m).length = q) (hn : m ≤ s.qf.length) (hq : (appls s t).length ≤ q) : ∀ j, m ≤ j → j < s.qf.length → ¬ Appl s t j := by
  have key : ∀ d, ∀ m, m + d = s.qf.length → (appls s t).length ≤ (applL s t m).length → ∀ j, m ≤ j → j < s.qf.length → ¬ Appl s t j := by
    intro d
    induction d with
    | zero => intro m hd _ j h1 h2; omega
    | succ d ih =>
      intro m hd hl j h1 h2
      have mono : ∀ d' k, m + 1 + d' = k → (applL s t (m + 1)).length ≤ (applL s t k).length := by
        intro d'
        induction d' with
        | zero => intro k hk; subst hk; exact Nat.le_refl _
        | succ d' ih' =>
          intro k hk
          subst hk
          have := ih' (m + 1 + d') rfl
          rw [← Nat.add_assoc]
          by_cases hb : Appl s t (m + 1 + d')
          · rw [← applL_yes hb]; simp; omega
          · rw [← applL_no hb]; exact this
      have hmono := mono d s.qf.length (by omega)
      by_cases ha : Appl s t m
      · exfalso
        rw [← applL_yes ha] at hmono
        simp at hmono
        unfold appls at hl
        omega
      · by_cases e : j = m
        · subst e; exact ha
        · exact ih (m + 1) (by omega) (by rw [← applL_no ha]; exact hl) j (by omega) h2
  exact key (s.qf.length - m) m (by omega) (by omega)
end Go.Proofs.YtkmlihdacnfhdaaGreat
