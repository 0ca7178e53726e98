/- Walks and laws, printed by program and by hand: what each function comes to, for all arguments, part 3. -/
import Derived.Test.YtgjnaocffdhnbaaGreatA2
import Derived.Shelf.SlSortCmp.Whole1
import Derived.Ground.SlsfProg
import Derived.Shelf.SlicesE.Reverse
import Derived.Shelf.SlGeneric
import Derived.Ground.SlgnProg
import Derived.Test.YtgjnaocffdhnbaaGreatRows
import Derived.ProofKit
import Derived.OpenShut
import Derived.Carry
import Derived.BigQuiet
import Derived.Lib.SmallJoins
namespace Go.Proofs.YtgjnaocffdhnbaaGreat
set_option linter.unusedVariables false
set_option linter.unusedSimpArgs false
open Go.Proofs.YtgjnaocffdhnbaaGreat.Tot (tot)
open Go.Proofs.YtgjnaocffdhnbaaGreat.Mark (cnt mrk mkd mkd_mark cnt_mark)
section

theorem nextTo_ok {s : qM} {t : qO} {cs : List (List Int)} : ∀ {k : Nat}, NoBad s t cs k → ∀ u ∈ jP s t cs k, zT s u
  | 0, _, u, hu => by simp [jP] at hu
  | k + 1, h, u, hu => by
    have ih := nextTo_ok (s := s) (t := t) (cs := cs) (k := k) fun j hj => h j qf
    rw [jP] at hu
    split at hu
    · exact ih u hu
    · rcases List.mem_append.1 hu with h1 | h1
      · exact ih u h1
      · obtain rfl := List.mem_singleton.1 h1
        exact stepBy_ok (Classical.byContradiction fun hc => h k qf hc)
theorem succ_ok {s : qM} {t : qO} : ∀ u ∈ (qY s t).1, zT s u := fun u hu => by
  rw [qY] at hu
  split at hu
  · simp at hu
  · split at hu
    · simp at hu
    · rw [Qb] at hu
      split at hu
      · next h => exact nextTo_ok h u hu
      · simp at hu
theorem least_of {g : Nat → Bool} : ∀ k, g k = true → ∃ m, m ≤ k ∧ g m = true ∧ ∀ j, j < m → g j = false := fun k => Nat.strongRecOn k fun k ih h => by
  by_cases hx : ∃ j, j < k ∧ g j = true
  · obtain ⟨j, hj, h1⟩ := hx
    obtain ⟨m, a, b, c⟩ := ih j hj h1
    exact ⟨m, by omega, b, c⟩
  · exact ⟨k, Nat.le_refl _, h, fun j hj => by
      cases e : g j with
      | false => rfl
      | true => exact absurd ⟨j, hj, e⟩ hx⟩
theorem firstIdx_lt {g : Nat → Bool} {n : Nat} (h : 0 ≤ firstIdx g n) : (firstIdx g n).toNat < n := by
  by_cases hx : ∃ k, k < n ∧ g k = true
  · obtain ⟨k, hk, h1⟩ := hx
    obtain ⟨m, a, b, c⟩ := least_of k h1
    rw [firstIdx_some (show m < n by omega) c b]; omega
  · rw [firstIdx_none (fun j hj => by
      cases e : g j with
      | false => rfl
      | true => exact absurd ⟨j, hj, e⟩ hx)] at h
    omega
def zZ (S nx : List qO) : Nat → List qO × List Int
  | 0 => (S, [])
  | k + 1 => if firstIdx (fun j => decide ((zZ S nx k).1[j]! = nx[k]!)) (zZ S nx k).1.length < 0 then ((zZ S nx k).1 ++ [nx[k]!], (zZ S nx k).2 ++ [((zZ S nx k).1.length : Int)])
    else ((zZ S nx k).1, (zZ S nx k).2 ++ [firstIdx (fun j => decide ((zZ S nx k).1[j]! = nx[k]!)) (zZ S nx k).1.length])
theorem Vb {S nx : List qO} {k : Nat} (h : firstIdx (fun j => decide ((zZ S nx k).1[j]! = nx[k]!)) (zZ S nx k).1.length < 0) :
    (zZ S nx k).1 ++ [nx[k]!] = (zZ S nx (k + 1)).1 ∧ (zZ S nx k).2 ++ [((zZ S nx k).1.length : Int)] = (zZ S nx (k + 1)).2 := by
  rw [zZ, if_pos h]; exact ⟨rfl, rfl⟩
theorem Va {S nx : List qO} {k : Nat} (h : ¬ firstIdx (fun j => decide ((zZ S nx k).1[j]! = nx[k]!)) (zZ S nx k).1.length < 0) :
    (zZ S nx k).1 = (zZ S nx (k + 1)).1 ∧ (zZ S nx k).2 ++ [firstIdx (fun j => decide ((zZ S nx k).1[j]! = nx[k]!)) (zZ S nx k).1.length] = (zZ S nx (k + 1)).2 := by
  rw [zZ, if_neg h]; exact ⟨rfl, rfl⟩
theorem addSt_len {S nx : List qO} : ∀ k, S.length ≤ (zZ S nx k).1.length ∧ (zZ S nx k).1.length ≤ S.length + k ∧ (zZ S nx k).2.length = k
  | 0 => ⟨Nat.le_refl _, Nat.le_refl _, rfl⟩
  | k + 1 => by
    have h := addSt_len (S := S) (nx := nx) k
    rw [zZ]
    split <;> simp only [List.length_append, List.length_cons, List.length_nil] <;> omega
theorem addSt_mem {S nx : List qO} {p : qO → Prop} (h1 : ∀ u ∈ S, p u) (h2 : ∀ u ∈ nx, p u) : ∀ k, k ≤ nx.length → ∀ u ∈ (zZ S nx k).1, p u
  | 0, _, u, hu => h1 u hu
  | k + 1, hk, u, hu => by
    have ih := addSt_mem h1 h2 k qf
    rw [zZ] at hu
    split at hu
    · rcases List.mem_append.1 hu with h | h
      · exact ih u h
      · obtain rfl := List.mem_singleton.1 h
        exact h2 _ (by rw [getElem!_pos nx k qf]; exact List.getElem_mem _)
    · exact ih u hu
noncomputable def grGo (s : qM) : Nat → Nat → List qO → List (List Int) → (List qO × List (List Int)) × Int
  | 0, _, S, R => ((S, R), 0)
  | f + 1, i, S, R => if S.length ≤ i then ((S, R), 0) else if (qY s (S[i]!)).2 ≠ 0 then (([], []), (qY s (S[i]!)).2)
    else if (zZ S (qY s (S[i]!)).1 (qY s (S[i]!)).1.length).1.length > 300 then (([], []), 3)
    else grGo s f (i + 1) (zZ S (qY s (S[i]!)).1 (qY s (S[i]!)).1.length).1 (R ++ [(zZ S (qY s (S[i]!)).1 (qY s (S[i]!)).1.length).2])
noncomputable def grRes (s : qM) (t : qO) : (List qO × List (List Int)) × Int := grGo s 302 0 [t] []
theorem gr_end {s : qM} {f i : Nat} {S : List qO} {R : List (List Int)} (h : S.length ≤ i) : grGo s f i S R = ((S, R), 0) := by
  cases f with
  | zero => rfl
  | succ f => rw [grGo, if_pos h]
theorem gr_code {s : qM} {f i : Nat} {S : List qO} {R : List (List Int)} (hf : 0 < f) (h : i < S.length) (h1 : (qY s (S[i]!)).2 ≠ 0) : grGo s f i S R = (([], []), (qY s (S[i]!)).2) := by
  obtain ⟨f, rfl⟩ : ∃ g, f = g + 1 := ⟨f - 1, by omega⟩
  rw [grGo, if_neg qf, if_pos h1]
theorem gr_many {s : qM} {f i : Nat} {S : List qO} {R : List (List Int)} (hf : 0 < f) (h : i < S.length) (h1 : (qY s (S[i]!)).2 = 0) {k : Nat} (hk : k = (qY s (S[i]!)).1.length) (h2 : (zZ S (qY s (S[i]!)).1 k).1.length > 300) : grGo s f i S R = (([], []), 3) := by
  obtain ⟨f, rfl⟩ : ∃ g, f = g + 1 := ⟨f - 1, by omega⟩
  subst hk
  rw [grGo, if_neg qf, if_neg (fun x => x h1), if_pos h2]
theorem gr_go {s : qM} {f i : Nat} {S : List qO} {R : List (List Int)} (hf : 0 < f) (h : i < S.length) (h1 : (qY s (S[i]!)).2 = 0) {k : Nat} (hk : k = (qY s (S[i]!)).1.length) (h2 : ¬ (zZ S (qY s (S[i]!)).1 k).1.length > 300) :
    grGo s f i S R = grGo s (f - 1) (i + 1) (zZ S (qY s (S[i]!)).1 k).1 (R ++ [(zZ S (qY s (S[i]!)).1 k).2]) := by
  obtain ⟨f, rfl⟩ : ∃ g, f = g + 1 := ⟨f - 1, by omega⟩
  subst hk
  rw [grGo, if_neg qf, if_neg (fun x => x h1), if_neg h2]
  rfl
structure GrOk (S : List qO) (R : List (List Int)) : Prop where
  rows : ∀ i, i < R.length → ∀ k, k < (R[i]!).length → 0 ≤ (R[i]!)[k]! ∧ ((R[i]!)[k]!).toNat < S.length
  lens : ∀ i, i < R.length → (R[i]!).length ≤ 300
  from' : ∀ j, 0 < j → j < S.length → ∃ i, i < R.length ∧ i < j ∧ ∃ k, k < (R[i]!).length ∧ (R[i]!)[k]! = (j : Int)
theorem addSt_rows {S nx : List qO} : ∀ k, (∀ q, q < k → 0 ≤ (zZ S nx k).2[q]! ∧ ((zZ S nx k).2[q]!).toNat < (zZ S nx k).1.length) ∧ ∀ j, S.length ≤ j → j < (zZ S nx k).1.length → ∃ q, q < k ∧ (zZ S nx k).2[q]! = (j : Int)
  | 0 => ⟨fun q hq => by omega, fun j h1 h2 => by have : j < S.length := h2; omega⟩
  | k + 1 => by
    obtain ⟨h1, h2⟩ := addSt_rows (S := S) (nx := nx) k
    obtain ⟨l1, l2, l3⟩ := addSt_len (S := S) (nx := nx) k
    have hg : ∀ (x : Int) q, q < k → ((zZ S nx k).2 ++ [x])[q]! = (zZ S nx k).2[q]! := fun x q hq => by
      rw [getElem!_pos _ q (by simp; omega), getElem!_pos _ q qf, List.getElem_append_left]
    have hk : ∀ (x : Int), ((zZ S nx k).2 ++ [x])[k]! = x := fun x => by
      rw [getElem!_pos _ k (by simp; omega), List.getElem_append_right qf]; simp [l3]
    rw [zZ]
    split
    · refine ⟨fun q hq => ?_, fun j hj hj2 => ?_⟩
      · show 0 ≤ ((zZ S nx k).2 ++ [_])[q]! ∧ (((zZ S nx k).2 ++ [_])[q]!).toNat < ((zZ S nx k).1 ++ [_]).length
        rw [List.length_append, List.length_singleton]
        by_cases e : q = k
        · subst e; rw [hk]; omega
        · rw [hg _ q qf]; have := h1 q qf; omega
      · have hj3 : j < (zZ S nx k).1.length + 1 := by simpa using hj2
        by_cases e : j = (zZ S nx k).1.length
        · exact ⟨k, by omega, by subst e; exact hk _⟩
        · obtain ⟨q, hq, e2⟩ := h2 j hj qf
          exact ⟨q, by omega, by rw [← e2]; exact hg _ q hq⟩
    · next hn =>
      have hb : 0 ≤ firstIdx (fun j => decide ((zZ S nx k).1[j]! = nx[k]!)) (zZ S nx k).1.length := by omega
      have hb2 : (firstIdx (fun j => decide ((zZ S nx k).1[j]! = nx[k]!)) (zZ S nx k).1.length).toNat < (zZ S nx k).1.length := firstIdx_lt hb
      refine ⟨fun q hq => ?_, fun j hj hj2 => ?_⟩
      · show 0 ≤ ((zZ S nx k).2 ++ [_])[q]! ∧ (((zZ S nx k).2 ++ [_])[q]!).toNat < (zZ S nx k).1.length
        by_cases e : q = k
        · subst e; rw [hk]; exact ⟨hb, hb2⟩
        · rw [hg _ q qf]; exact h1 q qf
      · obtain ⟨q, hq, e2⟩ := h2 j hj hj2
        exact ⟨q, by omega, by rw [← e2]; exact hg _ q hq⟩
theorem GrOk.start (t : qO) : GrOk [t] [] := ⟨fun i hi => by simp at hi, fun i hi => by simp at hi, fun j h1 h2 => by simp at h2; omega⟩
theorem GrOk.next {S : List qO} {R : List (List Int)} (h : GrOk S R) (hR : R.length < S.length) {nx : List qO} {k : Nat} (hk : k ≤ 300) : GrOk (zZ S nx k).1 (R ++ [(zZ S nx k).2]) := by
  obtain ⟨h1, h2⟩ := addSt_rows (S := S) (nx := nx) k
  obtain ⟨l1, l2, l3⟩ := addSt_len (S := S) (nx := nx) k
  have hg : ∀ i, i < R.length → (R ++ [(zZ S nx k).2])[i]! = R[i]! := fun i hi => by
    rw [getElem!_pos _ i (by simp; omega), getElem!_pos _ i hi, List.getElem_append_left]
  have he : (R ++ [(zZ S nx k).2])[R.length]! = (zZ S nx k).2 := by
    rw [getElem!_pos _ R.length qm]; simp
  refine ⟨fun i hi q hq => ?_, fun i hi => ?_, fun j hj hj2 => ?_⟩
  · rw [List.length_append, List.length_singleton] at hi
    by_cases e : i = R.length
    · subst e; rw [he] at hq ⊢; exact h1 q qf
    · rw [hg i qf] at hq ⊢; have := h.rows i qf q hq; omega
  · rw [List.length_append, List.length_singleton] at hi
    by_cases e : i = R.length
    · subst e; rw [he]; omega
    · rw [hg i qf]; exact h.lens i qf
  · rw [List.length_append, List.length_singleton]
    by_cases e : j < S.length
    · obtain ⟨i, hi, hij, q, hq, e2⟩ := h.from' j hj e
      exact ⟨i, by omega, hij, q, by rw [hg i hi]; exact hq, by rw [hg i hi]; exact e2⟩
    · obtain ⟨q, hq, e2⟩ := h2 j qf hj2
      exact ⟨R.length, by omega, by omega, q, by rw [he]; omega, by rw [he]; exact e2⟩
def HaltIn (R : List (List Int)) : Nat → Nat → Prop
  | 0, _ => False
  | f + 1, i => ∀ k, k < (R[i]!).length → HaltIn R f ((R[i]!)[k]!).toNat
def mxF (g : Nat → Int) (r : List Int) : Nat → Int
  | 0 => 0
  | k + 1 => max (mxF g r k) (g ((r[k]!).toNat) + 1)
def dpN (R : List (List Int)) : Nat → Nat → Int
  | 0, _ => 0
  | f + 1, i => mxF (dpN R f) (R[i]!) (R[i]!).length
def Fi (R : List (List Int)) (i : Nat) (d : Int) : Prop := ∃ f, HaltIn R f i ∧ dpN R f i = d
def Halts (R : List (List Int)) (i : Nat) : Prop := ∃ f, HaltIn R f i
theorem mxF_congr {g g' : Nat → Int} {r : List Int} : ∀ k : Nat, (∀ q, q < k → g ((r[q]!).toNat) = g' ((r[q]!).toNat)) → mxF g r k = mxF g' r k
  | 0, _ => rfl
  | k + 1, h => by rw [mxF, mxF, mxF_congr k fun q hq => h q qf, h k qf]
theorem haltIn_mono {R : List (List Int)} : ∀ f i, HaltIn R f i → ∀ f', f ≤ f' → HaltIn R f' i ∧ dpN R f' i = dpN R f i
  | 0, _, h, _, _ => h.elim
  | f + 1, i, h, f', hf => by
    obtain ⟨f', rfl⟩ : ∃ x, f' = x + 1 := ⟨f' - 1, by omega⟩
    exact ⟨fun k hk => (haltIn_mono f _ (h k hk) f' qf).1, mxF_congr _ fun q hq => (haltIn_mono f _ (h q hq) f' qf).2⟩
theorem Fi.same {R : List (List Int)} {i : Nat} {d d' : Int} (h : Fi R i d) (h' : Fi R i d') : d = d' := by
  obtain ⟨f, h1, rfl⟩ := h
  obtain ⟨f', h2, rfl⟩ := h'
  by_cases hx : f ≤ f'
  · exact (haltIn_mono f i h1 f' hx).2.symm
  · exact (haltIn_mono f' i h2 f qf).2
theorem Fi.halts {R : List (List Int)} {i : Nat} {d : Int} (h : Fi R i d) : Halts R i := ⟨h.choose, h.choose_spec.1⟩
theorem fi_all {R : List (List Int)} {g : Nat → Int} {r : List Int} : ∀ k : Nat, (∀ q, q < k → Fi R ((r[q]!).toNat) (g ((r[q]!).toNat))) → ∃ f, ∀ q, q < k → HaltIn R f ((r[q]!).toNat) ∧ dpN R f ((r[q]!).toNat) = g ((r[q]!).toNat)
  | 0, _ => ⟨0, fun q hq => by omega⟩
  | k + 1, h => by
    obtain ⟨f, hf⟩ := fi_all k fun q hq => h q qf
    obtain ⟨f', h1, h2⟩ := h k qf
    refine ⟨max f f', fun q hq => ?_⟩
    by_cases e : q = k
    · subst e
      obtain ⟨a, b⟩ := haltIn_mono f' _ h1 (max f f') (Nat.le_max_right ..)
      exact ⟨a, b.trans h2⟩
    · obtain ⟨c, d⟩ := hf q qf
      obtain ⟨a, b⟩ := haltIn_mono f _ c (max f f') (Nat.le_max_left ..)
      exact ⟨a, b.trans d⟩
theorem fi_step {R : List (List Int)} {g : Nat → Int} {i : Nat} (h : ∀ q, q < (R[i]!).length → Fi R (((R[i]!)[q]!).toNat) (g (((R[i]!)[q]!).toNat))) : Fi R i (mxF g (R[i]!) (R[i]!).length) := by
  obtain ⟨f, hf⟩ := fi_all _ h
  exact ⟨f + 1, fun k hk => (hf k hk).1, mxF_congr _ fun q hq => (hf q hq).2⟩
theorem not_halt {R : List (List Int)} {p : Nat → Prop} (h : ∀ j, p j → ∃ k, k < (R[j]!).length ∧ p (((R[j]!)[k]!).toNat)) {i : Nat} (hi : p i) : ¬ Halts R i := by
  rintro ⟨f, hf⟩
  induction f generalizing i with
  | zero => exact hf
  | succ f ih =>
    obtain ⟨k, hk, hp⟩ := h i hi
    exact ih hp (hf k hk)
theorem Halts.go {R : List (List Int)} {i k : Nat} (h : Halts R i) (hk : k < (R[i]!).length) : Halts R (((R[i]!)[k]!).toNat) := by
  obtain ⟨f, hf⟩ := h
  cases f with
  | zero => exact hf.elim
  | succ f => exact ⟨f, hf k hk⟩
theorem halts_all {S : List qO} {R : List (List Int)} (h : GrOk S R) (h0 : Halts R 0) : ∀ j, j < S.length → Halts R j := fun j => Nat.strongRecOn j fun j ih hj => by
  by_cases e : j = 0
  · subst e; exact h0
  · obtain ⟨i, h1, h2, k, hk, he⟩ := h.from' j qf hj
    have := (ih i h2 qf).go hk
    rwa [he] at this
structure LayI (R : List (List Int)) (D : List Int) (O : List Bool) (left : Int) : Prop where
  dl : D.length = R.length
  ol : O.length = R.length
  fi : ∀ j, j < R.length → O[j]! = true → Fi R j (D[j]!)
  nn : ∀ j, j < R.length → 0 ≤ D[j]! ∧ D[j]! ≤ R.length - left
  lf : left = R.length - (O.count true : Int)
theorem repAt1 {α : Type} [Inhabited α] {n j : Nat} {a : α} (h : j < n) : (List.replicate n a)[j]! = a := by rw [getElem!_pos _ j (by simpa using h)]; simp
theorem LayI.start (R : List (List Int)) : LayI R (List.replicate R.length 0) (List.replicate R.length false) R.length :=
  ⟨by simp, by simp, fun j hj h => by rw [repAt1 hj] at h; exact absurd h qj, fun j hj => by rw [repAt1 hj]; omega, by simp [List.count_replicate]⟩
theorem mxF_le {g : Nat → Int} {r : List Int} {m : Int} (hm : 0 ≤ m) : ∀ k : Nat, (∀ q, q < k → g ((r[q]!).toNat) + 1 ≤ m) → 0 ≤ mxF g r k ∧ mxF g r k ≤ m
  | 0, _ => ⟨Int.le_refl _, hm⟩
  | k + 1, h => by
    have h1 := mxF_le hm k fun q hq => h q qf
    have h2 := h k qf
    rw [mxF]; omega
theorem count_set {O : List Bool} : ∀ {i : Nat}, i < O.length → O[i]! = false → (O.set i true).count true = O.count true + 1 := by
  induction O with
  | nil => intro i h; simp at h
  | cons a O ih =>
    intro i h h1
    cases i with
    | zero => simp at h1; subst h1; simp
    | succ i =>
      have := ih (i := i) (by simpa using h) (by simpa using h1)
      rw [List.set_cons_succ, List.count_cons, List.count_cons, this]; omega
theorem setAt1 {α : Type} [Inhabited α] {l : List α} {i j : Nat} {a : α} (h : j < l.length) : (l.set i a)[j]! = if i = j then a else l[j]! := by
  rw [getElem!_pos _ j (by simpa using h), List.getElem_set, getElem!_pos l j h]
theorem LayI.set {R : List (List Int)} {D : List Int} {O : List Bool} {left : Int} (h : LayI R D O left) {i : Nat} (hi : i < R.length) (h1 : O[i]! = false) (hr : ∀ k, k < (R[i]!).length → (((R[i]!)[k]!).toNat) < R.length)
    (ha : ∀ k, k < (R[i]!).length → O[((R[i]!)[k]!).toNat]! = true) {m : Nat} (hm : m = (R[i]!).length) : LayI R (D.set i (mxF (fun j => D[j]!) (R[i]!) m)) (O.set i true) (left - 1) := by
  subst hm
  have hb := mxF_le (g := fun j => D[j]!) (r := R[i]!) (m := (R.length : Int) - (left - 1)) (by have := h.nn i hi; omega) (R[i]!).length fun q hq => by have := h.nn _ (hr q hq); show D[_]! + 1 ≤ _; omega
  refine ⟨by simp [h.dl], by simp [h.ol], fun j hj ho => ?_, fun j hj => ?_, ?_⟩
  · rw [setAt1 (by rw [h.dl]; exact hj)]
    by_cases e : i = j
    · subst e; rw [if_pos rfl]; exact fi_step fun q hq => h.fi _ (hr q hq) (ha q hq)
    · rw [if_neg e]; rw [setAt1 (by rw [h.ol]; exact hj), if_neg e] at ho; exact h.fi j hj ho
  · rw [setAt1 (by rw [h.dl]; exact hj)]
    by_cases e : i = j
    · rw [if_pos e]; exact hb
    · rw [if_neg e]; have := h.nn j hj; omega
  · rw [count_set (by rw [h.ol]; exact hi) h1]; have := h.lf; omega
theorem count_lt {O : List Bool} : O.count true < O.length → ∃ j, j < O.length ∧ O[j]! = false := by
  induction O with
  | nil => intro h; simp at h
  | cons a O ih =>
    intro h
    cases a with
    | false => exact ⟨0, by simp, rfl⟩
    | true =>
      rw [List.count_cons_self, List.length_cons] at h
      obtain ⟨j, h1, h2⟩ := ih qf
      exact ⟨j + 1, by simpa using h1, by simpa using h2⟩
theorem count_all {O : List Bool} (h : O.length ≤ O.count true) : ∀ j, j < O.length → O[j]! = true := fun j hj => by
  cases e : O[j]! with
  | true => rfl
  | false => have := count_set hj e; have h2 := List.count_le_length (a := true) (l := O.set j true); rw [List.length_set] at h2; omega
def rdTo (O : List Bool) (r : List Int) : Nat → Bool
  | 0 => true
  | k + 1 => rdTo O r k && O[(r[k]!).toNat]!
theorem rdTo_true {O : List Bool} {r : List Int} : ∀ {k : Nat}, rdTo O r k = true → ∀ q, q < k → O[(r[q]!).toNat]! = true
  | 0, _, q, hq => by omega
  | k + 1, h, q, hq => by
    rw [rdTo, Bool.and_eq_true] at h
    by_cases e : q = k
    · subst e; exact h.2
    · exact rdTo_true h.1 q qf
theorem rdTo_false {O : List Bool} {r : List Int} : ∀ {k : Nat}, rdTo O r k = false → ∃ q, q < k ∧ O[(r[q]!).toNat]! = false
  | 0, h => by cases h
  | k + 1, h => by
    rw [rdTo, Bool.and_eq_false_iff] at h
    rcases h with h | h
    · obtain ⟨q, h1, h2⟩ := rdTo_false h; exact ⟨q, by omega, h2⟩
    · exact ⟨k, by omega, h⟩
def NoneR (R : List (List Int)) (O : List Bool) (i : Nat) : Prop := ∀ j, j < i → O[j]! = false → ∃ k, k < (R[j]!).length ∧ O[((R[j]!)[k]!).toNat]! = false
theorem NoneR.succ {R : List (List Int)} {O : List Bool} {i : Nat} (h : NoneR R O i) (h1 : O[i]! = true ∨ ∃ k, k < (R[i]!).length ∧ O[((R[i]!)[k]!).toNat]! = false) : NoneR R O (i + 1) := fun j hj ho => by
  by_cases e : j = i
  · subst e
    rcases h1 with h1 | h1
    · rw [h1] at ho; cases ho
    · exact h1
  · exact h j qf ho
theorem lay_end {S : List qO} {R : List (List Int)} {D : List Int} {O : List Bool} {left : Int} (h : LayI R D O left) (h1 : left ≤ 0) (h0 : 0 < R.length) : Fi R 0 (D[0]!) :=
  h.fi 0 h0 (count_all (by have := h.lf; rw [h.ol]; omega) 0 (by rw [h.ol]; exact h0))
theorem lay_not {S : List qO} {R : List (List Int)} {D : List Int} {O : List Bool} {left : Int} (h : LayI R D O left) (h1 : 0 < left) (g : GrOk S R) (hl : R.length = S.length) (hn : NoneR R O R.length) : ¬ Halts R 0 := fun h0 => by
  obtain ⟨j, hj, ho⟩ := count_lt (O := O) (by have := h.lf; rw [h.ol]; omega)
  rw [h.ol] at hj
  refine not_halt (p := fun j => j < R.length ∧ O[j]! = false) (fun j ⟨a, b⟩ => ?_) ⟨hj, ho⟩ (halts_all g h0 j qf)
  obtain ⟨k, hk, hf⟩ := hn j a b
  exact ⟨k, hk, by have := (g.rows j a k hk).2; omega, hf⟩
open Classical in
noncomputable def lonD (R : List (List Int)) : Int := if h : ∃ d, Fi R 0 d then h.choose else 0
open Classical in
theorem lonD_of {R : List (List Int)} {d : Int} (h : Fi R 0 d) : lonD R = d := by
  have hx : ∃ d, Fi R 0 d := ⟨d, h⟩
  rw [lonD, dif_pos hx]; exact hx.choose_spec.same h
open Classical in
noncomputable def QU (s : qM) (t : qO) : Int × Int := if yg s ∧ zT s t then (if (grRes s t).2 = 0 then (if Halts (grRes s t).1.2 0 then (lonD (grRes s t).1.2, 0) else (0, 4)) else (0, (grRes s t).2)) else (0, 1)
theorem succ_len (s : qM) (t : qO) : (qY s t).1.length ≤ 300 := by
  rw [qY]
  split
  · simp
  · split
    · simp
    · have := cho_len s t
      rw [Qb]
      split
      · have := nextTo_len (s := s) (t := t) (cs := (vF s t).1) (vF s t).1.length; show (jP ..).length ≤ _; omega
      · simp
inductive Rch (R : List (List Int)) : Nat → Nat → Prop
  | refl (j : Nat) : Rch R j j
  | step {j i : Nat} (k : Nat) : k < (R[j]!).length → Rch R (((R[j]!)[k]!).toNat) i → Rch R j i
theorem Rch.one {R : List (List Int)} {j i : Nat} (h : Rch R j i) {k : Nat} (hk : k < (R[i]!).length) : Rch R j (((R[i]!)[k]!).toNat) := by
  induction h with
  | refl j => exact .step k hk (.refl _)
  | step q hq _ ih => exact .step q hq (ih hk)
theorem Rch.not {R : List (List Int)} {i k : Nat} (hk : k < (R[i]!).length) (h : Rch R (((R[i]!)[k]!).toNat) i) : ¬ Halts R i :=
  not_halt (p := fun j => Rch R j i) (fun j hj => by
    cases hj with
    | refl => exact ⟨k, hk, h⟩
    | step q hq h1 => exact ⟨q, hq, h1⟩) (.refl i)
theorem not_go {R : List (List Int)} {i k : Nat} (hk : k < (R[i]!).length) (h : ¬ Halts R (((R[i]!)[k]!).toNat)) : ¬ Halts R i := fun hi => h (hi.go hk)
def RowsIn (R : List (List Int)) : Prop := R.length ≤ 300 ∧ ∀ j, j < R.length → (R[j]!).length ≤ 300 ∧ ∀ k, k < (R[j]!).length → 0 ≤ (R[j]!)[k]! ∧ ((R[j]!)[k]!).toNat < R.length
structure VisI (R : List (List Int)) (M D : List Int) : Prop where
  ml : M.length = R.length
  dl : D.length = R.length
  mr : ∀ j, j < R.length → M[j]! = 0 ∨ M[j]! = 1 ∨ M[j]! = 2
  fi : ∀ j, j < R.length → M[j]! = 2 → Fi R j (D[j]!)
  nz : ∀ j, j < R.length → M[j]! = 0 → D[j]! = 0
  bd : ∀ j, j < R.length → 0 ≤ D[j]! ∧ D[j]! ≤ M.count 2 ∧ (M[j]! = 2 → D[j]! + 1 ≤ M.count 2)
structure VisEnd (R : List (List Int)) (M D M' D' : List Int) (i : Nat) : Prop where
  vi : VisI R M' D'
  me : M'[i]! = 2
  kp : ∀ j : Nat, M[j]! ≠ 0 → M'[j]! = M[j]! ∧ D'[j]! = D[j]!
  op : ∀ j : Nat, M'[j]! = 1 → M[j]! = 1
  c0 : M'.count 0 ≤ M.count 0
  c2 : M.count 2 ≤ M'.count 2
structure VisL (R : List (List Int)) (M D M' D' : List Int) (i k : Nat) : Prop where
  vi : VisI R M' D'
  m0 : M[i]! = 0
  me : M'[i]! = 1
  kp : ∀ j : Nat, M[j]! ≠ 0 → M'[j]! = M[j]! ∧ D'[j]! = D[j]!
  op : ∀ j : Nat, M'[j]! = 1 → M[j]! = 1 ∨ j = i
  dn : ∀ q : Nat, q < k → M'[((R[i]!)[q]!).toNat]! = 2
  mx : D'[i]! = mxF (fun j => D'[j]!) (R[i]!) k
  c0 : M'.count 0 < M.count 0
  c2 : M.count 2 ≤ M'.count 2
theorem count_setI {l : List Int} {a b c : Int} : ∀ {i : Nat}, i < l.length → l[i]! = b → b ≠ a → ((l.set i a).count c : Int) = l.count c + (if a = c then 1 else 0) - (if b = c then 1 else 0) := by
  induction l with
  | nil => intro i h; simp at h
  | cons x l ih =>
    intro i h h1 hab
    cases i with
    | zero => simp at h1; subst h1; rw [List.set_cons_zero, List.count_cons, List.count_cons]; simp only [beq_iff_eq]; split <;> split <;> omega
    | succ i =>
      have := ih (i := i) (by simpa using h) (by simpa using h1) hab
      rw [List.set_cons_succ, List.count_cons, List.count_cons]; omega
theorem setAt0 {l : List Int} {i j : Nat} {a : Int} : (l.set i a)[j]! = if i = j ∧ j < l.length then a else l[j]! := by
  by_cases h : j < l.length
  · rw [setAt1 h]; simp [h]
  · rw [if_neg qf, getElem!_neg _ j (by simpa using h), getElem!_neg _ j (by simpa using h)]
theorem VisI.start (R : List (List Int)) : VisI R (List.replicate R.length 0) (List.replicate R.length 0) :=
  ⟨by simp, by simp, fun j hj => by rw [repAt1 hj]; omega, fun j hj h => by rw [repAt1 hj] at h; exact absurd h qj, fun j hj _ => repAt1 hj, fun j hj => by rw [repAt1 hj]; exact ⟨by omega, by omega, fun h => absurd h qj⟩⟩
theorem VisL.start {R : List (List Int)} {M D : List Int} (h : VisI R M D) {i : Nat} (hi : i < R.length) (h0 : M[i]! = 0) : VisL R M D (M.set i 1) D i 0 := by
  have hm := h.ml
  have c2 := count_setI (c := 2) (a := 1) (show i < M.length by omega) h0 qj
  have c0 := count_setI (c := 0) (a := 1) (show i < M.length by omega) h0 qj
  simp only [Int.reduceEq, if_false, if_true] at c0 c2
  refine ⟨⟨by simp [h.ml], h.dl, fun j hj => ?_, fun j hj hx => ?_, fun j hj hx => ?_, fun j hj => ?_⟩, h0, by rw [setAt0, if_pos ⟨rfl, by omega⟩], fun j hj => ?_, fun j hj => ?_, fun q hq => by omega, h.nz i hi h0, by omega, by omega⟩
  · rw [setAt0]; split
    · omega
    · exact h.mr j hj
  · rw [setAt0] at hx; split at hx
    · omega
    · exact h.fi j hj hx
  · rw [setAt0] at hx; split at hx
    · omega
    · exact h.nz j hj hx
  · have hb := h.bd j hj
    rw [setAt0]; split
    · exact ⟨hb.1, by omega, fun hx => absurd hx qj⟩
    · exact ⟨hb.1, by omega, fun hx => by have := hb.2.2 hx; omega⟩
  · rw [setAt0, if_neg (by rintro ⟨rfl, _⟩; exact hj h0)]; exact ⟨rfl, rfl⟩
  · rw [setAt0] at hj; split at hj
    · exact .inr qf
    · exact .inl hj
theorem VisL.open' {R : List (List Int)} {M D M' D' : List Int} {i k : Nat} (h : VisL R M D M' D' i k) (hk : k < (R[i]!).length) (hr : ∀ j, M[j]! = 1 → Rch R j i) : ∀ j, M'[j]! = 1 → Rch R j (((R[i]!)[k]!).toNat) := fun j hj => by
  rcases h.op j hj with h1 | rfl
  · exact (hr j h1).one hk
  · exact (Rch.refl j).one hk
theorem VisL.cyc {R : List (List Int)} {M D M' D' : List Int} {i k : Nat} (h : VisL R M D M' D' i k) (hk : k < (R[i]!).length) (hr : ∀ j, M[j]! = 1 → Rch R j i) (h1 : M'[((R[i]!)[k]!).toNat]! = 1) : ¬ Halts R i := by
  refine Rch.not hk ?_
  rcases h.op _ h1 with h2 | h2
  · exact hr _ h2
  · rw [h2]; exact .refl i
theorem VisL.go {R : List (List Int)} {M D M' D' : List Int} {i k : Nat} (h : VisL R M D M' D' i k) (hk : k < (R[i]!).length) (hi : i < R.length) (hR : RowsIn R) (h1 : M'[((R[i]!)[k]!).toNat]! = 2) : VisL R M D M' (D'.set i (max (D'[i]!) (D'[((R[i]!)[k]!).toNat]! + 1))) i (k + 1) := by
  have hv := h.vi
  have hk1 := ((hR.2 i hi).2 k hk).2
  have hne : i ≠ ((R[i]!)[k]!).toNat := fun e => by have := h.me; rw [e, h1] at this; exact absurd this qj
  have hb := hv.bd i hi
  have hb1 := hv.bd _ hk1
  have hb2 := hb1.2.2 h1
  have hs : ∀ j, j ≠ i → (D'.set i (max (D'[i]!) (D'[((R[i]!)[k]!).toNat]! + 1)))[j]! = D'[j]! := fun j hj => by rw [setAt0, if_neg qf]
  have hme : (D'.set i (max (D'[i]!) (D'[((R[i]!)[k]!).toNat]! + 1)))[i]! = max (D'[i]!) (D'[((R[i]!)[k]!).toNat]! + 1) := by rw [setAt0, if_pos ⟨rfl, by rw [hv.dl]; exact hi⟩]
  have hdn : ∀ q, q < k + 1 → M'[((R[i]!)[q]!).toNat]! = 2 := fun q hq => by
    by_cases e : q = k
    · subst e; exact h1
    · exact h.dn q qf
  refine ⟨⟨hv.ml, by simp [hv.dl], hv.mr, fun j hj hx => ?_, fun j hj hx => ?_, fun j hj => ?_⟩, h.m0, h.me, fun j hj => ?_, h.op, hdn, ?_, h.c0, h.c2⟩
  · rw [hs j (fun e => by subst e; rw [h.me] at hx; exact absurd hx qj)]; exact hv.fi j hj hx
  · rw [hs j (fun e => by subst e; rw [h.me] at hx; exact absurd hx qj)]; exact hv.nz j hj hx
  · by_cases e : j = i
    · subst e; rw [hme]; exact ⟨by omega, by omega, fun hx => by rw [h.me] at hx; exact absurd hx qj⟩
    · rw [hs j e]; exact hv.bd j hj
  · have h2 := h.kp j hj
    by_cases e : j = i
    · subst e; exact absurd h.m0 hj
    · rw [hs j e]; exact h2
  · rw [hme, mxF, hs _ (Ne.symm hne)]
    rw [mxF_congr (g' := fun j => D'[j]!) k fun q hq => hs _ (fun e => by have := h.dn q hq; rw [e, h.me] at this; exact absurd this qj)]
    rw [← h.mx]
theorem VisL.sub {R : List (List Int)} {M D M' D' M2 D2 : List Int} {i k j' : Nat} (h : VisL R M D M' D' i k) (e : VisEnd R M' D' M2 D2 j') : VisL R M D M2 D2 i k := by
  have hi := e.kp i (by rw [h.me]; decide)
  have hq : ∀ q, q < k → M2[((R[i]!)[q]!).toNat]! = 2 ∧ D2[((R[i]!)[q]!).toNat]! = D'[((R[i]!)[q]!).toNat]! := fun q hq => by
    have h1 := h.dn q hq
    obtain ⟨a, b⟩ := e.kp _ (show M'[((R[i]!)[q]!).toNat]! ≠ 0 by rw [h1]; decide)
    exact ⟨a.trans h1, b⟩
  refine ⟨e.vi, h.m0, hi.1.trans h.me, fun j hj => ?_, fun j hj => h.op j (e.op j hj), fun q hk => (hq q hk).1, ?_, by have := e.c0; have := h.c0; omega, by have := e.c2; have := h.c2; omega⟩
  · obtain ⟨a, b⟩ := h.kp j hj
    obtain ⟨c, d⟩ := e.kp j (by rw [a]; exact hj)
    exact ⟨c.trans a, d.trans b⟩
  · rw [hi.2, h.mx]; exact mxF_congr k fun q hk => (hq q hk).2.symm
theorem VisL.fin {R : List (List Int)} {M D M' D' : List Int} {i k : Nat} (h : VisL R M D M' D' i k) (hi : i < R.length) (hk : k = (R[i]!).length) : VisEnd R M D (M'.set i 2) D' i ∧ Halts R i := by
  subst hk
  have hv := h.vi
  have hl := hv.ml
  have hf : Fi R i (D'[i]!) := by
    rw [h.mx]; exact fi_step fun q hq => by
      have h1 := h.dn q hq
      have : ((R[i]!)[q]!).toNat < R.length := by
        rcases Nat.lt_or_ge ((R[i]!)[q]!).toNat R.length with a | a
        · exact a
        · rw [getElem!_neg _ _ qf] at h1; exact absurd h1 qj
      exact hv.fi _ this h1
  have c2 := count_setI (c := 2) (a := 2) (show i < M'.length by omega) h.me qj
  have c0 := count_setI (c := 0) (a := 2) (show i < M'.length by omega) h.me qj
  simp only [Int.reduceEq, if_false, if_true] at c0 c2
  refine ⟨⟨⟨by simp [hl], hv.dl, fun j hj => ?_, fun j hj hx => ?_, fun j hj hx => ?_, fun j hj => ?_⟩, by rw [setAt0, if_pos ⟨rfl, by omega⟩], fun j hj => ?_, fun j hj => ?_, by have := h.c0; omega, by have := h.c2; omega⟩, hf.halts⟩
  · rw [setAt0]; split
    · omega
    · exact hv.mr j hj
  · by_cases e : j = i
    · subst e; exact hf
    · rw [setAt0, if_neg qf] at hx; exact hv.fi j hj hx
  · by_cases e : j = i
    · subst e; rw [setAt0, if_pos ⟨rfl, by omega⟩] at hx; exact absurd hx qj
    · rw [setAt0, if_neg qf] at hx; exact hv.nz j hj hx
  · have hb := hv.bd j hj
    exact ⟨hb.1, by omega, fun hx => by
      by_cases e : j = i
      · omega
      · rw [setAt0, if_neg qf] at hx; have := hb.2.2 hx; omega⟩
  · rw [setAt0, if_neg (by rintro ⟨rfl, _⟩; exact hj h.m0)]; exact h.kp j hj
  · rw [setAt0] at hj; split at hj
    · omega
    · rename_i hx; rcases h.op j hj with h1 | h1
      · exact h1
      · omega
theorem GrOk.rowsIn {S : List qO} {R : List (List Int)} (h : GrOk S R) (hl : R.length = S.length) (h3 : R.length ≤ 300) : RowsIn R :=
  ⟨h3, fun j hj => ⟨h.lens j hj, fun k hk => by have := h.rows j hj k hk; omega⟩⟩
theorem VisI.top {R : List (List Int)} {M D : List Int} (h : VisI R M D) (hR : RowsIn R) {j : Nat} (hj : j < R.length) : 0 ≤ D[j]! ∧ D[j]! ≤ 300 := by
  have h1 := h.bd j hj
  have h2 := List.count_le_length (a := 2) (l := M)
  have h3 := h.ml
  have h4 := hR.1
  omega
theorem rep0 {n j : Nat} (h : (List.replicate n (0 : Int))[j]! = 1) : False := by
  by_cases hj : j < n
  · rw [repAt1 hj] at h; exact absurd h qj
  · rw [getElem!_neg _ j (by simpa using hj)] at h; exact absurd h qj
theorem rep_cnt {n : Nat} (h : n ≤ 300) : (List.replicate n (0 : Int)).count 0 ≤ 300 := Nat.le_trans List.count_le_length (by simpa using h)
theorem lr_1 {s : qM} {t : qO} (h : ¬ (yg s ∧ zT s t)) : QU s t = (0, 1) := by rw [QU, if_neg h]
theorem lr_c {s : qM} {t : qO} (h : yg s ∧ zT s t) {x : (List qO × List (List Int)) × Int} {c : Int} (h1 : grRes s t = x) (hc : x.2 = c) (h2 : c ≠ 0) : QU s t = (0, c) := by subst hc h1; rw [QU, if_pos h, if_neg h2]
theorem lr_y {s : qM} {t : qO} (h : yg s ∧ zT s t) {S : List qO} {R : List (List Int)} (h1 : grRes s t = ((S, R), 0)) {d : Int} (h2 : Fi R 0 d) : QU s t = (d, 0) := by
  rw [QU, if_pos h, if_pos (by rw [h1]), h1]; rw [if_pos h2.halts, lonD_of h2]
theorem lr_n {s : qM} {t : qO} (h : yg s ∧ zT s t) {S : List qO} {R : List (List Int)} (h1 : grRes s t = ((S, R), 0)) (h2 : ¬ Halts R 0) : QU s t = (0, 4) := by
  rw [QU, if_pos h, if_pos (by rw [h1]), h1]; rw [if_neg h2]
theorem St.rowel_StateD {W0 w : World} {ps : List Prv} {Γ : List Fact} (H : St W0 w ps Γ) (k : Nat) {b c : Nat} {e : TypeId} {nn : Nat} {xs : List Value} (hp : ps[k]? = some (.row (.slice (some ⟨b, 0, none⟩) nn c) e 3 nn xs)) (j : Nat) {fr : Bool} {F : List Nat} {l : List qO}
    (hf : Γ[j]? = some (zg fr F xs l)) {iv : Int} (i : Nat) (h : iv.toNat = i) (h1 : i < nn) :
    ∃ (aA : Option Addr) (cA : Nat) (FA : List Nat) (aB : Option Addr) (cB : Nat) (FB : List Nat) (aO : Option Addr) (cO : Nat) (FO : List Nat),
      (∀ (q : Nat) (v : Value), ([.slice aA ((l[i]!).qA.length) cA, .slice aB ((l[i]!).qE.length) cB, .slice aO ((l[i]!).qy.length) cO] : List Value)[q]? = some v → xs[0 + iv.toNat * 3 + q]? = some v) ∧
      St W0 w ps (isF fr FA (.slice aA ((l[i]!).qA.length) cA) ((l[i]!).qA) :: isF fr FB (.slice aB ((l[i]!).qE.length) cB) ((l[i]!).qE) :: isF fr FO (.slice aO ((l[i]!).qy.length) cO) ((l[i]!).qy) :: Γ) := by
  obtain ⟨cs, G, hc, hr, hsub, hfr, v1, v2, hv, hv1⟩ := St.rowElem (α := qO) H k hp j hf qj h h1
  obtain ⟨vA, vB, vO, FA, FB, FO, rfl, hFF, hA, hB, hO⟩ := id hr
  obtain ⟨aA, cA, rfl⟩ := slice_form hA
  obtain ⟨aB, cB, rfl⟩ := slice_form hB
  obtain ⟨aO, cO, rfl⟩ := slice_form hO
  refine ⟨aA, cA, FA, aB, cB, FB, aO, cO, FO, fun q v hq => ?_, ?_⟩
  · have hv1 : v1.length = i * 3 := hv1
    have hlt : q < 3 := by
      rcases Nat.lt_or_ge q 3 with h | h
      · exact h
      · rw [List.getElem?_eq_none (by simpa using h)] at hq; cases hq
    rw [hv, List.append_assoc, Nat.zero_add, h, ← hv1, List.getElem?_append_right qf, Nat.add_sub_cancel_left, List.getElem?_append_left (by simpa using hlt)]
    exact hq
  · have s3 := H.yL j hf (isF fr FO (.slice aO ((l[i]!).qy.length) cO) ((l[i]!).qy)) ⟨hO, fun e => (hfr e).sub (by rw [hFF]; intro x hx; simp [hx])⟩ (fun x hx => hsub x (by rw [hFF]; have hx : x ∈ FO := hx; simp [hx]))
    have s2 := s3.yL (j + 1) hf (isF fr FB (.slice aB ((l[i]!).qE.length) cB) ((l[i]!).qE)) ⟨hB, fun e => (hfr e).sub (by rw [hFF]; intro x hx; simp [hx])⟩ (fun x hx => hsub x (by rw [hFF]; have hx : x ∈ FB := hx; simp [hx]))
    exact s2.yL (j + 2) hf (isF fr FA (.slice aA ((l[i]!).qA.length) cA) ((l[i]!).qA)) ⟨hA, fun e => (hfr e).sub (by rw [hFF]; intro x hx; simp [hx])⟩ (fun x hx => hsub x (by rw [hFF]; have hx : x ∈ FA := hx; simp [hx]))
end
section
open Go.RowKit
section
variable {α : Type} [qU α]
theorem reps_perm {w : World} (h1 : qU.size α = 1) : ∀ {z z' : List (Value × α)}, z.Perm z' → ∀ {F : List Nat}, reps w F (z.map Prod.fst) (z.map Prod.snd) → ∃ F', F'.Perm F ∧ reps w F' (z'.map Prod.fst) (z'.map Prod.snd) := by
  intro z z' hp
  have one : ∀ {c : List Value} {G : List Nat} {x : α}, qU.rep w G c x → ∃ v, c = [v] := fun h => List.length_eq_one_iff.1 ((qU.len h).trans h1)
  induction hp with
  | nil => intro F h; exact ⟨F, .refl _, h⟩
  | cons x _ ih =>
    rintro F ⟨F1, F2, c1, c2, rfl, hv, hx, hr⟩
    obtain ⟨v, rfl⟩ := one hx
    obtain ⟨rfl, rfl⟩ := List.cons.inj hv
    obtain ⟨F', hF, hr'⟩ := ih hr
    exact ⟨F1 ++ F', hF.append_left F1, F1, F', [x.1], _, rfl, rfl, hx, hr'⟩
  | swap x y l =>
    rintro F ⟨F1, F2, c1, c2, rfl, hv, hx, F3, F4, c3, c4, rfl, hv2, hy, hr⟩
    obtain ⟨v, rfl⟩ := one hx
    obtain ⟨u, rfl⟩ := one hy
    subst hv2
    obtain ⟨e1, e2⟩ := List.cons.inj hv
    obtain ⟨e3, e4⟩ := List.cons.inj e2
    subst e1 e3 e4
    refine ⟨F3 ++ (F1 ++ F4), ?_, F3, F1 ++ F4, [x.1], y.1 :: _, rfl, rfl, hy, F1, F4, [y.1], _, rfl, rfl, hx, hr⟩
    rw [← List.append_assoc, ← List.append_assoc]
    exact List.perm_append_comm.append_right F4
  | trans _ _ ih1 ih2 =>
    intro F h
    obtain ⟨F1, h1, h2⟩ := ih1 h
    obtain ⟨F2, h3, h4⟩ := ih2 h2
    exact ⟨F2, h3.trans h1, h4⟩
end
theorem swapZ {α : Type} : ∀ {l : List α} {i : Nat} {a b : α}, l[i]? = some a → l[i + 1]? = some b → l.Perm ((l.set (i + 1) a).set i b)
  | [], _, _, _, h, _ => by simp at h
  | x :: l, 0, a, b, h, h1 => by
    cases l with
    | nil => simp at h1
    | cons y l =>
      simp only [List.getElem?_cons_zero, Option.some.injEq] at h
      simp only [List.getElem?_cons_succ, List.getElem?_cons_zero, Option.some.injEq, Nat.zero_add] at h1
      subst h h1
      exact List.Perm.swap ..
  | x :: l, i + 1, a, b, h, h1 => by
    simp only [List.getElem?_cons_succ] at h h1
    exact (swapZ h h1).cons x
theorem zip_at {α β : Type} : ∀ {xs : List α} {l : List β} {i : Nat} {a : α} {b : β}, xs[i]? = some a → l[i]? = some b → (xs.zip l)[i]? = some (a, b) := by
  intro xs l i a b h h1
  rw [List.getElem?_zip_eq_some]
  exact ⟨h, h1⟩
theorem zip_fst {α β : Type} : ∀ {xs : List α} {l : List β}, xs.length = l.length → (xs.zip l).map Prod.fst = xs := by
  intro xs l h; exact List.map_fst_zip qf
theorem zip_snd {α β : Type} : ∀ {xs : List α} {l : List β}, xs.length = l.length → (xs.zip l).map Prod.snd = l := by
  intro xs l h; exact List.map_snd_zip qf
section
variable {W0 w : World} {ps : List Prv} {Γ : List Fact}
theorem St.rowElemX {α : Type} [qU α] (H : St W0 w ps Γ) (k : Nat) {b c : Nat} {e : TypeId} {nn : Nat} {xs : List Value} (hp : ps[k]? = some (.row (.slice (some ⟨b, 0, none⟩) nn c) e 1 nn xs)) (j : Nat) {fr : Bool} {F : List Nat} {l : List (List α)}
    (hf : Γ[j]? = some (zg fr F xs l)) {iv : Int} (i : Nat) (h : iv.toNat = i) (h1 : i < nn) :
    ∃ (a : Option Addr) (c' : Nat) (G : List Nat), (∀ x ∈ G, x ∈ F) ∧ w.cell? ⟨b, 0 + iv.toNat * 1, none⟩ = some (.slice a (l[i]!).length c') ∧ xs[0 + iv.toNat * 1]? = some (.slice a (l[i]!).length c') ∧ xs[iv.toNat]? = some (.slice a (l[i]!).length c') ∧ St W0 w ps (isF fr G (.slice a (l[i]!).length c') (l[i]!) :: Γ) := by
  obtain ⟨cs, G, hc, hr, hsub, hfr, v1, v2, hx, hv⟩ := H.rowElem k hp j hf Nat.one_pos h h1
  obtain ⟨a, c', rfl, hx'⟩ := id hr
  have hxi : xs[i]? = some (.slice a (l[i]!).length c') := by
    have hl1 : v1.length = i := by rw [hv]; exact Nat.mul_one _
    rw [hx, List.append_assoc, List.getElem?_append_right qf]
    simp [hl1]
  exact ⟨a, c', G, hsub, by simpa [qU.size] using hc 0 _ rfl, by rw [show 0 + iv.toNat * 1 = i by omega]; exact hxi, by rw [h]; exact hxi, H.yL j hf _ ⟨hr, hfr⟩ hsub⟩
theorem St.swapR (H : St W0 w ps Γ) (j : Nat) {fr : Bool} {F : List Nat} {xs : List Value} {l : List (List Int)} (hf : Γ[j]? = some (zg fr F xs l)) {k i : Nat} (hk : 0 < k) (hkl : k < l.length) (hi : i = k - 1) {v0 v1 : Value} (h0 : xs[i]? = some v0) (h1 : xs[k]? = some v1) :
    ∃ F', F'.Perm F ∧ St W0 w ps (zg fr F' ((xs.set k v0).set i v1) (swapAt l k) :: Γ) := by
  obtain ⟨hr, hfr⟩ := H.get j hf
  obtain ⟨i, rfl⟩ : ∃ i, k = i + 1 := ⟨k - 1, by omega⟩
  rw [show i + 1 - 1 = i from rfl] at hi
  subst hi
  have hl : xs.length = l.length := by have := reps_len hr; simpa [qU.size] using this
  have e0 : l[i]? = some (l[i]!) := by rw [getElem!_pos l i qf]; exact List.getElem?_eq_getElem qf
  have e1 : l[i + 1]? = some (l[i + 1]!) := by rw [getElem!_pos l (i + 1) hkl]; exact List.getElem?_eq_getElem hkl
  have hp := swapZ (zip_at h0 e0) (zip_at h1 e1)
  have hr' : reps w F ((xs.zip l).map Prod.fst) ((xs.zip l).map Prod.snd) := by
    rw [zip_fst hl, zip_snd hl]
    exact hr
  obtain ⟨F', hF, h2⟩ := reps_perm rfl hp hr'
  refine ⟨F', hF, H.yL j hf _ ⟨?_, fun e x hx => hfr e x (hF.subset hx)⟩ fun x hx => hF.subset hx⟩
  rw [List.map_set, List.map_set, List.map_set, List.map_set, zip_fst hl, zip_snd hl] at h2
  exact h2
theorem Fresh.perm {B : Nat} {L : List (List Nat)} {F F' : List Nat} (N : Fresh B (F :: L)) (h : F'.Perm F) : Fresh B (F' :: L) := N.less (fun b hb => h.subset hb) fun hn => h.nodup_iff.2 hn
end
section
variable {P : Program} {n : Nat} {ρ : Env} {w : World}
theorem ret3 {fn : Func} {R : Ending → World → Prop} {t u z : Nat} (v x y : Value) (hr : fn.results = #[.tmp t, .tmp u, .tmp z]) (hv : ev n ρ (.tmp t) = v) (hx : ev n ρ (.tmp u) = x) (hy : ev n ρ (.tmp z) = y) (h : R (.returned (.tuple #[v, x, y])) w) : bodyPost P fn R .ret (mk n ρ) w := by
  refine bodyPost_ret (results_tmp3 hr _ _ _) rfl ?_
  have e := congrFun (QY n ρ) (.tmp t)
  have e' := congrFun (QY n ρ) (.tmp u)
  have e'' := congrFun (QY n ρ) (.tmp z)
  simp only [Act.eval] at e e' e''
  rw [e, hv, e', hx, e'', hy]
  exact h
end
end
section
open Go.RowKit Go.Shelf Go.Lib Go.Sort
def cmpL : List Int → List Int → Int
  | [], [] => 0
  | [], _ :: _ => -1
  | _ :: _, [] => 1
  | x :: a, y :: b => if x < y then -1 else if y < x then 1 else cmpL a b
theorem cmpL_refl : ∀ a, cmpL a a = 0
  | [] => rfl
  | x :: a => by rw [cmpL, if_neg (Int.lt_irrefl x), if_neg (Int.lt_irrefl x), cmpL_refl a]
theorem cmpL_trans : ∀ {a b c : List Int}, cmpL a b < 0 → cmpL b c < 0 → cmpL a c < 0
  | [], [], _, h, _ => by simp [cmpL] at h
  | [], _ :: _, [], _, h => by simp [cmpL] at h
  | [], _ :: _, _ :: _, _, _ => by simp [cmpL]
  | _ :: _, [], _, h, _ => by simp [cmpL] at h
  | _ :: _, _ :: _, [], _, h => by simp [cmpL] at h
  | x :: a, y :: b, z :: c, h1, h2 => by
    rw [cmpL] at h1 h2 ⊢
    by_cases e1 : x < y
    · by_cases e2 : y < z
      · rw [if_pos qf]; omega
      · rw [if_neg e2] at h2
        by_cases e3 : z < y
        · rw [if_pos e3] at h2; omega
        · rw [if_pos qf]; omega
    · rw [if_neg e1] at h1
      by_cases e2 : y < x
      · rw [if_pos e2] at h1; omega
      · rw [if_neg e2] at h1
        by_cases e3 : y < z
        · rw [if_pos qf]; omega
        · rw [if_neg e3] at h2
          by_cases e4 : z < y
          · rw [if_pos e4] at h2; omega
          · rw [if_neg e4] at h2
            rw [if_neg qf, if_neg qf]
            exact cmpL_trans h1 h2
theorem cmpL_ntrans : ∀ {a b c : List Int}, ¬ cmpL a b < 0 → ¬ cmpL b c < 0 → ¬ cmpL a c < 0
  | [], [], [], _, _ => by simp [cmpL]
  | _ :: _, _, [], _, _ => by simp [cmpL]
  | [], _ :: _, _, h, _ => by simp [cmpL] at h
  | _, [], _ :: _, _, h => by simp [cmpL] at h
  | x :: a, y :: b, z :: c, h1, h2 => by
    rw [cmpL] at h1 h2 ⊢
    by_cases e1 : x < y
    · rw [if_pos e1] at h1; omega
    · rw [if_neg e1] at h1
      by_cases e2 : y < z
      · rw [if_pos e2] at h2; omega
      · rw [if_neg e2] at h2
        rw [if_neg qf]
        by_cases e3 : z < x
        · rw [if_pos e3]; omega
        · rw [if_neg e3]
          have ey : ¬ y < x := by omega
          have ez : ¬ z < y := by omega
          rw [if_neg ey] at h1
          rw [if_neg ez] at h2
          exact cmpL_ntrans h1 h2
theorem drop_cons {l : List Int} {i : Nat} (h : i < l.length) : l.drop i = l[i]! :: l.drop (i + 1) := by
  rw [getElem!_pos l i h]; exact (List.drop_eq_getElem_cons h)
theorem cmp_a {a b : List Int} {i : Nat} (h : i < a.length) (h1 : b.length ≤ i) : cmpL (a.drop i) (b.drop i) = 1 := by rw [drop_cons h, List.drop_eq_nil_of_le h1, cmpL]
theorem cmp_b {a b : List Int} {i : Nat} (h : a.length ≤ i) (h1 : i < b.length) : cmpL (a.drop i) (b.drop i) = -1 := by rw [drop_cons h1, List.drop_eq_nil_of_le h, cmpL]
theorem cmp_c {a b : List Int} {i : Nat} (h : a.length ≤ i) (h1 : b.length ≤ i) : cmpL (a.drop i) (b.drop i) = 0 := by rw [List.drop_eq_nil_of_le h, List.drop_eq_nil_of_le h1, cmpL]
theorem cmp_d {a b : List Int} {i : Nat} (h : i < a.length) (h1 : i < b.length) (h2 : a[i]! < b[i]!) : cmpL (a.drop i) (b.drop i) = -1 := by rw [drop_cons h, drop_cons h1, cmpL, if_pos h2]
theorem cmp_e {a b : List Int} {i : Nat} (h : i < a.length) (h1 : i < b.length) (h2 : a[i]! > b[i]!) : cmpL (a.drop i) (b.drop i) = 1 := by rw [drop_cons h, drop_cons h1, cmpL, if_neg qf, if_pos h2]
theorem cmp_f {a b : List Int} {i : Nat} (h : i < a.length) (h1 : i < b.length) (h2 : ¬ a[i]! < b[i]!) (h3 : ¬ a[i]! > b[i]!) : cmpL (a.drop i) (b.drop i) = cmpL (a.drop (i + 1)) (b.drop (i + 1)) := by rw [drop_cons h, drop_cons h1, cmpL, if_neg h2, if_neg h3]
theorem cmpL_ahead : ∀ {a b : List Int}, a.length = b.length → (cmpL a b < 0 ↔ ahead a b)
  | [], [], _ => ⟨fun h => by simp [cmpL] at h, fun ⟨i, h, _⟩ => by simp at h⟩
  | x :: a, [], h => by simp at h
  | [], y :: b, h => by simp at h
  | x :: a, y :: b, h => by
    have ih := cmpL_ahead (a := a) (b := b) (by simpa using h)
    rw [cmpL]
    constructor
    · intro h1
      by_cases e : x < y
      · exact ⟨0, by simp, fun j hj => by omega, by simpa using e⟩
      · rw [if_neg e] at h1
        by_cases e2 : y < x
        · rw [if_pos e2] at h1; omega
        · rw [if_neg e2] at h1
          obtain ⟨i, h2, h3, h4⟩ := ih.1 h1
          refine ⟨i + 1, by simp; omega, fun j hj => ?_, by simpa using h4⟩
          cases j with
          | zero => simp; omega
          | succ j => simpa using h3 j qf
    · rintro ⟨i, h2, h3, h4⟩
      cases i with
      | zero => rw [if_pos (by simpa using h4)]; omega
      | succ i =>
        have h0 := h3 0 qf
        simp only [List.getElem!_cons_zero] at h0
        rw [if_neg qf, if_neg qf]
        exact ih.2 ⟨i, by simpa using h2, fun j hj => by simpa using h3 (j + 1) qf, by simpa using h4⟩

section
variable {W0 w : World} {ps : List Prv} {Γ : List Fact}
theorem sw_block {α : Type} [Inhabited α] {enc : α → Value} {blk m : Nat} {d : Array α} {os : Array Obj} {k : Nat} (hk : k < w.heap.size) (hne : k ≠ blk) : (sortWorld enc w blk 0 m d os).heap[k]? = w.heap[k]? := by
  unfold sortWorld putRow mapBlock grow
  show ((Sort.ahead w m).heap.modify blk _ ++ os)[k]? = _
  have hs : ((Sort.ahead w m).heap.modify blk (onCells (putCells enc 0 d))).size = w.heap.size := by rw [Array.size_modify]; rfl
  rw [Array.getElem?_append_left (by rw [hs]; exact hk), Array.getElem?_modify, if_neg (Ne.symm hne)]
  rfl
theorem sw_row {α : Type} [Inhabited α] {enc : α → Value} {blk m : Nat} {d : Array α} {os : Array Obj} {cur : Array Value} {e : TypeId} (h : w.heap[blk]? = some (.cells cur e (0, 0))) : (sortWorld enc w blk 0 m d os).heap[blk]? = some (.cells (putCells enc 0 d cur) e (0, 0)) := by
  have hk : blk < w.heap.size := (Array.getElem?_eq_some_iff.1 h).1
  unfold sortWorld putRow mapBlock grow
  show ((Sort.ahead w m).heap.modify blk _ ++ os)[blk]? = _
  have hs : ((Sort.ahead w m).heap.modify blk (onCells (putCells enc 0 d))).size = w.heap.size := by rw [Array.size_modify]; rfl
  rw [Array.getElem?_append_left (by rw [hs]; exact hk), Array.getElem?_modify, if_pos rfl]
  show (w.heap[blk]?).map _ = _
  rw [h]
  rfl
theorem sortRow {P : Program} {ρ : Ren} (L : SlLaysF.n6 P ρ) {g : Nat} (eg : ∀ args w, (callFunc g args).run P w = .ok (.enter g args) w)
    (cmp : ∀ (W : World) (x y : List Int) (a : Option Addr) (c : Nat) (F : List Nat) (a' : Option Addr) (c' : Nat) (F' : List Nat), qU.rep W F [.slice a x.length c] x → qU.rep W F' [.slice a' y.length c'] y →
      Calls P g #[.slice a x.length c, .slice a' y.length c'] W fun e w' => e = .returned (.int .i64 (cmpL x y)) ∧ w' = W)
    (H : St W0 w ps Γ) (k : Nat) {b c : Nat} {e : TypeId} {nn : Nat} {xs : List Value} (hp : ps[k]? = some (.row (.slice (some ⟨b, 0, none⟩) nn c) e 1 nn xs)) (j : Nat) {fr : Bool} {F : List Nat} {l : List (List Int)} (hf : Γ[j]? = some (zg fr F xs l)) (h0 : 0 < l.length) (hsz : l.length < 4611686018427387904) :
    Calls P (ρ.f 6) #[.slice (some ⟨b, 0, none⟩) nn c, .func (.func g) #[] #[]] w fun e' w' => ∃ v, e' = .returned v ∧ ∃ xs' F' l', v = .tuple #[] ∧ F'.Perm F ∧ l.Perm l' ∧ (∀ i j, i < j → j < l'.length → ¬ cmpL (l'[j]!) (l'[i]!) < 0) ∧
      St W0 w' (ps.set k (.row (.slice (some ⟨b, 0, none⟩) nn c) e 1 nn xs')) (zg fr F' xs' l' :: Γ) := by
  have ho := (H.has _ (List.mem_of_getElem? hp) : w.ownsRow W0.heap.size e 1 _ nn xs)
  obtain ⟨hr, hfr⟩ := H.get j hf
  have hxl : xs.length = l.length := by have := reps_len hr; simpa [qU.size] using this
  have hnn : nn = l.length := by have := ho.1; omega
  subst hnn
  obtain ⟨hl, h | ⟨g', cap, cur, hv, hB, hg, hn, hm, hcs, ht⟩⟩ := ho
  · simp at h
  simp only [Value.slice.injEq, Option.some.injEq, Addr.mk.injEq, and_true] at hv
  obtain ⟨rfl, _, rfl⟩ := hv
  have hF := (H.facts _ (List.mem_of_getElem? hf)).2
  have hbF : ∀ x ∈ F, x ≠ b := fun x hx e' => (hF x hx).2 k (by simp [jT, hp, Prv.blk, Value.ownBlock, e'])
  let enc : Nat → Value := fun i => xs[i % l.length]!
  let cf : Nat → Nat → Int := fun i j => cmpL (l[i % l.length]!) (l[j % l.length]!)
  have hmod : ∀ i, i % l.length < l.length := fun i => Nat.mod_lt _ h0
  have hrep : ∀ i, ∃ a c' G, (∀ x ∈ G, x ∈ F) ∧ enc i = .slice a (l[i % l.length]!).length c' ∧ qU.rep w G [.slice a (l[i % l.length]!).length c'] (l[i % l.length]!) := fun i => by
    obtain ⟨F1, Fk, F2, v1, cs, v2, hFe, hxe, hl1, hl2, hu, _, _⟩ := reps_get hr (i % l.length) (hmod i)
    obtain ⟨a, c', rfl, hx⟩ := id hu
    have hl1' : v1.length = i % l.length := by rw [hl1]; exact Nat.mul_one _
    refine ⟨a, c', Fk, fun x hx => by rw [hFe]; simp [hx], ?_, ?_⟩
    · show xs[i % l.length]! = _
      rw [getElem!_pos l _ (hmod i), getElem!_pos xs _ (by rw [hxl]; exact hmod i)]
      have : xs[i % l.length]? = some (.slice a (l[i % l.length]'(hmod i)).length c') := by
        refine (congrArg (fun z : List Value => z[i % l.length]?) hxe).trans ?_
        show (v1 ++ [_] ++ v2)[i % l.length]? = _
        rw [List.append_assoc, List.getElem?_append_right qf]
        simp [hl1']
      exact (List.getElem?_eq_some_iff.1 this).2
    · rw [getElem!_pos l _ (hmod i)]; exact hu
  have hO : OneCell enc := fun i => by obtain ⟨a, c', G, _, he, _⟩ := hrep i; show Value.oneCell' (enc i) = true; rw [he]; rfl
  have hS : SWO (ltOf cf) := by
    refine ⟨fun x => ?_, fun x y z h1 h2 => ?_, fun x y z h1 h2 => ?_⟩ <;> unfold ltOf at *
    · show decide (cmpL _ _ < 0) = false
      rw [cmpL_refl]; rfl
    · exact decide_eq_true (cmpL_trans (of_decide_eq_true h1) (of_decide_eq_true h2))
    · exact decide_eq_false (cmpL_ntrans (of_decide_eq_false h1) (of_decide_eq_false h2))
  let d : Array Nat := Array.range l.length
  have hds : d.size = l.length := Array.size_range
  have hdi : ∀ i, i < l.length → d[i]! = i := fun i hi => by rw [getElem!_pos d i (by rw [hds]; exact hi)]; exact Array.getElem_range _
  have hcx : ∀ i, i < l.length → cur[i]? = some (enc i) := fun i hi => by
    have h1 : xs[i]? = some (enc i) := by
      show xs[i]? = some (xs[i % l.length]!)
      rw [Nat.mod_eq_of_lt hi, getElem!_pos xs i qf]
      exact List.getElem?_eq_getElem qf
    rw [← ht, List.getElem?_take, if_pos qf] at h1
    simpa using h1
  have hH : Holds enc w b 0 d := fun i hi => by
    have hi' : i < l.length := by rw [hds] at hi; exact hi
    rw [hdi i hi', Nat.zero_add]
    constructor
    · rw [World.cell?, hg]; exact hcx i hi'
    · rw [World.frozen?, hg]; simp
  have hcmp : CmpLays1 P g #[] enc cf b 0 d.size w := fun m os dk hs x y => by
    obtain ⟨a, c1, G, hG, he, hx⟩ := hrep x
    obtain ⟨a2, c2, G2, hG2, he2, hy⟩ := hrep y
    have st : ∀ z ∈ F, (sortWorld enc w b 0 m dk os).heap[z]? = w.heap[z]? := fun z hz => sw_block (hF z hz).1 (hbF z hz)
    rw [he, he2]
    refine (cmp _ _ _ a c1 G a2 c2 G2 (qU.stay hx fun z hz => st z (hG z hz)) (qU.stay hy fun z hz => st z (hG2 z hz))).mono fun e' w' h => ⟨h.1, 0, #[], ?_⟩
    rw [grow_empty]; exact h.2
  have hblk : b < w.heap.size := (Array.getElem?_eq_some_iff.1 hg).1
  have hc := Any.slices_SortFunc L enc hO cf hS g #[] b 0 c d w eg hcmp hH hblk (by rw [hds]; exact hsz)
  rw [hds] at hc
  refine hc.mono fun e' w' ⟨he, d', n, os, hpm, hso, hw⟩ => ⟨_, he, ?_⟩
  have hd' : d'.size = l.length := hpm.1.trans hds
  have hperm : d'.toList.Perm (List.range l.length) := by
    have := hpm.2.2
    rw [Array.extract_eq_self_of_le qf, Array.extract_eq_self_of_le qf] at this
    simpa [d] using this
  have hlt : ∀ x ∈ d'.toList, x < l.length := fun x hx => List.mem_range.1 (hperm.subset hx)
  -- the pairs
  have hz : (xs.zip l).Perm (d'.toList.map fun i => (xs[i]!, l[i]!)) := by
    have e1 : xs.zip l = (List.range l.length).map fun i => (xs[i]!, l[i]!) := by
      refine List.ext_getElem (by simp [hxl]) fun i h1 h2 => ?_
      have hi : i < l.length := by simpa using h2
      rw [List.getElem_zip, List.getElem_map, List.getElem_range, getElem!_pos xs i qf, getElem!_pos l i hi]
    rw [e1]
    exact (hperm.map _).symm
  have hr' : reps w F ((xs.zip l).map Prod.fst) ((xs.zip l).map Prod.snd) := by rw [zip_fst hxl, zip_snd hxl]; exact hr
  obtain ⟨F', hF', hr2⟩ := reps_perm rfl hz hr'
  rw [List.map_map, List.map_map] at hr2
  refine ⟨d'.toList.map fun i => xs[i]!, F', d'.toList.map fun i => l[i]!, rfl, hF', ?_, ?_, ?_⟩
  · have := hz.map Prod.snd
    rw [zip_snd hxl, List.map_map] at this
    exact this
  · intro i j hij hj
    rw [List.length_map, Array.length_toList, hd'] at hj
    have hge : ∀ q, q < l.length → (d'.toList.map fun i => l[i]!)[q]! = l[d'[q]! % l.length]! := fun q hq => by
      rw [getElem!_pos _ q (by simp [hd', hq]), List.getElem_map, Array.getElem_toList]
      have : d'[q]! = d'[q] := getElem!_pos d' q qf
      rw [this, Nat.mod_eq_of_lt (hlt _ qm)]
    rw [hge i qf, hge j hj]
    exact of_decide_eq_false (hso i j (Nat.zero_le _) hij hj)
  · subst hw
    have hcells : ∀ q, q < l.length → (putCells enc 0 d' cur)[q]? = some (xs[d'[q]!]!) := fun q hq => by
      unfold putCells
      rw [Array.getElem?_mapIdx]
      have hcq := hcx q hq
      rw [hcq]
      simp only [Option.map_some, Nat.zero_le, true_and, Nat.zero_add, hd', if_pos hq, Nat.sub_zero]
      show some (xs[d'[q]! % l.length]!) = _
      have : d'[q]! = d'[q] := getElem!_pos d' q qf
      rw [this, Nat.mod_eq_of_lt (hlt _ qm)]
    have hown : (sortWorld enc w b 0 n d' os).ownsRow W0.heap.size e 1 (.slice (some ⟨b, 0, none⟩) l.length c) l.length (d'.toList.map fun i => xs[i]!) := by
      refine ⟨by simp [hd'], Or.inr ⟨b, c, putCells enc 0 d' cur, rfl, hB, sw_row hg, hn, hm, by unfold putCells; rw [Array.size_mapIdx]; exact hcs, ?_⟩⟩
      rw [Nat.mul_one]
      refine List.ext_getElem? fun q => ?_
      rw [List.getElem?_take]
      split
      · next hq =>
        rw [Array.getElem?_toList, hcells q hq, List.getElem?_map, Array.getElem?_toList]
        have : d'[q]! = d'[q] := getElem!_pos d' q qf
        rw [this, Array.getElem?_eq_getElem qf]
        rfl
      · next hq => rw [List.getElem?_eq_none (by simp; omega)]
    have hsize : w.heap.size ≤ (sortWorld enc w b 0 n d' os).heap.size := by
      unfold sortWorld putRow mapBlock grow
      show _ ≤ ((Sort.ahead w n).heap.modify b _ ++ os).size
      rw [Array.size_append, Array.size_modify]
      exact Nat.le_add_right _ _
    have H1 := H.change k hp (w' := sortWorld enc w b 0 n d' os) (p' := .row (.slice (some ⟨b, 0, none⟩) l.length c) e 1 l.length (d'.toList.map fun i => xs[i]!)) rfl rfl rfl hsize (fun i hi hne => sw_block hi (fun e2 => hne (by subst e2; rfl))) hown (Or.inl rfl)
    refine H1.add _ ⟨?_, fun e2 x hx => ?_⟩ fun x hx => ?_
    · exact reps_stay hr2 fun z hz => sw_block (hF z (hF'.subset hz)).1 (hbF z (hF'.subset hz))
    · have h2 := hfr e2 x (hF'.subset hx)
      obtain ⟨o1, o2, ho⟩ := h2
      exact ⟨o1, o2, (sw_block (hF x (hF'.subset hx)).1 (hbF x (hF'.subset hx))).trans ho⟩
    · refine ⟨Nat.lt_of_lt_of_le (hF x (hF'.subset hx)).1 hsize, fun i hi => ?_⟩
      have h3 := (hF x (hF'.subset hx)).2
      by_cases e3 : i = k
      · subst e3
        have : (ps.set i (Prv.row (.slice (some ⟨b, 0, none⟩) l.length c) e 1 l.length (d'.toList.map fun i => xs[i]!)))[i]? = some (Prv.row (.slice (some ⟨b, 0, none⟩) l.length c) e 1 l.length (d'.toList.map fun i => xs[i]!)) := set_at hp
        simp only [jT, this, Option.bind_some, Prv.blk, Value.ownBlock, Option.some.injEq] at hi
        exact hbF x (hF'.subset hx) hi.symm
      · have : jT (ps.set k (Prv.row (.slice (some ⟨b, 0, none⟩) l.length c) e 1 l.length (d'.toList.map fun i => xs[i]!))) i = jT ps i := by unfold jT; rw [List.getElem?_set_ne (Ne.symm e3)]
        rw [this] at hi
        exact h3 i hi
end
end
section
open Go.RowKit
set_option linter.unusedVariables false
set_option linter.unusedSimpArgs false
set_option maxRecDepth 100000
set_option maxHeartbeats 4000000
structure GraphD where
  fStates : List qO
  fNext : List (List Int)
  deriving DecidableEq
instance : Inhabited GraphD := ⟨⟨[], []⟩⟩
instance : Tot GraphD := ⟨fun x => tot x.fStates + tot x.fNext⟩
instance : qU GraphD where
  size := 2
  rep := fun w F cs x => ∃ (vStates vNext : Value) (FStates FNext : List Nat), cs = [vStates, vNext] ∧ F = FStates ++ FNext ∧ qU.rep w FStates [vStates] x.fStates ∧ qU.rep w FNext [vNext] x.fNext
  len := by rintro w F cs x ⟨vStates, vNext, FStates, FNext, rfl, _, hStates, hNext⟩; rfl
  one := by
    rintro w F cs x ⟨vStates, vNext, FStates, FNext, rfl, rfl, hStates, hNext⟩ u hu
    simp only [List.mem_cons, List.not_mem_nil, or_false] at hu
    rcases hu with rfl | rfl <;> first | rfl | exact one_of ql
  stay := by
    rintro w w' F cs x ⟨vStates, vNext, FStates, FNext, rfl, rfl, hStates, hNext⟩ hs
    exact ⟨_, _, _, _, rfl, rfl, qU.stay hStates fun b hb => hs b (by simp [hb]), qU.stay hNext fun b hb => hs b (by simp [hb])⟩
  lt := by
    rintro w F cs x ⟨vStates, vNext, FStates, FNext, rfl, rfl, hStates, hNext⟩ b hb
    simp only [List.mem_append] at hb
    rcases hb with (hb | hb)
    · exact qU.lt hStates b hb
    · exact qU.lt hNext b hb
end
section

structure GrAll (s : qM) (S : List qO) (R : List (List Int)) : Prop where
  ok : GrOk S R
  len : R.length = S.length
  pos : 0 < S.length
  le : S.length ≤ 300
  st : ∀ u ∈ S, zT s u
  ht : ∀ j, j < R.length → ((R[j]!).length = 0 ↔ Halted s (S[j]!))
theorem map_snoc! {α β : Type} [Inhabited α] {f : α → β} {l : List α} {q : Nat} (h : q < l.length) : (l.take q).map f ++ [f (l[q]!)] = (l.take (q + 1)).map f := by
  rw [← take_snoc h, List.map_append]; rfl
theorem snoc_lt {α : Type} [Inhabited α] {l : List α} {x : α} {q : Nat} (h : q < l.length) : (l ++ [x])[q]! = l[q]! := by
  rw [getElem!_pos _ q (by simp; omega), getElem!_pos _ q h, List.getElem_append_left]
theorem snoc_eq {α : Type} [Inhabited α] {l : List α} {x : α} : (l ++ [x])[l.length]! = x := by
  rw [getElem!_pos _ l.length qm]; simp
def InTo (R : List (List Int)) (i j q : Nat) : Prop := ∃ k, k < q ∧ ((R[i]!)[k]!).toNat = j
def InRow (R : List (List Int)) (i j : Nat) : Prop := InTo R i j (R[i]!).length
def FromGe (R : List (List Int)) (lo j i : Nat) : Prop := lo ≤ i ∧ i < R.length ∧ InRow R i j ∧ ∀ i', lo ≤ i' → i' < i → ¬ InRow R i' j
open Classical in
noncomputable def frm (R : List (List Int)) (j : Nat) : Nat := if h : ∃ i, FromGe R 0 j i then h.choose else 0
theorem FromGe.same {R : List (List Int)} {lo j i i' : Nat} (h : FromGe R lo j i) (h' : FromGe R lo j i') : i = i' := by
  rcases Nat.lt_trichotomy i i' with h1 | h1 | h1
  · exact absurd h.2.2.1 (h'.2.2.2 i h.1 h1)
  · exact h1
  · exact absurd h'.2.2.1 (h.2.2.2 i' h'.1 h1)
theorem frm_of {R : List (List Int)} {j i : Nat} (h : FromGe R 0 j i) : frm R j = i := by
  have hx : ∃ i, FromGe R 0 j i := ⟨i, h⟩
  rw [frm, dif_pos hx]; exact hx.choose_spec.same h
open Classical in
theorem frm_ok {S : List qO} {R : List (List Int)} (h : GrOk S R) {j : Nat} (h0 : 0 < j) (hj : j < S.length) : FromGe R 0 j (frm R j) ∧ frm R j < j := by
  obtain ⟨i, h1, h2, k, hk, he⟩ := h.from' j h0 hj
  obtain ⟨m, a, b, c⟩ := least_of (g := fun i => decide (InRow R i j)) i (decide_eq_true ⟨k, hk, by omega⟩)
  have hf : FromGe R 0 j m := ⟨Nat.zero_le _, by omega, of_decide_eq_true b, fun i' _ hi' => of_decide_eq_false (c i' hi')⟩
  rw [frm_of hf]; exact ⟨hf, by omega⟩
def FGe (R : List (List Int)) (F : List Int) (lo : Nat) : Prop := ∀ j, j < F.length → ∀ i, FromGe R lo j i → F[j]! = (i : Int)
def FMid (R : List (List Int)) (F : List Int) (i q : Nat) : Prop := ∀ j, j < F.length → (InTo R i j q → F[j]! = (i : Int)) ∧ (¬ InTo R i j q → ∀ i', FromGe R (i + 1) j i' → F[j]! = (i' : Int))
theorem FGe.start {R : List (List Int)} {F : List Int} {lo : Nat} (h : R.length ≤ lo) : FGe R F lo := fun j _ i hi => by have := hi.1; have := hi.2.1; omega
theorem FMid.start {R : List (List Int)} {F : List Int} {i : Nat} (h : FGe R F (i + 1)) : FMid R F i 0 := fun j hj => ⟨fun ⟨k, hk, _⟩ => by omega, fun _ => h j hj⟩
theorem FMid.step {R : List (List Int)} {F : List Int} {i q : Nat} (h : FMid R F i q) {c : Nat} (hc : ((R[i]!)[q]!).toNat = c) : FMid R (F.set c (i : Int)) i (q + 1) := fun j hj => by
  subst hc
  rw [List.length_set] at hj
  obtain ⟨a, b⟩ := h j hj
  have hg : (F.set ((R[i]!)[q]!).toNat (i : Int))[j]! = if ((R[i]!)[q]!).toNat = j ∧ j < F.length then (i : Int) else F[j]! := setAt0
  rw [hg]
  by_cases e : ((R[i]!)[q]!).toNat = j
  · rw [if_pos ⟨e, hj⟩]; exact ⟨fun _ => rfl, fun hn => absurd ⟨q, by omega, e⟩ hn⟩
  · rw [if_neg (fun hx => e hx.1)]
    have hi : InTo R i j (q + 1) ↔ InTo R i j q := ⟨fun ⟨k, hk, he⟩ => ⟨k, by
      by_cases ek : k = q
      · subst ek; exact absurd he e
      · omega, he⟩, fun ⟨k, hk, he⟩ => ⟨k, by omega, he⟩⟩
    rw [hi]; exact ⟨a, b⟩
theorem FMid.fin {R : List (List Int)} {F : List Int} {i q : Nat} (h : FMid R F i q) (hq : q = (R[i]!).length) (hi : i < R.length) : FGe R F i := fun j hj i' hf => by
  subst hq
  obtain ⟨a, b⟩ := h j hj
  by_cases e : InRow R i j
  · rw [a e, hf.same ⟨Nat.le_refl _, hi, e, fun i'' h1 h2 => by omega⟩]
  · refine b e i' ⟨?_, hf.2.1, hf.2.2.1, fun i'' h1 h2 => hf.2.2.2 i'' qf h2⟩
    rcases Nat.lt_or_ge i i' with h1 | h1
    · omega
    · have : i = i' := by have := hf.1; omega
      subst this; exact absurd hf.2.2.1 e
theorem FGe.at' {S : List qO} {R : List (List Int)} {F : List Int} (h : FGe R F 0) (g : GrOk S R) {j : Nat} (h0 : 0 < j) (hj : j < S.length) (hl : F.length = S.length) : F[j]! = (frm R j : Int) := h j qf _ (frm_ok g h0 hj).1
structure FromOk (S : List qO) (R : List (List Int)) (F : List Int) : Prop where
  len : F.length = S.length
  fst : F[0]! = -1
  all : ∀ j, 0 < j → j < S.length → 0 ≤ F[j]! ∧ FromGe R 0 j (F[j]!).toNat
theorem FromOk.start (t : qO) : FromOk [t] [] [-1] := ⟨rfl, rfl, fun j h1 h2 => by simp at h2; omega⟩
theorem FromOk.next {S : List qO} {R : List (List Int)} {F : List Int} (h : FromOk S R F) (g : GrOk S R) {nx : List qO} {k i : Nat} (hp : 0 < S.length) (hi : i = R.length) : FromOk (zZ S nx k).1 (R ++ [(zZ S nx k).2]) (F ++ List.replicate ((zZ S nx k).1.length - S.length) (i : Int)) := by
  subst hi
  obtain ⟨h1, h2⟩ := addSt_rows (S := S) (nx := nx) k
  obtain ⟨l1, l2, l3⟩ := addSt_len (S := S) (nx := nx) k
  have hl := h.len
  have hold : ∀ j, j < S.length → (F ++ List.replicate ((zZ S nx k).1.length - S.length) (R.length : Int))[j]! = F[j]! := fun j hj => by
    rw [getElem!_pos _ j (by simp; omega), getElem!_pos _ j qf, List.getElem_append_left]
  have hrow : ∀ i j, i < R.length → (InRow (R ++ [(zZ S nx k).2]) i j ↔ InRow R i j) := fun i j hi => by
    unfold InRow InTo; rw [snoc_lt hi]
  refine ⟨by simp; omega, by rw [hold 0 hp]; exact h.fst, fun j hj0 hj => ?_⟩
  by_cases e : j < S.length
  · rw [hold j e]
    obtain ⟨a, b, c, d, f⟩ := h.all j hj0 e
    exact ⟨a, b, by rw [List.length_append, List.length_singleton]; omega, (hrow _ _ c).2 d, fun i' h3 h4 hx => f i' h3 h4 ((hrow _ _ qf).1 hx)⟩
  · have hv : (F ++ List.replicate ((zZ S nx k).1.length - S.length) (R.length : Int))[j]! = (R.length : Int) := by
      rw [getElem!_pos _ j (by simp; omega), List.getElem_append_right qf, List.getElem_replicate]
    rw [hv, Int.toNat_natCast]
    refine ⟨by omega, Nat.zero_le _, by simp, ?_, fun i' _ h4 hx => ?_⟩
    · obtain ⟨q, hq, he⟩ := h2 j qf hj
      unfold InRow; rw [snoc_eq]; exact ⟨q, by omega, by rw [snoc_eq, he]; omega⟩
    · obtain ⟨q, hq, he⟩ := (hrow _ _ h4).1 hx
      have := (g.rows i' h4 q hq).2
      omega
theorem FromOk.at' {S : List qO} {R : List (List Int)} {F : List Int} (h : FromOk S R F) {j : Nat} (hj : j < S.length) : (0 ≤ F[j]! ↔ 0 < j) ∧ (0 < j → F[j]! = (frm R j : Int)) := by
  by_cases e : j = 0
  · subst e; rw [h.fst]; exact ⟨by omega, by omega⟩
  · obtain ⟨a, b⟩ := h.all j qf hj
    rw [frm_of b]; exact ⟨by omega, by omega⟩
end
section
open Go.RowKit
section
variable {W0 w : World} {ps : List Prv} {Γ : List Fact} {L : List (List Nat)}
end
end
section
open Go.RowKit Go.Shelf Go.Lib Go.Sort
section
variable {W0 w : World} {ps : List Prv} {Γ : List Fact}
end
end
section
open Go.ChangeShapes Go.WideShapes Go.ChangeAt Go.RowKit Go.Joins
set_option linter.unusedVariables false
set_option linter.unusedSimpArgs false
def Reads (P : Program) (t : TypeId) (α : Type) [qU α] : Prop :=
  ∀ {H : Type} {enc : TypeId × Value → H} {w : World} {spare : Nat → Bool} {held : Bool} {fuel : Nat} {cs : List Value} {x : DataW H × List MemPlace},
    DataW.trod enc P w 0 spare held fuel t cs = some x → ∃ F, ∃ y : α, qU.rep w F cs y

theorem QP {P : Program} {t : TypeId} (hu : P.underlying t = some (.int .i64)) : Reads P t Int := fun h => by
  obtain ⟨n, rfl, _⟩ := DataW.trod_int hu h
  exact ⟨[], n, rfl, rfl⟩
theorem reads_bool {P : Program} {t : TypeId} (hu : P.underlying t = some .bool) : Reads P t Bool := fun h => by
  obtain ⟨b, rfl, _⟩ := DataW.trod_bool hu h
  exact ⟨[], b, rfl, rfl⟩

theorem cell_spot {w : World} {a : Addr} {v : Value} (h : w.cell? a = some v) : a.spot = none := by
  unfold World.cell? at h
  split at h
  · split at h
    · cases h
    · rename_i hs; simpa using hs
  · cases h

theorem yV {α : Type} [qU α] {P : Program} {t e : TypeId} (hu : P.underlying t = some (.slice e)) (hc : P.cellsOf e = qU.size α) (hz : 0 < qU.size α) (he : Reads P e α) : Reads P t (List α) := by
  intro H enc w spare held fuel cs x h
  rcases DataW.trod_slice hu h with ⟨rfl, _⟩ | ⟨a, len, cap, elems, rest, n, _, rfl, _, _, hlc, hcm, hel, hget, _⟩
  · exact ⟨[], [], none, 0, rfl, by simp, Or.inl ⟨rfl, rfl⟩⟩
  · have hm : cap ≤ 9223372036854775807 := by unfold maxLen at hcm; omega
    rcases Nat.eq_zero_or_pos len with h0 | h0
    · subst h0
      exact ⟨[], [], some a, cap, rfl, by simp, Or.inl ⟨rfl, rfl⟩⟩
    · have hone : ∀ i, i < len → ∃ ci Fi, ∃ y : α, w.cells? 0 (a.add (i * qU.size α)) (qU.size α) = some ci ∧ qU.rep w Fi ci y := by
        intro i hi
        have hg := hget i hi
        rw [hc] at hg
        have hs : elems[i]? = some (elems[i]'(by omega)) := List.getElem?_eq_getElem qf
        rw [hs] at hg
        obtain ⟨ci, h1, h2⟩ := Option.bind_eq_some_iff.1 hg
        obtain ⟨Fi, y, hr⟩ := he h2
        exact ⟨ci, Fi, y, h1, hr⟩
      have hsp : a.spot = none := by
        obtain ⟨ci, Fi, y, h1, _⟩ := hone 0 h0
        obtain ⟨_, hl, hcell⟩ := World.cells?_some h1
        have := hcell 0 hz
        rw [List.getElem?_eq_getElem (show 0 < ci.length by omega)] at this
        have := cell_spot this
        simpa [Addr.add] using this
      obtain ⟨b, off, sp⟩ := a
      simp only at hsp
      subst hsp
      have hadd : ∀ i j : Nat, ((⟨b, off, none⟩ : Addr).add (i * qU.size α)).add j = ⟨b, off + i * qU.size α + j, none⟩ := fun i j => by simp [Addr.add_mid]
      have hall : ∀ m, m ≤ len → ∃ F vs, ∃ l : List α, l.length = m ∧ reps w F vs l ∧ vP w b off vs := by
        intro m
        induction m with
        | zero => exact fun _ => ⟨[], [], [], rfl, ⟨rfl, rfl⟩, fun i v hv => by simp at hv⟩
        | succ m ih =>
          intro hm'
          obtain ⟨F, vs, l, hl, hr, hcl⟩ := ih qf
          obtain ⟨ci, Fi, y, h1, h2⟩ := hone m qf
          obtain ⟨_, hcl2, hcell⟩ := World.cells?_some h1
          refine ⟨F ++ Fi, vs ++ ci, l ++ [y], by simp [hl], Qr hr (reps_one h2), fun i v hv => ?_⟩
          have hvl := reps_len hr
          rw [hl] at hvl
          rcases Nat.lt_or_ge i vs.length with hi | hi
          · rw [List.getElem?_append_left hi] at hv
            exact hcl i v hv
          · rw [List.getElem?_append_right hi] at hv
            have hi2 : i - vs.length < ci.length := by
              rcases Nat.lt_or_ge (i - vs.length) ci.length with h | h
              · exact h
              · simp [h] at hv
            have := hcell (i - vs.length) qf
            rw [hadd, hv] at this
            rw [← this]
            congr 1
            rw [show off + i = off + m * qU.size α + (i - vs.length) by omega]
      obtain ⟨F, vs, l, hl, hr, hcl⟩ := hall len (Nat.le_refl _)
      have hb : b < w.heap.size := by
        have h1 : 0 < vs.length := by rw [reps_len hr, hl]; exact Nat.mul_pos h0 hz
        exact World.block_lt_of_cell? w _ (hcl 0 _ (List.getElem?_eq_getElem h1))
      subst hl
      exact ⟨b :: F, l, some ⟨b, off, none⟩, cap, rfl, ⟨by omega, hlc⟩, Or.inr ⟨b, off, F, vs, rfl, rfl, hb, hr, hcl⟩⟩

theorem jH {n : Nat} {cs : List Value} (h : cs.length = n + 1) : ∃ c cs', cs = c :: cs' ∧ cs'.length = n := by
  cases cs with
  | nil => simp at h
  | cons c cs => exact ⟨c, cs, rfl, by simpa using h⟩
theorem jQ {P : Program} {H : Type} {enc : TypeId × Value → H} {w : World} {spare : Nat → Bool} {held : Bool} {fuel : Nat} {t : TypeId} {fs : Array Field} {cs : List Value} {x : DataW H × List MemPlace} (hu : P.underlying t = some (.struct fs))
    (h : DataW.trod enc P w 0 spare held fuel t cs = some x) (i off : Nat) {f : Field} (hf : fs[i]? = some f) (ho : f.offset = off) {α : Type} [qU α] (hr : Reads P f.type α) (h1 : qU.size α = 1) (hc : P.cellsOf f.type = 1) :
    ∃ F, ∃ y : α, ∃ v, cs[off]? = some v ∧ qU.rep w F [v] y := by
  obtain ⟨xs, n, _, _, hl, hxl, hall⟩ := DataW.trod_struct hu h
  have hi : i < xs.length := by
    rw [hxl]
    exact (Array.getElem?_eq_some_iff.1 hf).1
  have hg := hall i f hf
  rw [List.getElem?_eq_getElem hi, hc, ho] at hg
  obtain ⟨F, y, hy⟩ := hr hg
  have hlen := qU.len hy
  rw [h1] at hlen
  obtain ⟨v, cs', e, hl'⟩ := jH hlen
  obtain rfl := List.eq_nil_of_length_eq_zero hl'
  rw [e] at hy
  refine ⟨F, y, v, ?_, hy⟩
  have : (List.take 1 (List.drop off cs))[0]? = some v := by rw [e]; rfl
  simpa using this
theorem arg_struct {P : Program} {α : Type} [qU α] {H : Type} {enc : TypeId × Value → H} {w : World} {spare : Nat → Bool} {held : Bool} {b0 : Nat} {t : TypeId} {fs : Array Field} {v : Value} {d : DataW H} {p : List MemPlace} (hu : P.underlying t = some (.struct fs)) (hr : Reads P t α)
    (hv : Value.okWide P w .any b0 t v) (h : DataW.Trod enc P w 0 spare held t v d p) : ∃ (cs : List Value) (F : List Nat) (x : α), v = .agg cs.toArray ∧ qU.rep w F cs x := by
  obtain ⟨cs, rfl, _⟩ := okWide_struct hu hv
  obtain ⟨fuel, hf⟩ := h
  obtain ⟨F, x, hx⟩ := hr hf
  exact ⟨cs.toList, F, x, by simp, hx⟩
theorem slice_is {α : Type} [qU α] {w : World} {F : List Nat} {v : Value} {l : List α} (h : qU.rep w F [v] l) : ∃ a c, v = .slice a l.length c ∧ qU.rep w F [.slice a l.length c] l := by
  obtain ⟨a, c, hc, _⟩ := id h
  simp only [List.cons.injEq, and_true] at hc
  exact ⟨a, c, hc, hc ▸ h⟩
section
variable {H : Type} {enc : TypeId × Value → H} {P : Program}

theorem trodAll_below (hl : laidOutB P = true) {W W' : World} (hb : Below W.heap.size W W') :
    ∀ (ts : List TypeId) (vs : List Value) (ds : List (DataW H)) (ps : List MemPlace), (∀ t ∈ ts, P.readableRec t = true ∧ t < P.types.size) →
      DataW.TrodAll enc P W 0 (fun _ => true) true ts vs ds ps → (∀ x ∈ ps, x.block < W.heap.size) →
      DataW.TrodAll enc P W' 0 (fun b => decide (b < W.heap.size)) true ts vs ds ps
  | [], vs, ds, ps, _, h, _ => by
    obtain ⟨rfl, rfl, rfl⟩ := trodAll_nil h
    exact trodAll_mk0
  | t :: ts, vs, ds, ps, hr, h, hp => by
    obtain ⟨v, vs', d, ds', p, q, rfl, rfl, rfl, h0, h1⟩ := trodAll_cons h
    have ht := hr t (List.mem_cons_self ..)
    exact trodAll_cons_mk (Below.trod hl ht.1 ht.2 h0 hb (fun x hx => hp x (List.mem_append_left _ hx)))
      (trodAll_below hl hb ts vs' ds' q (fun t' ht' => hr t' (List.mem_cons_of_mem _ ht')) h1 (fun x hx => hp x (List.mem_append_right _ hx)))

theorem post_law {f : Func} {s : ChangeSpec} {W W' : World} {args : Array Value} {tb : TypeId} {ds gs : List (DataW H)} {before : List MemPlace}
    (hW : DataW.Whole enc P f.params.toList s.vars false W args.toList ds gs before) (hv : s.vars = [])
    (hs : s.fn H (ds ++ []) = { results := [.lit (.bool true)], args := ds }) (hr : f.resultTypes = #[tb]) (hu : P.underlying tb = some .bool)
    (hl : laidOutB P = true) (hts : ∀ t ∈ f.params.toList, P.readableRec t = true ∧ t < P.types.size) (hb : Below W.heap.size W W') :
    s.post enc P f false true false false W args (.bool true) W' := by
  have hW' := hW
  obtain ⟨p, q, hA, hV, rfl, hz, hn⟩ := hW
  rw [hv] at hV
  obtain ⟨rfl, rfl⟩ := trodVars_none hV
  have hlt : ∀ x ∈ p ++ [], x.block < W.heap.size := fun x hx => hW'.lt x hx
  refine ⟨ds, [], p ++ [], [], p, [], hW', ?_, ?_, ?_, World.keptBut_mono (fun x hx => ⟨hx, Or.inr (Or.inl (by simpa using hx))⟩) (hb.frame (· ∈ p ++ [])), fun h => by cases h⟩
  · rw [hs, hr]
    simp only [Value.resultList]
    exact trodAll_mk1 (shut_bool hu true)
  · rw [hs]
    exact trodAll_below hl hb _ _ _ _ hts hA (fun x hx => hlt x (by simpa using hx))
  · rw [hv, hs]
    exact rfl
end
end
section
open Go.RowKit
set_option linter.unusedVariables false
set_option linter.unusedSimpArgs false
set_option maxRecDepth 100000
set_option maxHeartbeats 4000000
variable {al qC qL yA yD yB yC QJ jU qV xk qK : Option Addr} {cl bs os qB qI yt yx yu yw QI jR bt ot qP xf qJ : Nat} {Fl qZ xC Ve Vh Vf Vg FrOut FrInto xK zC xB : List Nat}
theorem l01Bag_ok (w : World) (l : List Int) (hl : qU.rep w Fl [.slice al l.length cl] l) : Calls Tryz.prog 150 #[.slice al l.length cl] w (Ret (fun v w' => v = .bool (dec (XU l))) w) := by
 refine en Tryz.func150 Tryz.ntmps150 ?_
 have H := (St.start w).arg hl
 have nhl := qN hl
 clear hl
 refine zcr (sp (.bool false) (zjcc (sp (.int .i64 0) (zjn (xe ?_)))))
 refine zG (fun m' ρ w1 => ∃ (xR : Env) (k : Nat), ρ = upd (upd xR 0 (.slice al l.length cl)) 3 (.int .i64 k) ∧ (k ≤ l.length) ∧ (Counts l k) ∧ m' = l.length - k ∧ St w w1 [] [sF false Fl al cl l]) (l.length - 0) ⟨_, 0, uE2, qf, (by exact Counts.zero l), rfl, H⟩ ?_
 clear H
 rintro m' ρ w2 ⟨xR, k, rfl, i0, i1, rfl, H⟩
 refine zcc (sps [.int .i64 k, .slice al l.length cl] (oN rfl (sp (.bool (decide ((k : Int) < l.length))) (zjn (cD rfl (fun h3 => ?_) (fun h3 => ?_))))))
 ·skip
  refine qX (t_n (zf (xe (zcr (sps [.slice al l.length cl, .int .i64 k] ?_)))))
  obtain ⟨b4, o5, rfl⟩ := H.addr 0 rfl qf
  refine oI rfl rfl (oL rfl (H.jD 0 rfl k qf qf) (sw (oq (l00In_ok w2 (l[k]!) 0 1000) H fun w6 H => sp (.bool (!(inR (l[k]!) 0 1000))) (zjn (xF (!(inR (l[k]!) 0 1000)) rfl (fun h8 => ?_) (fun h8 => ?_))))))
  ·skip
   replace h8 := xw h8
   replace h8 := Xu h8
   refine zcr (sp (.bool false) (zjr (zr5 (ret1 (.bool false) rfl rfl ⟨_, rfl, ?_, H.base⟩))))
   rw [xu (fun h => ‹¬ (0 ≤ l[k]! ∧ l[k]! ≤ 1000)› (h.1 k qf))]
  replace h8 := xn h8
  replace h8 := QS.1 h8
  refine qX (b_n (t_n (zh (sp (.int .i64 k) (sw (zK k 1 rfl rfl qf (sp (.int .i64 (k + 1)) (zi (xh (m' := l.length - (k + 1)) qf ⟨_, k + 1, uE2, ?_, ?_, rfl, H⟩)))))))))
  · omega
  · exact i1.succ ‹_›
 refine zx4 (zcr (sp (.slice al l.length cl) (oN rfl (sw (oq (l00In_ok w2 l.length 1 8) H fun w9 H => sp (.bool (inR l.length 1 8)) (zjr (ret1 (.bool (inR l.length 1 8)) rfl rfl ⟨_, rfl, ?_, H.base⟩)))))))
 obtain rfl : k = l.length := by omega
 refine congrArg Value.bool (dec_eq ?_)
 rw [QS]
 exact ⟨fun h => ⟨i1, by omega, by omega⟩, fun h => by have := h.2; omega⟩

theorem QC (w : World) (s : qM) (b : List Int) {ab : Option Addr} {cb : Nat} {Fb : List Nat} (hs : vP w bs os [.int .i64 s.qQ, .slice qC s.qw.length qB, .slice qL s.qx.length qI]) (xm : qU.rep w qZ [.slice qC s.qw.length qB] s.qw) (xJ : qU.rep w xC [.slice qL s.qx.length qI] s.qx) (hb : qU.rep w Fb [.slice ab b.length cb] b) : Calls Tryz.prog 122 #[pp bs os, .slice ab b.length cb] w (Ret (fun v w' => v = .bool (dec (vk s.qQ b))) w) := by
 refine en Tryz.func122 Tryz.ntmps122 ?_
 have H := ((((St.start w).arg hb).arg xJ).arg xm).XL hs
 have vI := qN xm
 have jB := qN xJ
 have nhb := qN hb
 clear hs xm xJ hb
 refine zcr (sp (.bool false) (zjc (sp (.slice ab b.length cb) (sw (oq (l01Bag_ok _ b (H.get 3 rfl).1) H fun w1 H => sp (.bool (dec (XU b))) ?_)))))
 cases h3 : (dec (XU b))
 ·skip
  replace h3 := vg h3
  refine zn [8, 9, 10, 11, 12, 13, 14] (sps [.bool false, .bool false] (zjr (ret1 (.bool false) rfl rfl ⟨_, rfl, ?_, H.base⟩)))
  rw [xu (fun h => ‹¬ XU b› h.1)]
 replace h3 := Qa h3
 refine qR 7 rfl rfl (sp (.slice ab b.length cb) (qR 7 rfl rfl (oN rfl (qR 7 rfl rfl (sp (pp bs os) (qR 7 rfl rfl (sp (pp bs os) (qR 7 rfl rfl (oF rfl (qR 7 rfl rfl (oL rfl (H.xX 0 rfl 0 rfl) (qR 7 rfl rfl (sps [.bool ((b.length : Int) == s.qQ), .bool ((b.length : Int) == s.qQ), .bool ((b.length : Int) == s.qQ)] (zjr (ret1 (.bool ((b.length : Int) == s.qQ)) rfl rfl ⟨_, rfl, (congrArg Value.bool (dec_eq ?_)), H.base⟩)))))))))))))))
 rw [beq_iff_eq]
 exact ⟨fun h => ⟨‹_›, h⟩, fun h => h.2⟩

theorem l02Frame_ok (w : World) (s : qM) (hs : vP w bs os [.int .i64 s.qQ, .slice qC s.qw.length qB, .slice qL s.qx.length qI]) (xm : qU.rep w qZ [.slice qC s.qw.length qB] s.qw) (xJ : qU.rep w xC [.slice qL s.qx.length qI] s.qx) : Calls Tryz.prog 133 #[pp bs os] w (Ret (fun v w' => v = .bool (dec (yM s))) w) := by
 refine en Tryz.func133 Tryz.ntmps133 ?_
 have H := (((St.start w).arg xJ).arg xm).XL hs
 have vI := qN xm
 have jB := qN xJ
 clear hs xm xJ
 refine zcr (sp (.bool false) (zjcc (sps [pp bs os, pp bs os] (oF rfl (oL rfl (H.xX 0 rfl 0 rfl) (sw (oq (l00In_ok w s.qQ 1 8) H fun w1 H => sps [.bool (!(inR s.qQ 1 8)), .bool (!(inR s.qQ 1 8))] ?_)))))))
 cases h3 : (!(inR s.qQ 1 8))
 ·skip
  replace h3 := xn h3
  replace h3 := QS.1 h3
  refine qR 10 rfl rfl (sp (pp bs os) (qR 10 rfl rfl (sp (pp bs os) (qR 10 rfl rfl (oF rfl (qR 10 rfl rfl (oL rfl (H.xX 0 rfl 1 rfl) (qR 10 rfl rfl (oN rfl (qR 10 rfl rfl (sw (oq (l00In_ok w1 s.qw.length 1 6) H fun w4 H => qR 10 rfl rfl (sps [.bool (!(inR s.qw.length 1 6)), .bool (!(inR s.qw.length 1 6)), .bool (!(inR s.qw.length 1 6))] ?_)))))))))))))
  cases h6 : (!(inR s.qw.length 1 6))
  ·skip
   replace h6 := xn h6
   replace h6 := QS.1 h6
   refine qR 19 rfl rfl (sp (pp bs os) (qR 19 rfl rfl (sp (pp bs os) (qR 19 rfl rfl (oF rfl (qR 19 rfl rfl (oL rfl (H.xX 0 rfl 1 rfl) (qR 19 rfl rfl ?_))))))))
   obtain ⟨b7, o8, rfl⟩ := H.addr 1 rfl qf
   refine oI rfl rfl (qR 19 rfl rfl (oL rfl (H.jD 1 rfl 0 qf qf) (qR 19 rfl rfl (sps [.bool ((s.qw[0]! : Int) != (-1)), .bool ((s.qw[0]! : Int) != (-1))] (zjn (xF ((s.qw[0]! : Int) != (-1)) rfl (fun h9 => ?_) (fun h9 => ?_)))))))
   ·skip
    replace h9 := bne_iff_ne.1 h9
    refine zcr (sp (.bool false) (zjr (t_r (ret1 (.bool false) rfl rfl ⟨_, rfl, ?_, H.base⟩))))
    rw [xu (fun h => by obtain ⟨h1, h2, h3, h4⟩ := h; first | omega | (have := h4 k qf qf; omega))]
   replace h9 := xA h9
   refine qX (t_n (zcc (sp (.int .i64 1) (zjn (xe ?_)))))
   refine zG (fun m' ρ w10 => ∃ (xR : Env) (k : Nat), ρ = upd (upd xR 0 (pp bs os)) 3 (.int .i64 k) ∧ (k ≤ s.qw.length) ∧ (1 ≤ k) ∧ (FrameTo s k) ∧ m' = s.qw.length - k ∧ St w w10 [] [atF bs os [.int .i64 s.qQ, .slice (aa b7 o8) s.qw.length qB, .slice qL s.qx.length qI], sF false qZ (aa b7 o8) qB s.qw, sF false xC qL qI s.qx]) (s.qw.length - 1) ⟨_, 1, uE2, qf, qf, (by exact FrameTo.one s), rfl, H⟩ ?_
   clear H
   rintro m' ρ w11 ⟨xR, k, rfl, i0, i2, i1, rfl, H⟩
   refine zcc (sps [.int .i64 k, pp bs os, pp bs os] (oF rfl (oL rfl (H.xX 0 rfl 1 rfl) (oN rfl (sp (.bool (decide ((k : Int) < s.qw.length))) (zjn (cD rfl (fun h12 => ?_) (fun h12 => ?_))))))))
   ·skip
    refine qX (t_n (zf (xe (zcr (sps [pp bs os, pp bs os] (oF rfl (oL rfl (H.xX 0 rfl 1 rfl) (sp (.int .i64 k) (oI rfl rfl (oL rfl (H.jD 1 rfl k qf qf) (sp (.int .i64 k) (sw (o_sub k 1 rfl rfl qf (sw (oq (l00In_ok w11 (s.qw[k]!) 0 (k - 1)) H fun w13 H => sp (.bool (!(inR (s.qw[k]!) 0 (k - 1)))) (zjn (xF (!(inR (s.qw[k]!) 0 (k - 1))) rfl (fun h15 => ?_) (fun h15 => ?_))))))))))))))))))
    ·skip
     replace h15 := xw h15
     replace h15 := Xu h15
     refine zcr (sp (.bool false) (zjr (zr5 (ret1 (.bool false) rfl rfl ⟨_, rfl, ?_, H.base⟩))))
     rw [xu (fun h => by obtain ⟨h1, h2, h3, h4⟩ := h; first | omega | (have := h4 k qf qf; omega))]
    replace h15 := xn h15
    replace h15 := QS.1 h15
    refine qX (b_n (t_n (zh (sp (.int .i64 k) (sw (zK k 1 rfl rfl qf (sp (.int .i64 (k + 1)) (zi (xh (m' := s.qw.length - (k + 1)) qf ⟨_, k + 1, uE2, ?_, ?_, ?_, rfl, H⟩)))))))))
    · omega
    · omega
    · exact i1.succ ‹_›
   refine zx4 (zcr (sp (.bool true) (zjr (ret1 (.bool true) rfl rfl ⟨_, rfl, ?_, H.base⟩))))
   obtain rfl : k = s.qw.length := by omega
   rw [jZ ⟨by omega, by omega, by omega, i1⟩]
  replace h6 := xw h6
  replace h6 := Xu h6
  refine zn [20, 21, 22, 23, 24, 25, 26] (sp (.bool true) (zjn (xF true rfl (fun _ => zcr (sp (.bool false) (zjr (t_r (ret1 (.bool false) rfl rfl ⟨_, rfl, ?_, H.base⟩))))) (fun h => absurd h qj))))
  rw [xu (fun h => by obtain ⟨h1, h2, h3, h4⟩ := h; first | omega | (have := h4 k qf qf; omega))]
 replace h3 := xw h3
 replace h3 := Xu h3
 refine zn [11, 12, 13, 14, 15, 16, 17] (sps [.bool true, .bool true] (zn [20, 21, 22, 23, 24, 25, 26] (sp (.bool true) (zjn (xF true rfl (fun _ => zcr (sp (.bool false) (zjr (t_r (ret1 (.bool false) rfl rfl ⟨_, rfl, ?_, H.base⟩))))) (fun h => absurd h qj))))))
 rw [xu (fun h => by obtain ⟨h1, h2, h3, h4⟩ := h; first | omega | (have := h4 k qf qf; omega))]

theorem l02In_ok (w : World) (s : qM) (c : Int) (other : Int) (hs : vP w bs os [.int .i64 s.qQ, .slice qC s.qw.length qB, .slice qL s.qx.length qI]) (xm : qU.rep w qZ [.slice qC s.qw.length qB] s.qw) (xJ : qU.rep w xC [.slice qL s.qx.length qI] s.qx) (p0 : yM s) (p1 : CellIn s c) : Calls Tryz.prog 170 #[pp bs os, .int .i64 c, .int .i64 other] w (Ret (fun v w' => v = .bool (dec (Lies s.qw other c))) w) := by
 refine en Tryz.func170 Tryz.ntmps170 ?_
 have H := (((St.start w).arg xJ).arg xm).XL hs
 have vI := qN xm
 have jB := qN xJ
 clear hs xm xJ
 refine zcr (sp (.bool false) (zjn (zf (xe ?_))))
 refine zG (fun m' ρ w1 => ∃ (xR : Env) (y : Int), ρ = upd (upd (upd xR 0 (pp bs os)) 1 (.int .i64 y)) 2 (.int .i64 other) ∧ (0 ≤ y ∧ y ≤ (s.qw.length : Int) - 1) ∧ (Lies s.qw other c ↔ Lies s.qw other y) ∧ m' = y.toNat ∧ St w w1 [] [atF bs os [.int .i64 s.qQ, .slice qC s.qw.length qB, .slice qL s.qx.length qI], sF false qZ qC qB s.qw, sF false xC qL qI s.qx]) (c.toNat) ⟨_, c, uE3, (by exact p1), (by exact Iff.rfl), rfl, H⟩ ?_
 clear H
 rintro m' ρ w2 ⟨xR, y, rfl, i0, i1, rfl, H⟩
 have up := fun h => p0.up (c := y) h i0.2
 refine zcc (sps [.int .i64 y, .bool (decide ((y : Int) > 0))] (zjn (cD rfl (fun h3 => ?_) (fun h3 => ?_))))
 ·skip
  refine qX (t_n (xe (zcr (sps [pp bs os, pp bs os] (oF rfl (oL rfl (H.xX 0 rfl 1 rfl) (sp (.int .i64 y) ?_)))))))
  obtain ⟨b4, o5, rfl⟩ := H.addr 1 rfl qf
  refine oI rfl rfl (oL rfl (H.jD 1 rfl y qf qf) (sp (.int .i64 (s.qw[y.toNat]!)) (zjc (sps [.int .i64 (s.qw[y.toNat]!), .int .i64 other, .bool ((s.qw[y.toNat]! : Int) == other)] (zjn (cE rfl (fun h6 => ?_) (fun h6 => ?_)))))))
  ·skip
   refine zcr (sp (.bool true) (zjr (b_r (t_r (b_r (t_r (ret1 (.bool true) rfl rfl ⟨_, rfl, ?_, H.base⟩)))))))
   rw [jZ (i1.2 (.here qf ‹_›))]
  refine qX (b_n ?_)
  have up1 := up qf
  refine xh (m' := (s.qw[y.toNat]!).toNat) qf ⟨_, (s.qw[y.toNat]!), uE3, ?_, ?_, rfl, H⟩
  · have := up qf; omega
  · exact i1.trans (lies_iff.trans ⟨fun h => h.2.resolve_left ‹_›, fun h => ⟨by omega, .inr h⟩⟩)
 refine zx4 (zcr (sp (.bool false) (zjr (ret1 (.bool false) rfl rfl ⟨_, rfl, ?_, H.base⟩))))
 rw [xu (fun h => by have := (lies_iff.1 (i1.1 h)).1; omega)]

theorem l02Rule_ok (w : World) (s : qM) (r : Qy) {br or : Nat} (hs : vP w bs os [.int .i64 s.qQ, .slice qC s.qw.length qB, .slice qL s.qx.length qI]) (xm : qU.rep w qZ [.slice qC s.qw.length qB] s.qw) (xJ : qU.rep w xC [.slice qL s.qx.length qI] s.qx) (hr : vP w br or [.int .i64 r.qG, .int .i64 r.zQ, .slice yA r.xG.length yt, .slice yD r.xO.length yx, .slice yB r.xP.length yu, .slice yC r.xZ.length yw, .slice QJ r.vJ.length QI, .slice jU r.qW.length jR, .bool r.zJ]) (hrNeed : qU.rep w Ve [.slice yA r.xG.length yt] r.xG) (hrHave : qU.rep w Vh [.slice yD r.xO.length yx] r.xO) (hrLack : qU.rep w Vf [.slice yB r.xP.length yu] r.xP) (hrHere : qU.rep w Vg [.slice yC r.xZ.length yw] r.xZ) (hrOut : qU.rep w FrOut [.slice QJ r.vJ.length QI] r.vJ) (hrInto : qU.rep w FrInto [.slice jU r.qW.length jR] r.qW) (p0 : yM s) : Calls Tryz.prog 134 #[pp bs os, pp br or] w (Ret (fun v w' => v = .bool (dec (RuleOk s r))) w) := by
 refine en Tryz.func134 Tryz.ntmps134 ?_
 have H := ((((((((((St.start w).arg hrInto).arg hrOut).arg hrHere).arg hrLack).arg hrHave).arg hrNeed).XL hr).arg xJ).arg xm).XL hs
 have vI := qN xm
 have jB := qN xJ
 have nhrNeed := qN hrNeed
 have nhrHave := qN hrHave
 have nhrLack := qN hrLack
 have nhrHere := qN hrHere
 have nhrOut := qN hrOut
 have nhrInto := qN hrInto
 clear hs xm xJ hr hrNeed hrHave hrLack hrHere hrOut hrInto
 refine zcr (sp (.bool false) (zjn (zf (zf ?_))))
 refine ji rfl H fun H => rtp 0 (pp br or) H ?_
 refine rtp 1 (pp br or) H ?_
 refine tF 2 rfl rfl H ?_
 refine tL 3 rfl rfl (fun _ h => h.xX 3 rfl 0 rfl) H ?_
 refine rtp 4 (pp bs os) H ?_
 refine rtp 5 (pp bs os) H ?_
 refine tF 6 rfl rfl H ?_
 refine tL 7 rfl rfl (fun _ h => h.xX 0 rfl 1 rfl) H ?_
 refine tN 8 rfl rfl H ?_
 refine rt 9 (.int .i64 (s.qw.length - 1)) (y_sub s.qw.length 1 rfl rfl qf) H ?_
 refine ro 10 rfl (oq (l00In_ok w.drew r.qG 0 (s.qw.length - 1)) H fun w2 H => ⟨H, (rtp 11 (.bool (!(inR r.qG 0 (s.qw.length - 1)))) H ?_)⟩)
 refine rtp 12 (.bool (!(inR r.qG 0 (s.qw.length - 1)))) H ?_
 cases h4 : (!(inR r.qG 0 (s.qw.length - 1)))
 ·skip
  replace h4 := xn h4
  replace h4 := QS.1 h4
  refine rgp 13 (pp br or) 19 H ?_
  refine rgp 14 (pp br or) 19 H ?_
  refine gF 15 rfl rfl H ?_
  refine gL 16 rfl rfl (fun _ h => h.xX 3 rfl 1 rfl) H ?_
  refine vW [17] qh qm (r_opG rfl (e := 19) rfl rfl (oq (l00In_ok w2 r.zQ 0 9) H fun w5 H => ⟨H, (rgp 18 (.bool (!(inR r.zQ 0 9))) 19 H ?_)⟩) vX)
  refine rtp 19 (.bool (!(inR r.zQ 0 9))) H ?_
  refine rtp 20 (.bool (!(inR r.zQ 0 9))) H ?_
  cases h7 : (!(inR r.zQ 0 9))
  ·skip
   replace h7 := xn h7
   replace h7 := QS.1 h7
   refine rgp 21 (pp br or) 27 H ?_
   refine rgp 22 (pp br or) 27 H ?_
   refine gF 23 rfl rfl H ?_
   refine gL 24 rfl rfl (fun _ h => h.xX 3 rfl 8 rfl) H ?_
   refine rgp 25 (.bool r.zJ) 27 H ?_
   cases h8 : (r.zJ)
   ·skip
    rw [h8] at H
    refine zW [26, 27, 28, 29, 30] 5 (H) (rgp 31 (.bool false) 27 H ?_)
    refine rtp 32 (.bool false) H ?_
    refine rtp 33 (.bool false) H ?_
    refine rgp 34 (pp br or) 40 H ?_
    refine rgp 35 (pp br or) 40 H ?_
    refine gF 36 rfl rfl H ?_
    refine gL 37 rfl rfl (fun _ h => h.xX 3 rfl 7 rfl) H ?_
    refine gN 38 rfl rfl H ?_
    refine rgp 39 (.bool (decide ((r.qW.length : Int) > 3))) 40 H ?_
    refine rtp 40 (.bool (decide ((r.qW.length : Int) > 3))) H ?_
    refine xI qh (t_n (cD rfl (fun h9 => ?_) (fun h9 => ?_)))
    ·skip
     refine zcr (sp (.bool false) (zjr (t_r (ret1 (.bool false) rfl rfl ⟨_, rfl, ?_, H.base⟩))))
     rw [xu (fun h => by obtain ⟨h1, h2, h3, h4, h5, h6, h7, h8, h9, h10, h11⟩ := h; first | contradiction | omega | exact h3 ⟨‹_›, ‹_›⟩ | (obtain ⟨q1, q2, q3, q4, q5⟩ := h11 k qf; first | contradiction | omega | (have := q5 qf; omega)))]
    refine qX (t_n (zcc (sps [pp bs os, pp br or, pp br or] (oF rfl (oL rfl (H.xX 3 rfl 2 rfl) (sw (oq (QC _ s r.xG (qH (H.get 0 rfl) 0 3) (H.get 1 rfl).1 (H.get 2 rfl).1 (H.get 4 rfl).1) H fun w10 H => sps [.bool (!(dec (vk s.qQ r.xG))), .bool (!(dec (vk s.qQ r.xG)))] ?_)))))))
    cases h12 : (!(dec (vk s.qQ r.xG)))
    ·skip
     replace h12 := xn h12
     replace h12 := Qa h12
     refine qR 55 rfl rfl (sp (pp bs os) (qR 55 rfl rfl (sp (pp br or) (qR 55 rfl rfl (sp (pp br or) (qR 55 rfl rfl (oF rfl (qR 55 rfl rfl (oL rfl (H.xX 3 rfl 3 rfl) (qR 55 rfl rfl (sw (oq (QC _ s r.xO (qH (H.get 0 rfl) 0 3) (H.get 1 rfl).1 (H.get 2 rfl).1 (H.get 5 rfl).1) H fun w13 H => qR 55 rfl rfl (sps [.bool (!(dec (vk s.qQ r.xO))), .bool (!(dec (vk s.qQ r.xO))), .bool (!(dec (vk s.qQ r.xO)))] ?_)))))))))))))
     cases h15 : (!(dec (vk s.qQ r.xO)))
     ·skip
      replace h15 := xn h15
      replace h15 := Qa h15
      refine qR 64 rfl rfl (sp (pp bs os) (qR 64 rfl rfl (sp (pp br or) (qR 64 rfl rfl (sp (pp br or) (qR 64 rfl rfl (oF rfl (qR 64 rfl rfl (oL rfl (H.xX 3 rfl 4 rfl) (qR 64 rfl rfl (sw (oq (QC _ s r.xP (qH (H.get 0 rfl) 0 3) (H.get 1 rfl).1 (H.get 2 rfl).1 (H.get 6 rfl).1) H fun w16 H => qR 64 rfl rfl (sps [.bool (!(dec (vk s.qQ r.xP))), .bool (!(dec (vk s.qQ r.xP))), .bool (!(dec (vk s.qQ r.xP)))] ?_)))))))))))))
      cases h18 : (!(dec (vk s.qQ r.xP)))
      ·skip
       replace h18 := xn h18
       replace h18 := Qa h18
       refine qR 73 rfl rfl (sp (pp bs os) (qR 73 rfl rfl (sp (pp br or) (qR 73 rfl rfl (sp (pp br or) (qR 73 rfl rfl (oF rfl (qR 73 rfl rfl (oL rfl (H.xX 3 rfl 5 rfl) (qR 73 rfl rfl (sw (oq (QC _ s r.xZ (qH (H.get 0 rfl) 0 3) (H.get 1 rfl).1 (H.get 2 rfl).1 (H.get 7 rfl).1) H fun w19 H => qR 73 rfl rfl (sps [.bool (!(dec (vk s.qQ r.xZ))), .bool (!(dec (vk s.qQ r.xZ))), .bool (!(dec (vk s.qQ r.xZ)))] ?_)))))))))))))
       cases h21 : (!(dec (vk s.qQ r.xZ)))
       ·skip
        replace h21 := xn h21
        replace h21 := Qa h21
        refine qR 82 rfl rfl (sp (pp bs os) (qR 82 rfl rfl (sp (pp br or) (qR 82 rfl rfl (sp (pp br or) (qR 82 rfl rfl (oF rfl (qR 82 rfl rfl (oL rfl (H.xX 3 rfl 6 rfl) (qR 82 rfl rfl (sw (oq (QC _ s r.vJ (qH (H.get 0 rfl) 0 3) (H.get 1 rfl).1 (H.get 2 rfl).1 (H.get 8 rfl).1) H fun w22 H => qR 82 rfl rfl (sps [.bool (!(dec (vk s.qQ r.vJ))), .bool (!(dec (vk s.qQ r.vJ))), .bool (!(dec (vk s.qQ r.vJ)))] ?_)))))))))))))
        cases h24 : (!(dec (vk s.qQ r.vJ)))
        ·skip
         replace h24 := xn h24
         replace h24 := Qa h24
         refine qR 91 rfl rfl (sp (pp br or) (qR 91 rfl rfl (sp (pp br or) (qR 91 rfl rfl (oF rfl (qR 91 rfl rfl (oL rfl (H.xX 3 rfl 2 rfl) (qR 91 rfl rfl (sw (oq (VB _ r.xG (H.get 4 rfl).1 (by first | assumption | exact vM ql | exact yQ ql)) H fun w25 H => qR 91 rfl rfl (sps [.bool ((XR r.xG : Int) == 0), .bool ((XR r.xG : Int) == 0)] (zjn (cE rfl (fun h27 => ?_) (fun h27 => ?_))))))))))))))
         ·skip
          refine zcr (sp (.bool false) (zjr (t_r (ret1 (.bool false) rfl rfl ⟨_, rfl, ?_, H.base⟩))))
          rw [xu (fun h => by obtain ⟨h1, h2, h3, h4, h5, h6, h7, h8, h9, h10, h11⟩ := h; first | contradiction | omega | exact h3 ⟨‹_›, ‹_›⟩ | (obtain ⟨q1, q2, q3, q4, q5⟩ := h11 k qf; first | contradiction | omega | (have := q5 qf; omega)))]
         refine qX (t_n (zcc (sp (.int .i64 0) (zjn (xe ?_)))))
         refine zG (fun m' ρ w28 => ∃ (xR : Env) (k : Nat), ρ = upd (upd (upd xR 0 (pp bs os)) 1 (pp br or)) 5 (.int .i64 k) ∧ (k ≤ r.qW.length) ∧ (IntosTo s r k) ∧ m' = r.qW.length - k ∧ St w w28 [] [atF bs os [.int .i64 s.qQ, .slice qC s.qw.length qB, .slice qL s.qx.length qI], sF false qZ qC qB s.qw, sF false xC qL qI s.qx, atF br or [.int .i64 r.qG, .int .i64 r.zQ, .slice yA r.xG.length yt, .slice yD r.xO.length yx, .slice yB r.xP.length yu, .slice yC r.xZ.length yw, .slice QJ r.vJ.length QI, .slice jU r.qW.length jR, .bool false], sF false Ve yA yt r.xG, sF false Vh yD yx r.xO, sF false Vf yB yu r.xP, sF false Vg yC yw r.xZ, sF false FrOut QJ QI r.vJ, sF false FrInto jU jR r.qW]) (r.qW.length - 0) ⟨_, 0, uE3, qf, (by exact fun j hj => by omega), rfl, H⟩ ?_
         clear H
         rintro m' ρ w29 ⟨xR, k, rfl, i0, i1, rfl, H⟩
         refine zcc (sps [.int .i64 k, pp br or, pp br or] (oF rfl (oL rfl (H.xX 3 rfl 7 rfl) (oN rfl (sp (.bool (decide ((k : Int) < r.qW.length))) (zjn (cD rfl (fun h30 => ?_) (fun h30 => ?_))))))))
         ·skip
          refine qX (t_n (zf (xe (zcr (sps [pp br or, pp br or] (oF rfl (oL rfl (H.xX 3 rfl 7 rfl) (sp (.int .i64 k) ?_))))))))
          obtain ⟨b31, o32, rfl⟩ := H.addr 9 rfl qf
          obtain ⟨ae33Bag, ce33Bag, Fe33Bag, H⟩ := H.jJ 9 rfl k k qf qf qf
          refine oI rfl rfl (sp (pp b31 (o32 + (k : Int).toNat * 2)) (zjn (zf (zf ?_))))
          refine ji rfl H fun H => rtp 0 (pp b31 (o32 + (k : Int).toNat * 2)) H ?_
          refine rtp 1 (pp b31 (o32 + (k : Int).toNat * 2)) H ?_
          refine tF 2 rfl rfl H ?_
          refine tL 3 rfl rfl (fun _ h => h.xX 1 rfl 0 rfl) H ?_
          refine rtp 4 (pp bs os) H ?_
          refine rtp 5 (pp bs os) H ?_
          refine tF 6 rfl rfl H ?_
          refine tL 7 rfl rfl (fun _ h => h.xX 2 rfl 1 rfl) H ?_
          refine tN 8 rfl rfl H ?_
          refine rt 9 (.int .i64 (s.qw.length - 1)) (y_sub s.qw.length 1 rfl rfl qf) H ?_
          refine ro 10 rfl (oq (l00In_ok w29.drew ((r.qW[k]!).qG) 0 (s.qw.length - 1)) H fun w35 H => ⟨H, (rtp 11 (.bool (!(inR ((r.qW[k]!).qG) 0 (s.qw.length - 1)))) H ?_)⟩)
          refine rtp 12 (.bool (!(inR ((r.qW[k]!).qG) 0 (s.qw.length - 1)))) H ?_
          cases h37 : (!(inR ((r.qW[k]!).qG) 0 (s.qw.length - 1)))
          ·skip
           replace h37 := xn h37
           replace h37 := QS.1 h37
           refine rgp 13 (pp bs os) 126 H ?_
           refine rgp 14 (pp b31 (o32 + (k : Int).toNat * 2)) 126 H ?_
           refine rgp 15 (pp b31 (o32 + (k : Int).toNat * 2)) 126 H ?_
           refine gF 16 rfl rfl H ?_
           refine gL 17 rfl rfl (fun _ h => h.xX 1 rfl 0 rfl) H ?_
           refine rgp 18 (pp br or) 126 H ?_
           refine rgp 19 (pp br or) 126 H ?_
           refine gF 20 rfl rfl H ?_
           refine gL 21 rfl rfl (fun _ h => h.xX 5 rfl 0 rfl) H ?_
           refine vW [22] qh qm (r_opG rfl (e := 126) rfl rfl (oq (l02In_ok _ s ((r.qW[k]!).qG) r.qG (qH (H.get 2 rfl) 0 3) (H.get 3 rfl).1 (H.get 4 rfl).1 ql ql) H fun w38 H => ⟨H, (rgp 23 (.bool (!(dec (Lies s.qw r.qG ((r.qW[k]!).qG))))) 126 H ?_)⟩) vX)
           refine rtp 24 (.bool (!(dec (Lies s.qw r.qG ((r.qW[k]!).qG))))) H ?_
           refine rtp 25 (.bool (!(dec (Lies s.qw r.qG ((r.qW[k]!).qG))))) H ?_
           cases h40 : (!(dec (Lies s.qw r.qG ((r.qW[k]!).qG))))
           ·skip
            replace h40 := xn h40
            replace h40 := Qa h40
            refine rgp 26 (pp bs os) 139 H ?_
            refine rgp 27 (pp b31 (o32 + (k : Int).toNat * 2)) 139 H ?_
            refine rgp 28 (pp b31 (o32 + (k : Int).toNat * 2)) 139 H ?_
            refine gF 29 rfl rfl H ?_
            refine gL 30 rfl rfl (fun _ h => h.xX 1 rfl 1 rfl) H ?_
            refine vW [31] qh qm (r_opG rfl (e := 139) rfl rfl (oq (QC _ s ((r.qW[k]!).jI) (qH (H.get 2 rfl) 0 3) (H.get 3 rfl).1 (H.get 4 rfl).1 (H.get 0 rfl).1) H fun w41 H => ⟨H, (rgp 32 (.bool (!(dec (vk s.qQ ((r.qW[k]!).jI))))) 139 H ?_)⟩) vX)
            refine rtp 33 (.bool (!(dec (vk s.qQ ((r.qW[k]!).jI))))) H ?_
            refine rtp 34 (.bool (!(dec (vk s.qQ ((r.qW[k]!).jI))))) H ?_
            cases h43 : (!(dec (vk s.qQ ((r.qW[k]!).jI))))
            ·skip
             replace h43 := xn h43
             replace h43 := Qa h43
             refine rgp 35 (pp b31 (o32 + (k : Int).toNat * 2)) 148 H ?_
             refine rgp 36 (pp b31 (o32 + (k : Int).toNat * 2)) 148 H ?_
             refine gF 37 rfl rfl H ?_
             refine gL 38 rfl rfl (fun _ h => h.xX 1 rfl 1 rfl) H ?_
             refine vW [39] qh qm (r_opG rfl (e := 148) rfl rfl (oq (VB _ ((r.qW[k]!).jI) (H.get 0 rfl).1 (by first | assumption | exact vM ql | exact yQ ql)) H fun w44 H => ⟨H, (rgp 40 (.bool ((XR ((r.qW[k]!).jI) : Int) == 0)) 148 H ?_)⟩) vX)
             refine rtp 41 (.bool ((XR ((r.qW[k]!).jI) : Int) == 0)) H ?_
             refine xI qh (t_n (cE rfl (fun h46 => ?_) (fun h46 => ?_)))
             ·skip
              refine zcr (sp (.bool false) (zjr (t_r (zr5 (ret1 (.bool false) rfl rfl ⟨_, rfl, ?_, H.base⟩)))))
              rw [xu (fun h => by obtain ⟨h1, h2, h3, h4, h5, h6, h7, h8, h9, h10, h11⟩ := h; first | contradiction | omega | exact h3 ⟨‹_›, ‹_›⟩ | (obtain ⟨q1, q2, q3, q4, q5⟩ := h11 k qf; first | contradiction | omega | (have := q5 qf; omega)))]
             refine qX (t_n (zf ?_))
             refine ji rfl H fun H => rtp 0 (.int .i64 k) H ?_
             refine rtp 1 (.bool (decide ((k : Int) > 0))) H ?_
             refine rtp 2 (.bool (decide ((k : Int) > 0))) H ?_
             cases h48 : (decide ((k : Int) > 0))
             ·skip
              replace h48 := of_decide_eq_false h48
              refine zW [3, 4, 5, 6, 7, 8, 9, 10, 11, 12, 13, 14, 15, 16] 14 (H) (rtp 17 (.bool false) H ?_)
              refine xI qh (t_n (xF false rfl (fun h => absurd h qj) (fun _ => qX (b_n (t_n (zh (sp (.int .i64 k) (sw (zK k 1 rfl rfl qf (sp (.int .i64 (k + 1)) (zi (xh (m' := r.qW.length - (k + 1)) qf ⟨_, k + 1, uE3, ?_, ?_, rfl, H.sel _ (.refl _) _ qm⟩))))))))))))
              · omega
              · exact i1.succ ⟨‹_›, ‹_›, ‹_›, ‹_›, fun hk => by omega⟩
             replace h48 := of_decide_eq_true h48
             refine rgp 3 (pp br or) 158 H ?_
             refine rgp 4 (pp br or) 158 H ?_
             refine gF 5 rfl rfl H ?_
             refine gL 6 rfl rfl (fun _ h => h.xX 5 rfl 7 rfl) H ?_
             refine rgp 7 (.int .i64 k) 158 H ?_
             refine rg 8 (.int .i64 (k - 1)) 158 (y_sub k 1 rfl rfl qf) H ?_
             obtain ⟨ae49Bag, ce49Bag, Fe49Bag, H⟩ := H.jJ 11 rfl (k - 1) (k - 1) qf qf qf
             refine gI 9 rfl rfl rfl (H.sel _ (.refl _) _ (fun _ h => List.mem_cons_of_mem _ (List.mem_cons_of_mem _ (h)))) ?_
             refine gF 10 rfl rfl (H.sel _ (.refl _) _ (fun _ h => List.mem_cons_of_mem _ (List.mem_cons_of_mem _ (h)))) ?_
             refine rgp 12 (pp b31 (o32 + (k : Int).toNat * 2)) 158 (H.sel _ (.refl _) _ (fun _ h => List.mem_cons_of_mem _ (List.mem_cons_of_mem _ (h)))) ?_
             refine rgp 13 (pp b31 (o32 + (k : Int).toNat * 2)) 158 (H.sel _ (.refl _) _ (fun _ h => List.mem_cons_of_mem _ (List.mem_cons_of_mem _ (h)))) ?_
             refine gF 14 rfl rfl (H.sel _ (.refl _) _ (fun _ h => List.mem_cons_of_mem _ (List.mem_cons_of_mem _ (h)))) ?_
             refine gL 15 rfl rfl (fun _ h => h.xX 1 rfl 0 rfl) (H.sel _ (.refl _) _ (fun _ h => List.mem_cons_of_mem _ (List.mem_cons_of_mem _ (h)))) ?_
             refine vW [11] qh qm (r_opG rfl (e := 158) rfl rfl (zI (.int .i64 ((r.qW[k - 1]!).qG)) Tryz.isAgg2 rfl (H.xX 1 rfl 0 rfl) (⟨H.dF 2, (rgp 16 (.bool (decide (((r.qW[k - 1]!).qG : Int) ≥ ((r.qW[k]!).qG)))) 158 (H.sel _ (.refl _) _ (fun _ h => List.mem_cons_of_mem _ (List.mem_cons_of_mem _ (h)))) ?_)⟩)) vX)
             refine rtp 17 (.bool (decide (((r.qW[k - 1]!).qG : Int) ≥ ((r.qW[k]!).qG)))) (H.sel _ (.refl _) _ (fun _ h => List.mem_cons_of_mem _ (List.mem_cons_of_mem _ (h)))) ?_
             refine xI qh (t_n (cD rfl (fun h50 => ?_) (fun h50 => ?_)))
             ·skip
              refine zcr (sp (.bool false) (zjr (zr5 (ret1 (.bool false) rfl rfl ⟨_, rfl, ?_, H.base⟩))))
              rw [xu (fun h => by obtain ⟨h1, h2, h3, h4, h5, h6, h7, h8, h9, h10, h11⟩ := h; first | contradiction | omega | exact h3 ⟨‹_›, ‹_›⟩ | (obtain ⟨q1, q2, q3, q4, q5⟩ := h11 k qf; first | contradiction | omega | (have := q5 qf; omega)))]
             refine qX (b_n (t_n (zh (sp (.int .i64 k) (sw (zK k 1 rfl rfl qf (sp (.int .i64 (k + 1)) (zi (xh (m' := r.qW.length - (k + 1)) qf ⟨_, k + 1, uE3, ?_, ?_, rfl, H.sel _ (.refl _) _ qm⟩)))))))))
             · omega
             · exact i1.succ ⟨‹_›, ‹_›, ‹_›, ‹_›, fun hk => by omega⟩
            replace h43 := xw h43
            replace h43 := vg h43
            refine zW [35, 36, 37, 38, 39, 40] 6 (H) (rtp 41 (.bool true) H ?_)
            refine xI qh (t_n (xF true rfl (fun _ => zcr (sp (.bool false) (zjr (t_r (zr5 (ret1 (.bool false) rfl rfl ⟨_, rfl, ?_, H.base⟩)))))) (fun h => absurd h qj)))
            rw [xu (fun h => by obtain ⟨h1, h2, h3, h4, h5, h6, h7, h8, h9, h10, h11⟩ := h; first | contradiction | omega | exact h3 ⟨‹_›, ‹_›⟩ | (obtain ⟨q1, q2, q3, q4, q5⟩ := h11 k qf; first | contradiction | omega | (have := q5 qf; omega)))]
           replace h40 := xw h40
           replace h40 := vg h40
           refine zW [26, 27, 28, 29, 30, 31, 32] 7 (H) (rtp 33 (.bool true) H ?_)
           refine rtp 34 (.bool true) H ?_
           refine zW [35, 36, 37, 38, 39, 40] 6 (H) (rtp 41 (.bool true) H ?_)
           refine xI qh (t_n (xF true rfl (fun _ => zcr (sp (.bool false) (zjr (t_r (zr5 (ret1 (.bool false) rfl rfl ⟨_, rfl, ?_, H.base⟩)))))) (fun h => absurd h qj)))
           rw [xu (fun h => by obtain ⟨h1, h2, h3, h4, h5, h6, h7, h8, h9, h10, h11⟩ := h; first | contradiction | omega | exact h3 ⟨‹_›, ‹_›⟩ | (obtain ⟨q1, q2, q3, q4, q5⟩ := h11 k qf; first | contradiction | omega | (have := q5 qf; omega)))]
          replace h37 := xw h37
          replace h37 := Xu h37
          refine zW [13, 14, 15, 16, 17, 18, 19, 20, 21, 22, 23] 11 (H) (rtp 24 (.bool true) H ?_)
          refine rtp 25 (.bool true) H ?_
          refine zW [26, 27, 28, 29, 30, 31, 32] 7 (H) (rtp 33 (.bool true) H ?_)
          refine rtp 34 (.bool true) H ?_
          refine zW [35, 36, 37, 38, 39, 40] 6 (H) (rtp 41 (.bool true) H ?_)
          refine xI qh (t_n (xF true rfl (fun _ => zcr (sp (.bool false) (zjr (t_r (zr5 (ret1 (.bool false) rfl rfl ⟨_, rfl, ?_, H.base⟩)))))) (fun h => absurd h qj)))
          rw [xu (fun h => by obtain ⟨h1, h2, h3, h4, h5, h6, h7, h8, h9, h10, h11⟩ := h; first | contradiction | omega | exact h3 ⟨‹_›, ‹_›⟩ | (obtain ⟨q1, q2, q3, q4, q5⟩ := h11 k qf; first | contradiction | omega | (have := q5 qf; omega)))]
         refine zx4 (zcr (sp (.bool true) (zjr (ret1 (.bool true) rfl rfl ⟨_, rfl, ?_, H.base⟩))))
         obtain rfl : k = r.qW.length := by omega
         rw [jZ ⟨by assumption, by omega, by simp_all, by omega, by assumption, by assumption, by assumption, by assumption, by assumption, by assumption, i1⟩]
        replace h24 := xw h24
        replace h24 := vg h24
        refine zn [92, 93, 94, 95, 96, 97] (sp (.bool true) (zjn (xF true rfl (fun _ => zcr (sp (.bool false) (zjr (t_r (ret1 (.bool false) rfl rfl ⟨_, rfl, ?_, H.base⟩))))) (fun h => absurd h qj))))
        rw [xu (fun h => by obtain ⟨h1, h2, h3, h4, h5, h6, h7, h8, h9, h10, h11⟩ := h; first | contradiction | omega | exact h3 ⟨‹_›, ‹_›⟩ | (obtain ⟨q1, q2, q3, q4, q5⟩ := h11 k qf; first | contradiction | omega | (have := q5 qf; omega)))]
       replace h21 := xw h21
       replace h21 := vg h21
       refine zn [83, 84, 85, 86, 87, 88, 89] (sps [.bool true, .bool true] (zn [92, 93, 94, 95, 96, 97] (sp (.bool true) (zjn (xF true rfl (fun _ => zcr (sp (.bool false) (zjr (t_r (ret1 (.bool false) rfl rfl ⟨_, rfl, ?_, H.base⟩))))) (fun h => absurd h qj))))))
       rw [xu (fun h => by obtain ⟨h1, h2, h3, h4, h5, h6, h7, h8, h9, h10, h11⟩ := h; first | contradiction | omega | exact h3 ⟨‹_›, ‹_›⟩ | (obtain ⟨q1, q2, q3, q4, q5⟩ := h11 k qf; first | contradiction | omega | (have := q5 qf; omega)))]
      replace h18 := xw h18
      replace h18 := vg h18
      refine zn [74, 75, 76, 77, 78, 79, 80] (sps [.bool true, .bool true] (zn [83, 84, 85, 86, 87, 88, 89] (sps [.bool true, .bool true] (zn [92, 93, 94, 95, 96, 97] (sp (.bool true) (zjn (xF true rfl (fun _ => zcr (sp (.bool false) (zjr (t_r (ret1 (.bool false) rfl rfl ⟨_, rfl, ?_, H.base⟩))))) (fun h => absurd h qj))))))))
      rw [xu (fun h => by obtain ⟨h1, h2, h3, h4, h5, h6, h7, h8, h9, h10, h11⟩ := h; first | contradiction | omega | exact h3 ⟨‹_›, ‹_›⟩ | (obtain ⟨q1, q2, q3, q4, q5⟩ := h11 k qf; first | contradiction | omega | (have := q5 qf; omega)))]
     replace h15 := xw h15
     replace h15 := vg h15
     refine zn [65, 66, 67, 68, 69, 70, 71] (sps [.bool true, .bool true] (zn [74, 75, 76, 77, 78, 79, 80] (sps [.bool true, .bool true] (zn [83, 84, 85, 86, 87, 88, 89] (sps [.bool true, .bool true] (zn [92, 93, 94, 95, 96, 97] (sp (.bool true) (zjn (xF true rfl (fun _ => zcr (sp (.bool false) (zjr (t_r (ret1 (.bool false) rfl rfl ⟨_, rfl, ?_, H.base⟩))))) (fun h => absurd h qj))))))))))
     rw [xu (fun h => by obtain ⟨h1, h2, h3, h4, h5, h6, h7, h8, h9, h10, h11⟩ := h; first | contradiction | omega | exact h3 ⟨‹_›, ‹_›⟩ | (obtain ⟨q1, q2, q3, q4, q5⟩ := h11 k qf; first | contradiction | omega | (have := q5 qf; omega)))]
    replace h12 := xw h12
    replace h12 := vg h12
    refine zn [56, 57, 58, 59, 60, 61, 62] (sps [.bool true, .bool true] (zn [65, 66, 67, 68, 69, 70, 71] (sps [.bool true, .bool true] (zn [74, 75, 76, 77, 78, 79, 80] (sps [.bool true, .bool true] (zn [83, 84, 85, 86, 87, 88, 89] (sps [.bool true, .bool true] (zn [92, 93, 94, 95, 96, 97] (sp (.bool true) (zjn (xF true rfl (fun _ => zcr (sp (.bool false) (zjr (t_r (ret1 (.bool false) rfl rfl ⟨_, rfl, ?_, H.base⟩))))) (fun h => absurd h qj))))))))))))
    rw [xu (fun h => by obtain ⟨h1, h2, h3, h4, h5, h6, h7, h8, h9, h10, h11⟩ := h; first | contradiction | omega | exact h3 ⟨‹_›, ‹_›⟩ | (obtain ⟨q1, q2, q3, q4, q5⟩ := h11 k qf; first | contradiction | omega | (have := q5 qf; omega)))]
   rw [h8] at H
   refine rgp 26 (pp br or) 32 H ?_
   refine rgp 27 (pp br or) 32 H ?_
   refine gF 28 rfl rfl H ?_
   refine gL 29 rfl rfl (fun _ h => h.xX 3 rfl 0 rfl) H ?_
   refine rgp 30 (.bool ((r.qG : Int) == 0)) 32 H ?_
   refine rgp 31 (.bool ((r.qG : Int) == 0)) 27 H ?_
   refine rtp 32 (.bool ((r.qG : Int) == 0)) H ?_
   refine rtp 33 (.bool ((r.qG : Int) == 0)) H ?_
   cases h51 : ((r.qG : Int) == 0)
   ·skip
    replace h51 := ne_of_beq_false h51
    refine rgp 34 (pp br or) 40 H ?_
    refine rgp 35 (pp br or) 40 H ?_
    refine gF 36 rfl rfl H ?_
    refine gL 37 rfl rfl (fun _ h => h.xX 3 rfl 7 rfl) H ?_
    refine gN 38 rfl rfl H ?_
    refine rgp 39 (.bool (decide ((r.qW.length : Int) > 3))) 40 H ?_
    refine rtp 40 (.bool (decide ((r.qW.length : Int) > 3))) H ?_
    refine xI qh (t_n (cD rfl (fun h52 => ?_) (fun h52 => ?_)))
    ·skip
     refine zcr (sp (.bool false) (zjr (t_r (ret1 (.bool false) rfl rfl ⟨_, rfl, ?_, H.base⟩))))
     rw [xu (fun h => by obtain ⟨h1, h2, h3, h4, h5, h6, h7, h8, h9, h10, h11⟩ := h; first | contradiction | omega | exact h3 ⟨‹_›, ‹_›⟩ | (obtain ⟨q1, q2, q3, q4, q5⟩ := h11 k qf; first | contradiction | omega | (have := q5 qf; omega)))]
    refine qX (t_n (zcc (sps [pp bs os, pp br or, pp br or] (oF rfl (oL rfl (H.xX 3 rfl 2 rfl) (sw (oq (QC _ s r.xG (qH (H.get 0 rfl) 0 3) (H.get 1 rfl).1 (H.get 2 rfl).1 (H.get 4 rfl).1) H fun w53 H => sps [.bool (!(dec (vk s.qQ r.xG))), .bool (!(dec (vk s.qQ r.xG)))] ?_)))))))
    cases h55 : (!(dec (vk s.qQ r.xG)))
    ·skip
     replace h55 := xn h55
     replace h55 := Qa h55
     refine qR 55 rfl rfl (sp (pp bs os) (qR 55 rfl rfl (sp (pp br or) (qR 55 rfl rfl (sp (pp br or) (qR 55 rfl rfl (oF rfl (qR 55 rfl rfl (oL rfl (H.xX 3 rfl 3 rfl) (qR 55 rfl rfl (sw (oq (QC _ s r.xO (qH (H.get 0 rfl) 0 3) (H.get 1 rfl).1 (H.get 2 rfl).1 (H.get 5 rfl).1) H fun w56 H => qR 55 rfl rfl (sps [.bool (!(dec (vk s.qQ r.xO))), .bool (!(dec (vk s.qQ r.xO))), .bool (!(dec (vk s.qQ r.xO)))] ?_)))))))))))))
     cases h58 : (!(dec (vk s.qQ r.xO)))
     ·skip
      replace h58 := xn h58
      replace h58 := Qa h58
      refine qR 64 rfl rfl (sp (pp bs os) (qR 64 rfl rfl (sp (pp br or) (qR 64 rfl rfl (sp (pp br or) (qR 64 rfl rfl (oF rfl (qR 64 rfl rfl (oL rfl (H.xX 3 rfl 4 rfl) (qR 64 rfl rfl (sw (oq (QC _ s r.xP (qH (H.get 0 rfl) 0 3) (H.get 1 rfl).1 (H.get 2 rfl).1 (H.get 6 rfl).1) H fun w59 H => qR 64 rfl rfl (sps [.bool (!(dec (vk s.qQ r.xP))), .bool (!(dec (vk s.qQ r.xP))), .bool (!(dec (vk s.qQ r.xP)))] ?_)))))))))))))
      cases h61 : (!(dec (vk s.qQ r.xP)))
      ·skip
       replace h61 := xn h61
       replace h61 := Qa h61
       refine qR 73 rfl rfl (sp (pp bs os) (qR 73 rfl rfl (sp (pp br or) (qR 73 rfl rfl (sp (pp br or) (qR 73 rfl rfl (oF rfl (qR 73 rfl rfl (oL rfl (H.xX 3 rfl 5 rfl) (qR 73 rfl rfl (sw (oq (QC _ s r.xZ (qH (H.get 0 rfl) 0 3) (H.get 1 rfl).1 (H.get 2 rfl).1 (H.get 7 rfl).1) H fun w62 H => qR 73 rfl rfl (sps [.bool (!(dec (vk s.qQ r.xZ))), .bool (!(dec (vk s.qQ r.xZ))), .bool (!(dec (vk s.qQ r.xZ)))] ?_)))))))))))))
       cases h64 : (!(dec (vk s.qQ r.xZ)))
       ·skip
        replace h64 := xn h64
        replace h64 := Qa h64
        refine qR 82 rfl rfl (sp (pp bs os) (qR 82 rfl rfl (sp (pp br or) (qR 82 rfl rfl (sp (pp br or) (qR 82 rfl rfl (oF rfl (qR 82 rfl rfl (oL rfl (H.xX 3 rfl 6 rfl) (qR 82 rfl rfl (sw (oq (QC _ s r.vJ (qH (H.get 0 rfl) 0 3) (H.get 1 rfl).1 (H.get 2 rfl).1 (H.get 8 rfl).1) H fun w65 H => qR 82 rfl rfl (sps [.bool (!(dec (vk s.qQ r.vJ))), .bool (!(dec (vk s.qQ r.vJ))), .bool (!(dec (vk s.qQ r.vJ)))] ?_)))))))))))))
        cases h67 : (!(dec (vk s.qQ r.vJ)))
        ·skip
         replace h67 := xn h67
         replace h67 := Qa h67
         refine qR 91 rfl rfl (sp (pp br or) (qR 91 rfl rfl (sp (pp br or) (qR 91 rfl rfl (oF rfl (qR 91 rfl rfl (oL rfl (H.xX 3 rfl 2 rfl) (qR 91 rfl rfl (sw (oq (VB _ r.xG (H.get 4 rfl).1 (by first | assumption | exact vM ql | exact yQ ql)) H fun w68 H => qR 91 rfl rfl (sps [.bool ((XR r.xG : Int) == 0), .bool ((XR r.xG : Int) == 0)] (zjn (cE rfl (fun h70 => ?_) (fun h70 => ?_))))))))))))))
         ·skip
          refine zcr (sp (.bool false) (zjr (t_r (ret1 (.bool false) rfl rfl ⟨_, rfl, ?_, H.base⟩))))
          rw [xu (fun h => by obtain ⟨h1, h2, h3, h4, h5, h6, h7, h8, h9, h10, h11⟩ := h; first | contradiction | omega | exact h3 ⟨‹_›, ‹_›⟩ | (obtain ⟨q1, q2, q3, q4, q5⟩ := h11 k qf; first | contradiction | omega | (have := q5 qf; omega)))]
         refine qX (t_n (zcc (sp (.int .i64 0) (zjn (xe ?_)))))
         refine zG (fun m' ρ w71 => ∃ (xR : Env) (k : Nat), ρ = upd (upd (upd xR 0 (pp bs os)) 1 (pp br or)) 5 (.int .i64 k) ∧ (k ≤ r.qW.length) ∧ (IntosTo s r k) ∧ m' = r.qW.length - k ∧ St w w71 [] [atF bs os [.int .i64 s.qQ, .slice qC s.qw.length qB, .slice qL s.qx.length qI], sF false qZ qC qB s.qw, sF false xC qL qI s.qx, atF br or [.int .i64 r.qG, .int .i64 r.zQ, .slice yA r.xG.length yt, .slice yD r.xO.length yx, .slice yB r.xP.length yu, .slice yC r.xZ.length yw, .slice QJ r.vJ.length QI, .slice jU r.qW.length jR, .bool true], sF false Ve yA yt r.xG, sF false Vh yD yx r.xO, sF false Vf yB yu r.xP, sF false Vg yC yw r.xZ, sF false FrOut QJ QI r.vJ, sF false FrInto jU jR r.qW]) (r.qW.length - 0) ⟨_, 0, uE3, qf, (by exact fun j hj => by omega), rfl, H⟩ ?_
         clear H
         rintro m' ρ w72 ⟨xR, k, rfl, i0, i1, rfl, H⟩
         refine zcc (sps [.int .i64 k, pp br or, pp br or] (oF rfl (oL rfl (H.xX 3 rfl 7 rfl) (oN rfl (sp (.bool (decide ((k : Int) < r.qW.length))) (zjn (cD rfl (fun h73 => ?_) (fun h73 => ?_))))))))
         ·skip
          refine qX (t_n (zf (xe (zcr (sps [pp br or, pp br or] (oF rfl (oL rfl (H.xX 3 rfl 7 rfl) (sp (.int .i64 k) ?_))))))))
          obtain ⟨b74, o75, rfl⟩ := H.addr 9 rfl qf
          obtain ⟨ae76Bag, ce76Bag, Fe76Bag, H⟩ := H.jJ 9 rfl k k qf qf qf
          refine oI rfl rfl (sp (pp b74 (o75 + (k : Int).toNat * 2)) (zjn (zf (zf ?_))))
          refine ji rfl H fun H => rtp 0 (pp b74 (o75 + (k : Int).toNat * 2)) H ?_
          refine rtp 1 (pp b74 (o75 + (k : Int).toNat * 2)) H ?_
          refine tF 2 rfl rfl H ?_
          refine tL 3 rfl rfl (fun _ h => h.xX 1 rfl 0 rfl) H ?_
          refine rtp 4 (pp bs os) H ?_
          refine rtp 5 (pp bs os) H ?_
          refine tF 6 rfl rfl H ?_
          refine tL 7 rfl rfl (fun _ h => h.xX 2 rfl 1 rfl) H ?_
          refine tN 8 rfl rfl H ?_
          refine rt 9 (.int .i64 (s.qw.length - 1)) (y_sub s.qw.length 1 rfl rfl qf) H ?_
          refine ro 10 rfl (oq (l00In_ok w72.drew ((r.qW[k]!).qG) 0 (s.qw.length - 1)) H fun w78 H => ⟨H, (rtp 11 (.bool (!(inR ((r.qW[k]!).qG) 0 (s.qw.length - 1)))) H ?_)⟩)
          refine rtp 12 (.bool (!(inR ((r.qW[k]!).qG) 0 (s.qw.length - 1)))) H ?_
          cases h80 : (!(inR ((r.qW[k]!).qG) 0 (s.qw.length - 1)))
          ·skip
           replace h80 := xn h80
           replace h80 := QS.1 h80
           refine rgp 13 (pp bs os) 126 H ?_
           refine rgp 14 (pp b74 (o75 + (k : Int).toNat * 2)) 126 H ?_
           refine rgp 15 (pp b74 (o75 + (k : Int).toNat * 2)) 126 H ?_
           refine gF 16 rfl rfl H ?_
           refine gL 17 rfl rfl (fun _ h => h.xX 1 rfl 0 rfl) H ?_
           refine rgp 18 (pp br or) 126 H ?_
           refine rgp 19 (pp br or) 126 H ?_
           refine gF 20 rfl rfl H ?_
           refine gL 21 rfl rfl (fun _ h => h.xX 5 rfl 0 rfl) H ?_
           refine vW [22] qh qm (r_opG rfl (e := 126) rfl rfl (oq (l02In_ok _ s ((r.qW[k]!).qG) r.qG (qH (H.get 2 rfl) 0 3) (H.get 3 rfl).1 (H.get 4 rfl).1 ql ql) H fun w81 H => ⟨H, (rgp 23 (.bool (!(dec (Lies s.qw r.qG ((r.qW[k]!).qG))))) 126 H ?_)⟩) vX)
           refine rtp 24 (.bool (!(dec (Lies s.qw r.qG ((r.qW[k]!).qG))))) H ?_
           refine rtp 25 (.bool (!(dec (Lies s.qw r.qG ((r.qW[k]!).qG))))) H ?_
           cases h83 : (!(dec (Lies s.qw r.qG ((r.qW[k]!).qG))))
           ·skip
            replace h83 := xn h83
            replace h83 := Qa h83
            refine rgp 26 (pp bs os) 139 H ?_
            refine rgp 27 (pp b74 (o75 + (k : Int).toNat * 2)) 139 H ?_
            refine rgp 28 (pp b74 (o75 + (k : Int).toNat * 2)) 139 H ?_
            refine gF 29 rfl rfl H ?_
            refine gL 30 rfl rfl (fun _ h => h.xX 1 rfl 1 rfl) H ?_
            refine vW [31] qh qm (r_opG rfl (e := 139) rfl rfl (oq (QC _ s ((r.qW[k]!).jI) (qH (H.get 2 rfl) 0 3) (H.get 3 rfl).1 (H.get 4 rfl).1 (H.get 0 rfl).1) H fun w84 H => ⟨H, (rgp 32 (.bool (!(dec (vk s.qQ ((r.qW[k]!).jI))))) 139 H ?_)⟩) vX)
            refine rtp 33 (.bool (!(dec (vk s.qQ ((r.qW[k]!).jI))))) H ?_
            refine rtp 34 (.bool (!(dec (vk s.qQ ((r.qW[k]!).jI))))) H ?_
            cases h86 : (!(dec (vk s.qQ ((r.qW[k]!).jI))))
            ·skip
             replace h86 := xn h86
             replace h86 := Qa h86
             refine rgp 35 (pp b74 (o75 + (k : Int).toNat * 2)) 148 H ?_
             refine rgp 36 (pp b74 (o75 + (k : Int).toNat * 2)) 148 H ?_
             refine gF 37 rfl rfl H ?_
             refine gL 38 rfl rfl (fun _ h => h.xX 1 rfl 1 rfl) H ?_
             refine vW [39] qh qm (r_opG rfl (e := 148) rfl rfl (oq (VB _ ((r.qW[k]!).jI) (H.get 0 rfl).1 (by first | assumption | exact vM ql | exact yQ ql)) H fun w87 H => ⟨H, (rgp 40 (.bool ((XR ((r.qW[k]!).jI) : Int) == 0)) 148 H ?_)⟩) vX)
             refine rtp 41 (.bool ((XR ((r.qW[k]!).jI) : Int) == 0)) H ?_
             refine xI qh (t_n (cE rfl (fun h89 => ?_) (fun h89 => ?_)))
             ·skip
              refine zcr (sp (.bool false) (zjr (t_r (zr5 (ret1 (.bool false) rfl rfl ⟨_, rfl, ?_, H.base⟩)))))
              rw [xu (fun h => by obtain ⟨h1, h2, h3, h4, h5, h6, h7, h8, h9, h10, h11⟩ := h; first | contradiction | omega | exact h3 ⟨‹_›, ‹_›⟩ | (obtain ⟨q1, q2, q3, q4, q5⟩ := h11 k qf; first | contradiction | omega | (have := q5 qf; omega)))]
             refine qX (t_n (zf ?_))
             refine ji rfl H fun H => rtp 0 (.int .i64 k) H ?_
             refine rtp 1 (.bool (decide ((k : Int) > 0))) H ?_
             refine rtp 2 (.bool (decide ((k : Int) > 0))) H ?_
             cases h91 : (decide ((k : Int) > 0))
             ·skip
              replace h91 := of_decide_eq_false h91
              refine zW [3, 4, 5, 6, 7, 8, 9, 10, 11, 12, 13, 14, 15, 16] 14 (H) (rtp 17 (.bool false) H ?_)
              refine xI qh (t_n (xF false rfl (fun h => absurd h qj) (fun _ => qX (b_n (t_n (zh (sp (.int .i64 k) (sw (zK k 1 rfl rfl qf (sp (.int .i64 (k + 1)) (zi (xh (m' := r.qW.length - (k + 1)) qf ⟨_, k + 1, uE3, ?_, ?_, rfl, H.sel _ (.refl _) _ qm⟩))))))))))))
              · omega
              · exact i1.succ ⟨‹_›, ‹_›, ‹_›, ‹_›, fun hk => by omega⟩
             replace h91 := of_decide_eq_true h91
             refine rgp 3 (pp br or) 158 H ?_
             refine rgp 4 (pp br or) 158 H ?_
             refine gF 5 rfl rfl H ?_
             refine gL 6 rfl rfl (fun _ h => h.xX 5 rfl 7 rfl) H ?_
             refine rgp 7 (.int .i64 k) 158 H ?_
             refine rg 8 (.int .i64 (k - 1)) 158 (y_sub k 1 rfl rfl qf) H ?_
             obtain ⟨ae92Bag, ce92Bag, Fe92Bag, H⟩ := H.jJ 11 rfl (k - 1) (k - 1) qf qf qf
             refine gI 9 rfl rfl rfl (H.sel _ (.refl _) _ (fun _ h => List.mem_cons_of_mem _ (List.mem_cons_of_mem _ (h)))) ?_
             refine gF 10 rfl rfl (H.sel _ (.refl _) _ (fun _ h => List.mem_cons_of_mem _ (List.mem_cons_of_mem _ (h)))) ?_
             refine rgp 12 (pp b74 (o75 + (k : Int).toNat * 2)) 158 (H.sel _ (.refl _) _ (fun _ h => List.mem_cons_of_mem _ (List.mem_cons_of_mem _ (h)))) ?_
             refine rgp 13 (pp b74 (o75 + (k : Int).toNat * 2)) 158 (H.sel _ (.refl _) _ (fun _ h => List.mem_cons_of_mem _ (List.mem_cons_of_mem _ (h)))) ?_
             refine gF 14 rfl rfl (H.sel _ (.refl _) _ (fun _ h => List.mem_cons_of_mem _ (List.mem_cons_of_mem _ (h)))) ?_
             refine gL 15 rfl rfl (fun _ h => h.xX 1 rfl 0 rfl) (H.sel _ (.refl _) _ (fun _ h => List.mem_cons_of_mem _ (List.mem_cons_of_mem _ (h)))) ?_
             refine vW [11] qh qm (r_opG rfl (e := 158) rfl rfl (zI (.int .i64 ((r.qW[k - 1]!).qG)) Tryz.isAgg2 rfl (H.xX 1 rfl 0 rfl) (⟨H.dF 2, (rgp 16 (.bool (decide (((r.qW[k - 1]!).qG : Int) ≥ ((r.qW[k]!).qG)))) 158 (H.sel _ (.refl _) _ (fun _ h => List.mem_cons_of_mem _ (List.mem_cons_of_mem _ (h)))) ?_)⟩)) vX)
             refine rtp 17 (.bool (decide (((r.qW[k - 1]!).qG : Int) ≥ ((r.qW[k]!).qG)))) (H.sel _ (.refl _) _ (fun _ h => List.mem_cons_of_mem _ (List.mem_cons_of_mem _ (h)))) ?_
             refine xI qh (t_n (cD rfl (fun h93 => ?_) (fun h93 => ?_)))
             ·skip
              refine zcr (sp (.bool false) (zjr (zr5 (ret1 (.bool false) rfl rfl ⟨_, rfl, ?_, H.base⟩))))
              rw [xu (fun h => by obtain ⟨h1, h2, h3, h4, h5, h6, h7, h8, h9, h10, h11⟩ := h; first | contradiction | omega | exact h3 ⟨‹_›, ‹_›⟩ | (obtain ⟨q1, q2, q3, q4, q5⟩ := h11 k qf; first | contradiction | omega | (have := q5 qf; omega)))]
             refine qX (b_n (t_n (zh (sp (.int .i64 k) (sw (zK k 1 rfl rfl qf (sp (.int .i64 (k + 1)) (zi (xh (m' := r.qW.length - (k + 1)) qf ⟨_, k + 1, uE3, ?_, ?_, rfl, H.sel _ (.refl _) _ qm⟩)))))))))
             · omega
             · exact i1.succ ⟨‹_›, ‹_›, ‹_›, ‹_›, fun hk => by omega⟩
            replace h86 := xw h86
            replace h86 := vg h86
            refine zW [35, 36, 37, 38, 39, 40] 6 (H) (rtp 41 (.bool true) H ?_)
            refine xI qh (t_n (xF true rfl (fun _ => zcr (sp (.bool false) (zjr (t_r (zr5 (ret1 (.bool false) rfl rfl ⟨_, rfl, ?_, H.base⟩)))))) (fun h => absurd h qj)))
            rw [xu (fun h => by obtain ⟨h1, h2, h3, h4, h5, h6, h7, h8, h9, h10, h11⟩ := h; first | contradiction | omega | exact h3 ⟨‹_›, ‹_›⟩ | (obtain ⟨q1, q2, q3, q4, q5⟩ := h11 k qf; first | contradiction | omega | (have := q5 qf; omega)))]
           replace h83 := xw h83
           replace h83 := vg h83
           refine zW [26, 27, 28, 29, 30, 31, 32] 7 (H) (rtp 33 (.bool true) H ?_)
           refine rtp 34 (.bool true) H ?_
           refine zW [35, 36, 37, 38, 39, 40] 6 (H) (rtp 41 (.bool true) H ?_)
           refine xI qh (t_n (xF true rfl (fun _ => zcr (sp (.bool false) (zjr (t_r (zr5 (ret1 (.bool false) rfl rfl ⟨_, rfl, ?_, H.base⟩)))))) (fun h => absurd h qj)))
           rw [xu (fun h => by obtain ⟨h1, h2, h3, h4, h5, h6, h7, h8, h9, h10, h11⟩ := h; first | contradiction | omega | exact h3 ⟨‹_›, ‹_›⟩ | (obtain ⟨q1, q2, q3, q4, q5⟩ := h11 k qf; first | contradiction | omega | (have := q5 qf; omega)))]
          replace h80 := xw h80
          replace h80 := Xu h80
          refine zW [13, 14, 15, 16, 17, 18, 19, 20, 21, 22, 23] 11 (H) (rtp 24 (.bool true) H ?_)
          refine rtp 25 (.bool true) H ?_
          refine zW [26, 27, 28, 29, 30, 31, 32] 7 (H) (rtp 33 (.bool true) H ?_)
          refine rtp 34 (.bool true) H ?_
          refine zW [35, 36, 37, 38, 39, 40] 6 (H) (rtp 41 (.bool true) H ?_)
          refine xI qh (t_n (xF true rfl (fun _ => zcr (sp (.bool false) (zjr (t_r (zr5 (ret1 (.bool false) rfl rfl ⟨_, rfl, ?_, H.base⟩)))))) (fun h => absurd h qj)))
          rw [xu (fun h => by obtain ⟨h1, h2, h3, h4, h5, h6, h7, h8, h9, h10, h11⟩ := h; first | contradiction | omega | exact h3 ⟨‹_›, ‹_›⟩ | (obtain ⟨q1, q2, q3, q4, q5⟩ := h11 k qf; first | contradiction | omega | (have := q5 qf; omega)))]
         refine zx4 (zcr (sp (.bool true) (zjr (ret1 (.bool true) rfl rfl ⟨_, rfl, ?_, H.base⟩))))
         obtain rfl : k = r.qW.length := by omega
         rw [jZ ⟨by assumption, by omega, by simp_all, by omega, by assumption, by assumption, by assumption, by assumption, by assumption, by assumption, i1⟩]
        replace h67 := xw h67
        replace h67 := vg h67
        refine zn [92, 93, 94, 95, 96, 97] (sp (.bool true) (zjn (xF true rfl (fun _ => zcr (sp (.bool false) (zjr (t_r (ret1 (.bool false) rfl rfl ⟨_, rfl, ?_, H.base⟩))))) (fun h => absurd h qj))))
        rw [xu (fun h => by obtain ⟨h1, h2, h3, h4, h5, h6, h7, h8, h9, h10, h11⟩ := h; first | contradiction | omega | exact h3 ⟨‹_›, ‹_›⟩ | (obtain ⟨q1, q2, q3, q4, q5⟩ := h11 k qf; first | contradiction | omega | (have := q5 qf; omega)))]
       replace h64 := xw h64
       replace h64 := vg h64
       refine zn [83, 84, 85, 86, 87, 88, 89] (sps [.bool true, .bool true] (zn [92, 93, 94, 95, 96, 97] (sp (.bool true) (zjn (xF true rfl (fun _ => zcr (sp (.bool false) (zjr (t_r (ret1 (.bool false) rfl rfl ⟨_, rfl, ?_, H.base⟩))))) (fun h => absurd h qj))))))
       rw [xu (fun h => by obtain ⟨h1, h2, h3, h4, h5, h6, h7, h8, h9, h10, h11⟩ := h; first | contradiction | omega | exact h3 ⟨‹_›, ‹_›⟩ | (obtain ⟨q1, q2, q3, q4, q5⟩ := h11 k qf; first | contradiction | omega | (have := q5 qf; omega)))]
      replace h61 := xw h61
      replace h61 := vg h61
      refine zn [74, 75, 76, 77, 78, 79, 80] (sps [.bool true, .bool true] (zn [83, 84, 85, 86, 87, 88, 89] (sps [.bool true, .bool true] (zn [92, 93, 94, 95, 96, 97] (sp (.bool true) (zjn (xF true rfl (fun _ => zcr (sp (.bool false) (zjr (t_r (ret1 (.bool false) rfl rfl ⟨_, rfl, ?_, H.base⟩))))) (fun h => absurd h qj))))))))
      rw [xu (fun h => by obtain ⟨h1, h2, h3, h4, h5, h6, h7, h8, h9, h10, h11⟩ := h; first | contradiction | omega | exact h3 ⟨‹_›, ‹_›⟩ | (obtain ⟨q1, q2, q3, q4, q5⟩ := h11 k qf; first | contradiction | omega | (have := q5 qf; omega)))]
     replace h58 := xw h58
     replace h58 := vg h58
     refine zn [65, 66, 67, 68, 69, 70, 71] (sps [.bool true, .bool true] (zn [74, 75, 76, 77, 78, 79, 80] (sps [.bool true, .bool true] (zn [83, 84, 85, 86, 87, 88, 89] (sps [.bool true, .bool true] (zn [92, 93, 94, 95, 96, 97] (sp (.bool true) (zjn (xF true rfl (fun _ => zcr (sp (.bool false) (zjr (t_r (ret1 (.bool false) rfl rfl ⟨_, rfl, ?_, H.base⟩))))) (fun h => absurd h qj))))))))))
     rw [xu (fun h => by obtain ⟨h1, h2, h3, h4, h5, h6, h7, h8, h9, h10, h11⟩ := h; first | contradiction | omega | exact h3 ⟨‹_›, ‹_›⟩ | (obtain ⟨q1, q2, q3, q4, q5⟩ := h11 k qf; first | contradiction | omega | (have := q5 qf; omega)))]
    replace h55 := xw h55
    replace h55 := vg h55
    refine zn [56, 57, 58, 59, 60, 61, 62] (sps [.bool true, .bool true] (zn [65, 66, 67, 68, 69, 70, 71] (sps [.bool true, .bool true] (zn [74, 75, 76, 77, 78, 79, 80] (sps [.bool true, .bool true] (zn [83, 84, 85, 86, 87, 88, 89] (sps [.bool true, .bool true] (zn [92, 93, 94, 95, 96, 97] (sp (.bool true) (zjn (xF true rfl (fun _ => zcr (sp (.bool false) (zjr (t_r (ret1 (.bool false) rfl rfl ⟨_, rfl, ?_, H.base⟩))))) (fun h => absurd h qj))))))))))))
    rw [xu (fun h => by obtain ⟨h1, h2, h3, h4, h5, h6, h7, h8, h9, h10, h11⟩ := h; first | contradiction | omega | exact h3 ⟨‹_›, ‹_›⟩ | (obtain ⟨q1, q2, q3, q4, q5⟩ := h11 k qf; first | contradiction | omega | (have := q5 qf; omega)))]
   replace h51 := eq_of_beq h51
   refine zW [34, 35, 36, 37, 38, 39] 6 (H) (rtp 40 (.bool true) H ?_)
   refine xI qh (t_n (xF true rfl (fun _ => zcr (sp (.bool false) (zjr (t_r (ret1 (.bool false) rfl rfl ⟨_, rfl, ?_, H.base⟩))))) (fun h => absurd h qj)))
   rw [xu (fun h => by obtain ⟨h1, h2, h3, h4, h5, h6, h7, h8, h9, h10, h11⟩ := h; first | contradiction | omega | exact h3 ⟨‹_›, ‹_›⟩ | (obtain ⟨q1, q2, q3, q4, q5⟩ := h11 k qf; first | contradiction | omega | (have := q5 qf; omega)))]
  replace h7 := xw h7
  replace h7 := Xu h7
  refine zW [21, 22, 23, 24, 25, 26, 27, 28, 29, 30, 31] 11 (H) (rtp 32 (.bool true) H ?_)
  refine rtp 33 (.bool true) H ?_
  refine zW [34, 35, 36, 37, 38, 39] 6 (H) (rtp 40 (.bool true) H ?_)
  refine xI qh (t_n (xF true rfl (fun _ => zcr (sp (.bool false) (zjr (t_r (ret1 (.bool false) rfl rfl ⟨_, rfl, ?_, H.base⟩))))) (fun h => absurd h qj)))
  rw [xu (fun h => by obtain ⟨h1, h2, h3, h4, h5, h6, h7, h8, h9, h10, h11⟩ := h; first | contradiction | omega | exact h3 ⟨‹_›, ‹_›⟩ | (obtain ⟨q1, q2, q3, q4, q5⟩ := h11 k qf; first | contradiction | omega | (have := q5 qf; omega)))]
 replace h4 := xw h4
 replace h4 := Xu h4
 refine zW [13, 14, 15, 16, 17, 18] 6 (H) (rtp 19 (.bool true) H ?_)
 refine rtp 20 (.bool true) H ?_
 refine zW [21, 22, 23, 24, 25, 26, 27, 28, 29, 30, 31] 11 (H) (rtp 32 (.bool true) H ?_)
 refine rtp 33 (.bool true) H ?_
 refine zW [34, 35, 36, 37, 38, 39] 6 (H) (rtp 40 (.bool true) H ?_)
 refine xI qh (t_n (xF true rfl (fun _ => zcr (sp (.bool false) (zjr (t_r (ret1 (.bool false) rfl rfl ⟨_, rfl, ?_, H.base⟩))))) (fun h => absurd h qj)))
 rw [xu (fun h => by obtain ⟨h1, h2, h3, h4, h5, h6, h7, h8, h9, h10, h11⟩ := h; first | contradiction | omega | exact h3 ⟨‹_›, ‹_›⟩ | (obtain ⟨q1, q2, q3, q4, q5⟩ := h11 k qf; first | contradiction | omega | (have := q5 qf; omega)))]

theorem l02State_ok (w : World) (s : qM) (t : qO) (hs : vP w bs os [.int .i64 s.qQ, .slice qC s.qw.length qB, .slice qL s.qx.length qI]) (xm : qU.rep w qZ [.slice qC s.qw.length qB] s.qw) (xJ : qU.rep w xC [.slice qL s.qx.length qI] s.qx) (ht : vP w bt ot [.slice qV t.qA.length qP, .slice xk t.qE.length xf, .slice qK t.qy.length qJ]) (zA : qU.rep w xK [.slice qV t.qA.length qP] t.qA) (zU : qU.rep w zC [.slice xk t.qE.length xf] t.qE) (xN : qU.rep w xB [.slice qK t.qy.length qJ] t.qy) (p0 : yM s) : Calls Tryz.prog 87 #[pp bs os, pp bt ot] w (Ret (fun v w' => v = .bool (dec (zT s t))) w) := by
 refine en Tryz.func87 Tryz.ntmps87 ?_
 have H := (((((((St.start w).arg xN).arg zU).arg zA).XL ht).arg xJ).arg xm).XL hs
 have vI := qN xm
 have jB := qN xJ
 have yT := qN zA
 have QA := qN zU
 have yc := qN xN
 clear hs xm xJ ht zA zU xN
 have p1 := p0.2.1
 refine zcr (sp (.bool false) (zjn (zf (zf ?_))))
 refine ji rfl H fun H => rtp 0 (pp bt ot) H ?_
 refine rtp 1 (pp bt ot) H ?_
 refine tF 2 rfl rfl H ?_
 refine tL 3 rfl rfl (fun _ h => h.xX 3 rfl 0 rfl) H ?_
 refine tN 4 rfl rfl H ?_
 refine rtp 5 (pp bs os) H ?_
 refine rtp 6 (pp bs os) H ?_
 refine tF 7 rfl rfl H ?_
 refine tL 8 rfl rfl (fun _ h => h.xX 0 rfl 1 rfl) H ?_
 refine tN 9 rfl rfl H ?_
 refine rtp 10 (.bool ((t.qA.length : Int) != s.qw.length)) H ?_
 refine rtp 11 (.bool ((t.qA.length : Int) != s.qw.length)) H ?_
 cases h2 : ((t.qA.length : Int) != s.qw.length)
 ·skip
  replace h2 := xA h2
  refine rgp 12 (pp bt ot) 17 H ?_
  refine rgp 13 (pp bt ot) 17 H ?_
  refine gF 14 rfl rfl H ?_
  refine gL 15 rfl rfl (fun _ h => h.xX 3 rfl 1 rfl) H ?_
  refine gN 16 rfl rfl H ?_
  refine rgp 17 (pp bs os) 17 H ?_
  refine rgp 18 (pp bs os) 17 H ?_
  refine gF 19 rfl rfl H ?_
  refine gL 20 rfl rfl (fun _ h => h.xX 0 rfl 1 rfl) H ?_
  refine gN 21 rfl rfl H ?_
  refine rgp 22 (.bool ((t.qE.length : Int) != s.qw.length)) 17 H ?_
  refine rtp 23 (.bool ((t.qE.length : Int) != s.qw.length)) H ?_
  refine rtp 24 (.bool ((t.qE.length : Int) != s.qw.length)) H ?_
  cases h3 : ((t.qE.length : Int) != s.qw.length)
  ·skip
   replace h3 := xA h3
   refine rgp 25 (pp bt ot) 30 H ?_
   refine rgp 26 (pp bt ot) 30 H ?_
   refine gF 27 rfl rfl H ?_
   refine gL 28 rfl rfl (fun _ h => h.xX 3 rfl 0 rfl) H ?_
   obtain ⟨b4, o5, rfl⟩ := H.addr 4 rfl qf
   refine gI 29 rfl rfl rfl H ?_
   refine gL 30 rfl rfl (fun _ h => h.Xh 4 rfl 0 qf qf) H ?_
   refine rgp 31 (.bool (!(t.qA[0]!))) 30 H ?_
   refine rtp 32 (.bool (!(t.qA[0]!))) H ?_
   refine rtp 33 (.bool (!(t.qA[0]!))) H ?_
   cases h6 : (!(t.qA[0]!))
   ·skip
    replace h6 := xn h6
    refine rgp 34 (pp bs os) 39 H ?_
    refine rgp 35 (pp bt ot) 39 H ?_
    refine rgp 36 (pp bt ot) 39 H ?_
    refine gF 37 rfl rfl H ?_
    refine gL 38 rfl rfl (fun _ h => h.xX 3 rfl 2 rfl) H ?_
    refine vW [39] qh qm (r_opG rfl (e := 39) rfl rfl (oq (QC _ s t.qy (qH (H.get 0 rfl) 0 3) (H.get 1 rfl).1 (H.get 2 rfl).1 (H.get 6 rfl).1) H fun w7 H => ⟨H, (rgp 40 (.bool (!(dec (vk s.qQ t.qy)))) 39 H ?_)⟩) vX)
    refine rtp 41 (.bool (!(dec (vk s.qQ t.qy)))) H ?_
    refine xI qh (t_n (cQ rfl (fun h9 => ?_) (fun h9 => ?_)))
    ·skip
     refine zcr (sp (.bool false) (zjr (t_r (ret1 (.bool false) rfl rfl ⟨_, rfl, ?_, H.base⟩))))
     rw [xu (fun h => by obtain ⟨h1, h2, h3, h4, h5⟩ := h; first | contradiction | omega | (simp_all; done) | (obtain ⟨q1, q2⟩ := h5 k qf; first | contradiction | (have := q2 ql; omega)))]
    refine qX (t_n (zcc (sp (.int .i64 0) (zjn (xe ?_)))))
    refine zG (fun m' ρ w10 => ∃ (xR : Env) (k : Nat), ρ = upd (upd (upd xR 0 (pp bs os)) 1 (pp bt ot)) 5 (.int .i64 k) ∧ (k ≤ t.qE.length) ∧ (BagsTo s t k) ∧ m' = t.qE.length - k ∧ St w w10 [] [atF bs os [.int .i64 s.qQ, .slice qC s.qw.length qB, .slice qL s.qx.length qI], sF false qZ qC qB s.qw, sF false xC qL qI s.qx, atF bt ot [.slice (aa b4 o5) t.qA.length qP, .slice xk t.qE.length xf, .slice qK t.qy.length qJ], sF false xK (aa b4 o5) qP t.qA, sF false zC xk xf t.qE, sF false xB qK qJ t.qy]) (t.qE.length - 0) ⟨_, 0, uE3, qf, (by exact fun j hj => by omega), rfl, H⟩ ?_
    clear H
    rintro m' ρ w11 ⟨xR, k, rfl, i0, i1, rfl, H⟩
    refine zcc (sps [.int .i64 k, pp bt ot, pp bt ot] (oF rfl (oL rfl (H.xX 3 rfl 1 rfl) (oN rfl (sp (.bool (decide ((k : Int) < t.qE.length))) (zjn (cD rfl (fun h12 => ?_) (fun h12 => ?_))))))))
    ·skip
     refine qX (t_n (zf (xe (zcr (sps [pp bs os, pp bt ot, pp bt ot] (oF rfl (oL rfl (H.xX 3 rfl 1 rfl) (sp (.int .i64 k) ?_))))))))
     obtain ⟨b13, o14, rfl⟩ := H.addr 5 rfl qf
     obtain ⟨ae15, ce15, Fe15, H⟩ := H.vU 5 rfl k k qf qf qf
     refine oI rfl rfl (oL rfl (H.xX 1 rfl 0 rfl) (sw (oq (QC _ s (t.qE[k]!) (qH (H.get 2 rfl) 0 3) (H.get 3 rfl).1 (H.get 4 rfl).1 (H.get 0 rfl).1) H fun w16 H => sps [.bool (!(dec (vk s.qQ (t.qE[k]!)))), .bool (!(dec (vk s.qQ (t.qE[k]!))))] ?_)))
     cases h18 : (!(dec (vk s.qQ (t.qE[k]!))))
     ·skip
      replace h18 := xn h18
      replace h18 := Qa h18
      refine qR 67 rfl rfl (sp (pp bt ot) (qR 67 rfl rfl (sp (pp bt ot) (qR 67 rfl rfl (oF rfl (qR 67 rfl rfl (oL rfl (H.xX 5 rfl 0 rfl) (qR 67 rfl rfl (sp (.int .i64 k) (qR 67 rfl rfl (oI rfl rfl (qR 67 rfl rfl (oL rfl (H.Xh 6 rfl k qf qf) (qR 67 rfl rfl (sp (.bool (!(t.qA[k]!))) (qR 67 rfl rfl (sp (.bool (!(t.qA[k]!))) ?_)))))))))))))))))
      cases h19 : (!(t.qA[k]!))
      ·skip
       replace h19 := xn h19
       refine zn [77, 78, 79, 80, 81, 82, 83, 84, 85] (qR 67 rfl rfl (sps [.bool false, .bool false] (zjn (xF false rfl (fun h => absurd h qj) (fun _ => qX (b_n (t_n (zh (sp (.int .i64 k) (sw (zK k 1 rfl rfl qf (sp (.int .i64 (k + 1)) (zi (xh (m' := t.qE.length - (k + 1)) qf ⟨_, k + 1, uE3, ?_, ?_, rfl, H.sel _ (.refl _) _ qm⟩))))))))))))))
       · omega
       · exact i1.succ ‹_› (fun hk => by first | omega | simp_all)
      replace h19 := xw h19
      refine qR 76 rfl rfl (sp (pp bt ot) (qR 76 rfl rfl (sp (pp bt ot) (qR 76 rfl rfl (oF rfl (qR 76 rfl rfl (oL rfl (H.xX 5 rfl 1 rfl) (qR 76 rfl rfl (sp (.int .i64 k) (qR 76 rfl rfl (oI rfl rfl (qR 76 rfl rfl (oL rfl (H.xX 1 rfl 0 rfl) (qR 76 rfl rfl (sw (oq (VB _ (t.qE[k]!) (H.get 0 rfl).1 (by first | assumption | exact vM ql | exact yQ ql)) H fun w20 H => qR 76 rfl rfl (sp (.bool (decide ((XR (t.qE[k]!) : Int) > 0))) (qR 67 rfl rfl ?_))))))))))))))))))
      refine sps [.bool (decide ((XR (t.qE[k]!) : Int) > 0)), .bool (decide ((XR (t.qE[k]!) : Int) > 0))] (zjn (cD rfl (fun h22 => ?_) (fun h22 => ?_)))
      ·skip
       refine zcr (sp (.bool false) (zjr (zr5 (ret1 (.bool false) rfl rfl ⟨_, rfl, ?_, H.base⟩))))
       rw [xu (fun h => by obtain ⟨h1, h2, h3, h4, h5⟩ := h; first | contradiction | omega | (simp_all; done) | (obtain ⟨q1, q2⟩ := h5 k qf; first | contradiction | (have := q2 ql; omega)))]
      refine qX (b_n (t_n (zh (sp (.int .i64 k) (sw (zK k 1 rfl rfl qf (sp (.int .i64 (k + 1)) (zi (xh (m' := t.qE.length - (k + 1)) qf ⟨_, k + 1, uE3, ?_, ?_, rfl, H.sel _ (.refl _) _ qm⟩)))))))))
      · omega
      · exact i1.succ ‹_› (fun hk => by first | omega | simp_all)
     replace h18 := xw h18
     replace h18 := vg h18
     refine zn [68, 69, 70, 71, 72, 73, 74, 75, 76, 77, 78, 79, 80, 81, 82, 83, 84, 85, 86] (sp (.bool true) (zjn (xF true rfl (fun _ => zcr (sp (.bool false) (zjr (zr5 (ret1 (.bool false) rfl rfl ⟨_, rfl, ?_, H.base⟩))))) (fun h => absurd h qj))))
     rw [xu (fun h => by obtain ⟨h1, h2, h3, h4, h5⟩ := h; first | contradiction | omega | (simp_all; done) | (obtain ⟨q1, q2⟩ := h5 k qf; first | contradiction | (have := q2 ql; omega)))]
    refine zx4 (zcr (sp (.bool true) (zjr (ret1 (.bool true) rfl rfl ⟨_, rfl, ?_, H.base⟩))))
    obtain rfl : k = t.qE.length := by omega
    rw [jZ ⟨by omega, by omega, by first | assumption | simp_all, by assumption, i1⟩]
   replace h6 := xw h6
   refine zW [34, 35, 36, 37, 38, 39, 40] 7 (H) (rtp 41 (.bool true) H ?_)
   refine xI qh (t_n (xF true rfl (fun _ => zcr (sp (.bool false) (zjr (t_r (ret1 (.bool false) rfl rfl ⟨_, rfl, ?_, H.base⟩))))) (fun h => absurd h qj)))
   rw [xu (fun h => by obtain ⟨h1, h2, h3, h4, h5⟩ := h; first | contradiction | omega | (simp_all; done) | (obtain ⟨q1, q2⟩ := h5 k qf; first | contradiction | (have := q2 ql; omega)))]
  replace h3 := bne_iff_ne.1 h3
  refine zW [25, 26, 27, 28, 29, 30, 31] 7 (H) (rtp 32 (.bool true) H ?_)
  refine rtp 33 (.bool true) H ?_
  refine zW [34, 35, 36, 37, 38, 39, 40] 7 (H) (rtp 41 (.bool true) H ?_)
  refine xI qh (t_n (xF true rfl (fun _ => zcr (sp (.bool false) (zjr (t_r (ret1 (.bool false) rfl rfl ⟨_, rfl, ?_, H.base⟩))))) (fun h => absurd h qj)))
  rw [xu (fun h => by obtain ⟨h1, h2, h3, h4, h5⟩ := h; first | contradiction | omega | (simp_all; done) | (obtain ⟨q1, q2⟩ := h5 k qf; first | contradiction | (have := q2 ql; omega)))]
 replace h2 := bne_iff_ne.1 h2
 refine zW [12, 13, 14, 15, 16, 17, 18, 19, 20, 21, 22] 11 (H) (rtp 23 (.bool true) H ?_)
 refine rtp 24 (.bool true) H ?_
 refine zW [25, 26, 27, 28, 29, 30, 31] 7 (H) (rtp 32 (.bool true) H ?_)
 refine rtp 33 (.bool true) H ?_
 refine zW [34, 35, 36, 37, 38, 39, 40] 7 (H) (rtp 41 (.bool true) H ?_)
 refine xI qh (t_n (xF true rfl (fun _ => zcr (sp (.bool false) (zjr (t_r (ret1 (.bool false) rfl rfl ⟨_, rfl, ?_, H.base⟩))))) (fun h => absurd h qj)))
 rw [xu (fun h => by obtain ⟨h1, h2, h3, h4, h5⟩ := h; first | contradiction | omega | (simp_all; done) | (obtain ⟨q1, q2⟩ := h5 k qf; first | contradiction | (have := q2 ql; omega)))]

theorem l02Parent_ok (w : World) (s : qM) (t : qO) (c : Int) (hs : vP w bs os [.int .i64 s.qQ, .slice qC s.qw.length qB, .slice qL s.qx.length qI]) (xm : qU.rep w qZ [.slice qC s.qw.length qB] s.qw) (xJ : qU.rep w xC [.slice qL s.qx.length qI] s.qx) (ht : vP w bt ot [.slice qV t.qA.length qP, .slice xk t.qE.length xf, .slice qK t.qy.length qJ]) (zA : qU.rep w xK [.slice qV t.qA.length qP] t.qA) (zU : qU.rep w zC [.slice xk t.qE.length xf] t.qE) (xN : qU.rep w xB [.slice qK t.qy.length qJ] t.qy) (p0 : yM s) (p1 : CellIn s c) (p2 : t.qA.length = s.qw.length) : Calls Tryz.prog 182 #[pp bs os, pp bt ot, .int .i64 c] w (Ret (fun v w' => v = .int .i64 (xy s t c)) w) := by
 refine en Tryz.func182 Tryz.ntmps182 ?_
 have H := (((((((St.start w).arg xN).arg zU).arg zA).XL ht).arg xJ).arg xm).XL hs
 have vI := qN xm
 have jB := qN xJ
 have yT := qN zA
 have QA := qN zU
 have yc := qN xN
 clear hs xm xJ ht zA zU xN
 have p3 := p0.step p1.1 p1.2
 refine zcr (sp (.int .i64 0) (zjc (sps [pp bs os, pp bs os] (oF rfl (oL rfl (H.xX 0 rfl 1 rfl) (sp (.int .i64 c) ?_))))))
 obtain ⟨b1, o2, rfl⟩ := H.addr 1 rfl qf
 refine oI rfl rfl (oL rfl (H.jD 1 rfl c qf qf) (sp (.int .i64 (s.qw[c.toNat]!)) (zjn (zf (xe ?_)))))
 refine zG (fun m' ρ w3 => ∃ (xR : Env) (y : Int) (n : Nat), ρ = upd (upd (upd (upd xR 0 (pp bs os)) 1 (pp bt ot)) 6 (.int .i64 0)) 7 (.int .i64 y) ∧ (-1 ≤ y ∧ y ≤ (s.qw.length : Int) - 1) ∧ (y < n) ∧ (xy s t c = climb s.qw t.qA n y) ∧ m' = (y + 1).toNat ∧ St w w3 [] [atF bs os [.int .i64 s.qQ, .slice (aa b1 o2) s.qw.length qB, .slice qL s.qx.length qI], sF false qZ (aa b1 o2) qB s.qw, sF false xC qL qI s.qx, atF bt ot [.slice qV t.qA.length qP, .slice xk t.qE.length xf, .slice qK t.qy.length qJ], sF false xK qV qP t.qA, sF false zC xk xf t.qE, sF false xB qK qJ t.qy]) (((s.qw[c.toNat]!) + 1).toNat) ⟨_, s.qw[c.toNat]!, s.qw.length, uE4, qf, qf, (by rfl), rfl, H⟩ ?_
 clear H
 rintro m' ρ w4 ⟨xR, y, n, rfl, i0, i1, i2, rfl, H⟩
 have up := fun h => p0.step (c := y) h i0.2
 refine zcc (sps [.int .i64 y, .bool (decide ((y : Int) ≥ 0)), .bool (decide ((y : Int) ≥ 0))] ?_)
 cases h5 : (decide ((y : Int) ≥ 0))
 ·skip
  replace h5 := of_decide_eq_false h5
  refine zn [18, 19, 20, 21, 22, 23, 24, 25] (sp (.bool false) (zjn (xF false rfl (fun h => absurd h qj) (fun _ => zx4 (zcr (sps [.int .i64 y, .int .i64 y] (zjr (ret1 (.int .i64 y) rfl rfl ⟨_, rfl, ?_, H.base⟩))))))))
  rw [i2, climb_end (by first | omega | simp_all)]
 replace h5 := of_decide_eq_true h5
 refine qR 17 rfl rfl (sp (pp bt ot) (qR 17 rfl rfl (sp (pp bt ot) (qR 17 rfl rfl (oF rfl (qR 17 rfl rfl (oL rfl (H.xX 3 rfl 0 rfl) (qR 17 rfl rfl (sp (.int .i64 y) (qR 17 rfl rfl ?_))))))))))
 obtain ⟨b6, o7, rfl⟩ := H.addr 4 rfl qf
 refine oI rfl rfl (qR 17 rfl rfl (oL rfl (H.Xh 4 rfl y qf qf) (qR 17 rfl rfl (sps [.bool (!(t.qA[y.toNat]!)), .bool (!(t.qA[y.toNat]!))] (zjn (xF (!(t.qA[y.toNat]!)) rfl (fun h8 => ?_) (fun h8 => ?_)))))))
 ·skip
  replace h8 := xw h8
  refine qX (t_n (xe (zh (sps [pp bs os, pp bs os] (oF rfl (oL rfl (H.xX 0 rfl 1 rfl) (sp (.int .i64 y) (oI rfl rfl (oL rfl (H.jD 1 rfl y qf qf) (sp (.int .i64 (s.qw[y.toNat]!)) (zi (b_n ?_))))))))))))
  have up1 := up qf
  refine xh (m' := ((s.qw[y.toNat]!) + 1).toNat) qf ⟨_, (s.qw[y.toNat]!), n - 1, uE4, ?_, ?_, ?_, rfl, H⟩
  · omega
  · omega
  · exact i2.trans (climb_go qf qf ‹_›)
 replace h8 := xn h8
 refine zx4 (zcr (sps [.int .i64 y, .int .i64 y] (zjr (ret1 (.int .i64 y) rfl rfl ⟨_, rfl, ?_, H.base⟩))))
 rw [i2, climb_end (by first | omega | simp_all)]

theorem l02Ok_ok (w : World) (s : qM) (hs : vP w bs os [.int .i64 s.qQ, .slice qC s.qw.length qB, .slice qL s.qx.length qI]) (xm : qU.rep w qZ [.slice qC s.qw.length qB] s.qw) (xJ : qU.rep w xC [.slice qL s.qx.length qI] s.qx) : Calls Tryz.prog 98 #[pp bs os] w (Ret (fun v w' => v = .bool (dec (yg s))) w) := by
 refine en Tryz.func98 Tryz.ntmps98 ?_
 have H := (((St.start w).arg xJ).arg xm).XL hs
 have vI := qN xm
 have jB := qN xJ
 clear hs xm xJ
 have p1 := fun h : yM s => h.2.1
 refine zcr (sp (.bool false) (zjcc (sp (pp bs os) (sw (oq (l02Frame_ok _ s (qH (H.get 0 rfl) 0 3) (H.get 1 rfl).1 (H.get 2 rfl).1) H fun w1 H => sps [.bool (!(dec (yM s))), .bool (!(dec (yM s)))] ?_)))))
 cases h3 : (!(dec (yM s)))
 ·skip
  replace h3 := xn h3
  replace h3 := Qa h3
  refine qR 8 rfl rfl (sp (pp bs os) (qR 8 rfl rfl (sp (pp bs os) (qR 8 rfl rfl (oF rfl (qR 8 rfl rfl (oL rfl (H.xX 0 rfl 2 rfl) (qR 8 rfl rfl (oN rfl (qR 8 rfl rfl (sps [.bool (decide ((s.qx.length : Int) > 16)), .bool (decide ((s.qx.length : Int) > 16))] (zjn (cD rfl (fun h4 => ?_) (fun h4 => ?_))))))))))))))
  ·skip
   refine zcr (sp (.bool false) (zjr (t_r (ret1 (.bool false) rfl rfl ⟨_, rfl, ?_, H.base⟩))))
   rw [xu (fun h => by obtain ⟨h1, h2, h3⟩ := h; first | contradiction | omega | (obtain ⟨q1, q2⟩ := h3 k qf; first | contradiction | (have := VD (k := k + 1) q; omega)))]
  have p2 := p1 ql
  refine qX (t_n (zcr (sps [pp bs os, pp bs os] (oF rfl (oL rfl (H.xX 0 rfl 1 rfl) (oN rfl (sw (o_make1 H Tryz.underlying22 ti2 rfl s.qw.length rfl rfl qf qf fun b5 w6 H => ?_))))))))
  replace H : St _ _ [.box b5 (List.replicate s.qw.length (.int .i64 0)) 2] _ := H
  refine sp (.slice (aa b5 0) s.qw.length s.qw.length) (zjcc (sp (.int .i64 0) (zjn (xe ?_))))
  rw [ints_zero, counts_zero] at H
  refine zG (fun m' ρ w7 => ∃ (xR : Env) (k : Nat), ρ = upd (upd (upd xR 0 (pp bs os)) 3 (.slice (aa b5 0) s.qw.length s.qw.length)) 4 (.int .i64 k) ∧ (k ≤ s.qx.length) ∧ (RulesTo s k) ∧ m' = s.qx.length - k ∧ St w w7 [.box b5 ((counts s k).map (Value.int .i64)) 2] [atF bs os [.int .i64 s.qQ, .slice qC s.qw.length qB, .slice qL s.qx.length qI], sF false qZ qC qB s.qw, sF false xC qL qI s.qx]) (s.qx.length - 0) ⟨_, 0, uE3, qf, (by exact fun j hj => by omega), rfl, H⟩ ?_
  clear H
  rintro m' ρ w8 ⟨xR, k, rfl, i0, i1, rfl, H⟩
  refine zcc (sps [.int .i64 k, pp bs os, pp bs os] (oF rfl (oL rfl (H.xX 0 rfl 2 rfl) (oN rfl (sp (.bool (decide ((k : Int) < s.qx.length))) (zjn (cD rfl (fun h9 => ?_) (fun h9 => ?_))))))))
  ·skip
   refine qX (t_n (zf (xe (zcc (sps [pp bs os, pp bs os, pp bs os] (oF rfl (oL rfl (H.xX 0 rfl 2 rfl) (sp (.int .i64 k) ?_))))))))
   obtain ⟨b10, o11, rfl⟩ := H.addr 2 rfl qf
   obtain ⟨ae12Need, ce12Need, Fe12Need, ae12Have, ce12Have, Fe12Have, ae12Lack, ce12Lack, Fe12Lack, ae12Here, ce12Here, Fe12Here, ae12Out, ce12Out, Fe12Out, ae12Into, ce12Into, Fe12Into, H⟩ := H.jX 2 rfl k k qf qf qf
   refine oI rfl rfl (sw (oq (l02Rule_ok _ s (s.qx[k]!) (qH (H.get 7 rfl) 0 3) (H.get 8 rfl).1 (H.get 9 rfl).1 (qH (H.get 6 rfl) 0 9) (H.get 0 rfl).1 (H.get 1 rfl).1 (H.get 2 rfl).1 (H.get 3 rfl).1 (H.get 4 rfl).1 (H.get 5 rfl).1 ql) H fun w13 H => sp (.bool (!(dec (RuleOk s (s.qx[k]!))))) (zjn (cQ rfl (fun h15 => ?_) (fun h15 => ?_)))))
   ·skip
    refine zcr (sp (.bool false) (zjr (t_r (zr5 (ret1 (.bool false) rfl rfl ⟨_, rfl, ?_, H.base⟩)))))
    rw [xu (fun h => by obtain ⟨h1, h2, h3⟩ := h; first | contradiction | omega | (obtain ⟨q1, q2⟩ := h3 k qf; first | contradiction | (have := VD (k := k + 1) q; omega)))]
   have q := (h15).1
   refine qX (t_n (zcr (sps [.slice (aa b5 0) s.qw.length s.qw.length, pp bs os, pp bs os] (oF rfl (oL rfl (H.xX 7 rfl 2 rfl) (sp (.int .i64 k) (oI rfl rfl (oF rfl (oL rfl (H.xX 6 rfl 0 rfl) (oI rfl rfl (oL rfl (H.cell 0 rfl (ints_get (by rw [counts_len]; omega))) (sw (zK ((counts s k)[((s.qx[k]!).qG : Int).toNat]!) 1 rfl rfl (by (first | omega | (rw [VD q]; have := ofCell_bd s.qx (s.qx[k]!).qG k; omega))) (oI rfl rfl ?_))))))))))))))
   refine sw (yO H 0 rfl (.int .i64 (((counts s k)[((s.qx[k]!).qG : Int).toNat]!) + 1)) Tryz.sizeOf2 rfl rfl rfl (ints_lt (by rw [counts_len]; omega)) fun w16 H => ?_)
   rw [ints_set] at H
   rw [counts_succ q] at H
   replace H : St _ _ [.box b5 ((counts s (k + 1)).map (Value.int .i64)) 2] _ := H
   refine zjc (sps [.slice (aa b5 0) s.qw.length s.qw.length, pp bs os, pp bs os] (oF rfl (oL rfl (H.xX 7 rfl 2 rfl) (sp (.int .i64 k) (oI rfl rfl (oF rfl (oL rfl (H.xX 6 rfl 0 rfl) (oI rfl rfl (oL rfl (H.cell 0 rfl (ints_get (by rw [counts_len]; omega))) (sp (.bool (decide (((counts s (k + 1))[((s.qx[k]!).qG : Int).toNat]! : Int) > 8))) (zjn (cD rfl (fun h17 => ?_) (fun h17 => ?_)))))))))))))
   ·skip
    refine zcr (sp (.bool false) (zjr (zr5 (ret1 (.bool false) rfl rfl ⟨_, rfl, ?_, H.base⟩))))
    rw [xu (fun h => by obtain ⟨h1, h2, h3⟩ := h; first | contradiction | omega | (obtain ⟨q1, q2⟩ := h3 k qf; first | contradiction | (have := VD (k := k + 1) q; omega)))]
   refine qX (b_n (t_n (zh (sp (.int .i64 k) (sw (zK k 1 rfl rfl (by (first | omega | (rw [VD q]; have := ofCell_bd s.qx (s.qx[k]!).qG k; omega))) (sp (.int .i64 (k + 1)) (zi (xh (m' := s.qx.length - (k + 1)) qf ⟨_, k + 1, uE3, ?_, ?_, rfl, H.sel _ (.refl _) _ qm⟩)))))))))
   · omega
   · exact i1.succ ‹_› (by have := VD (k := k + 1) q; omega)
  refine zx4 (zcr (sp (.bool true) (zjr (ret1 (.bool true) rfl rfl ⟨_, rfl, ?_, H.base⟩))))
  obtain rfl : k = s.qx.length := by omega
  rw [jZ ⟨by assumption, by omega, i1⟩]
 replace h3 := xw h3
 replace h3 := vg h3
 refine zn [9, 10, 11, 12, 13, 14] (sp (.bool true) (zjn (xF true rfl (fun _ => zcr (sp (.bool false) (zjr (t_r (ret1 (.bool false) rfl rfl ⟨_, rfl, ?_, H.base⟩))))) (fun h => absurd h qj))))
 rw [xu (fun h => by obtain ⟨h1, h2, h3⟩ := h; first | contradiction | omega | (obtain ⟨q1, q2⟩ := h3 k qf; first | contradiction | (have := VD (k := k + 1) q; omega)))]
theorem cloneB_ok (w : World) (l : List Bool) (hl : qU.rep w Fl [.slice al l.length cl] l) (p0 : l.length ≤ 1000000) : Calls Tryz.prog 115 #[.slice al l.length cl] w (Ret (fun v w' => ∃ (ra : Option Addr) (rn : Nat) (rc : Nat), v = .slice ra rn rc ∧ Fresh w.heap.size [] ∧ St w w' [rr ra rn rc 4 1 (l.map (Value.bool))] []) w) := by
 refine en Tryz.func115 Tryz.ntmps115 ?_
 have H := (St.start w).arg hl
 have nhl := qN hl
 clear hl
 have N := Fresh.nil w.heap.size
 refine zcr (sp (.slice none 0 0) (zjcc (sp (.slice al l.length cl) (sw (o_eqnil Tryz.underlying26 al l.length cl rfl (zjn (xF (al.isNone) rfl (fun h1 => ?_) (fun h1 => ?_))))))))
 ·skip
  refine zcr (sp (.slice none 0 0) (zjr (t_r ?_)))
  replace H := H.nilRowB 4
  refine ret1 (.slice none 0 0) rfl rfl ⟨_, rfl, ?_, H.base⟩
  obtain rfl := H.nilOf 0 rfl ‹_›
  exact ⟨none, 0, 0, rfl, N, H.pick [0] []⟩
 refine qX (t_n (zcr (sw (jh H Tryz.underlying26 ti4 fun b2 w3 H => sp (.slice al l.length cl) ?_))))
 replace H := H.boxRowB 0 [] 0
 refine sw (o_appendFR H 0 rfl 0 rfl Tryz.underlying26 ti4 rfl qj rfl rfl qp qf fun a4 c5 w6 us7 G8 H hG9 => ?_)
 obtain ⟨_, rfl⟩ := reps_bools (H.get 0 rfl).1
 replace H := H.sub _ fun f hf => List.mem_cons_of_mem _ hf
 rw [catB] at H
 refine sp (.slice a4 (0 + l.length) c5) (zjr (ret1 (.slice a4 (0 + l.length) c5) rfl rfl ⟨_, rfl, (⟨a4, 0 + l.length, c5, rfl, N, H.pick [0] []⟩), H.base⟩))

theorem l02Own_ok (w : World) (t : qO) (ht : vP w bt ot [.slice qV t.qA.length qP, .slice xk t.qE.length xf, .slice qK t.qy.length qJ]) (zA : qU.rep w xK [.slice qV t.qA.length qP] t.qA) (zU : qU.rep w zC [.slice xk t.qE.length xf] t.qE) (xN : qU.rep w xB [.slice qK t.qy.length qJ] t.qy) (p0 : t.qA.length ≤ 1000000) (p1 : t.qy.length ≤ 1000000) (p2 : t.qE.length ≤ 1000000) (p3 : ∀ k, k < t.qE.length → (t.qE[k]!).length ≤ 1000000) : Calls Tryz.prog 76 #[pp bt ot] w (Ret (fun v w' => ∃ (raAlive : Option Addr) (rnAlive : Nat) (rcAlive : Nat) (raBags : Option Addr) (rnBags : Nat) (rcBags : Nat) (rxBags : List Value) (rFBags : List Nat) (raAround : Option Addr) (rnAround : Nat) (rcAround : Nat), v = .agg #[.slice raAlive rnAlive rcAlive, .slice raBags rnBags rcBags, .slice raAround rnAround rcAround] ∧ Fresh w.heap.size [rFBags] ∧ St w w' [rr raAlive rnAlive rcAlive 4 1 (t.qA.map (Value.bool)), rr raBags rnBags rcBags 22 1 rxBags, rr raAround rnAround rcAround 2 1 (t.qy.map (Value.int .i64))] [zg true rFBags rxBags t.qE]) w) := by
 refine en Tryz.func76 Tryz.ntmps76 ?_
 have H := ((((St.start w).arg xN).arg zU).arg zA).XL ht
 have yT := qN zA
 have QA := qN zU
 have yc := qN xN
 clear ht zA zU xN
 have N := Fresh.nil w.heap.size
 refine zcr (sw (xH H ti38 [.slice none 0 0, .slice none 0 0, .slice none 0 0] fun b1 w2 H => zjn (zf ?_)))
 refine c_cut (fun ρ w8 => ∃ (xR : Env) (b3 : Nat) (a4 : Option Addr) (c5 : Nat) (a6 : Option Addr) (c7 : Nat), ρ = upd (upd (upd xR 0 (pp bt ot)) 2 (pp b1 0)) 3 (pp b3 0) ∧ Fresh w.heap.size [] ∧ St w w8 [.box b3 [.slice a4 (0 + t.qA.length) c5, .slice none 0 0, .slice a6 t.qy.length c7] 38, rr a6 t.qy.length c7 2 1 (t.qy.map (Value.int .i64)), rr a4 (0 + t.qA.length) c5 4 1 ((([] : List Bool) ++ t.qA).map (Value.bool)), .box b1 [.slice none 0 0, .slice none 0 0, .slice none 0 0] 38] [atF bt ot [.slice qV t.qA.length qP, .slice xk t.qE.length xf, .slice qK t.qy.length qJ], sF false xK qV qP t.qA, sF false zC xk xf t.qE, sF false xB qK qJ t.qy]) ?_ ?_
 ·skip
  refine ji rfl H fun H => rtp 1 (pp bt ot) H ?_
  refine rtp 2 (pp bt ot) H ?_
  refine tF 3 rfl rfl H ?_
  refine tL 4 rfl rfl (fun _ h => h.xX 0 rfl 0 rfl) H ?_
  refine rtp 6 (pp bt ot) H ?_
  refine rtp 7 (pp bt ot) H ?_
  refine tF 8 rfl rfl H ?_
  refine tL 9 rfl rfl (fun _ h => h.xX 0 rfl 2 rfl) H ?_
  refine vW [0, 12] qh qm (jF rfl ?_ (jF rfl ?_ vX))
  ·skip
   refine jh H Tryz.underlying26 ti4 fun b10 w11 H => ⟨H.pick [1] [0, 1, 2, 3], (vW [5, 12] qh qm (jF rfl ?_ (jF rfl ?_ vX)))⟩
   ·skip
    replace H := H.boxRowB 0 [] 0
    refine o_appendFR H 0 rfl 1 rfl Tryz.underlying26 ti4 rfl qj rfl rfl qp qf fun a12 c13 w14 us15 G16 H hG17 => ?_
    obtain ⟨_, rfl⟩ := reps_bools (H.get 0 rfl).1
    replace H := H.sub _ fun f hf => List.mem_cons_of_mem _ hf
    rw [catB] at H
    refine ⟨H.pick [1] [0, 1, 2, 3], (vW [10, 12] qh qm (jF rfl ?_ (jF rfl ?_ vX)))⟩
    ·skip
     have sz18 := H.base.size
     refine oc (Q9 _ t.qy (H.get 3 rfl).1 qg) ?_
     rintro v23 w21 r23 x22
     replace H := H.zH x22 r23
     obtain ⟨a24, c25, rfl, hc26, hm27⟩ := H.jr 0 rfl
     refine ⟨H.pick [2] [0, 1, 2, 3], (vW [11, 12] qh qm (jF rfl ?_ (jF rfl ?_ vX)))⟩
     ·skip
      refine jv [.slice a12 (0 + t.qA.length) c13, .slice none 0 0, .slice a24 t.qy.length c25] [(0, .slice a12 (0 + t.qA.length) c13), (2, .slice a24 t.qy.length c25)] (⟨H.pick [2] [0, 1, 2, 3], (ro 12 rfl (xH H ti38 [.slice none 0 0, .slice none 0 0, .slice none 0 0] fun b28 w29 H => ⟨H.pick [3] [0, 1, 2, 3], (ro 13 rfl (zt H 0 [.slice a12 (0 + t.qA.length) c13, .slice none 0 0, .slice a24 t.qy.length c25] Tryz.sizeOf38 fun w30 H => ⟨H.pick [3] [0, 1, 2, 3], (xI qh ((meet ⟨_, b28, a12, c13, a24, c25, uE3, N, H⟩)))⟩))⟩))⟩)
     refine xH H ti38 [.slice none 0 0, .slice none 0 0, .slice none 0 0] fun b31 w32 H => ⟨H.pick [3] [0, 1, 2, 3], (ro 11 rfl (jv [.slice a12 (0 + t.qA.length) c13, .slice none 0 0, .slice a24 t.qy.length c25] [(0, .slice a12 (0 + t.qA.length) c13), (2, .slice a24 t.qy.length c25)] (⟨H.pick [3] [0, 1, 2, 3], (ro 13 rfl (zt H 0 [.slice a12 (0 + t.qA.length) c13, .slice none 0 0, .slice a24 t.qy.length c25] Tryz.sizeOf38 fun w33 H => ⟨H.pick [3] [0, 1, 2, 3], (xI qh ((meet ⟨_, b31, a12, c13, a24, c25, uE3, N, H⟩)))⟩))⟩)))⟩
    refine xH H ti38 [.slice none 0 0, .slice none 0 0, .slice none 0 0] fun b34 w35 H => ⟨H.pick [2] [0, 1, 2, 3], (ro 10 rfl ?_)⟩
    have sz36 := H.base.size
    refine oc (Q9 _ t.qy (H.get 3 rfl).1 qg) ?_
    rintro v41 w39 r41 x40
    replace H := H.zH x40 r41
    obtain ⟨a42, c43, rfl, hc44, hm45⟩ := H.jr 0 rfl
    refine ⟨H.pick [3] [0, 1, 2, 3], (ro 11 rfl (jv [.slice a12 (0 + t.qA.length) c13, .slice none 0 0, .slice a42 t.qy.length c43] [(0, .slice a12 (0 + t.qA.length) c13), (2, .slice a42 t.qy.length c43)] (⟨H.pick [3] [0, 1, 2, 3], (ro 13 rfl (zt H 1 [.slice a12 (0 + t.qA.length) c13, .slice none 0 0, .slice a42 t.qy.length c43] Tryz.sizeOf38 fun w46 H => ⟨H.pick [3] [0, 1, 2, 3], (xI qh ((meet ⟨_, b34, a12, c13, a42, c43, uE3, N, H.pick [1, 0, 2, 3] [0, 1, 2, 3]⟩)))⟩))⟩)))⟩
   refine xH H ti38 [.slice none 0 0, .slice none 0 0, .slice none 0 0] fun b47 w48 H => ⟨H.pick [2] [0, 1, 2, 3], (ro 5 rfl ?_)⟩
   replace H := H.boxRowB 1 [] 0
   refine o_appendFR H 1 rfl 1 rfl Tryz.underlying26 ti4 rfl qj rfl rfl qp qf fun a49 c50 w51 us52 G53 H hG54 => ?_
   obtain ⟨_, rfl⟩ := reps_bools (H.get 0 rfl).1
   replace H := H.sub _ fun f hf => List.mem_cons_of_mem _ hf
   rw [catB] at H
   refine ⟨H.pick [2] [0, 1, 2, 3], (ro 10 rfl ?_)⟩
   have sz55 := H.base.size
   refine oc (Q9 _ t.qy (H.get 3 rfl).1 qg) ?_
   rintro v60 w58 r60 x59
   replace H := H.zH x59 r60
   obtain ⟨a61, c62, rfl, hc63, hm64⟩ := H.jr 0 rfl
   refine ⟨H.pick [3] [0, 1, 2, 3], (ro 11 rfl (jv [.slice a49 (0 + t.qA.length) c50, .slice none 0 0, .slice a61 t.qy.length c62] [(0, .slice a49 (0 + t.qA.length) c50), (2, .slice a61 t.qy.length c62)] (⟨H.pick [3] [0, 1, 2, 3], (ro 13 rfl (zt H 1 [.slice a49 (0 + t.qA.length) c50, .slice none 0 0, .slice a61 t.qy.length c62] Tryz.sizeOf38 fun w65 H => ⟨H.pick [3] [0, 1, 2, 3], (xI qh ((meet ⟨_, b47, a49, c50, a61, c62, uE3, N, H.pick [1, 0, 2, 3] [0, 1, 2, 3]⟩)))⟩))⟩)))⟩
  refine xH H ti38 [.slice none 0 0, .slice none 0 0, .slice none 0 0] fun b66 w67 H => ⟨H.pick [1] [0, 1, 2, 3], (ro 0 rfl (jh H Tryz.underlying26 ti4 fun b68 w69 H => ⟨H.pick [2] [0, 1, 2, 3], (ro 5 rfl ?_)⟩))⟩
  replace H := H.boxRowB 0 [] 0
  refine o_appendFR H 0 rfl 1 rfl Tryz.underlying26 ti4 rfl qj rfl rfl qp qf fun a70 c71 w72 us73 G74 H hG75 => ?_
  obtain ⟨_, rfl⟩ := reps_bools (H.get 0 rfl).1
  replace H := H.sub _ fun f hf => List.mem_cons_of_mem _ hf
  rw [catB] at H
  refine ⟨H.pick [2] [0, 1, 2, 3], (ro 10 rfl ?_)⟩
  have sz76 := H.base.size
  refine oc (Q9 _ t.qy (H.get 3 rfl).1 qg) ?_
  rintro v81 w79 r81 x80
  replace H := H.zH x80 r81
  obtain ⟨a82, c83, rfl, hc84, hm85⟩ := H.jr 0 rfl
  refine ⟨H.pick [3] [0, 1, 2, 3], (ro 11 rfl (jv [.slice a70 (0 + t.qA.length) c71, .slice none 0 0, .slice a82 t.qy.length c83] [(0, .slice a70 (0 + t.qA.length) c71), (2, .slice a82 t.qy.length c83)] (⟨H.pick [3] [0, 1, 2, 3], (ro 13 rfl (zt H 2 [.slice a70 (0 + t.qA.length) c71, .slice none 0 0, .slice a82 t.qy.length c83] Tryz.sizeOf38 fun w86 H => ⟨H.pick [3] [0, 1, 2, 3], (xI qh ((meet ⟨_, b66, a70, c71, a82, c83, uE3, N, H.pick [2, 0, 1, 3] [0, 1, 2, 3]⟩)))⟩))⟩)))⟩
 clear H N
 rintro ρ w87 ⟨xR, b3, a4, c5, a6, c7, rfl, N, H⟩
 refine t_n (zcc (sp (.int .i64 0) (zjn (xe ?_))))
 replace H := H.nilRow 22 1
 replace H := H.vY (α := List Int)
 refine zG (fun m' ρ w88 => ∃ (xR : Env) (c : Nat) (jL : Option Addr) (vC : Nat) (jK : Nat) (out_Bags : List (List Int)) (zS : List Value) (zk : List Nat), ρ = upd (upd (upd (upd xR 0 (pp bt ot)) 2 (pp b1 0)) 3 (pp b3 0)) 4 (.int .i64 c) ∧ out_Bags = t.qE.take c ∧ ((c : Int) ≤ t.qE.length) ∧ m' = (t.qE.length - (c : Int)).toNat ∧ Fresh w.heap.size [zk] ∧ St w w88 [rr jL vC jK 22 1 zS, .box b3 [.slice a4 (0 + t.qA.length) c5, .slice jL vC jK, .slice a6 t.qy.length c7] 38, rr a6 t.qy.length c7 2 1 (t.qy.map (Value.int .i64)), rr a4 (0 + t.qA.length) c5 4 1 ((([] : List Bool) ++ t.qA).map (Value.bool)), .box b1 [.slice none 0 0, .slice none 0 0, .slice none 0 0] 38] [zg true zk zS out_Bags, atF bt ot [.slice qV t.qA.length qP, .slice xk t.qE.length xf, .slice qK t.qy.length qJ], sF false xK qV qP t.qA, sF false zC xk xf t.qE, sF false xB qK qJ t.qy]) ((t.qE.length - (0 : Int)).toNat) ⟨_, 0, none, 0, 0, ([] : List (List Int)), [], [], uE4, (by rfl), qf, rfl, N.emp, H⟩ ?_
 clear H N
 rintro m' ρ w89 ⟨xR, c, jL, vC, jK, out_Bags, zS, zk, rfl, rfl, i0, rfl, N, H⟩
 have Vt := H.zB (α := List Int) 0 rfl 0 rfl qj
 have p4 := p3 c
 rw [List.length_take_of_le qf] at Vt
 refine zcc (sps [.int .i64 c, pp bt ot, pp bt ot] (oF rfl (oL rfl (H.xX 1 rfl 1 rfl) (oN rfl (sp (.bool (decide ((c : Int) < t.qE.length))) (zjn (cD rfl (fun h90 => ?_) (fun h90 => ?_))))))))
 ·skip
  refine qX (t_n (zf (xe ?_)))
  obtain ⟨b91, o92, rfl⟩ := H.addr 3 rfl qf
  refine c_cut (fun ρ w102 => ∃ (xR : Env) (a94 : Option Addr) (c95 : Nat) (a96 : Option Addr) (c97 : Nat) (G98 : List Nat) (F99 : List Nat) (a100 : Option Addr) (c101 : Nat), ρ = upd (upd (upd (upd xR 0 (pp bt ot)) 2 (pp b1 0)) 3 (pp b3 0)) 4 (.int .i64 c) ∧ Fresh w.heap.size [(zk ++ G98)] ∧ St w w102 [rr a94 (vC + 1) c95 22 1 (zS ++ [.slice a96 ((t.qE[c]!).length) c97]), .box b3 [.slice a4 (0 + t.qA.length) c5, .slice a94 (vC + 1) c95, .slice a6 t.qy.length c7] 38, rr a6 t.qy.length c7 2 1 (t.qy.map (Value.int .i64)), rr a4 (0 + t.qA.length) c5 4 1 ((([] : List Bool) ++ t.qA).map (Value.bool)), .box b1 [.slice none 0 0, .slice none 0 0, .slice none 0 0] 38] [zg true (zk ++ G98) (zS ++ [.slice a96 ((t.qE[c]!).length) c97]) ((t.qE.take c) ++ [(t.qE[c]!)]), sF true G98 a96 c97 (t.qE[c]!), sF false F99 a100 c101 (t.qE[c]!), atF b91 (o92 + (c : Int).toNat * 1) [.slice a100 ((t.qE[c]!).length) c101], atF bt ot [.slice qV t.qA.length qP, .slice (aa b91 o92) t.qE.length xf, .slice qK t.qy.length qJ], sF false xK qV qP t.qA, sF false zC (aa b91 o92) xf t.qE, sF false xB qK qJ t.qy]) ?_ ?_
  ·skip
   refine yS rfl H [2, 3, 4] fun H => ?_
   have S := H.jW [2, 3, 4] [0, 1, 2, 3, 4]
   refine tF 0 rfl rfl S ?_
   refine rtp 2 (pp bt ot) S ?_
   refine rtp 3 (pp bt ot) S ?_
   refine tF 4 rfl rfl S ?_
   refine tL 5 rfl rfl (fun _ h => h.xX 1 rfl 1 rfl) S ?_
   refine rtp 6 (.int .i64 c) S ?_
   obtain ⟨ae104, ce104, Fe104, H⟩ := H.vU 3 rfl c c qf qf qf
   refine tI 7 rfl rfl rfl (H.pick [2, 3, 4] [2, 3, 4, 5, 6]) ?_
   refine vW [1, 8] qh qm (jF rfl ?_ (jF rfl ?_ vX))
   ·skip
    refine zI (.slice jL vC jK) Tryz.isAgg27 rfl (H.cell 1 rfl rfl) (⟨H.pick [2, 3, 4] [2, 3, 4, 5, 6], (ro 8 rfl (zI (.slice ae104 ((t.qE[c]!).length) ce104) Tryz.isAgg22 rfl (H.xX 1 rfl 0 rfl) (⟨H.pick [2, 3, 4] [2, 3, 4, 5, 6], (ro 9 rfl ?_)⟩)))⟩)
    have sz105 := H.base.size
    have lt106 := H.ltN (L := [zk]) [2]
    refine oc (Q9 _ (t.qE[c]!) (H.get 0 rfl).1 qg) ?_
    rintro v110 w108 r110 x109
    replace H := H.zH x109 r110
    obtain ⟨a111, c112, rfl, hc113, hm114⟩ := H.jr 0 rfl
    refine ⟨H.pick [3, 4, 5] [2, 3, 4, 5, 6], (ro 10 rfl (zN H Tryz.underlying27 ti22 [.slice a111 ((t.qE[c]!).length) c112] fun b115 w116 H => ⟨H.pick [4, 5, 6] [2, 3, 4, 5, 6], (ro 11 rfl ?_)⟩))⟩
    obtain ⟨G120, N, hn121, H⟩ := H.vZ 1 rfl N (H.yG [2])
    refine zX H 2 rfl 0 rfl Tryz.underlying27 ti22 rfl qj rfl rfl rfl (by simp [Value.oneCell', Value.cells]) qp qf fun a117 c118 w119 H => ?_
    replace H := H.yh 3 rfl 0 rfl
    replace N : Fresh w.heap.size [(zk ++ G120)] := (N.pick [1, 0]).join
    refine ⟨H.pick [4, 5, 6] [4, 5, 6, 7, 8], (tF 12 rfl rfl (H.pick [4, 5, 6] [4, 5, 6, 7, 8]) ?_)⟩
    refine ro 13 rfl (xU H 3 [.slice a4 (0 + t.qA.length) c5, .slice a117 (vC + 1) c118, .slice a6 t.qy.length c7] Tryz.sizeOf27 fun w122 H => ⟨H.pick [4, 5, 6] [4, 5, 6, 7, 8], (xI qh ((meet ⟨_, a117, c118, a111, c112, G120, Fe104, ae104, ce104, uE4, N, H.pick [2, 3, 4, 5, 6] [0, 1, 2, 3, 5, 6, 7, 8]⟩)))⟩)
   refine zI (.slice ae104 ((t.qE[c]!).length) ce104) Tryz.isAgg22 rfl (H.xX 1 rfl 0 rfl) (⟨H.pick [2, 3, 4] [2, 3, 4, 5, 6], (vW [1, 9] qh qm (jF rfl ?_ (jF rfl ?_ vX)))⟩)
   ·skip
    refine zI (.slice jL vC jK) Tryz.isAgg27 rfl (H.cell 1 rfl rfl) (⟨H.pick [2, 3, 4] [2, 3, 4, 5, 6], (ro 9 rfl ?_)⟩)
    have sz123 := H.base.size
    have lt124 := H.ltN (L := [zk]) [2]
    refine oc (Q9 _ (t.qE[c]!) (H.get 0 rfl).1 qg) ?_
    rintro v128 w126 r128 x127
    replace H := H.zH x127 r128
    obtain ⟨a129, c130, rfl, hc131, hm132⟩ := H.jr 0 rfl
    refine ⟨H.pick [3, 4, 5] [2, 3, 4, 5, 6], (ro 10 rfl (zN H Tryz.underlying27 ti22 [.slice a129 ((t.qE[c]!).length) c130] fun b133 w134 H => ⟨H.pick [4, 5, 6] [2, 3, 4, 5, 6], (ro 11 rfl ?_)⟩))⟩
    obtain ⟨G138, N, hn139, H⟩ := H.vZ 1 rfl N (H.yG [2])
    refine zX H 2 rfl 0 rfl Tryz.underlying27 ti22 rfl qj rfl rfl rfl (by simp [Value.oneCell', Value.cells]) qp qf fun a135 c136 w137 H => ?_
    replace H := H.yh 3 rfl 0 rfl
    replace N : Fresh w.heap.size [(zk ++ G138)] := (N.pick [1, 0]).join
    refine ⟨H.pick [4, 5, 6] [4, 5, 6, 7, 8], (tF 12 rfl rfl (H.pick [4, 5, 6] [4, 5, 6, 7, 8]) ?_)⟩
    refine ro 13 rfl (xU H 3 [.slice a4 (0 + t.qA.length) c5, .slice a135 (vC + 1) c136, .slice a6 t.qy.length c7] Tryz.sizeOf27 fun w140 H => ⟨H.pick [4, 5, 6] [4, 5, 6, 7, 8], (xI qh ((meet ⟨_, a135, c136, a129, c130, G138, Fe104, ae104, ce104, uE4, N, H.pick [2, 3, 4, 5, 6] [0, 1, 2, 3, 5, 6, 7, 8]⟩)))⟩)
   have sz141 := H.base.size
   have lt142 := H.ltN (L := [zk]) [2]
   refine oc (Q9 _ (t.qE[c]!) (H.get 0 rfl).1 qg) ?_
   rintro v146 w144 r146 x145
   replace H := H.zH x145 r146
   obtain ⟨a147, c148, rfl, hc149, hm150⟩ := H.jr 0 rfl
   refine ⟨H.pick [3, 4, 5] [2, 3, 4, 5, 6], (vW [1, 10] qh qm (jF rfl ?_ (jF rfl ?_ vX)))⟩
   ·skip
    refine zI (.slice jL vC jK) Tryz.isAgg27 rfl (H.cell 2 rfl rfl) (⟨H.pick [3, 4, 5] [2, 3, 4, 5, 6], (ro 10 rfl (zN H Tryz.underlying27 ti22 [.slice a147 ((t.qE[c]!).length) c148] fun b151 w152 H => ⟨H.pick [4, 5, 6] [2, 3, 4, 5, 6], (ro 11 rfl ?_)⟩))⟩)
    obtain ⟨G156, N, hn157, H⟩ := H.vZ 1 rfl N (H.yG [2])
    refine zX H 2 rfl 0 rfl Tryz.underlying27 ti22 rfl qj rfl rfl rfl (by simp [Value.oneCell', Value.cells]) qp qf fun a153 c154 w155 H => ?_
    replace H := H.yh 3 rfl 0 rfl
    replace N : Fresh w.heap.size [(zk ++ G156)] := (N.pick [1, 0]).join
    refine ⟨H.pick [4, 5, 6] [4, 5, 6, 7, 8], (tF 12 rfl rfl (H.pick [4, 5, 6] [4, 5, 6, 7, 8]) ?_)⟩
    refine ro 13 rfl (xU H 3 [.slice a4 (0 + t.qA.length) c5, .slice a153 (vC + 1) c154, .slice a6 t.qy.length c7] Tryz.sizeOf27 fun w158 H => ⟨H.pick [4, 5, 6] [4, 5, 6, 7, 8], (xI qh ((meet ⟨_, a153, c154, a147, c148, G156, Fe104, ae104, ce104, uE4, N, H.pick [2, 3, 4, 5, 6] [0, 1, 2, 3, 5, 6, 7, 8]⟩)))⟩)
   refine zN H Tryz.underlying27 ti22 [.slice a147 ((t.qE[c]!).length) c148] fun b159 w160 H => ⟨H.pick [4, 5, 6] [2, 3, 4, 5, 6], (ro 1 rfl (zI (.slice jL vC jK) Tryz.isAgg27 rfl (H.cell 3 rfl rfl) (⟨H.pick [4, 5, 6] [2, 3, 4, 5, 6], (ro 11 rfl ?_)⟩)))⟩
   obtain ⟨G164, N, hn165, H⟩ := H.vZ 1 rfl N (H.yG [2])
   refine zX H 2 rfl 0 rfl Tryz.underlying27 ti22 rfl qj rfl rfl rfl (by simp [Value.oneCell', Value.cells]) qp qf fun a161 c162 w163 H => ?_
   replace H := H.yh 3 rfl 0 rfl
   replace N : Fresh w.heap.size [(zk ++ G164)] := (N.pick [1, 0]).join
   refine ⟨H.pick [4, 5, 6] [4, 5, 6, 7, 8], (tF 12 rfl rfl (H.pick [4, 5, 6] [4, 5, 6, 7, 8]) ?_)⟩
   refine ro 13 rfl (xU H 3 [.slice a4 (0 + t.qA.length) c5, .slice a161 (vC + 1) c162, .slice a6 t.qy.length c7] Tryz.sizeOf27 fun w166 H => ⟨H.pick [4, 5, 6] [4, 5, 6, 7, 8], (xI qh ((meet ⟨_, a161, c162, a147, c148, G164, Fe104, ae104, ce104, uE4, N, H.pick [2, 3, 4, 5, 6] [0, 1, 2, 3, 5, 6, 7, 8]⟩)))⟩)
  clear H N
  rintro ρ w167 ⟨xR, a94, c95, a96, c97, G98, F99, a100, c101, rfl, N, H⟩
  refine b_n (t_n (zh (sp (.int .i64 c) (sw (zK c 1 rfl rfl qf (sp (.int .i64 (c + 1)) (zi (xh (m' := (t.qE.length - ((c + 1) : Int)).toNat) qf ⟨_, c + 1, a94, vC + 1, c95, ((t.qE.take c) ++ [(t.qE[c]!)]), zS ++ [.slice a96 ((t.qE[c]!).length) c97], (zk ++ G98), uE4, ?_, ?_, rfl, N, H.pick [0, 1, 2, 3, 4] [0, 4, 5, 6, 7]⟩))))))))
  · exact take_snoc qf
  · omega
 refine zx4 (zcr (sw (zq [.slice a4 (0 + t.qA.length) c5, .slice jL vC jK, .slice a6 t.qy.length c7] Tryz.isAgg38 Tryz.sizeOf38 rfl (qH (H.cells 1 rfl) 0 3) (sw (zt H 4 [.slice a4 (0 + t.qA.length) c5, .slice jL vC jK, .slice a6 t.qy.length c7] Tryz.sizeOf38 fun w168 H => zjr (retC H 4 rfl rfl Tryz.isAgg38 Tryz.sizeOf38 rfl ⟨_, rfl, ?_, H.base⟩))))))
 obtain rfl : c = t.qE.length := by omega
 rw [List.take_length] at H
 exact ⟨a4, 0 + t.qA.length, c5, jL, vC, jK, zS, zk, a6, t.qy.length, c7, rfl, N, H.pick [3, 0, 2] [0]⟩
theorem isShell_ok (w : World) (s : qM) (xm : qU.rep w qZ [.slice qC s.qw.length qB] s.qw) (xJ : qU.rep w xC [.slice qL s.qx.length qI] s.qx) : Calls Tryz.prog 138 #[.agg #[.int .i64 s.qQ, .slice qC s.qw.length qB, .slice qL s.qx.length qI]] w (Ret (fun v w' => v = .bool (dec (yM s))) w) := by
 refine en Tryz.func138 Tryz.ntmps138 ?_
 have H := ((St.start w).arg xJ).arg xm
 have vI := qN xm
 have jB := qN xJ
 clear xm xJ
 have N := Fresh.nil w.heap.size
 refine zcr (sw (vK H [.int .i64 s.qQ, .slice qC s.qw.length qB, .slice qL s.qx.length qI] fun b1 w2 H => sp (.bool false) (zjcc (oF rfl (oL rfl (H.cell 0 rfl rfl) (sw (oq (VC w2 s.qQ 1 8) H fun w3 H => sps [.bool (!(inR s.qQ 1 8)), .bool (!(inR s.qQ 1 8))] ?_)))))))
 cases h5 : (!(inR s.qQ 1 8))
 ·skip
  replace h5 := xn h5
  replace h5 := QS.1 h5
  refine qR 9 rfl rfl (oF rfl (qR 9 rfl rfl (oL rfl (H.cell 0 rfl rfl) (qR 9 rfl rfl (sw (oq (sizeI_ok _ s.qw (H.get 0 rfl).1) H fun w6 H => qR 9 rfl rfl (sw (oq (VC w6 (s.qw.length : Int) 1 6) H fun w8 H => qR 9 rfl rfl (sps [.bool (!(inR (s.qw.length : Int) 1 6)), .bool (!(inR (s.qw.length : Int) 1 6)), .bool (!(inR (s.qw.length : Int) 1 6))] ?_)))))))))
  cases h10 : (!(inR (s.qw.length : Int) 1 6))
  ·skip
   replace h10 := xn h10
   replace h10 := QS.1 h10
   refine qR 16 rfl rfl (oF rfl (qR 16 rfl rfl (oL rfl (H.cell 0 rfl rfl) (qR 16 rfl rfl ?_))))
   obtain ⟨b11, o12, rfl⟩ := H.addr 0 rfl qf
   refine oI rfl rfl (qR 16 rfl rfl (oL rfl (H.jD 0 rfl 0 qf qf) (qR 16 rfl rfl (sps [.bool ((s.qw[0]! : Int) != (-1)), .bool ((s.qw[0]! : Int) != (-1))] (zjn (xF ((s.qw[0]! : Int) != (-1)) rfl (fun h14 => ?_) (fun h14 => ?_)))))))
   ·skip
    replace h14 := bne_iff_ne.1 h14
    refine zcr (sp (.bool false) (zjr (t_r (ret1 (.bool false) rfl rfl ⟨_, rfl, ?_, H.base⟩))))
    rw [xu (fun h => by obtain ⟨h1, h2, h3, h4⟩ := h; first | omega | (have := h4 (c + 1) qf qf; rw [← dg qf] at this; omega))]
   replace h14 := xA h14
   refine qX (t_n (zcc (oF rfl (oL rfl (H.cell 0 rfl rfl) (sw (o_tail H 0 rfl 1 Tryz.underlying22 ti2 rfl qf fun a15 G16 hG17 H => ?_))))))
   have hl18 : (s.qw.drop 1).length = s.qw.length - 1 := List.length_drop
   refine oN rfl (sp (.int .i64 0) (zjn (xe ?_)))
   refine zG (fun m' ρ w19 => ∃ (xR : Env) (c : Nat), ρ = upd (upd (upd xR 25 (.slice a15 ((s.qw.drop 1).length) (qB - 1))) 26 (.int .i64 ((s.qw.drop 1).length))) 27 (.int .i64 c) ∧ ((c : Int) ≤ ((s.qw.drop 1).length)) ∧ (FrameTo s (c + 1)) ∧ m' = (((s.qw.drop 1).length) - (c : Int)).toNat ∧ Fresh w.heap.size [] ∧ St w w19 [.box b1 [.int .i64 s.qQ, .slice (aa b11 o12) s.qw.length qB, .slice qL s.qx.length qI] 36] [sF false G16 a15 (qB - 1) (s.qw.drop 1), sF false qZ (aa b11 o12) qB s.qw, sF false xC qL qI s.qx]) ((((s.qw.drop 1).length) - (0 : Int)).toNat) ⟨_, 0, uE3, qf, (by exact FrameTo.one s), rfl, N, H⟩ ?_
   clear H N
   rintro m' ρ w20 ⟨xR, c, rfl, i0, i1, rfl, N, H⟩
   have dg := drop_get (l := s.qw) (k := c)
   refine zcr (sp (.bool (decide ((c : Int) < ((s.qw.drop 1).length)))) (zjn (zf (cD rfl (fun h21 => ?_) (fun h21 => ?_)))))
   ·skip
    refine qX (t_n (zf (xe (zcr (sp (.int .i64 c) ?_)))))
    obtain ⟨b22, o23, rfl⟩ := H.addr 0 rfl qf
    refine oI rfl rfl (oL rfl (H.jD 0 rfl c qf qf) (sps [.int .i64 c, .int .i64 ((s.qw.drop 1)[c]!)] (zjc (sps [.int .i64 ((s.qw.drop 1)[c]!), .int .i64 c] (sw (oq (VC w20 ((s.qw.drop 1)[c]!) 0 c) H fun w25 H => sp (.bool (!(inR ((s.qw.drop 1)[c]!) 0 c))) (zjn (xF (!(inR ((s.qw.drop 1)[c]!) 0 c)) rfl (fun h27 => ?_) (fun h27 => ?_)))))))))
    ·skip
     replace h27 := xw h27
     replace h27 := Xu h27
     refine zcr (sp (.bool false) (zjr (zr5 (ret1 (.bool false) rfl rfl ⟨_, rfl, ?_, H.base⟩))))
     rw [xu (fun h => by obtain ⟨h1, h2, h3, h4⟩ := h; first | omega | (have := h4 (c + 1) qf qf; rw [← dg qf] at this; omega))]
    replace h27 := xn h27
    replace h27 := QS.1 h27
    refine qX (b_n (t_n (zh (sw (zK c 1 rfl rfl qf (sp (.int .i64 (c + 1)) (zi (xh (m' := (((s.qw.drop 1).length) - ((c + 1) : Int)).toNat) qf ⟨_, c + 1, uE3, ?_, ?_, rfl, N, H⟩))))))))
    · omega
    · exact i1.succ (by rw [← dg qf]; omega)
   refine zx4 (zcr (sp (.bool true) (zjr (ret1 (.bool true) rfl rfl ⟨_, rfl, ?_, H.base⟩))))
   rw [jZ ⟨by omega, by omega, by omega, (show s.qw.length = c + 1 by omega) ▸ i1⟩]
  replace h10 := xw h10
  replace h10 := Xu h10
  refine zn [17, 18, 19, 20, 21] (sp (.bool true) (zjn (xF true rfl (fun _ => zcr (sp (.bool false) (zjr (t_r (ret1 (.bool false) rfl rfl ⟨_, rfl, ?_, H.base⟩))))) (fun h => absurd h qj))))
  rw [xu (fun h => by obtain ⟨h1, h2, h3, h4⟩ := h; first | omega | (have := h4 (c + 1) qf qf; rw [← dg qf] at this; omega))]
 replace h5 := xw h5
 replace h5 := Xu h5
 refine zn [10, 11, 12, 13, 14] (sps [.bool true, .bool true] (zn [17, 18, 19, 20, 21] (sp (.bool true) (zjn (xF true rfl (fun _ => zcr (sp (.bool false) (zjr (t_r (ret1 (.bool false) rfl rfl ⟨_, rfl, ?_, H.base⟩))))) (fun h => absurd h qj))))))
 rw [xu (fun h => by obtain ⟨h1, h2, h3, h4⟩ := h; first | omega | (have := h4 (c + 1) qf qf; rw [← dg qf] at this; omega))]

theorem isCell_ok (w : World) (s : qM) (c : Int) (xm : qU.rep w qZ [.slice qC s.qw.length qB] s.qw) (xJ : qU.rep w xC [.slice qL s.qx.length qI] s.qx) : Calls Tryz.prog 173 #[.agg #[.int .i64 s.qQ, .slice qC s.qw.length qB, .slice qL s.qx.length qI], .int .i64 c] w (Ret (fun v w' => v = .bool (inR c 0 ((s.qw.length : Int) - 1))) w) := by
 refine en Tryz.func173 Tryz.ntmps173 ?_
 have H := ((St.start w).arg xJ).arg xm
 have vI := qN xm
 have jB := qN xJ
 clear xm xJ
 have N := Fresh.nil w.heap.size
 refine zcr (sw (vK H [.int .i64 s.qQ, .slice qC s.qw.length qB, .slice qL s.qx.length qI] fun b1 w2 H => sp (.bool false) (zjc (sp (.int .i64 c) (oF rfl (oL rfl (H.cell 0 rfl rfl) (sw (oq (sizeI_ok _ s.qw (H.get 0 rfl).1) H fun w3 H => sw (o_sub (s.qw.length : Int) 1 rfl rfl qf (sw (oq (VC w3 c 0 ((s.qw.length : Int) - 1)) H fun w5 H => sp (.bool (inR c 0 ((s.qw.length : Int) - 1))) (zjr (ret1 (.bool (inR c 0 ((s.qw.length : Int) - 1))) rfl rfl ⟨_, rfl, ?_, H.base⟩)))))))))))))
 rfl

theorem lies_ok (w : World) (s : qM) (c : Int) (within : Int) (xm : qU.rep w qZ [.slice qC s.qw.length qB] s.qw) (xJ : qU.rep w xC [.slice qL s.qx.length qI] s.qx) (p0 : yM s) (p1 : CellIn s c) : Calls Tryz.prog 174 #[.agg #[.int .i64 s.qQ, .slice qC s.qw.length qB, .slice qL s.qx.length qI], .int .i64 c, .int .i64 within] w (Ret (fun v w' => v = .bool (dec (Lies s.qw within c))) w) := by
 refine en Tryz.func174 Tryz.ntmps174 ?_
 have H := ((St.start w).arg xJ).arg xm
 have vI := qN xm
 have jB := qN xJ
 clear xm xJ
 have N := Fresh.nil w.heap.size
 have p2 := p0.step p1.1 p1.2
 refine zcr (sw (vK H [.int .i64 s.qQ, .slice qC s.qw.length qB, .slice qL s.qx.length qI] fun b1 w2 H => sp (.bool false) (zjcc (oF rfl (oL rfl (H.cell 0 rfl rfl) (sp (.int .i64 c) ?_))))))
 obtain ⟨b3, o4, rfl⟩ := H.addr 0 rfl qf
 refine oI rfl rfl (oL rfl (H.jD 0 rfl c qf qf) (sp (.int .i64 (s.qw[c.toNat]!)) (zjn (xe ?_))))
 refine zG (fun m' ρ w6 => ∃ (xR : Env) (c_1 : Int), ρ = upd (upd (upd xR 1 (.int .i64 c_1)) 2 (.int .i64 within)) 3 (pp b1 0) ∧ (-1 ≤ c_1 ∧ c_1 ≤ (s.qw.length : Int) - 1) ∧ (Lies s.qw within c ↔ 0 ≤ c_1 ∧ (c_1 = within ∨ Lies s.qw within c_1)) ∧ m' = (c_1 + 1).toNat ∧ Fresh w.heap.size [] ∧ St w w6 [.box b1 [.int .i64 s.qQ, .slice (aa b3 o4) s.qw.length qB, .slice qL s.qx.length qI] 36] [sF false qZ (aa b3 o4) qB s.qw, sF false xC qL qI s.qx]) (((s.qw[c.toNat]!) + 1).toNat) ⟨_, s.qw[c.toNat]!, uE3, qf, (by exact lies_up p0 p1), rfl, N, H⟩ ?_
 clear H N
 rintro m' ρ w7 ⟨xR, c_1, rfl, i0, i1, rfl, N, H⟩
 have up := fun h => p0.step (c := c_1) h i0.2
 refine zcc (sps [.int .i64 c_1, .bool (decide ((c_1 : Int) ≥ 0))] (zjn (cD rfl (fun h8 => ?_) (fun h8 => ?_))))
 ·skip
  refine qX (t_n (zf (xe (zcr (sps [.int .i64 c_1, .int .i64 within, .bool ((c_1 : Int) == within)] (zjn (cE rfl (fun h9 => ?_) (fun h9 => ?_))))))))
  ·skip
   refine zcr (sp (.bool true) (zjr (zr5 (ret1 (.bool true) rfl rfl ⟨_, rfl, ?_, H.base⟩))))
   rw [jZ (i1.2 ⟨by omega, .inl ‹_›⟩)]
  refine qX (b_n (t_n (zh (oF rfl (oL rfl (H.cell 0 rfl rfl) (sp (.int .i64 c_1) (oI rfl rfl (oL rfl (H.jD 0 rfl c_1 qf qf) (sp (.int .i64 (s.qw[c_1.toNat]!)) (zi ?_))))))))))
  have up1 := up qf
  refine xh (m' := ((s.qw[c_1.toNat]!) + 1).toNat) qf ⟨_, s.qw[c_1.toNat]!, uE3, ?_, ?_, rfl, N, H⟩
  · omega
  · exact i1.trans ⟨fun h => (lies_up p0 ⟨by omega, by omega⟩).1 (h.2.resolve_left ‹_›), fun h => ⟨by omega, .inr ((lies_up p0 ⟨by omega, by omega⟩).2 h)⟩⟩
 refine zx4 (zcr (sp (.bool false) (zjr (ret1 (.bool false) rfl rfl ⟨_, rfl, ?_, H.base⟩))))
 rw [xu (fun h => by have := (i1.1 h).1; omega)]

theorem isRule_ok (w : World) (s : qM) (r : Qy) (xm : qU.rep w qZ [.slice qC s.qw.length qB] s.qw) (xJ : qU.rep w xC [.slice qL s.qx.length qI] s.qx) (hrNeed : qU.rep w Ve [.slice yA r.xG.length yt] r.xG) (hrHave : qU.rep w Vh [.slice yD r.xO.length yx] r.xO) (hrLack : qU.rep w Vf [.slice yB r.xP.length yu] r.xP) (hrHere : qU.rep w Vg [.slice yC r.xZ.length yw] r.xZ) (hrOut : qU.rep w FrOut [.slice QJ r.vJ.length QI] r.vJ) (hrInto : qU.rep w FrInto [.slice jU r.qW.length jR] r.qW) (p0 : yM s) : Calls Tryz.prog 139 #[.agg #[.int .i64 s.qQ, .slice qC s.qw.length qB, .slice qL s.qx.length qI], .agg #[.int .i64 r.qG, .int .i64 r.zQ, .slice yA r.xG.length yt, .slice yD r.xO.length yx, .slice yB r.xP.length yu, .slice yC r.xZ.length yw, .slice QJ r.vJ.length QI, .slice jU r.qW.length jR, .bool r.zJ]] w (Ret (fun v w' => v = .bool (dec (RuleOk s r))) w) := by
 refine en Tryz.func139 Tryz.ntmps139 ?_
 have H := ((((((((St.start w).arg hrInto).arg hrOut).arg hrHere).arg hrLack).arg hrHave).arg hrNeed).arg xJ).arg xm
 have vI := qN xm
 have jB := qN xJ
 have nhrNeed := qN hrNeed
 have nhrHave := qN hrHave
 have nhrLack := qN hrLack
 have nhrHere := qN hrHere
 have nhrOut := qN hrOut
 have nhrInto := qN hrInto
 clear xm xJ hrNeed hrHave hrLack hrHere hrOut hrInto
 have N := Fresh.nil w.heap.size
 refine zcr (sw (vK H [.int .i64 s.qQ, .slice qC s.qw.length qB, .slice qL s.qx.length qI] fun b1 w2 H => sw (vK H [.int .i64 r.qG, .int .i64 r.zQ, .slice yA r.xG.length yt, .slice yD r.xO.length yx, .slice yB r.xP.length yu, .slice yC r.xZ.length yw, .slice QJ r.vJ.length QI, .slice jU r.qW.length jR, .bool r.zJ] fun b3 w4 H => sp (.bool false) (zjcc ?_))))
 refine sw (zq [.int .i64 s.qQ, .slice qC s.qw.length qB, .slice qL s.qx.length qI] Tryz.isAgg36 Tryz.sizeOf36 rfl (qH (H.cells 1 rfl) 0 3) (oF rfl (oL rfl (H.cell 0 rfl rfl) (sw (oq (isCell_ok _ s r.qG (H.get 0 rfl).1 (H.get 1 rfl).1) H fun w6 H => sps [.bool (!(inR r.qG 0 ((s.qw.length : Int) - 1))), .bool (!(inR r.qG 0 ((s.qw.length : Int) - 1)))] ?_)))))
 cases h8 : (!(inR r.qG 0 ((s.qw.length : Int) - 1)))
 ·skip
  replace h8 := xn h8
  replace h8 := QS.1 h8
  refine qR 14 rfl rfl (oF rfl (qR 14 rfl rfl (oL rfl (H.cell 0 rfl rfl) (qR 14 rfl rfl (sw (oq (VC w6 r.zQ 0 9) H fun w9 H => qR 14 rfl rfl (sps [.bool (!(inR r.zQ 0 9)), .bool (!(inR r.zQ 0 9)), .bool (!(inR r.zQ 0 9))] ?_)))))))
  cases h11 : (!(inR r.zQ 0 9))
  ·skip
   replace h11 := xn h11
   replace h11 := QS.1 h11
   refine qR 20 rfl rfl (oF rfl (qR 20 rfl rfl (oL rfl (H.cell 0 rfl rfl) (qR 20 rfl rfl (sp (.bool r.zJ) ?_)))))
   cases h12 : (r.zJ)
   ·skip
    rw [h12] at H
    refine zn [24, 25, 26] (qR 20 rfl rfl (sps [.bool false, .bool false, .bool false] (qR 29 rfl rfl (oF rfl (qR 29 rfl rfl (oL rfl (H.cell 0 rfl rfl) (qR 29 rfl rfl (oN rfl (qR 29 rfl rfl (sps [.bool (decide ((r.qW.length : Int) > 3)), .bool (decide ((r.qW.length : Int) > 3))] (zjn (cD rfl (fun h13 => ?_) (fun h13 => ?_)))))))))))))
    ·skip
     refine zcr (sp (.bool false) (zjr (t_r (ret1 (.bool false) rfl rfl ⟨_, rfl, ?_, H.base⟩))))
     rw [xu (fun h => by obtain ⟨h1, h2, h3, h4, h5, h6, h7, h8, h9, h10, h11⟩ := h; first | contradiction | omega | exact h3 ⟨‹_›, ‹_›⟩ | (obtain ⟨q1, q2, q3, q4, q5⟩ := h11 i qf; first | contradiction | omega | (have := q5 qf; omega)) | (refine absurd ?_ ‹¬ vk _ _›; rcases (show k = 0 ∨ k = 1 ∨ k = 2 ∨ k = 3 ∨ k = 4 by omega) with e | e | e | e | e <;> subst e <;> assumption))]
    refine qX (t_n (zcc (oF rfl (oL rfl (H.cell 0 rfl rfl) (oF rfl (oL rfl (H.cell 0 rfl rfl) (oF rfl (oL rfl (H.cell 0 rfl rfl) (oF rfl (oL rfl (H.cell 0 rfl rfl) (oF rfl (oL rfl (H.cell 0 rfl rfl) (sw (o_buildF H Tryz.underlying27 ti22 [.slice yA r.xG.length yt, .slice yD r.xO.length yx, .slice yB r.xP.length yu, .slice yC r.xZ.length yw, .slice QJ r.vJ.length QI] rfl (by simp [Value.cells]) rfl qj qj fun b14 w15 H => oN rfl (sp (.int .i64 0) (zjn (xe ?_)))))))))))))))))
    replace H := H.boxRow 0 rfl 1 5 rfl qj
    replace H := H.vY (α := List Int)
    replace H := H.Vk false 7 rfl 0 rfl qm
    replace H := H.Vk false 7 rfl 0 rfl qm
    replace H := H.Vk false 7 rfl 0 rfl qm
    replace H := H.Vk false 7 rfl 0 rfl qm
    replace H := H.Vk false 7 rfl 0 rfl qm
    refine zG (fun m' ρ w16 => ∃ (xR : Env) (k : Nat), ρ = upd (upd (upd (upd (upd xR 2 (pp b1 0)) 3 (pp b3 0)) 45 (.slice (aa b14 0) 5 5)) 46 (.int .i64 5)) 47 (.int .i64 k) ∧ ((k : Int) ≤ 5) ∧ (∀ j, j < k → vk s.qQ ([r.xG, r.xO, r.xP, r.xZ, r.vJ][j]!)) ∧ m' = (5 - (k : Int)).toNat ∧ Fresh w.heap.size [] ∧ St w w16 [rr (aa b14 0) 5 5 22 1 [.slice yA r.xG.length yt, .slice yD r.xO.length yx, .slice yB r.xP.length yu, .slice yC r.xZ.length yw, .slice QJ r.vJ.length QI], .box b3 [.int .i64 r.qG, .int .i64 r.zQ, .slice yA r.xG.length yt, .slice yD r.xO.length yx, .slice yB r.xP.length yu, .slice yC r.xZ.length yw, .slice QJ r.vJ.length QI, .slice jU r.qW.length jR, .bool false] 121, .box b1 [.int .i64 s.qQ, .slice qC s.qw.length qB, .slice qL s.qx.length qI] 36] [zg false (Ve ++ (Vh ++ (Vf ++ (Vg ++ (FrOut ++ []))))) [.slice yA r.xG.length yt, .slice yD r.xO.length yx, .slice yB r.xP.length yu, .slice yC r.xZ.length yw, .slice QJ r.vJ.length QI] [r.xG, r.xO, r.xP, r.xZ, r.vJ], sF false qZ qC qB s.qw, sF false xC qL qI s.qx, sF false Ve yA yt r.xG, sF false Vh yD yx r.xO, sF false Vf yB yu r.xP, sF false Vg yC yw r.xZ, sF false FrOut QJ QI r.vJ, sF false FrInto jU jR r.qW]) ((5 - (0 : Int)).toNat) ⟨_, 0, uE5, qf, (by intro j hj; omega), rfl, N, H.pick [0, 1, 2] [0, 6, 7, 8, 9, 10, 11, 12, 13]⟩ ?_
    clear H N
    rintro m' ρ w17 ⟨xR, k, rfl, i0, i1, rfl, N, H⟩
    refine zcr (sp (.bool (decide ((k : Int) < 5))) (zjn (zf (cD rfl (fun h18 => ?_) (fun h18 => ?_)))))
    ·skip
     refine qX (t_n (zf (xe (zcr (oI rfl rfl ?_)))))
     obtain ⟨a19, c20, G21, s22, h23, H⟩ := H.jE 0 rfl 0 rfl (iv := k) k qf qf
     refine oL rfl (h23) (sp (.slice a19 (([r.xG, r.xO, r.xP, r.xZ, r.vJ][k]!).length) c20) (zjc (oF rfl (oL rfl (H.cell 2 rfl rfl) (sp (.slice a19 (([r.xG, r.xO, r.xP, r.xZ, r.vJ][k]!).length) c20) (sw (oq (Vp _ s.qQ ([r.xG, r.xO, r.xP, r.xZ, r.vJ][k]!) (H.get 0 rfl).1) H fun w24 H => sp (.bool (!(dec (vk s.qQ ([r.xG, r.xO, r.xP, r.xZ, r.vJ][k]!))))) (zjn (cQ rfl (fun h26 => ?_) (fun h26 => ?_))))))))))
     ·skip
      refine zcr (sp (.bool false) (zjr (zr5 (ret1 (.bool false) rfl rfl ⟨_, rfl, ?_, H.base⟩))))
      rw [xu (fun h => by obtain ⟨h1, h2, h3, h4, h5, h6, h7, h8, h9, h10, h11⟩ := h; first | contradiction | omega | exact h3 ⟨‹_›, ‹_›⟩ | (obtain ⟨q1, q2, q3, q4, q5⟩ := h11 i qf; first | contradiction | omega | (have := q5 qf; omega)) | (refine absurd ?_ ‹¬ vk _ _›; rcases (show k = 0 ∨ k = 1 ∨ k = 2 ∨ k = 3 ∨ k = 4 by omega) with e | e | e | e | e <;> subst e <;> assumption))]
     refine qX (b_n (t_n (zh (sw (zK k 1 rfl rfl qf (sp (.int .i64 (k + 1)) (zi (xh (m' := (5 - ((k + 1) : Int)).toNat) qf ⟨_, k + 1, uE5, ?_, ?_, rfl, N, H.pick [0, 1, 2] [1, 2, 3, 4, 5, 6, 7, 8, 9]⟩))))))))
     · omega
     · intro j hj; by_cases e : j = k; (subst e; assumption); exact i1 j qf
    refine zx4 (zcc (oF rfl (oL rfl (H.cell 1 rfl rfl) (oN rfl (sp (.int .i64 0) (zjn (xe ?_)))))))
    have n1 : vk s.qQ r.xG := i1 0 qf
    have n2 : vk s.qQ r.xO := i1 1 qf
    have n3 : vk s.qQ r.xP := i1 2 qf
    have n4 : vk s.qQ r.xZ := i1 3 qf
    have n5 : vk s.qQ r.vJ := i1 4 qf
    refine zG (fun m' ρ w27 => ∃ (xR : Env) (i : Nat), ρ = upd (upd (upd (upd (upd xR 2 (pp b1 0)) 3 (pp b3 0)) 58 (.slice jU r.qW.length jR)) 59 (.int .i64 r.qW.length)) 60 (.int .i64 i) ∧ ((i : Int) ≤ r.qW.length) ∧ (IntosTo s r i) ∧ m' = (r.qW.length - (i : Int)).toNat ∧ Fresh w.heap.size [] ∧ St w w27 [rr (aa b14 0) 5 5 22 1 [.slice yA r.xG.length yt, .slice yD r.xO.length yx, .slice yB r.xP.length yu, .slice yC r.xZ.length yw, .slice QJ r.vJ.length QI], .box b3 [.int .i64 r.qG, .int .i64 r.zQ, .slice yA r.xG.length yt, .slice yD r.xO.length yx, .slice yB r.xP.length yu, .slice yC r.xZ.length yw, .slice QJ r.vJ.length QI, .slice jU r.qW.length jR, .bool false] 121, .box b1 [.int .i64 s.qQ, .slice qC s.qw.length qB, .slice qL s.qx.length qI] 36] [zg false (Ve ++ (Vh ++ (Vf ++ (Vg ++ (FrOut ++ []))))) [.slice yA r.xG.length yt, .slice yD r.xO.length yx, .slice yB r.xP.length yu, .slice yC r.xZ.length yw, .slice QJ r.vJ.length QI] [r.xG, r.xO, r.xP, r.xZ, r.vJ], sF false qZ qC qB s.qw, sF false xC qL qI s.qx, sF false Ve yA yt r.xG, sF false Vh yD yx r.xO, sF false Vf yB yu r.xP, sF false Vg yC yw r.xZ, sF false FrOut QJ QI r.vJ, sF false FrInto jU jR r.qW]) ((r.qW.length - (0 : Int)).toNat) ⟨_, 0, uE5, qf, (by exact fun j hj => by omega), rfl, N, H⟩ ?_
    clear H N
    rintro m' ρ w28 ⟨xR, i, rfl, i0, i2, rfl, N, H⟩
    refine zcr (sp (.bool (decide ((i : Int) < r.qW.length))) (zjn (zf (cD rfl (fun h29 => ?_) (fun h29 => ?_)))))
    ·skip
     refine qX (t_n (zf (xe (zcr (sp (.int .i64 i) ?_)))))
     obtain ⟨b30, o31, rfl⟩ := H.addr 8 rfl qf
     obtain ⟨ae33Bag, ce33Bag, Fe33Bag, H⟩ := H.jJ 8 rfl i i qf qf qf
     refine oI rfl rfl (sw (zq [.int .i64 ((r.qW[i]!).qG), .slice ae33Bag (((r.qW[i]!).jI).length) ce33Bag] Tryz.isAgg164 Tryz.sizeOf164 rfl (qH (H.get 1 rfl) 0 2) (sw (xH H ti164 [.int .i64 0, .slice none 0 0] fun b34 w35 H => sp (.int .i64 i) (sw (zt H 0 [.int .i64 ((r.qW[i]!).qG), .slice ae33Bag (((r.qW[i]!).jI).length) ce33Bag] Tryz.sizeOf164 fun w36 H => zjn (zf ?_)))))))
     refine ji rfl H fun H => rt 0 (.agg #[.int .i64 s.qQ, .slice qC s.qw.length qB, .slice qL s.qx.length qI]) (Qh (cs := [.int .i64 s.qQ, .slice qC s.qw.length qB, .slice qL s.qx.length qI]) Tryz.isAgg36 Tryz.sizeOf36 rfl (fun _ h => qH (h.cells 3 rfl) 0 3)) H ?_
     refine tF 1 rfl rfl H ?_
     refine tL 2 rfl rfl (fun _ h => h.cell 0 rfl rfl) H ?_
     refine ro 3 rfl (oq (isCell_ok _ s ((r.qW[i]!).qG) (H.get 3 rfl).1 (H.get 4 rfl).1) H fun w39 H => ⟨H, (rtp 4 (.bool (!(inR ((r.qW[i]!).qG) 0 ((s.qw.length : Int) - 1)))) H ?_)⟩)
     refine rtp 5 (.bool (!(inR ((r.qW[i]!).qG) 0 ((s.qw.length : Int) - 1)))) H ?_
     cases h41 : (!(inR ((r.qW[i]!).qG) 0 ((s.qw.length : Int) - 1)))
     ·skip
      replace h41 := xn h41
      replace h41 := QS.1 h41
      refine rg 6 (.agg #[.int .i64 s.qQ, .slice qC s.qw.length qB, .slice qL s.qx.length qI]) 70 (Qh (cs := [.int .i64 s.qQ, .slice qC s.qw.length qB, .slice qL s.qx.length qI]) Tryz.isAgg36 Tryz.sizeOf36 rfl (fun _ h => qH (h.cells 3 rfl) 0 3)) H ?_
      refine gF 7 rfl rfl H ?_
      refine gL 8 rfl rfl (fun _ h => h.cell 0 rfl rfl) H ?_
      refine gF 9 rfl rfl H ?_
      refine gL 10 rfl rfl (fun _ h => h.cell 2 rfl rfl) H ?_
      refine vW [11] qh qm (r_opG rfl (e := 70) rfl rfl (oq (lies_ok _ s ((r.qW[i]!).qG) r.qG (H.get 3 rfl).1 (H.get 4 rfl).1 qg qg) H fun w43 H => ⟨H, (rgp 12 (.bool (!(dec (Lies s.qw r.qG ((r.qW[i]!).qG))))) 70 H ?_)⟩) vX)
      refine rtp 13 (.bool (!(dec (Lies s.qw r.qG ((r.qW[i]!).qG))))) H ?_
      refine rtp 14 (.bool (!(dec (Lies s.qw r.qG ((r.qW[i]!).qG))))) H ?_
      cases h45 : (!(dec (Lies s.qw r.qG ((r.qW[i]!).qG))))
      ·skip
       replace h45 := xn h45
       replace h45 := Qa h45
       refine gF 15 rfl rfl H ?_
       refine gL 16 rfl rfl (fun _ h => h.cell 3 rfl rfl) H ?_
       refine gF 17 rfl rfl H ?_
       refine gL 18 rfl rfl (fun _ h => h.cell 0 rfl rfl) H ?_
       refine vW [19] qh qm (r_opG rfl (e := 79) rfl rfl (oq (Vp _ s.qQ ((r.qW[i]!).jI) (H.get 0 rfl).1) H fun w46 H => ⟨H, (rgp 20 (.bool (!(dec (vk s.qQ ((r.qW[i]!).jI))))) 79 H ?_)⟩) vX)
       refine rtp 21 (.bool (!(dec (vk s.qQ ((r.qW[i]!).jI))))) H ?_
       refine rtp 22 (.bool (!(dec (vk s.qQ ((r.qW[i]!).jI))))) H ?_
       cases h48 : (!(dec (vk s.qQ ((r.qW[i]!).jI))))
       ·skip
        replace h48 := xn h48
        replace h48 := Qa h48
        refine gF 23 rfl rfl H ?_
        refine gL 24 rfl rfl (fun _ h => h.cell 0 rfl rfl) H ?_
        refine vW [25] qh qm (r_opG rfl (e := 87) rfl rfl ?_ vX)
        have sm : Small ((r.qW[i]!).jI) := vM (by first | assumption | exact i1 0 qf)
        refine oq (XK _ ((r.qW[i]!).jI) (H.get 0 rfl).1 (by first | assumption | exact vM ql | exact yQ ql)) H fun w49 H => ⟨H, (rgp 26 (.bool ((XR ((r.qW[i]!).jI) : Int) == 0)) 87 H ?_)⟩
        refine rtp 27 (.bool ((XR ((r.qW[i]!).jI) : Int) == 0)) H ?_
        refine rtp 28 (.bool ((XR ((r.qW[i]!).jI) : Int) == 0)) H ?_
        cases h51 : ((XR ((r.qW[i]!).jI) : Int) == 0)
        ·skip
         replace h51 := ne_of_beq_false h51
         refine rgp 29 (.int .i64 i) 93 H ?_
         refine rgp 30 (.bool (decide ((i : Int) > 0))) 93 H ?_
         refine rgp 31 (.bool (decide ((i : Int) > 0))) 93 H ?_
         cases h52 : (decide ((i : Int) > 0))
         ·skip
          replace h52 := of_decide_eq_false h52
          refine zW [32, 33, 34, 35, 36, 37, 38, 39, 40, 41] 10 (H) (rgp 42 (.bool false) 93 H ?_)
          refine rtp 43 (.bool false) H ?_
          refine xI qh (t_n (xF false rfl (fun h => absurd h qj) (fun _ => qX (b_n (t_n (zh (sw (zK i 1 rfl rfl qf (sp (.int .i64 (i + 1)) (zi (xh (m' := (r.qW.length - ((i + 1) : Int)).toNat) qf ⟨_, i + 1, uE5, ?_, ?_, rfl, N, H.pick [1, 2, 3] [2, 3, 4, 5, 6, 7, 8, 9, 10]⟩)))))))))))
          · omega
          · exact i2.succ ⟨‹_›, ‹_›, ‹_›, ‹_›, fun hk => by omega⟩
         replace h52 := of_decide_eq_true h52
         refine gF 32 rfl rfl H ?_
         refine gL 33 rfl rfl (fun _ h => h.cell 0 rfl rfl) H ?_
         refine gF 34 rfl rfl H ?_
         refine gL 35 rfl rfl (fun _ h => h.cell 2 rfl rfl) H ?_
         refine rgp 36 (.int .i64 i) 96 H ?_
         refine rg 37 (.int .i64 (i - 1)) 96 (y_sub i 1 rfl rfl qf) H ?_
         obtain ⟨ae53Bag, ce53Bag, Fe53Bag, H⟩ := H.jJ 10 rfl (i - 1) (i - 1) qf qf qf
         have S := H.jW [0, 1, 2, 3] [2, 3, 4, 5, 6, 7, 8, 9, 10, 11, 12]
         refine gI 38 rfl rfl rfl S ?_
         refine gF 39 rfl rfl S ?_
         refine vW [40] qh qm (r_opG rfl (e := 96) rfl rfl (zI (.int .i64 ((r.qW[i - 1]!).qG)) Tryz.isAgg2 rfl (H.xX 1 rfl 0 rfl) (⟨H.pick [0, 1, 2, 3] [2, 3, 4, 5, 6, 7, 8, 9, 10, 11, 12], ?_⟩)) vX)
         have S := H.jW [0, 1, 2, 3] [2, 3, 4, 5, 6, 7, 8, 9, 10, 11, 12]
         refine rgp 41 (.bool (decide (((r.qW[i]!).qG : Int) ≤ ((r.qW[i - 1]!).qG)))) 96 S ?_
         refine rgp 42 (.bool (decide (((r.qW[i]!).qG : Int) ≤ ((r.qW[i - 1]!).qG)))) 93 S ?_
         refine rtp 43 (.bool (decide (((r.qW[i]!).qG : Int) ≤ ((r.qW[i - 1]!).qG)))) S ?_
         refine xI qh (t_n (cD rfl (fun h54 => ?_) (fun h54 => ?_)))
         ·skip
          refine zcr (sp (.bool false) (zjr (zr5 (ret1 (.bool false) rfl rfl ⟨_, rfl, ?_, H.base⟩))))
          rw [xu (fun h => by obtain ⟨h1, h2, h3, h4, h5, h6, h7, h8, h9, h10, h11⟩ := h; first | contradiction | omega | exact h3 ⟨‹_›, ‹_›⟩ | (obtain ⟨q1, q2, q3, q4, q5⟩ := h11 i qf; first | contradiction | omega | (have := q5 qf; omega)) | (refine absurd ?_ ‹¬ vk _ _›; rcases (show k = 0 ∨ k = 1 ∨ k = 2 ∨ k = 3 ∨ k = 4 by omega) with e | e | e | e | e <;> subst e <;> assumption))]
         refine qX (b_n (t_n (zh (sw (zK i 1 rfl rfl qf (sp (.int .i64 (i + 1)) (zi (xh (m' := (r.qW.length - ((i + 1) : Int)).toNat) qf ⟨_, i + 1, uE5, ?_, ?_, rfl, N, H.pick [1, 2, 3] [4, 5, 6, 7, 8, 9, 10, 11, 12]⟩))))))))
         · omega
         · exact i2.succ ⟨‹_›, ‹_›, ‹_›, ‹_›, fun hk => by omega⟩
        replace h51 := eq_of_beq h51
        refine zW [29, 30, 31, 32, 33, 34, 35, 36, 37, 38, 39, 40, 41, 42] 14 (H) (rtp 43 (.bool true) H ?_)
        refine xI qh (t_n (xF true rfl (fun _ => zcr (sp (.bool false) (zjr (zr5 (ret1 (.bool false) rfl rfl ⟨_, rfl, ?_, H.base⟩))))) (fun h => absurd h qj)))
        rw [xu (fun h => by obtain ⟨h1, h2, h3, h4, h5, h6, h7, h8, h9, h10, h11⟩ := h; first | contradiction | omega | exact h3 ⟨‹_›, ‹_›⟩ | (obtain ⟨q1, q2, q3, q4, q5⟩ := h11 i qf; first | contradiction | omega | (have := q5 qf; omega)) | (refine absurd ?_ ‹¬ vk _ _›; rcases (show k = 0 ∨ k = 1 ∨ k = 2 ∨ k = 3 ∨ k = 4 by omega) with e | e | e | e | e <;> subst e <;> assumption))]
       replace h48 := xw h48
       replace h48 := vg h48
       refine zW [23, 24, 25, 26] 4 (H) (rtp 27 (.bool true) H ?_)
       refine rtp 28 (.bool true) H ?_
       refine zW [29, 30, 31, 32, 33, 34, 35, 36, 37, 38, 39, 40, 41, 42] 14 (H) (rtp 43 (.bool true) H ?_)
       refine xI qh (t_n (xF true rfl (fun _ => zcr (sp (.bool false) (zjr (zr5 (ret1 (.bool false) rfl rfl ⟨_, rfl, ?_, H.base⟩))))) (fun h => absurd h qj)))
       rw [xu (fun h => by obtain ⟨h1, h2, h3, h4, h5, h6, h7, h8, h9, h10, h11⟩ := h; first | contradiction | omega | exact h3 ⟨‹_›, ‹_›⟩ | (obtain ⟨q1, q2, q3, q4, q5⟩ := h11 i qf; first | contradiction | omega | (have := q5 qf; omega)) | (refine absurd ?_ ‹¬ vk _ _›; rcases (show k = 0 ∨ k = 1 ∨ k = 2 ∨ k = 3 ∨ k = 4 by omega) with e | e | e | e | e <;> subst e <;> assumption))]
      replace h45 := xw h45
      replace h45 := vg h45
      refine zW [15, 16, 17, 18, 19, 20] 6 (H) (rtp 21 (.bool true) H ?_)
      refine rtp 22 (.bool true) H ?_
      refine zW [23, 24, 25, 26] 4 (H) (rtp 27 (.bool true) H ?_)
      refine rtp 28 (.bool true) H ?_
      refine zW [29, 30, 31, 32, 33, 34, 35, 36, 37, 38, 39, 40, 41, 42] 14 (H) (rtp 43 (.bool true) H ?_)
      refine xI qh (t_n (xF true rfl (fun _ => zcr (sp (.bool false) (zjr (zr5 (ret1 (.bool false) rfl rfl ⟨_, rfl, ?_, H.base⟩))))) (fun h => absurd h qj)))
      rw [xu (fun h => by obtain ⟨h1, h2, h3, h4, h5, h6, h7, h8, h9, h10, h11⟩ := h; first | contradiction | omega | exact h3 ⟨‹_›, ‹_›⟩ | (obtain ⟨q1, q2, q3, q4, q5⟩ := h11 i qf; first | contradiction | omega | (have := q5 qf; omega)) | (refine absurd ?_ ‹¬ vk _ _›; rcases (show k = 0 ∨ k = 1 ∨ k = 2 ∨ k = 3 ∨ k = 4 by omega) with e | e | e | e | e <;> subst e <;> assumption))]
     replace h41 := xw h41
     replace h41 := Xu h41
     refine zW [6, 7, 8, 9, 10, 11, 12] 7 (H) (rtp 13 (.bool true) H ?_)
     refine rtp 14 (.bool true) H ?_
     refine zW [15, 16, 17, 18, 19, 20] 6 (H) (rtp 21 (.bool true) H ?_)
     refine rtp 22 (.bool true) H ?_
     refine zW [23, 24, 25, 26] 4 (H) (rtp 27 (.bool true) H ?_)
     refine rtp 28 (.bool true) H ?_
     refine zW [29, 30, 31, 32, 33, 34, 35, 36, 37, 38, 39, 40, 41, 42] 14 (H) (rtp 43 (.bool true) H ?_)
     refine xI qh (t_n (xF true rfl (fun _ => zcr (sp (.bool false) (zjr (zr5 (ret1 (.bool false) rfl rfl ⟨_, rfl, ?_, H.base⟩))))) (fun h => absurd h qj)))
     rw [xu (fun h => by obtain ⟨h1, h2, h3, h4, h5, h6, h7, h8, h9, h10, h11⟩ := h; first | contradiction | omega | exact h3 ⟨‹_›, ‹_›⟩ | (obtain ⟨q1, q2, q3, q4, q5⟩ := h11 i qf; first | contradiction | omega | (have := q5 qf; omega)) | (refine absurd ?_ ‹¬ vk _ _›; rcases (show k = 0 ∨ k = 1 ∨ k = 2 ∨ k = 3 ∨ k = 4 by omega) with e | e | e | e | e <;> subst e <;> assumption))]
    refine zx4 (zcr (oF rfl (oL rfl (H.cell 1 rfl rfl) ?_)))
    have sm : Small r.xG := vM (by first | assumption | exact i1 0 qf)
    refine sw (oq (XK _ r.xG (H.get 3 rfl).1 (by first | assumption | exact vM ql | exact yQ ql)) H fun w55 H => sps [.bool (decide ((XR r.xG : Int) > 0)), .bool (decide ((XR r.xG : Int) > 0))] (zjr (ret1 (.bool (decide ((XR r.xG : Int) > 0))) rfl rfl ⟨_, rfl, (congrArg Value.bool (dec_eq ?_)), H.base⟩)))
    rw [decide_eq_true_iff]
    exact ⟨fun h => ⟨by omega, by omega, by simp_all, by omega, n1, n2, n3, n4, n5, by omega, (show i = r.qW.length by omega) ▸ i2⟩, fun h => by have := h.2.2.2.2.2.2.2.2.2.1; have := sum_nonneg n1.1; omega⟩
   rw [h12] at H
   refine qR 23 rfl rfl (oF rfl (qR 23 rfl rfl (oL rfl (H.cell 0 rfl rfl) (qR 23 rfl rfl (sp (.bool ((r.qG : Int) == 0)) (qR 20 rfl rfl (sps [.bool ((r.qG : Int) == 0), .bool ((r.qG : Int) == 0), .bool ((r.qG : Int) == 0)] ?_)))))))
   cases h57 : ((r.qG : Int) == 0)
   ·skip
    replace h57 := ne_of_beq_false h57
    refine qR 29 rfl rfl (oF rfl (qR 29 rfl rfl (oL rfl (H.cell 0 rfl rfl) (qR 29 rfl rfl (oN rfl (qR 29 rfl rfl (sps [.bool (decide ((r.qW.length : Int) > 3)), .bool (decide ((r.qW.length : Int) > 3))] (zjn (cD rfl (fun h58 => ?_) (fun h58 => ?_))))))))))
    ·skip
     refine zcr (sp (.bool false) (zjr (t_r (ret1 (.bool false) rfl rfl ⟨_, rfl, ?_, H.base⟩))))
     rw [xu (fun h => by obtain ⟨h1, h2, h3, h4, h5, h6, h7, h8, h9, h10, h11⟩ := h; first | contradiction | omega | exact h3 ⟨‹_›, ‹_›⟩ | (obtain ⟨q1, q2, q3, q4, q5⟩ := h11 i qf; first | contradiction | omega | (have := q5 qf; omega)) | (refine absurd ?_ ‹¬ vk _ _›; rcases (show k = 0 ∨ k = 1 ∨ k = 2 ∨ k = 3 ∨ k = 4 by omega) with e | e | e | e | e <;> subst e <;> assumption))]
    refine qX (t_n (zcc (oF rfl (oL rfl (H.cell 0 rfl rfl) (oF rfl (oL rfl (H.cell 0 rfl rfl) (oF rfl (oL rfl (H.cell 0 rfl rfl) (oF rfl (oL rfl (H.cell 0 rfl rfl) (oF rfl (oL rfl (H.cell 0 rfl rfl) (sw (o_buildF H Tryz.underlying27 ti22 [.slice yA r.xG.length yt, .slice yD r.xO.length yx, .slice yB r.xP.length yu, .slice yC r.xZ.length yw, .slice QJ r.vJ.length QI] rfl (by simp [Value.cells]) rfl qj qj fun b59 w60 H => oN rfl (sp (.int .i64 0) (zjn (xe ?_)))))))))))))))))
    replace H := H.boxRow 0 rfl 1 5 rfl qj
    replace H := H.vY (α := List Int)
    replace H := H.Vk false 7 rfl 0 rfl qm
    replace H := H.Vk false 7 rfl 0 rfl qm
    replace H := H.Vk false 7 rfl 0 rfl qm
    replace H := H.Vk false 7 rfl 0 rfl qm
    replace H := H.Vk false 7 rfl 0 rfl qm
    refine zG (fun m' ρ w61 => ∃ (xR : Env) (k : Nat), ρ = upd (upd (upd (upd (upd xR 2 (pp b1 0)) 3 (pp b3 0)) 45 (.slice (aa b59 0) 5 5)) 46 (.int .i64 5)) 47 (.int .i64 k) ∧ ((k : Int) ≤ 5) ∧ (∀ j, j < k → vk s.qQ ([r.xG, r.xO, r.xP, r.xZ, r.vJ][j]!)) ∧ m' = (5 - (k : Int)).toNat ∧ Fresh w.heap.size [] ∧ St w w61 [rr (aa b59 0) 5 5 22 1 [.slice yA r.xG.length yt, .slice yD r.xO.length yx, .slice yB r.xP.length yu, .slice yC r.xZ.length yw, .slice QJ r.vJ.length QI], .box b3 [.int .i64 r.qG, .int .i64 r.zQ, .slice yA r.xG.length yt, .slice yD r.xO.length yx, .slice yB r.xP.length yu, .slice yC r.xZ.length yw, .slice QJ r.vJ.length QI, .slice jU r.qW.length jR, .bool true] 121, .box b1 [.int .i64 s.qQ, .slice qC s.qw.length qB, .slice qL s.qx.length qI] 36] [zg false (Ve ++ (Vh ++ (Vf ++ (Vg ++ (FrOut ++ []))))) [.slice yA r.xG.length yt, .slice yD r.xO.length yx, .slice yB r.xP.length yu, .slice yC r.xZ.length yw, .slice QJ r.vJ.length QI] [r.xG, r.xO, r.xP, r.xZ, r.vJ], sF false qZ qC qB s.qw, sF false xC qL qI s.qx, sF false Ve yA yt r.xG, sF false Vh yD yx r.xO, sF false Vf yB yu r.xP, sF false Vg yC yw r.xZ, sF false FrOut QJ QI r.vJ, sF false FrInto jU jR r.qW]) ((5 - (0 : Int)).toNat) ⟨_, 0, uE5, qf, (by intro j hj; omega), rfl, N, H.pick [0, 1, 2] [0, 6, 7, 8, 9, 10, 11, 12, 13]⟩ ?_
    clear H N
    rintro m' ρ w62 ⟨xR, k, rfl, i0, i1, rfl, N, H⟩
    refine zcr (sp (.bool (decide ((k : Int) < 5))) (zjn (zf (cD rfl (fun h63 => ?_) (fun h63 => ?_)))))
    ·skip
     refine qX (t_n (zf (xe (zcr (oI rfl rfl ?_)))))
     obtain ⟨a64, c65, G66, s67, h68, H⟩ := H.jE 0 rfl 0 rfl (iv := k) k qf qf
     refine oL rfl (h68) (sp (.slice a64 (([r.xG, r.xO, r.xP, r.xZ, r.vJ][k]!).length) c65) (zjc (oF rfl (oL rfl (H.cell 2 rfl rfl) (sp (.slice a64 (([r.xG, r.xO, r.xP, r.xZ, r.vJ][k]!).length) c65) (sw (oq (Vp _ s.qQ ([r.xG, r.xO, r.xP, r.xZ, r.vJ][k]!) (H.get 0 rfl).1) H fun w69 H => sp (.bool (!(dec (vk s.qQ ([r.xG, r.xO, r.xP, r.xZ, r.vJ][k]!))))) (zjn (cQ rfl (fun h71 => ?_) (fun h71 => ?_))))))))))
     ·skip
      refine zcr (sp (.bool false) (zjr (zr5 (ret1 (.bool false) rfl rfl ⟨_, rfl, ?_, H.base⟩))))
      rw [xu (fun h => by obtain ⟨h1, h2, h3, h4, h5, h6, h7, h8, h9, h10, h11⟩ := h; first | contradiction | omega | exact h3 ⟨‹_›, ‹_›⟩ | (obtain ⟨q1, q2, q3, q4, q5⟩ := h11 i qf; first | contradiction | omega | (have := q5 qf; omega)) | (refine absurd ?_ ‹¬ vk _ _›; rcases (show k = 0 ∨ k = 1 ∨ k = 2 ∨ k = 3 ∨ k = 4 by omega) with e | e | e | e | e <;> subst e <;> assumption))]
     refine qX (b_n (t_n (zh (sw (zK k 1 rfl rfl qf (sp (.int .i64 (k + 1)) (zi (xh (m' := (5 - ((k + 1) : Int)).toNat) qf ⟨_, k + 1, uE5, ?_, ?_, rfl, N, H.pick [0, 1, 2] [1, 2, 3, 4, 5, 6, 7, 8, 9]⟩))))))))
     · omega
     · intro j hj; by_cases e : j = k; (subst e; assumption); exact i1 j qf
    refine zx4 (zcc (oF rfl (oL rfl (H.cell 1 rfl rfl) (oN rfl (sp (.int .i64 0) (zjn (xe ?_)))))))
    have n1 : vk s.qQ r.xG := i1 0 qf
    have n2 : vk s.qQ r.xO := i1 1 qf
    have n3 : vk s.qQ r.xP := i1 2 qf
    have n4 : vk s.qQ r.xZ := i1 3 qf
    have n5 : vk s.qQ r.vJ := i1 4 qf
    refine zG (fun m' ρ w72 => ∃ (xR : Env) (i : Nat), ρ = upd (upd (upd (upd (upd xR 2 (pp b1 0)) 3 (pp b3 0)) 58 (.slice jU r.qW.length jR)) 59 (.int .i64 r.qW.length)) 60 (.int .i64 i) ∧ ((i : Int) ≤ r.qW.length) ∧ (IntosTo s r i) ∧ m' = (r.qW.length - (i : Int)).toNat ∧ Fresh w.heap.size [] ∧ St w w72 [rr (aa b59 0) 5 5 22 1 [.slice yA r.xG.length yt, .slice yD r.xO.length yx, .slice yB r.xP.length yu, .slice yC r.xZ.length yw, .slice QJ r.vJ.length QI], .box b3 [.int .i64 r.qG, .int .i64 r.zQ, .slice yA r.xG.length yt, .slice yD r.xO.length yx, .slice yB r.xP.length yu, .slice yC r.xZ.length yw, .slice QJ r.vJ.length QI, .slice jU r.qW.length jR, .bool true] 121, .box b1 [.int .i64 s.qQ, .slice qC s.qw.length qB, .slice qL s.qx.length qI] 36] [zg false (Ve ++ (Vh ++ (Vf ++ (Vg ++ (FrOut ++ []))))) [.slice yA r.xG.length yt, .slice yD r.xO.length yx, .slice yB r.xP.length yu, .slice yC r.xZ.length yw, .slice QJ r.vJ.length QI] [r.xG, r.xO, r.xP, r.xZ, r.vJ], sF false qZ qC qB s.qw, sF false xC qL qI s.qx, sF false Ve yA yt r.xG, sF false Vh yD yx r.xO, sF false Vf yB yu r.xP, sF false Vg yC yw r.xZ, sF false FrOut QJ QI r.vJ, sF false FrInto jU jR r.qW]) ((r.qW.length - (0 : Int)).toNat) ⟨_, 0, uE5, qf, (by exact fun j hj => by omega), rfl, N, H⟩ ?_
    clear H N
    rintro m' ρ w73 ⟨xR, i, rfl, i0, i2, rfl, N, H⟩
    refine zcr (sp (.bool (decide ((i : Int) < r.qW.length))) (zjn (zf (cD rfl (fun h74 => ?_) (fun h74 => ?_)))))
    ·skip
     refine qX (t_n (zf (xe (zcr (sp (.int .i64 i) ?_)))))
     obtain ⟨b75, o76, rfl⟩ := H.addr 8 rfl qf
     obtain ⟨ae78Bag, ce78Bag, Fe78Bag, H⟩ := H.jJ 8 rfl i i qf qf qf
     refine oI rfl rfl (sw (zq [.int .i64 ((r.qW[i]!).qG), .slice ae78Bag (((r.qW[i]!).jI).length) ce78Bag] Tryz.isAgg164 Tryz.sizeOf164 rfl (qH (H.get 1 rfl) 0 2) (sw (xH H ti164 [.int .i64 0, .slice none 0 0] fun b79 w80 H => sp (.int .i64 i) (sw (zt H 0 [.int .i64 ((r.qW[i]!).qG), .slice ae78Bag (((r.qW[i]!).jI).length) ce78Bag] Tryz.sizeOf164 fun w81 H => zjn (zf ?_)))))))
     refine ji rfl H fun H => rt 0 (.agg #[.int .i64 s.qQ, .slice qC s.qw.length qB, .slice qL s.qx.length qI]) (Qh (cs := [.int .i64 s.qQ, .slice qC s.qw.length qB, .slice qL s.qx.length qI]) Tryz.isAgg36 Tryz.sizeOf36 rfl (fun _ h => qH (h.cells 3 rfl) 0 3)) H ?_
     refine tF 1 rfl rfl H ?_
     refine tL 2 rfl rfl (fun _ h => h.cell 0 rfl rfl) H ?_
     refine ro 3 rfl (oq (isCell_ok _ s ((r.qW[i]!).qG) (H.get 3 rfl).1 (H.get 4 rfl).1) H fun w84 H => ⟨H, (rtp 4 (.bool (!(inR ((r.qW[i]!).qG) 0 ((s.qw.length : Int) - 1)))) H ?_)⟩)
     refine rtp 5 (.bool (!(inR ((r.qW[i]!).qG) 0 ((s.qw.length : Int) - 1)))) H ?_
     cases h86 : (!(inR ((r.qW[i]!).qG) 0 ((s.qw.length : Int) - 1)))
     ·skip
      replace h86 := xn h86
      replace h86 := QS.1 h86
      refine rg 6 (.agg #[.int .i64 s.qQ, .slice qC s.qw.length qB, .slice qL s.qx.length qI]) 70 (Qh (cs := [.int .i64 s.qQ, .slice qC s.qw.length qB, .slice qL s.qx.length qI]) Tryz.isAgg36 Tryz.sizeOf36 rfl (fun _ h => qH (h.cells 3 rfl) 0 3)) H ?_
      refine gF 7 rfl rfl H ?_
      refine gL 8 rfl rfl (fun _ h => h.cell 0 rfl rfl) H ?_
      refine gF 9 rfl rfl H ?_
      refine gL 10 rfl rfl (fun _ h => h.cell 2 rfl rfl) H ?_
      refine vW [11] qh qm (r_opG rfl (e := 70) rfl rfl (oq (lies_ok _ s ((r.qW[i]!).qG) r.qG (H.get 3 rfl).1 (H.get 4 rfl).1 qg qg) H fun w88 H => ⟨H, (rgp 12 (.bool (!(dec (Lies s.qw r.qG ((r.qW[i]!).qG))))) 70 H ?_)⟩) vX)
      refine rtp 13 (.bool (!(dec (Lies s.qw r.qG ((r.qW[i]!).qG))))) H ?_
      refine rtp 14 (.bool (!(dec (Lies s.qw r.qG ((r.qW[i]!).qG))))) H ?_
      cases h90 : (!(dec (Lies s.qw r.qG ((r.qW[i]!).qG))))
      ·skip
       replace h90 := xn h90
       replace h90 := Qa h90
       refine gF 15 rfl rfl H ?_
       refine gL 16 rfl rfl (fun _ h => h.cell 3 rfl rfl) H ?_
       refine gF 17 rfl rfl H ?_
       refine gL 18 rfl rfl (fun _ h => h.cell 0 rfl rfl) H ?_
       refine vW [19] qh qm (r_opG rfl (e := 79) rfl rfl (oq (Vp _ s.qQ ((r.qW[i]!).jI) (H.get 0 rfl).1) H fun w91 H => ⟨H, (rgp 20 (.bool (!(dec (vk s.qQ ((r.qW[i]!).jI))))) 79 H ?_)⟩) vX)
       refine rtp 21 (.bool (!(dec (vk s.qQ ((r.qW[i]!).jI))))) H ?_
       refine rtp 22 (.bool (!(dec (vk s.qQ ((r.qW[i]!).jI))))) H ?_
       cases h93 : (!(dec (vk s.qQ ((r.qW[i]!).jI))))
       ·skip
        replace h93 := xn h93
        replace h93 := Qa h93
        refine gF 23 rfl rfl H ?_
        refine gL 24 rfl rfl (fun _ h => h.cell 0 rfl rfl) H ?_
        refine vW [25] qh qm (r_opG rfl (e := 87) rfl rfl ?_ vX)
        have sm : Small ((r.qW[i]!).jI) := vM (by first | assumption | exact i1 0 qf)
        refine oq (XK _ ((r.qW[i]!).jI) (H.get 0 rfl).1 (by first | assumption | exact vM ql | exact yQ ql)) H fun w94 H => ⟨H, (rgp 26 (.bool ((XR ((r.qW[i]!).jI) : Int) == 0)) 87 H ?_)⟩
        refine rtp 27 (.bool ((XR ((r.qW[i]!).jI) : Int) == 0)) H ?_
        refine rtp 28 (.bool ((XR ((r.qW[i]!).jI) : Int) == 0)) H ?_
        cases h96 : ((XR ((r.qW[i]!).jI) : Int) == 0)
        ·skip
         replace h96 := ne_of_beq_false h96
         refine rgp 29 (.int .i64 i) 93 H ?_
         refine rgp 30 (.bool (decide ((i : Int) > 0))) 93 H ?_
         refine rgp 31 (.bool (decide ((i : Int) > 0))) 93 H ?_
         cases h97 : (decide ((i : Int) > 0))
         ·skip
          replace h97 := of_decide_eq_false h97
          refine zW [32, 33, 34, 35, 36, 37, 38, 39, 40, 41] 10 (H) (rgp 42 (.bool false) 93 H ?_)
          refine rtp 43 (.bool false) H ?_
          refine xI qh (t_n (xF false rfl (fun h => absurd h qj) (fun _ => qX (b_n (t_n (zh (sw (zK i 1 rfl rfl qf (sp (.int .i64 (i + 1)) (zi (xh (m' := (r.qW.length - ((i + 1) : Int)).toNat) qf ⟨_, i + 1, uE5, ?_, ?_, rfl, N, H.pick [1, 2, 3] [2, 3, 4, 5, 6, 7, 8, 9, 10]⟩)))))))))))
          · omega
          · exact i2.succ ⟨‹_›, ‹_›, ‹_›, ‹_›, fun hk => by omega⟩
         replace h97 := of_decide_eq_true h97
         refine gF 32 rfl rfl H ?_
         refine gL 33 rfl rfl (fun _ h => h.cell 0 rfl rfl) H ?_
         refine gF 34 rfl rfl H ?_
         refine gL 35 rfl rfl (fun _ h => h.cell 2 rfl rfl) H ?_
         refine rgp 36 (.int .i64 i) 96 H ?_
         refine rg 37 (.int .i64 (i - 1)) 96 (y_sub i 1 rfl rfl qf) H ?_
         obtain ⟨ae98Bag, ce98Bag, Fe98Bag, H⟩ := H.jJ 10 rfl (i - 1) (i - 1) qf qf qf
         have S := H.jW [0, 1, 2, 3] [2, 3, 4, 5, 6, 7, 8, 9, 10, 11, 12]
         refine gI 38 rfl rfl rfl S ?_
         refine gF 39 rfl rfl S ?_
         refine vW [40] qh qm (r_opG rfl (e := 96) rfl rfl (zI (.int .i64 ((r.qW[i - 1]!).qG)) Tryz.isAgg2 rfl (H.xX 1 rfl 0 rfl) (⟨H.pick [0, 1, 2, 3] [2, 3, 4, 5, 6, 7, 8, 9, 10, 11, 12], ?_⟩)) vX)
         have S := H.jW [0, 1, 2, 3] [2, 3, 4, 5, 6, 7, 8, 9, 10, 11, 12]
         refine rgp 41 (.bool (decide (((r.qW[i]!).qG : Int) ≤ ((r.qW[i - 1]!).qG)))) 96 S ?_
         refine rgp 42 (.bool (decide (((r.qW[i]!).qG : Int) ≤ ((r.qW[i - 1]!).qG)))) 93 S ?_
         refine rtp 43 (.bool (decide (((r.qW[i]!).qG : Int) ≤ ((r.qW[i - 1]!).qG)))) S ?_
         refine xI qh (t_n (cD rfl (fun h99 => ?_) (fun h99 => ?_)))
         ·skip
          refine zcr (sp (.bool false) (zjr (zr5 (ret1 (.bool false) rfl rfl ⟨_, rfl, ?_, H.base⟩))))
          rw [xu (fun h => by obtain ⟨h1, h2, h3, h4, h5, h6, h7, h8, h9, h10, h11⟩ := h; first | contradiction | omega | exact h3 ⟨‹_›, ‹_›⟩ | (obtain ⟨q1, q2, q3, q4, q5⟩ := h11 i qf; first | contradiction | omega | (have := q5 qf; omega)) | (refine absurd ?_ ‹¬ vk _ _›; rcases (show k = 0 ∨ k = 1 ∨ k = 2 ∨ k = 3 ∨ k = 4 by omega) with e | e | e | e | e <;> subst e <;> assumption))]
         refine qX (b_n (t_n (zh (sw (zK i 1 rfl rfl qf (sp (.int .i64 (i + 1)) (zi (xh (m' := (r.qW.length - ((i + 1) : Int)).toNat) qf ⟨_, i + 1, uE5, ?_, ?_, rfl, N, H.pick [1, 2, 3] [4, 5, 6, 7, 8, 9, 10, 11, 12]⟩))))))))
         · omega
         · exact i2.succ ⟨‹_›, ‹_›, ‹_›, ‹_›, fun hk => by omega⟩
        replace h96 := eq_of_beq h96
        refine zW [29, 30, 31, 32, 33, 34, 35, 36, 37, 38, 39, 40, 41, 42] 14 (H) (rtp 43 (.bool true) H ?_)
        refine xI qh (t_n (xF true rfl (fun _ => zcr (sp (.bool false) (zjr (zr5 (ret1 (.bool false) rfl rfl ⟨_, rfl, ?_, H.base⟩))))) (fun h => absurd h qj)))
        rw [xu (fun h => by obtain ⟨h1, h2, h3, h4, h5, h6, h7, h8, h9, h10, h11⟩ := h; first | contradiction | omega | exact h3 ⟨‹_›, ‹_›⟩ | (obtain ⟨q1, q2, q3, q4, q5⟩ := h11 i qf; first | contradiction | omega | (have := q5 qf; omega)) | (refine absurd ?_ ‹¬ vk _ _›; rcases (show k = 0 ∨ k = 1 ∨ k = 2 ∨ k = 3 ∨ k = 4 by omega) with e | e | e | e | e <;> subst e <;> assumption))]
       replace h93 := xw h93
       replace h93 := vg h93
       refine zW [23, 24, 25, 26] 4 (H) (rtp 27 (.bool true) H ?_)
       refine rtp 28 (.bool true) H ?_
       refine zW [29, 30, 31, 32, 33, 34, 35, 36, 37, 38, 39, 40, 41, 42] 14 (H) (rtp 43 (.bool true) H ?_)
       refine xI qh (t_n (xF true rfl (fun _ => zcr (sp (.bool false) (zjr (zr5 (ret1 (.bool false) rfl rfl ⟨_, rfl, ?_, H.base⟩))))) (fun h => absurd h qj)))
       rw [xu (fun h => by obtain ⟨h1, h2, h3, h4, h5, h6, h7, h8, h9, h10, h11⟩ := h; first | contradiction | omega | exact h3 ⟨‹_›, ‹_›⟩ | (obtain ⟨q1, q2, q3, q4, q5⟩ := h11 i qf; first | contradiction | omega | (have := q5 qf; omega)) | (refine absurd ?_ ‹¬ vk _ _›; rcases (show k = 0 ∨ k = 1 ∨ k = 2 ∨ k = 3 ∨ k = 4 by omega) with e | e | e | e | e <;> subst e <;> assumption))]
      replace h90 := xw h90
      replace h90 := vg h90
      refine zW [15, 16, 17, 18, 19, 20] 6 (H) (rtp 21 (.bool true) H ?_)
      refine rtp 22 (.bool true) H ?_
      refine zW [23, 24, 25, 26] 4 (H) (rtp 27 (.bool true) H ?_)
      refine rtp 28 (.bool true) H ?_
      refine zW [29, 30, 31, 32, 33, 34, 35, 36, 37, 38, 39, 40, 41, 42] 14 (H) (rtp 43 (.bool true) H ?_)
      refine xI qh (t_n (xF true rfl (fun _ => zcr (sp (.bool false) (zjr (zr5 (ret1 (.bool false) rfl rfl ⟨_, rfl, ?_, H.base⟩))))) (fun h => absurd h qj)))
      rw [xu (fun h => by obtain ⟨h1, h2, h3, h4, h5, h6, h7, h8, h9, h10, h11⟩ := h; first | contradiction | omega | exact h3 ⟨‹_›, ‹_›⟩ | (obtain ⟨q1, q2, q3, q4, q5⟩ := h11 i qf; first | contradiction | omega | (have := q5 qf; omega)) | (refine absurd ?_ ‹¬ vk _ _›; rcases (show k = 0 ∨ k = 1 ∨ k = 2 ∨ k = 3 ∨ k = 4 by omega) with e | e | e | e | e <;> subst e <;> assumption))]
     replace h86 := xw h86
     replace h86 := Xu h86
     refine zW [6, 7, 8, 9, 10, 11, 12] 7 (H) (rtp 13 (.bool true) H ?_)
     refine rtp 14 (.bool true) H ?_
     refine zW [15, 16, 17, 18, 19, 20] 6 (H) (rtp 21 (.bool true) H ?_)
     refine rtp 22 (.bool true) H ?_
     refine zW [23, 24, 25, 26] 4 (H) (rtp 27 (.bool true) H ?_)
     refine rtp 28 (.bool true) H ?_
     refine zW [29, 30, 31, 32, 33, 34, 35, 36, 37, 38, 39, 40, 41, 42] 14 (H) (rtp 43 (.bool true) H ?_)
     refine xI qh (t_n (xF true rfl (fun _ => zcr (sp (.bool false) (zjr (zr5 (ret1 (.bool false) rfl rfl ⟨_, rfl, ?_, H.base⟩))))) (fun h => absurd h qj)))
     rw [xu (fun h => by obtain ⟨h1, h2, h3, h4, h5, h6, h7, h8, h9, h10, h11⟩ := h; first | contradiction | omega | exact h3 ⟨‹_›, ‹_›⟩ | (obtain ⟨q1, q2, q3, q4, q5⟩ := h11 i qf; first | contradiction | omega | (have := q5 qf; omega)) | (refine absurd ?_ ‹¬ vk _ _›; rcases (show k = 0 ∨ k = 1 ∨ k = 2 ∨ k = 3 ∨ k = 4 by omega) with e | e | e | e | e <;> subst e <;> assumption))]
    refine zx4 (zcr (oF rfl (oL rfl (H.cell 1 rfl rfl) ?_)))
    have sm : Small r.xG := vM (by first | assumption | exact i1 0 qf)
    refine sw (oq (XK _ r.xG (H.get 3 rfl).1 (by first | assumption | exact vM ql | exact yQ ql)) H fun w100 H => sps [.bool (decide ((XR r.xG : Int) > 0)), .bool (decide ((XR r.xG : Int) > 0))] (zjr (ret1 (.bool (decide ((XR r.xG : Int) > 0))) rfl rfl ⟨_, rfl, (congrArg Value.bool (dec_eq ?_)), H.base⟩)))
    rw [decide_eq_true_iff]
    exact ⟨fun h => ⟨by omega, by omega, by simp_all, by omega, n1, n2, n3, n4, n5, by omega, (show i = r.qW.length by omega) ▸ i2⟩, fun h => by have := h.2.2.2.2.2.2.2.2.2.1; have := sum_nonneg n1.1; omega⟩
   replace h57 := eq_of_beq h57
   refine zn [30, 31, 32, 33] (sp (.bool true) (zjn (xF true rfl (fun _ => zcr (sp (.bool false) (zjr (t_r (ret1 (.bool false) rfl rfl ⟨_, rfl, ?_, H.base⟩))))) (fun h => absurd h qj))))
   rw [xu (fun h => by obtain ⟨h1, h2, h3, h4, h5, h6, h7, h8, h9, h10, h11⟩ := h; first | contradiction | omega | exact h3 ⟨‹_›, ‹_›⟩ | (obtain ⟨q1, q2, q3, q4, q5⟩ := h11 i qf; first | contradiction | omega | (have := q5 qf; omega)) | (refine absurd ?_ ‹¬ vk _ _›; rcases (show k = 0 ∨ k = 1 ∨ k = 2 ∨ k = 3 ∨ k = 4 by omega) with e | e | e | e | e <;> subst e <;> assumption))]
  replace h11 := xw h11
  replace h11 := Xu h11
  refine zn [21, 22, 23, 24, 25, 26, 27] (sps [.bool true, .bool true] (zn [30, 31, 32, 33] (sp (.bool true) (zjn (xF true rfl (fun _ => zcr (sp (.bool false) (zjr (t_r (ret1 (.bool false) rfl rfl ⟨_, rfl, ?_, H.base⟩))))) (fun h => absurd h qj))))))
  rw [xu (fun h => by obtain ⟨h1, h2, h3, h4, h5, h6, h7, h8, h9, h10, h11⟩ := h; first | contradiction | omega | exact h3 ⟨‹_›, ‹_›⟩ | (obtain ⟨q1, q2, q3, q4, q5⟩ := h11 i qf; first | contradiction | omega | (have := q5 qf; omega)) | (refine absurd ?_ ‹¬ vk _ _›; rcases (show k = 0 ∨ k = 1 ∨ k = 2 ∨ k = 3 ∨ k = 4 by omega) with e | e | e | e | e <;> subst e <;> assumption))]
 replace h8 := xw h8
 replace h8 := Xu h8
 refine zn [15, 16, 17, 18] (sps [.bool true, .bool true] (zn [21, 22, 23, 24, 25, 26, 27] (sps [.bool true, .bool true] (zn [30, 31, 32, 33] (sp (.bool true) (zjn (xF true rfl (fun _ => zcr (sp (.bool false) (zjr (t_r (ret1 (.bool false) rfl rfl ⟨_, rfl, ?_, H.base⟩))))) (fun h => absurd h qj))))))))
 rw [xu (fun h => by obtain ⟨h1, h2, h3, h4, h5, h6, h7, h8, h9, h10, h11⟩ := h; first | contradiction | omega | exact h3 ⟨‹_›, ‹_›⟩ | (obtain ⟨q1, q2, q3, q4, q5⟩ := h11 i qf; first | contradiction | omega | (have := q5 qf; omega)) | (refine absurd ?_ ‹¬ vk _ _›; rcases (show k = 0 ∨ k = 1 ∨ k = 2 ∨ k = 3 ∨ k = 4 by omega) with e | e | e | e | e <;> subst e <;> assumption))]
theorem validSystem_ok (w : World) (s : qM) (xm : qU.rep w qZ [.slice qC s.qw.length qB] s.qw) (xJ : qU.rep w xC [.slice qL s.qx.length qI] s.qx) : Calls Tryz.prog 104 #[.agg #[.int .i64 s.qQ, .slice qC s.qw.length qB, .slice qL s.qx.length qI]] w (Ret (fun v w' => v = .bool (dec (yg s))) w) := by
 refine en Tryz.func104 Tryz.ntmps104 ?_
 have H := ((St.start w).arg xJ).arg xm
 have vI := qN xm
 have jB := qN xJ
 clear xm xJ
 have N := Fresh.nil w.heap.size
 have p1 := fun h : yM s => h.2.1
 refine zcr (sw (vK H [.int .i64 s.qQ, .slice qC s.qw.length qB, .slice qL s.qx.length qI] fun b1 w2 H => sp (.bool false) (zjcc (sw (zq [.int .i64 s.qQ, .slice qC s.qw.length qB, .slice qL s.qx.length qI] Tryz.isAgg36 Tryz.sizeOf36 rfl (qH (H.cells 0 rfl) 0 3) (sw (oq (isShell_ok _ s (H.get 0 rfl).1 (H.get 1 rfl).1) H fun w4 H => sps [.bool (!(dec (yM s))), .bool (!(dec (yM s)))] ?_)))))))
 cases h6 : (!(dec (yM s)))
 ·skip
  replace h6 := xn h6
  replace h6 := Qa h6
  refine qR 9 rfl rfl (oF rfl (qR 9 rfl rfl (oL rfl (H.cell 0 rfl rfl) (qR 9 rfl rfl (oN rfl (qR 9 rfl rfl (sps [.bool (decide ((s.qx.length : Int) > 16)), .bool (decide ((s.qx.length : Int) > 16))] (zjn (cD rfl (fun h7 => ?_) (fun h7 => ?_))))))))))
  ·skip
   refine zcr (sp (.bool false) (zjr (t_r (ret1 (.bool false) rfl rfl ⟨_, rfl, ?_, H.base⟩))))
   rw [xu (fun h => by obtain ⟨h1, h2, h3⟩ := h; first | contradiction | omega | (obtain ⟨r1, r2⟩ := h3 k qf; first | contradiction | (have := Vw (s := s) (k := k + 1) q1 q2; omega)))]
  refine qX (t_n (zcr (sw (jv [.int .i64 0, .int .i64 0, .int .i64 0, .int .i64 0, .int .i64 0, .int .i64 0] [] (sw (xH H ti159 [.int .i64 0, .int .i64 0, .int .i64 0, .int .i64 0, .int .i64 0, .int .i64 0] fun b8 w9 H => sw (zt H 0 [.int .i64 0, .int .i64 0, .int .i64 0, .int .i64 0, .int .i64 0, .int .i64 0] Tryz.sizeOf159 fun w10 H => zjcc (oF rfl (oL rfl (H.cell 1 rfl rfl) (oN rfl (sp (.int .i64 0) (zjn (xe ?_)))))))))))))
  have p2 := p1 ‹_›
  refine zG (fun m' ρ w11 => ∃ (xR : Env) (k : Nat) (many : List Int), ρ = upd (upd (upd (upd (upd xR 1 (pp b1 0)) 3 (pp b8 0)) 17 (.slice qL s.qx.length qI)) 18 (.int .i64 s.qx.length)) 19 (.int .i64 k) ∧ many = counts6 s k ∧ ((k : Int) ≤ s.qx.length) ∧ (RulesTo s k) ∧ m' = (s.qx.length - (k : Int)).toNat ∧ Fresh w.heap.size [] ∧ St w w11 [.box b8 (many.map (Value.int .i64)) 159, .box b1 [.int .i64 s.qQ, .slice qC s.qw.length qB, .slice qL s.qx.length qI] 36] [sF false qZ qC qB s.qw, sF false xC qL qI s.qx]) ((s.qx.length - (0 : Int)).toNat) ⟨_, 0, [0, 0, 0, 0, 0, 0], uE5, (by exact counts6_zero s), qf, (by exact fun j hj => by omega), rfl, N, H⟩ ?_
  clear H N
  rintro m' ρ w12 ⟨xR, k, many, rfl, rfl, i0, i1, rfl, N, H⟩
  refine zcr (sp (.bool (decide ((k : Int) < s.qx.length))) (zjn (zf (cD rfl (fun h13 => ?_) (fun h13 => ?_)))))
  ·skip
   refine qX (t_n (zf (xe (zcr ?_))))
   obtain ⟨b14, o15, rfl⟩ := H.addr 1 rfl qf
   obtain ⟨ae17Need, ce17Need, Fe17Need, ae17Have, ce17Have, Fe17Have, ae17Lack, ce17Lack, Fe17Lack, ae17Here, ce17Here, Fe17Here, ae17Out, ce17Out, Fe17Out, ae17Into, ce17Into, Fe17Into, H⟩ := H.jX 1 rfl k k qf qf qf
   refine oI rfl rfl (sw (zq [.int .i64 ((s.qx[k]!).qG), .int .i64 ((s.qx[k]!).zQ), .slice ae17Need (((s.qx[k]!).xG).length) ce17Need, .slice ae17Have (((s.qx[k]!).xO).length) ce17Have, .slice ae17Lack (((s.qx[k]!).xP).length) ce17Lack, .slice ae17Here (((s.qx[k]!).xZ).length) ce17Here, .slice ae17Out (((s.qx[k]!).vJ).length) ce17Out, .slice ae17Into (((s.qx[k]!).qW).length) ce17Into, .bool ((s.qx[k]!).zJ)] Tryz.isAgg121 Tryz.sizeOf121 rfl (qH (H.get 6 rfl) 0 9) ?_))
   refine sw (xH H ti121 [.int .i64 0, .int .i64 0, .slice none 0 0, .slice none 0 0, .slice none 0 0, .slice none 0 0, .slice none 0 0, .slice none 0 0, .bool false] fun b18 w19 H => sw (zt H 0 [.int .i64 ((s.qx[k]!).qG), .int .i64 ((s.qx[k]!).zQ), .slice ae17Need (((s.qx[k]!).xG).length) ce17Need, .slice ae17Have (((s.qx[k]!).xO).length) ce17Have, .slice ae17Lack (((s.qx[k]!).xP).length) ce17Lack, .slice ae17Here (((s.qx[k]!).xZ).length) ce17Here, .slice ae17Out (((s.qx[k]!).vJ).length) ce17Out, .slice ae17Into (((s.qx[k]!).qW).length) ce17Into, .bool ((s.qx[k]!).zJ)] Tryz.sizeOf121 fun w20 H => ?_))
   refine zjcc (sw (zq [.int .i64 s.qQ, .slice qC s.qw.length qB, .slice (aa b14 o15) s.qx.length qI] Tryz.isAgg36 Tryz.sizeOf36 rfl (qH (H.cells 2 rfl) 0 3) ?_))
   refine sw (zq [.int .i64 ((s.qx[k]!).qG), .int .i64 ((s.qx[k]!).zQ), .slice ae17Need (((s.qx[k]!).xG).length) ce17Need, .slice ae17Have (((s.qx[k]!).xO).length) ce17Have, .slice ae17Lack (((s.qx[k]!).xP).length) ce17Lack, .slice ae17Here (((s.qx[k]!).xZ).length) ce17Here, .slice ae17Out (((s.qx[k]!).vJ).length) ce17Out, .slice ae17Into (((s.qx[k]!).qW).length) ce17Into, .bool ((s.qx[k]!).zJ)] Tryz.isAgg121 Tryz.sizeOf121 rfl (qH (H.cells 0 rfl) 0 9) ?_)
   refine sw (oq (isRule_ok _ s (s.qx[k]!) (H.get 7 rfl).1 (H.get 8 rfl).1 (H.get 0 rfl).1 (H.get 1 rfl).1 (H.get 2 rfl).1 (H.get 3 rfl).1 (H.get 4 rfl).1 (H.get 5 rfl).1 qg) H fun w22 H => ?_)
   have q := fun h : RuleOk s (s.qx[k]!) => (show 0 ≤ (s.qx[k]!).qG ∧ (s.qx[k]!).qG ≤ 5 from ⟨h.1.1, by have := h.1.2; omega⟩)
   refine sp (.bool (!(dec (RuleOk s (s.qx[k]!))))) (zjn (cQ rfl (fun h24 => ?_) (fun h24 => ?_)))
   ·skip
    refine zcr (sp (.bool false) (zjr (t_r (zr5 (ret1 (.bool false) rfl rfl ⟨_, rfl, ?_, H.base⟩)))))
    rw [xu (fun h => by obtain ⟨h1, h2, h3⟩ := h; first | contradiction | omega | (obtain ⟨r1, r2⟩ := h3 k qf; first | contradiction | (have := Vw (s := s) (k := k + 1) q1 q2; omega)))]
   obtain ⟨q1, q2⟩ := q ‹_›
   have q3 := Vw (s := s) (k := k) q1 q2
   have q4 := ofCell_bd s.qx (s.qx[k]!).qG k
   refine qX (t_n (zcr (oF rfl (oL rfl (H.cell 0 rfl rfl) (sw (o_idxArr ((s.qx[k]!).qG) Tryz.underlying159 ti3 rfl rfl qf qf (oL rfl (H.cell 1 rfl (ints_at (iv := (s.qx[k]!).qG) (i := (((s.qx[k]!).qG).toNat)) qf (by simp only [List.length_set, List.length_cons, List.length_nil, counts6_len]; omega))) (sw (zK ((counts6 s k)[((s.qx[k]!).qG).toNat]!) 1 rfl rfl qf (sw (o_idxArr ((s.qx[k]!).qG) Tryz.underlying159 ti3 rfl rfl qf qf ?_)))))))))))
   refine sw (o_storeArr H 1 rfl (((counts6 s k)[((s.qx[k]!).qG).toNat]!) + 1) Tryz.sizeOf3 rfl rfl (i := (((s.qx[k]!).qG).toNat)) qf (by simp only [List.length_set, List.length_cons, List.length_nil, counts6_len]; omega) fun w25 H => ?_)
   rw [counts6_succ q1 q2] at H
   refine zjc (oF rfl (oL rfl (H.cell 0 rfl rfl) (sw (o_idxArr ((s.qx[k]!).qG) Tryz.underlying159 ti3 rfl rfl qf qf (oL rfl (H.cell 1 rfl (ints_at (iv := (s.qx[k]!).qG) (i := (((s.qx[k]!).qG).toNat)) qf (by simp only [List.length_set, List.length_cons, List.length_nil, counts6_len]; omega))) (sp (.bool (decide (((counts6 s (k + 1))[((s.qx[k]!).qG).toNat]! : Int) > 8))) (zjn (cD rfl (fun h26 => ?_) (fun h26 => ?_)))))))))
   ·skip
    refine zcr (sp (.bool false) (zjr (zr5 (ret1 (.bool false) rfl rfl ⟨_, rfl, ?_, H.base⟩))))
    rw [xu (fun h => by obtain ⟨h1, h2, h3⟩ := h; first | contradiction | omega | (obtain ⟨r1, r2⟩ := h3 k qf; first | contradiction | (have := Vw (s := s) (k := k + 1) q1 q2; omega)))]
   refine qX (b_n (t_n (zh (sw (zK k 1 rfl rfl qf (sp (.int .i64 (k + 1)) (zi (xh (m' := (s.qx.length - ((k + 1) : Int)).toNat) qf ⟨_, k + 1, counts6 s (k + 1), uE5, ?_, ?_, ?_, rfl, N, H.pick [1, 2] [7, 8]⟩))))))))
   · rfl
   · omega
   · exact i1.succ ‹_› (by have := Vw (s := s) (k := k + 1) q1 q2; omega)
  refine zx4 (zcr (sp (.bool true) (zjr (ret1 (.bool true) rfl rfl ⟨_, rfl, ?_, H.base⟩))))
  rw [jZ ⟨by assumption, by omega, (show s.qx.length = k by omega) ▸ i1⟩]
 replace h6 := xw h6
 replace h6 := vg h6
 refine zn [10, 11, 12, 13] (sp (.bool true) (zjn (xF true rfl (fun _ => zcr (sp (.bool false) (zjr (t_r (ret1 (.bool false) rfl rfl ⟨_, rfl, ?_, H.base⟩))))) (fun h => absurd h qj))))
 rw [xu (fun h => by obtain ⟨h1, h2, h3⟩ := h; first | contradiction | omega | (obtain ⟨r1, r2⟩ := h3 k qf; first | contradiction | (have := Vw (s := s) (k := k + 1) q1 q2; omega)))]

theorem validState_ok (w : World) (s : qM) (t : qO) (xm : qU.rep w qZ [.slice qC s.qw.length qB] s.qw) (xJ : qU.rep w xC [.slice qL s.qx.length qI] s.qx) (zA : qU.rep w xK [.slice qV t.qA.length qP] t.qA) (zU : qU.rep w zC [.slice xk t.qE.length xf] t.qE) (xN : qU.rep w xB [.slice qK t.qy.length qJ] t.qy) : Calls Tryz.prog 63 #[.agg #[.int .i64 s.qQ, .slice qC s.qw.length qB, .slice qL s.qx.length qI], .agg #[.slice qV t.qA.length qP, .slice xk t.qE.length xf, .slice qK t.qy.length qJ]] w (Ret (fun v w' => v = .bool (dec (yg s ∧ zT s t))) w) := by
 refine en Tryz.func63 Tryz.ntmps63 ?_
 have H := (((((St.start w).arg xN).arg zU).arg zA).arg xJ).arg xm
 have vI := qN xm
 have jB := qN xJ
 have yT := qN zA
 have QA := qN zU
 have yc := qN xN
 clear xm xJ zA zU xN
 have N := Fresh.nil w.heap.size
 refine zcr (sw (vK H [.int .i64 s.qQ, .slice qC s.qw.length qB, .slice qL s.qx.length qI] fun b1 w2 H => sw (vK H [.slice qV t.qA.length qP, .slice xk t.qE.length xf, .slice qK t.qy.length qJ] fun b3 w4 H => sp (.bool false) (zjcc (sw (zq [.int .i64 s.qQ, .slice qC s.qw.length qB, .slice qL s.qx.length qI] Tryz.isAgg36 Tryz.sizeOf36 rfl (qH (H.cells 1 rfl) 0 3) (sw (oq (validSystem_ok _ s (H.get 0 rfl).1 (H.get 1 rfl).1) H fun w6 H => sps [.bool (!(dec (yg s))), .bool (!(dec (yg s)))] ?_))))))))
 cases h8 : (!(dec (yg s)))
 ·skip
  replace h8 := xn h8
  replace h8 := Qa h8
  have z1 := (‹yg s› : yg s).1.2.1
  refine qR 10 rfl rfl (oF rfl (qR 10 rfl rfl (oL rfl (H.cell 0 rfl rfl) (qR 10 rfl rfl (oN rfl (qR 10 rfl rfl (oF rfl (qR 10 rfl rfl (oL rfl (H.cell 1 rfl rfl) (qR 10 rfl rfl (oN rfl (qR 10 rfl rfl (sps [.bool ((t.qA.length : Int) != s.qw.length), .bool ((t.qA.length : Int) != s.qw.length), .bool ((t.qA.length : Int) != s.qw.length)] ?_)))))))))))))
  cases h9 : ((t.qA.length : Int) != s.qw.length)
  ·skip
   replace h9 := xA h9
   refine qR 19 rfl rfl (oF rfl (qR 19 rfl rfl (oL rfl (H.cell 0 rfl rfl) (qR 19 rfl rfl (oN rfl (qR 19 rfl rfl (oF rfl (qR 19 rfl rfl (oL rfl (H.cell 1 rfl rfl) (qR 19 rfl rfl (oN rfl (qR 19 rfl rfl (sps [.bool ((t.qE.length : Int) != s.qw.length), .bool ((t.qE.length : Int) != s.qw.length), .bool ((t.qE.length : Int) != s.qw.length)] ?_)))))))))))))
   cases h10 : ((t.qE.length : Int) != s.qw.length)
   ·skip
    replace h10 := xA h10
    refine qR 28 rfl rfl (oF rfl (qR 28 rfl rfl (oL rfl (H.cell 0 rfl rfl) (qR 28 rfl rfl ?_))))
    obtain ⟨b11, o12, rfl⟩ := H.addr 2 rfl qf
    refine oI rfl rfl (qR 28 rfl rfl (oL rfl (H.Xh 2 rfl 0 qf qf) (qR 28 rfl rfl (sps [.bool (!(t.qA[0]!)), .bool (!(t.qA[0]!)), .bool (!(t.qA[0]!))] ?_))))
    cases h14 : (!(t.qA[0]!))
    ·skip
     replace h14 := xn h14
     refine qR 35 rfl rfl (oF rfl (qR 35 rfl rfl (oL rfl (H.cell 1 rfl rfl) (qR 35 rfl rfl (oF rfl (qR 35 rfl rfl (oL rfl (H.cell 0 rfl rfl) (qR 35 rfl rfl (sw (oq (Vp _ s.qQ t.qy (H.get 4 rfl).1) H fun w15 H => qR 35 rfl rfl (sps [.bool (!(dec (vk s.qQ t.qy))), .bool (!(dec (vk s.qQ t.qy)))] (zjn (cQ rfl (fun h17 => ?_) (fun h17 => ?_))))))))))))))
     ·skip
      refine zcr (sp (.bool false) (zjr (t_r (ret1 (.bool false) rfl rfl ⟨_, rfl, ?_, H.base⟩))))
      rw [xu (fun h => by obtain ⟨h0, h1, h2, h3, h4, h5⟩ := h; first | contradiction | omega | (simp_all; done) | (obtain ⟨q1, q2⟩ := h5 c qf; first | contradiction | (have := q2 ql; omega)))]
     refine qX (t_n (zcc (oF rfl (oL rfl (H.cell 0 rfl rfl) (oN rfl (sp (.int .i64 0) (zjn (xe ?_))))))))
     refine zG (fun m' ρ w18 => ∃ (xR : Env) (c : Nat), ρ = upd (upd (upd (upd (upd xR 2 (pp b1 0)) 3 (pp b3 0)) 44 (.slice xk t.qE.length xf)) 45 (.int .i64 t.qE.length)) 46 (.int .i64 c) ∧ ((c : Int) ≤ t.qE.length) ∧ (BagsTo s t c) ∧ m' = (t.qE.length - (c : Int)).toNat ∧ Fresh w.heap.size [] ∧ St w w18 [.box b3 [.slice (aa b11 o12) t.qA.length qP, .slice xk t.qE.length xf, .slice qK t.qy.length qJ] 38, .box b1 [.int .i64 s.qQ, .slice qC s.qw.length qB, .slice qL s.qx.length qI] 36] [sF false qZ qC qB s.qw, sF false xC qL qI s.qx, sF false xK (aa b11 o12) qP t.qA, sF false zC xk xf t.qE, sF false xB qK qJ t.qy]) ((t.qE.length - (0 : Int)).toNat) ⟨_, 0, uE5, qf, (by exact fun j hj => by omega), rfl, N, H⟩ ?_
     clear H N
     rintro m' ρ w19 ⟨xR, c, rfl, i0, i1, rfl, N, H⟩
     refine zcr (sp (.bool (decide ((c : Int) < t.qE.length))) (zjn (zf (cD rfl (fun h20 => ?_) (fun h20 => ?_)))))
     ·skip
      refine qX (t_n (zf (xe (zcr (sp (.int .i64 c) ?_)))))
      obtain ⟨b21, o22, rfl⟩ := H.addr 3 rfl qf
      obtain ⟨ae24, ce24, Fe24, H⟩ := H.vU 3 rfl c c qf qf qf
      refine oI rfl rfl (oL rfl (H.xX 1 rfl 0 rfl) (sps [.int .i64 c, .slice ae24 ((t.qE[c]!).length) ce24] (zjc (oF rfl (oL rfl (H.cell 1 rfl rfl) (sp (.slice ae24 ((t.qE[c]!).length) ce24) (sw (oq (Vp _ s.qQ (t.qE[c]!) (H.get 0 rfl).1) H fun w25 H => sps [.bool (!(dec (vk s.qQ (t.qE[c]!)))), .bool (!(dec (vk s.qQ (t.qE[c]!))))] ?_))))))))
      cases h27 : (!(dec (vk s.qQ (t.qE[c]!))))
      ·skip
       replace h27 := xn h27
       replace h27 := Qa h27
       refine qR 56 rfl rfl (oF rfl (qR 56 rfl rfl (oL rfl (H.cell 0 rfl rfl) (qR 56 rfl rfl (sp (.int .i64 c) (qR 56 rfl rfl (oI rfl rfl (qR 56 rfl rfl (oL rfl (H.Xh 4 rfl c qf qf) (qR 56 rfl rfl (sp (.bool (!(t.qA[c]!))) (qR 56 rfl rfl (sp (.bool (!(t.qA[c]!))) ?_)))))))))))))
       cases h28 : (!(t.qA[c]!))
       ·skip
        replace h28 := xn h28
        refine zn [64, 65, 66] (qR 56 rfl rfl (sps [.bool false, .bool false] (zjn (xF false rfl (fun h => absurd h qj) (fun _ => qX (b_n (t_n (zh (sw (zK c 1 rfl rfl qf (sp (.int .i64 (c + 1)) (zi (xh (m' := (t.qE.length - ((c + 1) : Int)).toNat) qf ⟨_, c + 1, uE5, ?_, ?_, rfl, N, H.pick [0, 1] [2, 3, 4, 5, 6]⟩)))))))))))))
        · omega
        · exact i1.succ ‹_› (fun hk => by first | omega | simp_all)
       replace h28 := xw h28
       refine qR 63 rfl rfl (sp (.slice ae24 ((t.qE[c]!).length) ce24) (qR 63 rfl rfl (sw (oq (XK _ (t.qE[c]!) (H.get 0 rfl).1 (by first | assumption | exact vM ql | exact yQ ql)) H fun w29 H => qR 63 rfl rfl (sp (.bool (decide ((XR (t.qE[c]!) : Int) > 0))) (qR 56 rfl rfl (sps [.bool (decide ((XR (t.qE[c]!) : Int) > 0)), .bool (decide ((XR (t.qE[c]!) : Int) > 0))] (zjn (cD rfl (fun h31 => ?_) (fun h31 => ?_))))))))))
       ·skip
        refine zcr (sp (.bool false) (zjr (zr5 (ret1 (.bool false) rfl rfl ⟨_, rfl, ?_, H.base⟩))))
        rw [xu (fun h => by obtain ⟨h0, h1, h2, h3, h4, h5⟩ := h; first | contradiction | omega | (simp_all; done) | (obtain ⟨q1, q2⟩ := h5 c qf; first | contradiction | (have := q2 ql; omega)))]
       refine qX (b_n (t_n (zh (sw (zK c 1 rfl rfl qf (sp (.int .i64 (c + 1)) (zi (xh (m' := (t.qE.length - ((c + 1) : Int)).toNat) qf ⟨_, c + 1, uE5, ?_, ?_, rfl, N, H.pick [0, 1] [2, 3, 4, 5, 6]⟩))))))))
       · omega
       · exact i1.succ ‹_› (fun hk => by first | omega | simp_all)
      replace h27 := xw h27
      replace h27 := vg h27
      refine zn [57, 58, 59, 60, 61, 62, 63, 64, 65, 66, 67] (sp (.bool true) (zjn (xF true rfl (fun _ => zcr (sp (.bool false) (zjr (zr5 (ret1 (.bool false) rfl rfl ⟨_, rfl, ?_, H.base⟩))))) (fun h => absurd h qj))))
      rw [xu (fun h => by obtain ⟨h0, h1, h2, h3, h4, h5⟩ := h; first | contradiction | omega | (simp_all; done) | (obtain ⟨q1, q2⟩ := h5 c qf; first | contradiction | (have := q2 ql; omega)))]
     refine zx4 (zcr (sp (.bool true) (zjr (ret1 (.bool true) rfl rfl ⟨_, rfl, ?_, H.base⟩))))
     rw [jZ ⟨by assumption, by omega, by omega, by first | assumption | simp_all, by assumption, (show t.qE.length = c by omega) ▸ i1⟩]
    replace h14 := xw h14
    refine zn [36, 37, 38, 39, 40, 41] (sp (.bool true) (zjn (xF true rfl (fun _ => zcr (sp (.bool false) (zjr (t_r (ret1 (.bool false) rfl rfl ⟨_, rfl, ?_, H.base⟩))))) (fun h => absurd h qj))))
    rw [xu (fun h => by obtain ⟨h0, h1, h2, h3, h4, h5⟩ := h; first | contradiction | omega | (simp_all; done) | (obtain ⟨q1, q2⟩ := h5 c qf; first | contradiction | (have := q2 ql; omega)))]
   replace h10 := bne_iff_ne.1 h10
   refine zn [29, 30, 31, 32, 33] (sps [.bool true, .bool true] (zn [36, 37, 38, 39, 40, 41] (sp (.bool true) (zjn (xF true rfl (fun _ => zcr (sp (.bool false) (zjr (t_r (ret1 (.bool false) rfl rfl ⟨_, rfl, ?_, H.base⟩))))) (fun h => absurd h qj))))))
   rw [xu (fun h => by obtain ⟨h0, h1, h2, h3, h4, h5⟩ := h; first | contradiction | omega | (simp_all; done) | (obtain ⟨q1, q2⟩ := h5 c qf; first | contradiction | (have := q2 ql; omega)))]
  replace h9 := bne_iff_ne.1 h9
  refine zn [20, 21, 22, 23, 24, 25, 26] (sps [.bool true, .bool true] (zn [29, 30, 31, 32, 33] (sps [.bool true, .bool true] (zn [36, 37, 38, 39, 40, 41] (sp (.bool true) (zjn (xF true rfl (fun _ => zcr (sp (.bool false) (zjr (t_r (ret1 (.bool false) rfl rfl ⟨_, rfl, ?_, H.base⟩))))) (fun h => absurd h qj))))))))
  rw [xu (fun h => by obtain ⟨h0, h1, h2, h3, h4, h5⟩ := h; first | contradiction | omega | (simp_all; done) | (obtain ⟨q1, q2⟩ := h5 c qf; first | contradiction | (have := q2 ql; omega)))]
 replace h8 := xw h8
 replace h8 := vg h8
 refine zn [11, 12, 13, 14, 15, 16, 17] (sps [.bool true, .bool true] (zn [20, 21, 22, 23, 24, 25, 26] (sps [.bool true, .bool true] (zn [29, 30, 31, 32, 33] (sps [.bool true, .bool true] (zn [36, 37, 38, 39, 40, 41] (sp (.bool true) (zjn (xF true rfl (fun _ => zcr (sp (.bool false) (zjr (t_r (ret1 (.bool false) rfl rfl ⟨_, rfl, ?_, H.base⟩))))) (fun h => absurd h qj))))))))))
 rw [xu (fun h => by obtain ⟨h0, h1, h2, h3, h4, h5⟩ := h; first | contradiction | omega | (simp_all; done) | (obtain ⟨q1, q2⟩ := h5 c qf; first | contradiction | (have := q2 ql; omega)))]

theorem parentNow_ok (w : World) (s : qM) (t : qO) (c : Int) (xm : qU.rep w qZ [.slice qC s.qw.length qB] s.qw) (xJ : qU.rep w xC [.slice qL s.qx.length qI] s.qx) (zA : qU.rep w xK [.slice qV t.qA.length qP] t.qA) (zU : qU.rep w zC [.slice xk t.qE.length xf] t.qE) (xN : qU.rep w xB [.slice qK t.qy.length qJ] t.qy) (p0 : yM s) (p1 : CellIn s c) (p2 : t.qA.length = s.qw.length) : Calls Tryz.prog 188 #[.agg #[.int .i64 s.qQ, .slice qC s.qw.length qB, .slice qL s.qx.length qI], .agg #[.slice qV t.qA.length qP, .slice xk t.qE.length xf, .slice qK t.qy.length qJ], .int .i64 c] w (Ret (fun v w' => v = .int .i64 (xy s t c)) w) := by
 refine en Tryz.func188 Tryz.ntmps188 ?_
 have H := (((((St.start w).arg xN).arg zU).arg zA).arg xJ).arg xm
 have vI := qN xm
 have jB := qN xJ
 have yT := qN zA
 have QA := qN zU
 have yc := qN xN
 clear xm xJ zA zU xN
 have N := Fresh.nil w.heap.size
 have p3 := p0.step p1.1 p1.2
 refine zcr (sw (vK H [.int .i64 s.qQ, .slice qC s.qw.length qB, .slice qL s.qx.length qI] fun b1 w2 H => sw (vK H [.slice qV t.qA.length qP, .slice xk t.qE.length xf, .slice qK t.qy.length qJ] fun b3 w4 H => sp (.int .i64 0) (zjc (oF rfl (oL rfl (H.cell 1 rfl rfl) (sp (.int .i64 c) ?_)))))))
 obtain ⟨b5, o6, rfl⟩ := H.addr 0 rfl qf
 refine oI rfl rfl (oL rfl (H.jD 0 rfl c qf qf) (sp (.int .i64 (s.qw[c.toNat]!)) (zjn (zf (xe ?_)))))
 refine zG (fun m' ρ w8 => ∃ (xR : Env) (p : Int) (n : Nat), ρ = upd (upd (upd xR 3 (pp b1 0)) 4 (pp b3 0)) 7 (.int .i64 p) ∧ (-1 ≤ p ∧ p ≤ (s.qw.length : Int) - 1) ∧ (p < n) ∧ (xy s t c = climb s.qw t.qA n p) ∧ m' = (p + 1).toNat ∧ Fresh w.heap.size [] ∧ St w w8 [.box b3 [.slice qV t.qA.length qP, .slice xk t.qE.length xf, .slice qK t.qy.length qJ] 38, .box b1 [.int .i64 s.qQ, .slice (aa b5 o6) s.qw.length qB, .slice qL s.qx.length qI] 36] [sF false qZ (aa b5 o6) qB s.qw, sF false xC qL qI s.qx, sF false xK qV qP t.qA, sF false zC xk xf t.qE, sF false xB qK qJ t.qy]) (((s.qw[c.toNat]!) + 1).toNat) ⟨_, s.qw[c.toNat]!, s.qw.length, uE3, qf, qf, (by rfl), rfl, N, H⟩ ?_
 clear H N
 rintro m' ρ w9 ⟨xR, p, n, rfl, i0, i1, i2, rfl, N, H⟩
 have up := fun h => p0.step (c := p) h i0.2
 refine zcc (sps [.int .i64 p, .bool (decide ((p : Int) ≥ 0)), .bool (decide ((p : Int) ≥ 0))] ?_)
 cases h10 : (decide ((p : Int) ≥ 0))
 ·skip
  replace h10 := of_decide_eq_false h10
  refine zn [16, 17, 18, 19, 20, 21] (sp (.bool false) (zjn (xF false rfl (fun h => absurd h qj) (fun _ => zx4 (zcr (sps [.int .i64 p, .int .i64 p] (zjr (ret1 (.int .i64 p) rfl rfl ⟨_, rfl, ?_, H.base⟩))))))))
  rw [i2, climb_end (by first | omega | simp_all)]
 replace h10 := of_decide_eq_true h10
 refine qR 15 rfl rfl (oF rfl (qR 15 rfl rfl (oL rfl (H.cell 0 rfl rfl) (qR 15 rfl rfl (sp (.int .i64 p) (qR 15 rfl rfl ?_))))))
 obtain ⟨b11, o12, rfl⟩ := H.addr 2 rfl qf
 refine oI rfl rfl (qR 15 rfl rfl (oL rfl (H.Xh 2 rfl p qf qf) (qR 15 rfl rfl (sps [.bool (!(t.qA[p.toNat]!)), .bool (!(t.qA[p.toNat]!))] (zjn (xF (!(t.qA[p.toNat]!)) rfl (fun h14 => ?_) (fun h14 => ?_)))))))
 ·skip
  replace h14 := xw h14
  refine qX (t_n (xe (zh (oF rfl (oL rfl (H.cell 1 rfl rfl) (sp (.int .i64 p) (oI rfl rfl (oL rfl (H.jD 0 rfl p qf qf) (sp (.int .i64 (s.qw[p.toNat]!)) (zi (b_n ?_)))))))))))
  have up1 := up qf
  refine xh (m' := ((s.qw[p.toNat]!) + 1).toNat) qf ⟨_, s.qw[p.toNat]!, n - 1, uE3, ?_, ?_, ?_, rfl, N, H⟩
  · omega
  · omega
  · exact i2.trans (climb_go qf qf ‹_›)
 replace h14 := xn h14
 refine zx4 (zcr (sps [.int .i64 p, .int .i64 p] (zjr (ret1 (.int .i64 p) rfl rfl ⟨_, rfl, ?_, H.base⟩))))
 rw [i2, climb_end (by first | omega | simp_all)]

theorem X4 (w : World) (t : qO) (zA : qU.rep w xK [.slice qV t.qA.length qP] t.qA) (zU : qU.rep w zC [.slice xk t.qE.length xf] t.qE) (xN : qU.rep w xB [.slice qK t.qy.length qJ] t.qy) (p0 : t.qA.length ≤ 1000000) (p1 : t.qy.length ≤ 1000000) (p2 : t.qE.length ≤ 1000000) (p3 : ∀ j, j < t.qE.length → (t.qE[j]!).length ≤ 1000000) : Calls Tryz.prog 79 #[.agg #[.slice qV t.qA.length qP, .slice xk t.qE.length xf, .slice qK t.qy.length qJ]] w (Ret (fun v w' => ∃ (raAlive : Option Addr) (rnAlive : Nat) (rcAlive : Nat) (raBags : Option Addr) (rnBags : Nat) (rcBags : Nat) (rxBags : List Value) (rFBags : List Nat) (raAround : Option Addr) (rnAround : Nat) (rcAround : Nat), v = .agg #[.slice raAlive rnAlive rcAlive, .slice raBags rnBags rcBags, .slice raAround rnAround rcAround] ∧ Fresh w.heap.size [rFBags] ∧ St w w' [rr raAlive rnAlive rcAlive 4 1 (t.qA.map (Value.bool)), rr raBags rnBags rcBags 22 1 rxBags, rr raAround rnAround rcAround 2 1 (t.qy.map (Value.int .i64))] [zg true rFBags rxBags t.qE]) w) := by
 refine en Tryz.func79 Tryz.ntmps79 ?_
 have H := (((St.start w).arg xN).arg zU).arg zA
 have yT := qN zA
 have QA := qN zU
 have yc := qN xN
 clear zA zU xN
 have N := Fresh.nil w.heap.size
 refine zcr (sw (vK H [.slice qV t.qA.length qP, .slice xk t.qE.length xf, .slice qK t.qy.length qJ] fun b1 w2 H => sw (xH H ti38 [.slice none 0 0, .slice none 0 0, .slice none 0 0] fun b3 w4 H => zjn (zf ?_))))
 refine c_cut (fun ρ w10 => ∃ (xR : Env) (b5 : Nat) (ra6 : Option Addr) (rc7 : Nat) (a8 : Option Addr) (c9 : Nat), ρ = upd (upd (upd xR 1 (pp b1 0)) 2 (pp b3 0)) 3 (pp b5 0) ∧ Fresh w.heap.size [] ∧ St w w10 [.box b5 [.slice ra6 t.qA.length rc7, .slice none 0 0, .slice a8 t.qy.length c9] 38, rr a8 t.qy.length c9 2 1 (t.qy.map (Value.int .i64)), rr ra6 t.qA.length rc7 4 1 (t.qA.map (Value.bool)), .box b3 [.slice none 0 0, .slice none 0 0, .slice none 0 0] 38, .box b1 [.slice qV t.qA.length qP, .slice xk t.qE.length xf, .slice qK t.qy.length qJ] 38] [sF false xK qV qP t.qA, sF false zC xk xf t.qE, sF false xB qK qJ t.qy]) ?_ ?_
 ·skip
  refine ji rfl H fun H => tF 0 rfl rfl H ?_
  refine tL 1 rfl rfl (fun _ h => h.cell 1 rfl rfl) H ?_
  refine tF 3 rfl rfl H ?_
  refine tL 4 rfl rfl (fun _ h => h.cell 1 rfl rfl) H ?_
  refine vW [2, 7] qh qm (jF rfl ?_ (jF rfl ?_ vX))
  ·skip
   have sz15 := H.base.size
   refine oc (cloneB_ok _ t.qA (H.get 0 rfl).1 qg) ?_
   rintro _ w13 ⟨ra12, rn12, rc12, rfl, M, K⟩ _
   replace H := H.merge K M
   obtain rfl := H.rowNB 0 rfl
   refine ⟨H.pick [1, 2] [0, 1, 2], (vW [5, 7] qh qm (jF rfl ?_ (jF rfl ?_ vX)))⟩
   ·skip
    have sz18 := H.base.size
    refine oc (cloneI_ok _ t.qy (H.get 2 rfl).1 qg) ?_
    rintro v23 w21 r23 x22
    replace H := H.zH x22 r23
    obtain ⟨a24, c25, rfl, hc26, hm27⟩ := H.jr 0 rfl
    refine ⟨H.pick [2, 3] [0, 1, 2], (vW [6, 7] qh qm (jF rfl ?_ (jF rfl ?_ vX)))⟩
    ·skip
     refine jv [.slice ra12 t.qA.length rc12, .slice none 0 0, .slice a24 t.qy.length c25] [(0, .slice ra12 t.qA.length rc12), (2, .slice a24 t.qy.length c25)] (⟨H.pick [2, 3] [0, 1, 2], (ro 7 rfl (xH H ti38 [.slice none 0 0, .slice none 0 0, .slice none 0 0] fun b28 w29 H => ⟨H.pick [3, 4] [0, 1, 2], (ro 8 rfl (zt H 0 [.slice ra12 t.qA.length rc12, .slice none 0 0, .slice a24 t.qy.length c25] Tryz.sizeOf38 fun w30 H => ⟨H.pick [3, 4] [0, 1, 2], (xI qh ((meet ⟨_, b28, ra12, rc12, a24, c25, uE3, N, H⟩)))⟩))⟩))⟩)
    refine xH H ti38 [.slice none 0 0, .slice none 0 0, .slice none 0 0] fun b31 w32 H => ⟨H.pick [3, 4] [0, 1, 2], (ro 6 rfl (jv [.slice ra12 t.qA.length rc12, .slice none 0 0, .slice a24 t.qy.length c25] [(0, .slice ra12 t.qA.length rc12), (2, .slice a24 t.qy.length c25)] (⟨H.pick [3, 4] [0, 1, 2], (ro 8 rfl (zt H 0 [.slice ra12 t.qA.length rc12, .slice none 0 0, .slice a24 t.qy.length c25] Tryz.sizeOf38 fun w33 H => ⟨H.pick [3, 4] [0, 1, 2], (xI qh ((meet ⟨_, b31, ra12, rc12, a24, c25, uE3, N, H⟩)))⟩))⟩)))⟩
   refine xH H ti38 [.slice none 0 0, .slice none 0 0, .slice none 0 0] fun b34 w35 H => ⟨H.pick [2, 3] [0, 1, 2], (ro 5 rfl ?_)⟩
   have sz36 := H.base.size
   refine oc (cloneI_ok _ t.qy (H.get 2 rfl).1 qg) ?_
   rintro v41 w39 r41 x40
   replace H := H.zH x40 r41
   obtain ⟨a42, c43, rfl, hc44, hm45⟩ := H.jr 0 rfl
   refine ⟨H.pick [3, 4] [0, 1, 2], (ro 6 rfl (jv [.slice ra12 t.qA.length rc12, .slice none 0 0, .slice a42 t.qy.length c43] [(0, .slice ra12 t.qA.length rc12), (2, .slice a42 t.qy.length c43)] (⟨H.pick [3, 4] [0, 1, 2], (ro 8 rfl (zt H 1 [.slice ra12 t.qA.length rc12, .slice none 0 0, .slice a42 t.qy.length c43] Tryz.sizeOf38 fun w46 H => ⟨H.pick [3, 4] [0, 1, 2], (xI qh ((meet ⟨_, b34, ra12, rc12, a42, c43, uE3, N, H.pick [1, 0, 2, 3, 4] [0, 1, 2]⟩)))⟩))⟩)))⟩
  refine xH H ti38 [.slice none 0 0, .slice none 0 0, .slice none 0 0] fun b47 w48 H => ⟨H.pick [1, 2] [0, 1, 2], (ro 2 rfl ?_)⟩
  have sz52 := H.base.size
  refine oc (cloneB_ok _ t.qA (H.get 0 rfl).1 qg) ?_
  rintro _ w50 ⟨ra49, rn49, rc49, rfl, M, K⟩ _
  replace H := H.merge K M
  obtain rfl := H.rowNB 0 rfl
  refine ⟨H.pick [2, 3] [0, 1, 2], (ro 5 rfl ?_)⟩
  have sz55 := H.base.size
  refine oc (cloneI_ok _ t.qy (H.get 2 rfl).1 qg) ?_
  rintro v60 w58 r60 x59
  replace H := H.zH x59 r60
  obtain ⟨a61, c62, rfl, hc63, hm64⟩ := H.jr 0 rfl
  refine ⟨H.pick [3, 4] [0, 1, 2], (ro 6 rfl (jv [.slice ra49 t.qA.length rc49, .slice none 0 0, .slice a61 t.qy.length c62] [(0, .slice ra49 t.qA.length rc49), (2, .slice a61 t.qy.length c62)] (⟨H.pick [3, 4] [0, 1, 2], (ro 8 rfl (zt H 2 [.slice ra49 t.qA.length rc49, .slice none 0 0, .slice a61 t.qy.length c62] Tryz.sizeOf38 fun w65 H => ⟨H.pick [3, 4] [0, 1, 2], (xI qh ((meet ⟨_, b47, ra49, rc49, a61, c62, uE3, N, H.pick [2, 0, 1, 3, 4] [0, 1, 2]⟩)))⟩))⟩)))⟩
 clear H N
 rintro ρ w66 ⟨xR, b5, ra6, rc7, a8, c9, rfl, N, H⟩
 refine t_n (zcc (oF rfl (oL rfl (H.cell 4 rfl rfl) (oN rfl (sp (.int .i64 0) (zjn (xe ?_)))))))
 replace H := H.nilRow 22 1
 replace H := H.vY (α := List Int)
 refine zG (fun m' ρ w67 => ∃ (xR : Env) (k : Nat) (jL : Option Addr) (vC : Nat) (jK : Nat) (out_Bags : List (List Int)) (zS : List Value) (zk : List Nat), ρ = upd (upd (upd (upd (upd xR 2 (pp b3 0)) 3 (pp b5 0)) 14 (.slice xk t.qE.length xf)) 15 (.int .i64 t.qE.length)) 16 (.int .i64 k) ∧ out_Bags = t.qE.take k ∧ ((k : Int) ≤ t.qE.length) ∧ m' = (t.qE.length - (k : Int)).toNat ∧ Fresh w.heap.size [zk] ∧ St w w67 [rr jL vC jK 22 1 zS, .box b5 [.slice ra6 t.qA.length rc7, .slice jL vC jK, .slice a8 t.qy.length c9] 38, rr a8 t.qy.length c9 2 1 (t.qy.map (Value.int .i64)), rr ra6 t.qA.length rc7 4 1 (t.qA.map (Value.bool)), .box b3 [.slice none 0 0, .slice none 0 0, .slice none 0 0] 38, .box b1 [.slice qV t.qA.length qP, .slice xk t.qE.length xf, .slice qK t.qy.length qJ] 38] [zg true zk zS out_Bags, sF false xK qV qP t.qA, sF false zC xk xf t.qE, sF false xB qK qJ t.qy]) ((t.qE.length - (0 : Int)).toNat) ⟨_, 0, none, 0, 0, ([] : List (List Int)), [], [], uE5, (by rfl), qf, rfl, N.emp, H⟩ ?_
 clear H N
 rintro m' ρ w68 ⟨xR, k, jL, vC, jK, out_Bags, zS, zk, rfl, rfl, i0, rfl, N, H⟩
 have Vt := H.zB (α := List Int) 0 rfl 0 rfl qj
 have p4 := p3 k
 rw [List.length_take_of_le qf] at Vt
 refine zcr (sp (.bool (decide ((k : Int) < t.qE.length))) (zjn (zf (cD rfl (fun h69 => ?_) (fun h69 => ?_)))))
 ·skip
  refine qX (t_n (zf (xe (zcr ?_))))
  obtain ⟨b70, o71, rfl⟩ := H.addr 2 rfl qf
  obtain ⟨ae73, ce73, Fe73, H⟩ := H.vU 2 rfl k k qf qf qf
  refine oI rfl rfl (oL rfl (H.xX 1 rfl 0 rfl) (sp (.slice ae73 ((t.qE[k]!).length) ce73) (zjn ?_)))
  refine c_cut (fun ρ w79 => ∃ (xR : Env) (a74 : Option Addr) (c75 : Nat) (a76 : Option Addr) (c77 : Nat) (G78 : List Nat), ρ = upd (upd (upd (upd (upd xR 2 (pp b3 0)) 3 (pp b5 0)) 14 (.slice (aa b70 o71) t.qE.length xf)) 15 (.int .i64 t.qE.length)) 16 (.int .i64 k) ∧ Fresh w.heap.size [(zk ++ G78)] ∧ St w w79 [rr a74 (vC + 1) c75 22 1 (zS ++ [.slice a76 ((t.qE[k]!).length) c77]), .box b5 [.slice ra6 t.qA.length rc7, .slice a74 (vC + 1) c75, .slice a8 t.qy.length c9] 38, rr a8 t.qy.length c9 2 1 (t.qy.map (Value.int .i64)), rr ra6 t.qA.length rc7 4 1 (t.qA.map (Value.bool)), .box b3 [.slice none 0 0, .slice none 0 0, .slice none 0 0] 38, .box b1 [.slice qV t.qA.length qP, .slice (aa b70 o71) t.qE.length xf, .slice qK t.qy.length qJ] 38] [zg true (zk ++ G78) (zS ++ [.slice a76 ((t.qE[k]!).length) c77]) ((t.qE.take k) ++ [(t.qE[k]!)]), sF true G78 a76 c77 (t.qE[k]!), sF false Fe73 ae73 ce73 (t.qE[k]!), atF b70 (o71 + (k : Int).toNat * 1) [.slice ae73 ((t.qE[k]!).length) ce73], sF false xK qV qP t.qA, sF false zC (aa b70 o71) xf t.qE, sF false xB qK qJ t.qy]) ?_ ?_
  ·skip
   refine yS rfl H [2, 3, 4, 5] fun H => ?_
   have S := H.jW [2, 3, 4, 5] [0, 1, 2, 3, 4, 5]
   refine tF 0 rfl rfl S ?_
   refine rtp 2 (.slice ae73 ((t.qE[k]!).length) ce73) S ?_
   refine vW [1, 3] qh qm (jF rfl ?_ (jF rfl ?_ vX))
   ·skip
    refine zI (.slice jL vC jK) Tryz.isAgg27 rfl (H.cell 1 rfl rfl) (⟨H.pick [2, 3, 4, 5] [0, 1, 2, 3, 4, 5], (ro 3 rfl ?_)⟩)
    have sz81 := H.base.size
    have lt82 := H.ltN (L := [zk]) [2]
    refine oc (cloneI_ok _ (t.qE[k]!) (H.get 0 rfl).1 qg) ?_
    rintro v86 w84 r86 x85
    replace H := H.zH x85 r86
    obtain ⟨a87, c88, rfl, hc89, hm90⟩ := H.jr 0 rfl
    refine ⟨H.pick [3, 4, 5, 6] [0, 1, 2, 3, 4, 5], (ro 4 rfl (zN H Tryz.underlying27 ti22 [.slice a87 ((t.qE[k]!).length) c88] fun b91 w92 H => ⟨H.pick [4, 5, 6, 7] [0, 1, 2, 3, 4, 5], (ro 5 rfl ?_)⟩))⟩
    obtain ⟨G96, N, hn97, H⟩ := H.vZ 1 rfl N (H.yG [2])
    refine zX H 2 rfl 0 rfl Tryz.underlying27 ti22 rfl qj rfl rfl rfl (by simp [Value.oneCell', Value.cells]) qp qf fun a93 c94 w95 H => ?_
    replace H := H.yh 3 rfl 0 rfl
    replace N : Fresh w.heap.size [(zk ++ G96)] := (N.pick [1, 0]).join
    refine ⟨H.pick [4, 5, 6, 7] [2, 3, 4, 5, 6, 7], (tF 6 rfl rfl (H.pick [4, 5, 6, 7] [2, 3, 4, 5, 6, 7]) ?_)⟩
    refine ro 7 rfl (xU H 3 [.slice ra6 t.qA.length rc7, .slice a93 (vC + 1) c94, .slice a8 t.qy.length c9] Tryz.sizeOf27 fun w98 H => ⟨H.pick [4, 5, 6, 7] [2, 3, 4, 5, 6, 7], (xI qh ((meet ⟨_, a93, c94, a87, c88, G96, uE5, N, H.pick [2, 3, 4, 5, 6, 7] [0, 1, 2, 3, 5, 6, 7]⟩)))⟩)
   have sz99 := H.base.size
   have lt100 := H.ltN (L := [zk]) [2]
   refine oc (cloneI_ok _ (t.qE[k]!) (H.get 0 rfl).1 qg) ?_
   rintro v104 w102 r104 x103
   replace H := H.zH x103 r104
   obtain ⟨a105, c106, rfl, hc107, hm108⟩ := H.jr 0 rfl
   refine ⟨H.pick [3, 4, 5, 6] [0, 1, 2, 3, 4, 5], (vW [1, 4] qh qm (jF rfl ?_ (jF rfl ?_ vX)))⟩
   ·skip
    refine zI (.slice jL vC jK) Tryz.isAgg27 rfl (H.cell 2 rfl rfl) (⟨H.pick [3, 4, 5, 6] [0, 1, 2, 3, 4, 5], (ro 4 rfl (zN H Tryz.underlying27 ti22 [.slice a105 ((t.qE[k]!).length) c106] fun b109 w110 H => ⟨H.pick [4, 5, 6, 7] [0, 1, 2, 3, 4, 5], (ro 5 rfl ?_)⟩))⟩)
    obtain ⟨G114, N, hn115, H⟩ := H.vZ 1 rfl N (H.yG [2])
    refine zX H 2 rfl 0 rfl Tryz.underlying27 ti22 rfl qj rfl rfl rfl (by simp [Value.oneCell', Value.cells]) qp qf fun a111 c112 w113 H => ?_
    replace H := H.yh 3 rfl 0 rfl
    replace N : Fresh w.heap.size [(zk ++ G114)] := (N.pick [1, 0]).join
    refine ⟨H.pick [4, 5, 6, 7] [2, 3, 4, 5, 6, 7], (tF 6 rfl rfl (H.pick [4, 5, 6, 7] [2, 3, 4, 5, 6, 7]) ?_)⟩
    refine ro 7 rfl (xU H 3 [.slice ra6 t.qA.length rc7, .slice a111 (vC + 1) c112, .slice a8 t.qy.length c9] Tryz.sizeOf27 fun w116 H => ⟨H.pick [4, 5, 6, 7] [2, 3, 4, 5, 6, 7], (xI qh ((meet ⟨_, a111, c112, a105, c106, G114, uE5, N, H.pick [2, 3, 4, 5, 6, 7] [0, 1, 2, 3, 5, 6, 7]⟩)))⟩)
   refine zN H Tryz.underlying27 ti22 [.slice a105 ((t.qE[k]!).length) c106] fun b117 w118 H => ⟨H.pick [4, 5, 6, 7] [0, 1, 2, 3, 4, 5], (ro 1 rfl (zI (.slice jL vC jK) Tryz.isAgg27 rfl (H.cell 3 rfl rfl) (⟨H.pick [4, 5, 6, 7] [0, 1, 2, 3, 4, 5], (ro 5 rfl ?_)⟩)))⟩
   obtain ⟨G122, N, hn123, H⟩ := H.vZ 1 rfl N (H.yG [2])
   refine zX H 2 rfl 0 rfl Tryz.underlying27 ti22 rfl qj rfl rfl rfl (by simp [Value.oneCell', Value.cells]) qp qf fun a119 c120 w121 H => ?_
   replace H := H.yh 3 rfl 0 rfl
   replace N : Fresh w.heap.size [(zk ++ G122)] := (N.pick [1, 0]).join
   refine ⟨H.pick [4, 5, 6, 7] [2, 3, 4, 5, 6, 7], (tF 6 rfl rfl (H.pick [4, 5, 6, 7] [2, 3, 4, 5, 6, 7]) ?_)⟩
   refine ro 7 rfl (xU H 3 [.slice ra6 t.qA.length rc7, .slice a119 (vC + 1) c120, .slice a8 t.qy.length c9] Tryz.sizeOf27 fun w124 H => ⟨H.pick [4, 5, 6, 7] [2, 3, 4, 5, 6, 7], (xI qh ((meet ⟨_, a119, c120, a105, c106, G122, uE5, N, H.pick [2, 3, 4, 5, 6, 7] [0, 1, 2, 3, 5, 6, 7]⟩)))⟩)
  clear H N
  rintro ρ w125 ⟨xR, a74, c75, a76, c77, G78, rfl, N, H⟩
  refine b_n (t_n (zh (sw (zK k 1 rfl rfl qf (sp (.int .i64 (k + 1)) (zi (xh (m' := (t.qE.length - ((k + 1) : Int)).toNat) qf ⟨_, k + 1, a74, vC + 1, c75, ((t.qE.take k) ++ [(t.qE[k]!)]), zS ++ [.slice a76 ((t.qE[k]!).length) c77], (zk ++ G78), uE5, ?_, ?_, rfl, N, H.pick [0, 1, 2, 3, 4, 5] [0, 4, 5, 6]⟩)))))))
  · exact take_snoc qf
  · omega
 refine zx4 (zcr (sw (zq [.slice ra6 t.qA.length rc7, .slice jL vC jK, .slice a8 t.qy.length c9] Tryz.isAgg38 Tryz.sizeOf38 rfl (qH (H.cells 1 rfl) 0 3) (sw (zt H 4 [.slice ra6 t.qA.length rc7, .slice jL vC jK, .slice a8 t.qy.length c9] Tryz.sizeOf38 fun w126 H => zjr (retC H 4 rfl rfl Tryz.isAgg38 Tryz.sizeOf38 rfl ⟨_, rfl, ?_, H.base⟩))))))
 obtain rfl : k = t.qE.length := by omega
 rw [List.take_length] at H
 exact ⟨ra6, t.qA.length, rc7, jL, vC, jK, zS, zk, a8, t.qy.length, c9, rfl, N, H.pick [3, 0, 2] [0]⟩
end
end Go.Proofs.YtgjnaocffdhnbaaGreat
