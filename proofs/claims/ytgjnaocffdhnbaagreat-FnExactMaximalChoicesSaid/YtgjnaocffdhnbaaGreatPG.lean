/- Plain laws of maximal choices: what each cell can choose, and all choices in order. No program here. -/
import Derived.Test.YtgjnaocffdhnbaaGreatPF
import Derived.Test.YtgjnaocffdhnbaaGreatPE
namespace Go.Proofs.YtgjnaocffdhnbaaGreat
set_option linter.unusedVariables false
set_option linter.unusedSimpArgs false
open Go.Proofs.YtgjnaocffdhnbaaGreat.Tot (tot)
open Go.Proofs.YtgjnaocffdhnbaaGreat.Mark (cnt mrk mkd mkd_mark cnt_mark)

/-- The applicable rules below k of a cell. -/
noncomputable def cellT (s : qK) (t : xu) (k c : Nat) : List Int := (applL s t k).filter fun x => decide ((s.qh[x.toNat]!).qw = (c : Int))
theorem cellT_yes {s : qK} {t : xu} {k c : Nat} (h : Appl s t k) (hc : (s.qh[k]!).qw = (c : Int)) : cellT s t k c ++ [(k : Int)] = cellT s t (k + 1) c := by
  unfold cellT; rw [← applL_yes h, List.filter_append, List.filter_cons_of_pos (by rw [Int.toNat_natCast]; exact decide_eq_true hc), List.filter_nil]
theorem QH {s : qK} {t : xu} {k c : Nat} (h : ¬ Appl s t k) : cellT s t k c = cellT s t (k + 1) c := by
  unfold cellT; rw [← applL_no h]
theorem Qc {s : qK} {t : xu} {k c : Nat} (h : ¬ (s.qh[k]!).qw = (c : Int)) : cellT s t k c = cellT s t (k + 1) c := by
  by_cases ha : Appl s t k
  · unfold cellT; rw [← applL_yes ha, List.filter_append, List.filter_cons_of_neg (by rw [Int.toNat_natCast]; simpa only [decide_eq_true_eq] using h), List.filter_nil, List.append_nil]
  · exact QH ha
/-- What some rules need. -/
def xC (s : qK) (l : List Int) : List (List Int) := l.map fun x => (s.qh[x.toNat]!).qO
theorem Q8 (s : qK) (l : List Int) : (xC s l).length = l.length := by simp [xC]
theorem needs_snoc (s : qK) (l : List Int) (x : Int) : xC s l ++ [(s.qh[x.toNat]!).qO] = xC s (l ++ [x]) := by simp [xC]
theorem needs_yes {s : qK} {t : xu} {k c : Nat} (h : Appl s t k) (hc : (s.qh[k]!).qw = (c : Int)) : xC s (cellT s t k c) ++ [(s.qh[k]!).qO] = xC s (cellT s t (k + 1) c) := by
  rw [← cellT_yes h hc]; exact needs_snoc s _ (k : Int)
theorem needs_take {s : qK} {l : List Int} {k : Nat} (h : k < l.length) : xC s (l.take k) ++ [(s.qh[(l[k]!).toNat]!).qO] = xC s (l.take (k + 1)) := by rw [needs_snoc, take_snoc h]
theorem needs_get {s : qK} {l : List Int} {k : Nat} (h : k < l.length) : (xC s l)[k]! = (s.qh[(l[k]!).toNat]!).qO := by
  rw [getElem!_pos (xC s l) k (by rw [Q8]; exact h)]; simp [xC, getElem!_pos l k h]
noncomputable def xP (s : qK) (t : xu) (c : Nat) : List Int := cellT s t s.qh.length c
noncomputable def cellP (s : qK) (t : xu) (c : Nat) : List (List Int) × Int := xY (t.qy[c]!) (xC s (xP s t c))
theorem mem_cellT {s : qK} {t : xu} {k c : Nat} {x : Int} (h : x ∈ cellT s t k c) : 0 ≤ x ∧ x.toNat < k ∧ Appl s t x.toNat ∧ (s.qh[x.toNat]!).qw = (c : Int) := by
  unfold cellT at h
  obtain ⟨h1, h2⟩ := List.mem_filter.1 h
  obtain ⟨a, b, d⟩ := mem_applL.1 h1
  exact ⟨a, b, d, by simpa using h2⟩
theorem cellT_at {s : qK} {t : xu} {k c j : Nat} (h : j < (cellT s t k c).length) : 0 ≤ (cellT s t k c)[j]! ∧ ((cellT s t k c)[j]!).toNat < k ∧ Appl s t ((cellT s t k c)[j]!).toNat ∧ (s.qh[((cellT s t k c)[j]!).toNat]!).qw = (c : Int) :=
  mem_cellT (by rw [getElem!_pos _ j h]; exact List.getElem_mem h)
theorem cellR_at {s : qK} {t : xu} {c j : Nat} (h : j < (xP s t c).length) : 0 ≤ (xP s t c)[j]! ∧ ((xP s t c)[j]!).toNat < s.qh.length ∧ Appl s t ((xP s t c)[j]!).toNat ∧ (s.qh[((xP s t c)[j]!).toNat]!).qw = (c : Int) := cellT_at h
theorem ofCell_all {s : qK} (hs : yw s) (c : Int) : ∀ k, k ≤ s.qh.length → Q7 s.qh c k ≤ 8
  | 0, _ => by simp [Q7]
  | k + 1, hk => by
    have h := ofCell_all hs c k (by omega)
    by_cases e : (s.qh[k]!).qw = c
    · have := (hs.2.2 k (by omega)).2; rw [e] at this; exact this
    · rw [Q7, if_neg e]; omega
theorem cellT_len {s : qK} {t : xu} {c : Nat} : ∀ k, ((cellT s t k c).length : Int) ≤ Q7 s.qh (c : Int) k
  | 0 => by simp [cellT, applL, Q7]
  | k + 1 => by
    have h := cellT_len (s := s) (t := t) (c := c) k
    rw [Q7]
    by_cases e : (s.qh[k]!).qw = (c : Int)
    · rw [if_pos e]
      by_cases ha : Appl s t k
      · rw [← cellT_yes ha e, List.length_append, List.length_singleton]; omega
      · rw [← QH ha]; omega
    · rw [if_neg e, ← Qc e]; omega
theorem cellT_le (s : qK) (t : xu) (k c : Nat) : (cellT s t k c).length ≤ k := Nat.le_trans (List.length_filter_le _ _) (applL_le s t k)
theorem cellR_len {s : qK} {t : xu} (hs : yw s) (c : Nat) : (xP s t c).length ≤ 8 := by
  have := cellT_len (s := s) (t := t) (c := c) s.qh.length
  have := ofCell_all hs (c : Int) s.qh.length (Nat.le_refl _)
  unfold xP; omega
theorem cell_parts {s : qK} {t : xu} (hs : yw s) (c : Nat) : PartsOk (KindsN s) (xC s (xP s t c)) := by
  intro i hi
  rw [Q8] at hi
  obtain ⟨a1, a2, a3, a4⟩ := cellR_at hi
  rw [needs_get hi]
  have q := hs.rule a2
  have b := q.2.2.2.2.1
  have hl := b.len
  have hsum := q.2.2.2.2.2.2.2.2.2.1
  obtain ⟨j, hj, hp⟩ := sum_pos b.1 hsum
  exact ⟨hl, fun q' hq' => b.get (by omega), j, by omega, hp⟩
theorem cell_rest {s : qK} {t : xu} (ht : zS s t) {c : Nat} (hc : c < t.qy.length) : RestOk (KindsN s) (t.qy[c]!) := by
  have b := (ht.2.2.2.2 c hc).1
  exact ⟨b.len, fun q hq => b.get (by have := b.len; omega)⟩
theorem cell_pack {s : qK} {t : xu} (hs : yw s) (ht : zS s t) {c : Nat} (hc : c < t.qy.length) : Xk (xC s (xP s t c)) (t.qy[c]!) :=
  ⟨KindsN s, kinds_le hs, cell_parts hs c, cell_rest ht hc, by rw [Q8]; exact cellR_len hs c⟩
theorem all_cases {b : List Int} {parts : List (List Int)} : (xY b parts = ([], 3)) ∨ (Qz b ≤ 16 ∧ xY b parts = (packs parts parts.length 0 b, 0) ∧ (packs parts parts.length 0 b).length ≤ 2000) := by
  unfold xY
  split
  · exact .inl rfl
  · split
    · exact .inl rfl
    · exact .inr ⟨by omega, rfl, by omega⟩
theorem all_len (b : List Int) (parts : List (List Int)) : (xY b parts).1.length ≤ 2000 := by
  rcases all_cases (b := b) (parts := parts) with h | ⟨_, h, h1⟩ <;> rw [h]
  · simp
  · exact h1
theorem all_at {b : List Int} {parts : List (List Int)} {x : Nat} (h : x < (xY b parts).1.length) : ((xY b parts).1[x]!).length = parts.length := by
  rcases all_cases (b := b) (parts := parts) with h1 | ⟨_, h1, _⟩
  · rw [h1] at h; simp at h
  · rw [h1] at h ⊢
    exact packs_len (by rw [getElem!_pos _ x h]; exact List.getElem_mem h)
theorem all_code {b : List Int} {parts : List (List Int)} (h : (xY b parts).2 ≠ 0) : (xY b parts).2 = 3 := by
  rcases all_cases (b := b) (parts := parts) with h1 | ⟨_, h1, _⟩
  · rw [h1]
  · rw [h1] at h; exact absurd rfl h

/-! ### Cells with an applicable rule -/
def FewTo (s : qK) (t : xu) (k : Nat) : Prop := ∀ c, c < k → (xP s t c).length = 0 ∨ ¬ Qz (t.qy[c]!) > 16
theorem FewTo.succ {s : qK} {t : xu} {k : Nat} (h : FewTo s t k) (h1 : (xP s t k).length = 0 ∨ ¬ Qz (t.qy[k]!) > 16) : FewTo s t (k + 1) := fun j hj => by
  by_cases e : j = k
  · subst e; exact h1
  · exact h j (by omega)
def GoodP (s : qK) (t : xu) (k : Nat) : Prop := ∀ c, c < k → (xP s t c).length = 0 ∨ (cellP s t c).2 = 0
theorem GoodP.succ {s : qK} {t : xu} {k : Nat} (h : GoodP s t k) (h1 : (xP s t k).length = 0 ∨ (cellP s t k).2 = 0) : GoodP s t (k + 1) := fun j hj => by
  by_cases e : j = k
  · subst e; exact h1
  · exact h j (by omega)
theorem bad_sum {s : qK} {t : xu} {c n : Nat} (hc : c < n) (h : ¬ (xP s t c).length = 0) (h1 : Qz (t.qy[c]!) > 16) : ¬ GoodP s t n := fun hg => by
  rcases hg c hc with h2 | h2
  · exact h h2
  · unfold cellP at h2; rw [all_a h1] at h2; simp at h2
theorem bad_code {s : qK} {t : xu} {c n : Nat} (hc : c < n) (h : ¬ (xP s t c).length = 0) (h1 : ¬ (cellP s t c).2 = 0) : ¬ GoodP s t n := fun hg => (hg c hc).elim h h1
noncomputable def liveTo (s : qK) (t : xu) (k : Nat) : List Nat := (List.range k).filter fun c => decide ((xP s t c).length ≠ 0)
noncomputable def qQ (s : qK) (t : xu) (k : Nat) : List (List Int) := (liveTo s t k).map (xP s t)
noncomputable def qZ (s : qK) (t : xu) (k : Nat) : List (List (List Int)) := (liveTo s t k).map fun c => (cellP s t c).1
theorem live_yes {s : qK} {t : xu} {k : Nat} (h : ¬ (xP s t k).length = 0) : liveTo s t (k + 1) = liveTo s t k ++ [k] := by unfold liveTo; rw [List.range_succ, List.filter_append, List.filter_cons_of_pos (a := k) (by simpa only [decide_eq_true_eq] using h), List.filter_nil]
theorem live_no {s : qK} {t : xu} {k : Nat} (h : (xP s t k).length = 0) : liveTo s t (k + 1) = liveTo s t k := by unfold liveTo; rw [List.range_succ, List.filter_append, List.filter_cons_of_neg (by simp only [decide_eq_true_eq]; exact fun x => x h), List.filter_nil, List.append_nil]
theorem rules_yes {s : qK} {t : xu} {k : Nat} (h : ¬ (xP s t k).length = 0) : qQ s t k ++ [xP s t k] = qQ s t (k + 1) := by simp [qQ, live_yes h]
theorem rules_no {s : qK} {t : xu} {k : Nat} (h : (xP s t k).length = 0) : qQ s t k = qQ s t (k + 1) := by simp [qQ, live_no h]
theorem packsL_yes {s : qK} {t : xu} {k : Nat} (h : ¬ (xP s t k).length = 0) : qZ s t k ++ [(cellP s t k).1] = qZ s t (k + 1) := by simp [qZ, live_yes h]
theorem packsL_no {s : qK} {t : xu} {k : Nat} (h : (xP s t k).length = 0) : qZ s t k = qZ s t (k + 1) := by simp [qZ, live_no h]
theorem live_le (s : qK) (t : xu) (k : Nat) : (liveTo s t k).length ≤ k := by
  have := List.length_filter_le (fun c => decide ((xP s t c).length ≠ 0)) (List.range k)
  simpa [liveTo] using this
theorem rules_le (s : qK) (t : xu) (k : Nat) : (qQ s t k).length ≤ k := by simpa [qQ] using live_le s t k
theorem packsL_le (s : qK) (t : xu) (k : Nat) : (qZ s t k).length = (qQ s t k).length := by simp [qZ, qQ]
/-- What stands at a place of the two lists. -/
theorem live_at {s : qK} {t : xu} {k i : Nat} (h : i < (qQ s t k).length) : ∃ c, c < k ∧ ¬ (xP s t c).length = 0 ∧ (qQ s t k)[i]! = xP s t c ∧ (qZ s t k)[i]! = (cellP s t c).1 := by
  have hl : i < (liveTo s t k).length := by simpa [qQ] using h
  have hm := List.mem_filter.1 (show (liveTo s t k)[i] ∈ liveTo s t k from List.getElem_mem hl)
  refine ⟨(liveTo s t k)[i], by simpa using hm.1, by simpa using hm.2, ?_, ?_⟩
  · rw [getElem!_pos _ i h]; simp [qQ]
  · rw [getElem!_pos _ i (by rw [packsL_le]; exact h)]; simp [qZ]

/-! ### How many choices -/
def yA (all : List (List (List Int))) : Nat → Nat
  | 0 => 1
  | k + 1 => yA all k * (all[k]!).length
theorem prod_mul (all : List (List (List Int))) (k : Nat) : ((yA all k : Nat) : Int) * ((all[k]!).length : Int) = ((yA all (k + 1) : Nat) : Int) := by rw [yA, Int.natCast_mul]
theorem prod_mono {all : List (List (List Int))} {n : Nat} (h : ∀ j, j < n → all[j]! ≠ []) : ∀ {j i : Nat}, i ≤ j → j ≤ n → yA all i ≤ yA all j
  | 0, i, hi, _ => by obtain rfl : i = 0 := by omega
                      exact Nat.le_refl _
  | j + 1, i, hi, hj => by
    by_cases e : i = j + 1
    · subst e; exact Nat.le_refl _
    · have h1 := prod_mono h (show i ≤ j by omega) (by omega)
      have h2 : 0 < (all[j]!).length := List.length_pos_iff.2 (h j (by omega))
      rw [yA]
      exact Nat.le_trans h1 (Nat.le_mul_of_pos_right _ h2)
theorem prod_pre {l : List (List (List Int))} {x : List (List Int)} : ∀ {k : Nat}, k ≤ l.length → yA (l ++ [x]) k = yA l k
  | 0, _ => rfl
  | k + 1, h => by
    rw [yA, yA, prod_pre (by omega)]
    congr 1
    rw [getElem!_pos (l ++ [x]) k (by simp; omega), getElem!_pos l k (by omega), List.getElem_append_left]
theorem prod_snoc (l : List (List (List Int))) (x : List (List Int)) : yA (l ++ [x]) (l ++ [x]).length = yA l l.length * x.length := by
  rw [List.length_append, List.length_singleton, yA, prod_pre (Nat.le_refl _)]
  congr 1
  rw [getElem!_pos (l ++ [x]) l.length (by simp)]; simp
theorem cellP_ne {s : qK} {t : xu} (hs : yw s) (ht : zS s t) {c : Nat} (hc : c < t.qy.length) (h : (cellP s t c).2 = 0) : (cellP s t c).1 ≠ [] := by
  unfold cellP at h ⊢
  rcases all_cases (b := t.qy[c]!) (parts := xC s (xP s t c)) with h1 | ⟨h0, h1, _⟩
  · rw [h1] at h; simp at h
  · rw [h1]
    exact packs_ne (cell_parts hs c) _ 0 _ (Nat.zero_add _) (cell_rest ht hc) (sum_few (cell_rest ht hc) h0) fun i hi => by omega
theorem cellP_few {s : qK} {t : xu} (hs : yw s) (ht : zS s t) {c : Nat} (hc : c < t.qy.length) (hr : ¬ (xP s t c).length = 0) : (cellP s t c).1.length ≤ 17 ^ ((xP s t c).length - 1) := by
  unfold cellP
  rcases all_cases (b := t.qy[c]!) (parts := xC s (xP s t c)) with h1 | ⟨h0, h1, _⟩
  · rw [h1]; simp
  · rw [h1]
    have := packs_few (cell_parts (t := t) hs c) ((xP s t c).length - 1) 0 _ (by rw [Q8]; omega) (cell_rest ht hc) (sum_few (cell_rest ht hc) h0)
    rw [Q8, show (xP s t c).length = (xP s t c).length - 1 + 1 by omega]
    exact this
noncomputable def sumR (s : qK) (t : xu) : Nat → Nat
  | 0 => 0
  | k + 1 => sumR s t k + (xP s t k).length
theorem filter_two (f : Int → Int) (k : Int) : ∀ (l : List Int), (l.filter fun x => decide (f x < k + 1)).length = (l.filter fun x => decide (f x < k)).length + (l.filter fun x => decide (f x = k)).length
  | [] => rfl
  | x :: l => by
    have h := filter_two f k l
    simp only [List.filter_cons]
    by_cases h1 : f x < k
    · rw [if_pos (by simp; omega), if_pos (by simpa using h1), if_neg (by simp; omega)]; simp only [List.length_cons]; omega
    · by_cases h2 : f x = k
      · rw [if_pos (by simp; omega), if_neg (by simpa using h1), if_pos (by simpa using h2)]; simp only [List.length_cons]; omega
      · rw [if_neg (by simp; omega), if_neg (by simpa using h1), if_neg (by simpa using h2)]; exact h
theorem sumR_eq (s : qK) (t : xu) : ∀ k, sumR s t k ≤ ((appls s t).filter fun x => decide ((s.qh[x.toNat]!).qw < (k : Int))).length
  | 0 => Nat.zero_le _
  | k + 1 => by
    have h := sumR_eq s t k
    have h2 := filter_two (fun x => (s.qh[x.toNat]!).qw) (k : Int) (appls s t)
    rw [sumR, show ((k + 1 : Nat) : Int) = (k : Int) + 1 by omega, h2]
    exact Nat.add_le_add h (Nat.le_refl _)
theorem sumR_le {s : qK} {t : xu} (hs : yw s) (k : Nat) : sumR s t k ≤ 16 :=
  Nat.le_trans (sumR_eq s t k) (Nat.le_trans (List.length_filter_le _ _) (Nat.le_trans (applL_le s t _) hs.2.1))
theorem prod_few {s : qK} {t : xu} (hs : yw s) (ht : zS s t) : ∀ k, k ≤ t.qy.length → yA (qZ s t k) (qZ s t k).length ≤ 17 ^ (sumR s t k - 1)
  | 0, _ => by show yA [] 0 ≤ _; rw [yA]; exact Nat.one_le_pow _ _ (by decide)
  | k + 1, hk => by
    have h := prod_few hs ht k (by omega)
    rw [sumR]
    by_cases e : (xP s t k).length = 0
    · rw [← packsL_no e, e]; exact h
    · rw [← packsL_yes e, prod_snoc]
      refine Nat.le_trans (Nat.mul_le_mul h (cellP_few hs ht (by omega) e)) ?_
      rw [← Nat.pow_add]
      exact Nat.pow_le_pow_right (by decide) (by omega)
theorem packsL_ne {s : qK} {t : xu} (hs : yw s) (ht : zS s t) {k : Nat} (hk : k ≤ t.qy.length) (hg : GoodP s t k) : ∀ j, j < (qZ s t k).length → (qZ s t k)[j]! ≠ [] := fun j hj => by
  obtain ⟨c, hc, hr, _, h2⟩ := live_at (s := s) (t := t) (k := k) (i := j) (by rw [← packsL_le]; exact hj)
  rw [h2]
  exact cellP_ne hs ht (by omega) ((hg c hc).resolve_left hr)
theorem prod_bd {s : qK} {t : xu} (hs : yw s) (ht : zS s t) {k : Nat} (hk : k ≤ t.qy.length) (hg : GoodP s t k) : ∀ j, j ≤ (qZ s t k).length → ((yA (qZ s t k) j : Nat) : Int) ≤ 2862423051509815793 := fun j hj => by
  have h1 := prod_mono (packsL_ne hs ht hk hg) hj (Nat.le_refl _)
  have h2 := prod_few hs ht k hk
  have h3 : 17 ^ (sumR s t k - 1) ≤ 17 ^ 15 := Nat.pow_le_pow_right (by decide) (by have := sumR_le (t := t) hs k; omega)
  have h4 : 17 ^ 15 = 2862423051509815793 := by decide
  omega

/-! ### All choices -/
def setTo (o r x : List Int) : Nat → List Int
  | 0 => o
  | k + 1 => (setTo o r x k).set (r[k]!).toNat (x[k]!)
theorem setTo_len (o r x : List Int) : ∀ k, (setTo o r x k).length = o.length
  | 0 => rfl
  | k + 1 => by rw [setTo, List.length_set, setTo_len o r x k]
def setAll (o r x : List Int) : List Int := setTo o r x r.length
theorem setAll_len (o r x : List Int) : (setAll o r x).length = o.length := setTo_len o r x _
def nextK (G : List (List Int)) (r : List Int) (P : List (List Int)) (k : Nat) : List (List Int) := (G.take k).flatMap fun o => P.map (setAll o r)
def nextX (G : List (List Int)) (r : List Int) (P : List (List Int)) (k x : Nat) : List (List Int) := nextK G r P k ++ (P.take x).map (setAll (G[k]!) r)
theorem nextX_zero (G : List (List Int)) (r : List Int) (P : List (List Int)) (k : Nat) : nextK G r P k = nextX G r P k 0 := by simp [nextX]
theorem nextX_succ {G : List (List Int)} {r : List Int} {P : List (List Int)} {k x : Nat} (h : x < P.length) {v : List Int} (hv : v = setAll (G[k]!) r (P[x]!)) : nextX G r P k x ++ [v] = nextX G r P k (x + 1) := by
  subst hv; unfold nextX; rw [List.append_assoc, ← take_snoc h, List.map_append]; rfl
theorem nextX_end {G : List (List Int)} {r : List Int} {P : List (List Int)} {k x : Nat} (hk : k < G.length) (h : x = P.length) : nextX G r P k x = nextK G r P (k + 1) := by
  subst h; unfold nextX nextK; rw [List.take_length, ← take_snoc hk, List.flatMap_append]; simp
theorem nextK_len {G : List (List Int)} {r : List Int} {P : List (List Int)} : ∀ {k : Nat}, k ≤ G.length → (nextK G r P k).length = k * P.length
  | 0, _ => by simp [nextK]
  | k + 1, h => by
    rw [← nextX_end (show k < G.length by omega) rfl, nextX, List.length_append, nextK_len (by omega), List.take_length, List.length_map, Nat.add_mul, Nat.one_mul]
theorem nextX_len {G : List (List Int)} {r : List Int} {P : List (List Int)} {k x : Nat} (hk : k < G.length) (hx : x ≤ P.length) : (nextX G r P k x).length = k * P.length + x := by
  rw [nextX, List.length_append, nextK_len (by omega), List.length_map, List.length_take]; omega
theorem nextX_le {G : List (List Int)} {r : List Int} {P : List (List Int)} {k x : Nat} (hk : k < G.length) (hx : x ≤ P.length) : (nextX G r P k x).length ≤ G.length * P.length := by
  rw [nextX_len hk hx]
  have := Nat.mul_le_mul_right P.length (show k + 1 ≤ G.length from hk)
  rw [Nat.add_mul, Nat.one_mul] at this
  omega
def zF (n : Nat) (rs : List (List Int)) (all : List (List (List Int))) : Nat → List (List Int)
  | 0 => [List.replicate n 0]
  | i + 1 => nextK (zF n rs all i) (rs[i]!) (all[i]!) (zF n rs all i).length
theorem QO {n : Nat} {rs : List (List Int)} {all : List (List (List Int))} : ∀ i, (zF n rs all i).length = yA all i
  | 0 => rfl
  | i + 1 => by rw [zF, nextK_len (Nat.le_refl _), QO i, yA]
theorem mem_at_L {l : List (List Int)} {k : Nat} (h : k < l.length) : l[k]! ∈ l := by rw [getElem!_pos l k h]; exact List.getElem_mem h
theorem prodG_row {n : Nat} {rs : List (List Int)} {all : List (List (List Int))} : ∀ i, ∀ x ∈ zF n rs all i, x.length = n
  | 0, x, h => by obtain rfl := List.mem_singleton.1 h; simp
  | i + 1, x, h => by
    rw [zF, nextK, List.mem_flatMap] at h
    obtain ⟨o, ho, h⟩ := h
    obtain ⟨y, _, rfl⟩ := List.mem_map.1 h
    rw [setAll_len]
    exact prodG_row i o (List.mem_of_mem_take ho)
theorem prodG_at {n : Nat} {rs : List (List Int)} {all : List (List (List Int))} {i k : Nat} (h : k < (zF n rs all i).length) : ((zF n rs all i)[k]!).length = n := prodG_row i _ (mem_at_L h)
open Classical in
/-- The members of a list, in order. -/
noncomputable def inOrder (l : List (List Int)) : List (List Int) := if h : ∃ m, l.Perm m ∧ InOrder m then Classical.choose h else l
theorem inOrder_eq {n : Nat} {l m : List (List Int)} (hn : ∀ x ∈ l, x.length = n) (hp : l.Perm m) (ho : InOrder m) : inOrder l = m := by
  have h : ∃ m, l.Perm m ∧ InOrder m := ⟨m, hp, ho⟩
  unfold inOrder
  rw [dif_pos h]
  have hc := Classical.choose_spec h
  exact order_one (n := n) (fun x hx => hn x (hc.1.symm.subset hx)) (hc.1.symm.trans hp) hc.2 ho
open Classical in
/-- All choices of a cell's or a tree's packings, with a code. -/
noncomputable def yx (s : qK) (t : xu) : List (List Int) × Int :=
  if ¬ GoodP s t s.qf.length then ([], 3) else if yA (qZ s t s.qf.length) (qZ s t s.qf.length).length > 300 then ([], 3)
  else (inOrder (zF s.qh.length (qQ s t s.qf.length) (qZ s t s.qf.length) (qZ s t s.qf.length).length), 0)
theorem cho_3 {s : qK} {t : xu} (h : ¬ GoodP s t s.qf.length ∨ yA (qZ s t s.qf.length) (qZ s t s.qf.length).length > 300) : yx s t = ([], 3) := by
  unfold yx
  by_cases h1 : GoodP s t s.qf.length
  · rw [if_neg (by simpa using h1), if_pos (h.resolve_left (by simpa using h1))]
  · rw [if_pos h1]
theorem cho_0 {s : qK} {t : xu} {m : List (List Int)} (h : GoodP s t s.qf.length) (h1 : ¬ yA (qZ s t s.qf.length) (qZ s t s.qf.length).length > 300)
    (hp : (zF s.qh.length (qQ s t s.qf.length) (qZ s t s.qf.length) (qZ s t s.qf.length).length).Perm m) (ho : InOrder m) : yx s t = (m, 0) := by
  unfold yx
  rw [if_neg (by simpa using h), if_neg h1, inOrder_eq (prodG_row _) hp ho]
theorem in_order {l : List (List Int)} {i : Nat} (hi : l.length ≤ i) (h : ∀ a b, a < b → b < i → ¬ ahead (l[b]!) (l[a]!)) : InOrder l := by
  have := (orderTo_iff (l := l) (k := l.length) (Nat.le_refl _)).2 fun a b hab hb => h a b hab (by omega)
  unfold OrderTo at this
  rwa [List.take_length] at this
theorem cho_code {s : qK} {t : xu} {b : List Int} {p : List (List Int)} (h : ¬ GoodP s t s.qf.length) (h1 : ¬ (xY b p).2 = 0) : yx s t = ([], (xY b p).2) := by rw [cho_3 (.inl h), all_code h1]
theorem next_le {n i k x : Nat} {rs : List (List Int)} {all : List (List (List Int))} (h : ∀ j, j < all.length → all[j]! ≠ []) (h1 : ¬ yA all all.length > 300) (hi : i < all.length) (hk : k < (zF n rs all i).length) (hx : x ≤ (all[i]!).length) : (nextX (zF n rs all i) (rs[i]!) (all[i]!) k x).length ≤ 300 := by
  have h2 := nextX_le (r := rs[i]!) hk hx
  have h3 := prod_mono h (show i + 1 ≤ all.length from hi) (Nat.le_refl _)
  rw [yA, ← QO (n := n) (rs := rs) i] at h3
  omega
theorem G_le {n i : Nat} {rs : List (List Int)} {all : List (List (List Int))} (h : ∀ j, j < all.length → all[j]! ≠ []) (h1 : ¬ yA all all.length > 300) (hi : i ≤ all.length) : (zF n rs all i).length ≤ 300 := by
  have h3 := prod_mono h hi (Nat.le_refl _)
  rw [QO]; omega
theorem cell_few {s : qK} {t : xu} {n i : Nat} (hs : yw s) (hi : i < (qQ s t n).length) : ((qQ s t n)[i]!).length ≤ 8 ∧ ((qZ s t n)[i]!).length ≤ 2000 := by
  obtain ⟨c, _, _, e, e1⟩ := live_at hi
  rw [e, e1]
  exact ⟨cellR_len hs c, all_len _ _⟩
theorem choice_at {s : qK} {t : xu} {n i r : Nat} (hi : i < (qQ s t n).length) (hr : r < ((qQ s t n)[i]!).length) : 0 ≤ ((qQ s t n)[i]!)[r]! ∧ (((qQ s t n)[i]!)[r]!).toNat < s.qh.length := by
  obtain ⟨c, _, _, e, _⟩ := live_at hi
  rw [e] at hr ⊢
  have := cellR_at hr
  exact ⟨this.1, this.2.1⟩
theorem pack_at {s : qK} {t : xu} {n i x : Nat} (hi : i < (qQ s t n).length) (hx : x < ((qZ s t n)[i]!).length) : (((qZ s t n)[i]!)[x]!).length = ((qQ s t n)[i]!).length := by
  obtain ⟨c, _, _, e, e1⟩ := live_at hi
  rw [e1] at hx ⊢
  rw [e]
  exact (all_at hx).trans (Q8 _ _)
theorem perm_rows {n m : Nat} {rs : List (List Int)} {all : List (List (List Int))} {l : List (List Int)} (h : (zF n rs all m).Perm l) : ∀ j, j < l.length → (l[j]!).length = n := fun j hj => prodG_row m _ (h.symm.subset (mem_at_L hj))
theorem perm_swap {l m : List (List Int)} {k : Nat} (h : l.Perm m) (hk : 0 < k) (hl : k < m.length) : l.Perm (swapAt m k) := h.trans (swap_perm hk hl).symm
/-- All maximal choices, with a code. -/
noncomputable def xR (s : qK) (t : xu) : List (List Int) × Int := open Classical in if ¬ (yw s ∧ zS s t) then ([], 1) else yx s t
theorem mc_1 {s : qK} {t : xu} (h : ¬ (yw s ∧ zS s t)) : xR s t = ([], 1) := by unfold xR; rw [if_pos h]
theorem mc_0 {s : qK} {t : xu} (h : yw s ∧ zS s t) : xR s t = yx s t := by unfold xR; rw [if_neg (by simpa using h)]
theorem cho_len (s : qK) (t : xu) : (yx s t).1.length ≤ 300 := by
  unfold yx
  split
  · simp
  · split
    · simp
    · next h1 h2 =>
      show (inOrder _).length ≤ 300
      unfold inOrder
      split
      · next h => rw [← (Classical.choose_spec h).1.length_eq, QO]; omega
      · rw [QO]; omega
theorem cho_rows (s : qK) (t : xu) : ∀ x ∈ (yx s t).1, x.length = s.qh.length := by
  unfold yx
  split
  · intro x hx; simp at hx
  · split
    · intro x hx; simp at hx
    · intro x hx
      have hx' : x ∈ inOrder (zF s.qh.length (qQ s t s.qf.length) (qZ s t s.qf.length) (qZ s t s.qf.length).length) := hx
      unfold inOrder at hx'
      split at hx'
      · next h => exact prodG_row _ x ((Classical.choose_spec h).1.symm.subset hx')
      · exact prodG_row _ x hx'
end Go.Proofs.YtgjnaocffdhnbaaGreat
