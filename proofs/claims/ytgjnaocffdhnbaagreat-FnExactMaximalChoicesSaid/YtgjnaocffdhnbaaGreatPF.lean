/- Plain laws of packings, part two: what the walk of the packings meets; how many packings there are. No program here. -/
import Derived.Test.YtgjnaocffdhnbaaGreatPD
namespace Go.Proofs.YtgjnaocffdhnbaaGreat
set_option linter.unusedVariables false
set_option linter.unusedSimpArgs false
open Go.Proofs.YtgjnaocffdhnbaaGreat.Tot (tot)
open Go.Proofs.YtgjnaocffdhnbaaGreat.Mark (cnt mrk mkd mkd_mark cnt_mark)

def PartsOk (K : Nat) (parts : List (List Int)) : Prop := ∀ i, i < parts.length → (parts[i]!).length = K ∧ (∀ q, q < K → 0 ≤ (parts[i]!)[q]! ∧ (parts[i]!)[q]! ≤ 1000) ∧ ∃ j, j < K ∧ 0 < (parts[i]!)[j]!
def RestOk (K : Nat) (rest : List Int) : Prop := rest.length = K ∧ ∀ q, q < K → 0 ≤ rest[q]! ∧ rest[q]! ≤ 1000
def Xk (parts : List (List Int)) (rest : List Int) : Prop := ∃ K, K ≤ 8 ∧ PartsOk K parts ∧ RestOk K rest ∧ parts.length ≤ 8

theorem times_bd {K : Nat} {parts : List (List Int)} {rest : List Int} (hP : PartsOk K parts) (hR : RestOk K rest) {k : Nat} (hk : k < parts.length) : 0 ≤ zI (parts[k]!) rest ∧ zI (parts[k]!) rest ≤ 1000 :=
  timesTo_bd (fun q hq => (hR.2 q (by have := (hP k hk).1; omega)).1) _ (Nat.le_refl _)
theorem take_get {K : Nat} {parts : List (List Int)} {rest : List Int} (hP : PartsOk K parts) (hR : RestOk K rest) {k : Nat} (hk : k < parts.length) {n : Int} (h0 : 0 ≤ n) (h1 : n ≤ zI (parts[k]!) rest) {q : Nat} (hq : q < K) :
    0 ≤ rest[q]! + -n * (parts[k]!)[q]! ∧ rest[q]! + -n * (parts[k]!)[q]! ≤ rest[q]! := by
  obtain ⟨hl, hb, _⟩ := hP k hk
  have a := timesL_left (l := parts[k]!) (m := rest) (fun j hj => (hb j (by omega)).1) (fun j hj => (hR.2 j (by omega)).1) (k := q) (by omega)
  have b := Int.mul_le_mul_of_nonneg_right h1 (hb q hq).1
  have c := Int.mul_nonneg h0 (hb q hq).1
  have d : -n * (parts[k]!)[q]! = -(n * (parts[k]!)[q]!) := Int.neg_mul ..
  have e : -(zI (parts[k]!) rest) * (parts[k]!)[q]! = -(zI (parts[k]!) rest * (parts[k]!)[q]!) := Int.neg_mul ..
  omega
theorem RestOk.take {K : Nat} {parts : List (List Int)} {rest : List Int} (hP : PartsOk K parts) (hR : RestOk K rest) {k : Nat} (hk : k < parts.length) {n : Int} (h0 : 0 ≤ n) (h1 : n ≤ zI (parts[k]!) rest) : RestOk K (jH rest (parts[k]!) (-n)) := by
  refine ⟨by rw [plusL_len]; exact hR.1, fun q hq => ?_⟩
  rw [plus_get (by have := hR.1; omega)]
  have := take_get hP hR hk h0 h1 hq
  have := hR.2 q hq
  omega
theorem Xk.times {parts : List (List Int)} {rest : List Int} (h : Xk parts rest) {k : Nat} (hk : k < parts.length) :
    (parts[k]!).length ≤ rest.length ∧ (∀ q, q < (parts[k]!).length → 0 ≤ rest[q]! ∧ rest[q]! ≤ 1000) ∧ (∃ j, j < (parts[k]!).length ∧ 0 < (parts[k]!)[j]!) ∧ rest.length ≤ 8 ∧ 0 ≤ zI (parts[k]!) rest ∧ zI (parts[k]!) rest ≤ 1000 := by
  obtain ⟨K, hK, hP, hR, hn⟩ := h
  obtain ⟨hl, hb, hj⟩ := hP k hk
  have ht := times_bd hP hR hk
  refine ⟨by have := hR.1; omega, fun q hq => hR.2 q (by omega), by rw [hl]; exact hj, by have := hR.1; omega, ht⟩
theorem Xk.plus {parts : List (List Int)} {rest : List Int} (h : Xk parts rest) {k : Nat} (hk : k < parts.length) {n : Int} (h0 : 0 ≤ n) (h1 : n ≤ zI (parts[k]!) rest) :
    rest.length ≤ (parts[k]!).length ∧ Mid rest ∧ SmallT (parts[k]!) (-n) ∧ Xk parts (jH rest (parts[k]!) (-n)) := by
  obtain ⟨K, hK, hP, hR, hn⟩ := h
  obtain ⟨hl, hb, hj⟩ := hP k hk
  have ht := times_bd hP hR hk
  refine ⟨by have := hR.1; omega, ⟨by have := hR.1; omega, fun q hq => by have := hR.2 q (by have := hR.1; omega); omega⟩, fun q hq => ?_, K, hK, hP, hR.take hP hk h0 h1, hn⟩
  have a := hb q (by omega)
  have b := Int.mul_nonneg h0 a.1
  have c := Int.mul_le_mul (show n ≤ 1000 by omega) a.2 a.1 (by omega)
  have d : -n * (parts[k]!)[q]! = -(n * (parts[k]!)[q]!) := Int.neg_mul ..
  omega
theorem Xk.small {parts : List (List Int)} {rest : List Int} (h : Xk parts rest) : rest.length ≤ 8 ∧ parts.length ≤ 8 := by
  obtain ⟨K, hK, _, hR, hn⟩ := h
  exact ⟨by have := hR.1; omega, hn⟩
theorem Xk.smallB {parts : List (List Int)} {rest : List Int} (h : Xk parts rest) : Small rest := by
  obtain ⟨K, hK, _, hR, hn⟩ := h
  exact ⟨by have := hR.1; omega, fun q hq => by have := hR.2 q (by have := hR.1; omega); omega⟩

/-! ### The walk of the reference -/
theorem pack_step {parts : List (List Int)} {rest begin' : List Int} {out : List (List Int)} {f n : Nat} (hf : begin'.length + f = parts.length) (hp : begin'.length < parts.length)
    (h : (gath out (begins begin' (zL parts (f - 1) begin'.length rest n))).length ≤ 2000) :
    gath (gath out (begins begin' (zL parts (f - 1) begin'.length rest n))) (begins (begin' ++ [(n : Int)]) (packs parts (parts.length - (begin' ++ [(n : Int)]).length) (begin' ++ [(n : Int)]).length (jH rest (parts[begin'.length]!) (-(n : Int))))) =
      gath out (begins begin' (zL parts (f - 1) begin'.length rest (n + 1))) := by
  rw [← gath_step h, List.length_append, List.length_cons, List.length_nil, show parts.length - (begin'.length + (0 + 1)) = f - 1 by omega]
theorem pack_start {parts : List (List Int)} {rest begin' : List Int} {out : List (List Int)} {f : Nat} (h : out.length ≤ 2000) : out = gath out (begins begin' (zL parts f begin'.length rest 0)) := by
  rw [packsTo_zero]; exact (gath_nil (by omega)).symm
theorem pack_full {parts : List (List Int)} {rest begin' : List Int} {out : List (List Int)} (hl : begin'.length = parts.length) (h : FullOk parts rest) (ho : out.length ≤ 2000) :
    gath out (begins begin' (packs parts (parts.length - begin'.length) begin'.length rest)) = out ++ [begin'] := by
  rw [show parts.length - begin'.length = 0 by omega, packs_full h, begins_one, gath_one ho]
theorem pack_none {parts : List (List Int)} {rest begin' : List Int} {out : List (List Int)} (hl : begin'.length = parts.length) (h : ¬ FullOk parts rest) (ho : out.length ≤ 2000) :
    gath out (begins begin' (packs parts (parts.length - begin'.length) begin'.length rest)) = out := by
  rw [show parts.length - begin'.length = 0 by omega, packs_none h]; exact gath_nil (by omega)
theorem pack_end {parts : List (List Int)} {rest begin' : List Int} {out : List (List Int)} {f n : Nat} (hf : begin'.length + f = parts.length) (hp : begin'.length < parts.length) (hn : (n : Int) ≤ zI (parts[begin'.length]!) rest + 1)
    (h0 : 0 ≤ zI (parts[begin'.length]!) rest) (h : ¬ (n : Int) ≤ zI (parts[begin'.length]!) rest ∨ ¬ ((gath out (begins begin' (zL parts (f - 1) begin'.length rest n))).length : Int) ≤ 2000) :
    gath out (begins begin' (packs parts (parts.length - begin'.length) begin'.length rest)) = gath out (begins begin' (zL parts (f - 1) begin'.length rest n)) := by
  obtain ⟨f, rfl⟩ : ∃ g, f = g + 1 := ⟨f - 1, by omega⟩
  rw [show parts.length - begin'.length = f + 1 by omega]
  rw [show f + 1 - 1 = f from rfl] at h ⊢
  exact (gath_end (by omega) (by rcases h with h | h; (left; omega); (right; omega))).symm
theorem all_a {b : List Int} {parts : List (List Int)} (h : Qz b > 16) : xY b parts = ([], 3) := by rw [xY, if_pos h]
theorem all_b {b : List Int} {parts : List (List Int)} (h : ¬ Qz b > 16) (h1 : ((gath ([] : List (List Int)) (begins ([] : List Int) (packs parts (parts.length - ([] : List Int).length) ([] : List Int).length b))).length : Int) > 2000) : xY b parts = ([], 3) := by
  replace h1 : (gath [] (begins [] (packs parts (parts.length - 0) 0 b))).length > 2000 := by have : ((gath [] (begins [] (packs parts (parts.length - 0) 0 b))).length : Int) > 2000 := h1; omega
  rw [begins_nil] at h1
  have h2 : (packs parts parts.length 0 b).length > 2000 := gath_all.1 h1
  rw [xY, if_neg h, if_pos h2]
theorem all_0 {b : List Int} {parts : List (List Int)} (h : ¬ Qz b > 16) (h1 : ¬ ((gath ([] : List (List Int)) (begins ([] : List Int) (packs parts (parts.length - ([] : List Int).length) ([] : List Int).length b))).length : Int) > 2000) :
    xY b parts = (gath ([] : List (List Int)) (begins ([] : List Int) (packs parts (parts.length - ([] : List Int).length) ([] : List Int).length b)), 0) := by
  show xY b parts = (gath [] (begins [] (packs parts (parts.length - 0) 0 b)), 0)
  replace h1 : ¬ (gath [] (begins [] (packs parts (parts.length - 0) 0 b))).length > 2000 := fun h => h1 (by have : ((gath [] (begins [] (packs parts (parts.length - 0) 0 b))).length : Int) > 2000 := (by omega); exact this)
  rw [begins_nil] at h1 ⊢
  have h2 : ¬ (packs parts parts.length 0 b).length > 2000 := fun h => h1 (gath_all.2 h)
  rw [xY, if_neg h, if_neg h2, show parts.length - 0 = parts.length from rfl, gath_few h2]

/-! ### How many -/
theorem fmap_le {α β : Type} {c : Nat} (g : α → List β) : ∀ (l : List α), (∀ x ∈ l, (g x).length ≤ c) → (l.flatMap g).length ≤ l.length * c
  | [], _ => by simp
  | x :: l, h => by
    have h1 := h x (List.mem_cons_self ..)
    have h2 := fmap_le g l fun y hy => h y (List.mem_cons_of_mem _ hy)
    rw [List.flatMap_cons, List.length_append, List.length_cons, Nat.add_mul, Nat.one_mul]
    omega
/-- Another one of the part fits, if fewer than all that fit have been taken. -/
theorem within_more {K : Nat} {parts : List (List Int)} {rest : List Int} (hP : PartsOk K parts) (hR : RestOk K rest) {k : Nat} (hk : k < parts.length) {n : Int} (h0 : 0 ≤ n) (h1 : n < zI (parts[k]!) rest) :
    within (parts[k]!) (jH rest (parts[k]!) (-n)) = true := by
  rw [within_iff]
  intro q hq
  obtain ⟨hl, hb, _⟩ := hP k hk
  rw [plus_get (by have := hR.1; omega)]
  have a := (take_get hP hR hk (show 0 ≤ n + 1 by omega) (by omega) (q := q) (by omega)).1
  have d : -n * (parts[k]!)[q]! = -(n * (parts[k]!)[q]!) := Int.neg_mul ..
  have e : -(n + 1) * (parts[k]!)[q]! = -((n + 1) * (parts[k]!)[q]!) := Int.neg_mul ..
  have g : (n + 1) * (parts[k]!)[q]! = n * (parts[k]!)[q]! + (parts[k]!)[q]! := by rw [Int.add_mul, Int.one_mul]
  omega
/-- When all that fit have been taken, none fits. -/
theorem within_none {K : Nat} {parts : List (List Int)} {rest : List Int} (hP : PartsOk K parts) (hR : RestOk K rest) {k : Nat} (hk : k < parts.length) (hb : zI (parts[k]!) rest < 1000) :
    within (parts[k]!) (jH rest (parts[k]!) (-(zI (parts[k]!) rest))) = false := by
  rw [Bool.eq_false_iff]
  intro hw
  rw [within_iff] at hw
  obtain ⟨hl, hbb, _⟩ := hP k hk
  have key : ∀ j, j ≤ (parts[k]!).length → zI (parts[k]!) rest + 1 ≤ jg (parts[k]!) rest j := by
    intro j
    induction j with
    | zero => intro _; rw [jg]; omega
    | succ j ih =>
      intro hj
      have hi := ih (by omega)
      rw [jg]
      split
      · next hpos =>
        have h1 := hw j (by omega)
        rw [plus_get (by have := hR.1; omega)] at h1
        have e : -(zI (parts[k]!) rest) * (parts[k]!)[j]! = -(zI (parts[k]!) rest * (parts[k]!)[j]!) := Int.neg_mul ..
        have g : (zI (parts[k]!) rest + 1) * (parts[k]!)[j]! = zI (parts[k]!) rest * (parts[k]!)[j]! + (parts[k]!)[j]! := by rw [Int.add_mul, Int.one_mul]
        have := (Int.le_ediv_iff_mul_le hpos).2 (show (zI (parts[k]!) rest + 1) * (parts[k]!)[j]! ≤ rest[j]! by omega)
        omega
      · exact hi
  have := key _ (Nat.le_refl _)
  unfold zI at this
  omega
theorem within_less {K : Nat} {l m m' : List Int} (hl : l.length = K) (h : within l m = false) (hle : ∀ q, q < K → m'[q]! ≤ m[q]!) : within l m' = false := by
  rw [Bool.eq_false_iff] at h ⊢
  intro hw
  rw [within_iff] at hw
  exact h (within_iff.2 fun q hq => Int.le_trans (hw q hq) (hle q (by omega)))
/-- Few objects: few of each part fit. -/
def Few (K : Nat) (rest : List Int) : Prop := ∀ q, q < K → rest[q]! ≤ 16
theorem Few.take {K : Nat} {parts : List (List Int)} {rest : List Int} (hF : Few K rest) (hP : PartsOk K parts) (hR : RestOk K rest) {k : Nat} (hk : k < parts.length) {n : Int} (h0 : 0 ≤ n) (h1 : n ≤ zI (parts[k]!) rest) : Few K (jH rest (parts[k]!) (-n)) := fun q hq => by
  rw [plus_get (by have := hR.1; omega)]
  have := take_get hP hR hk h0 h1 hq
  have := hF q hq
  omega
theorem times_few {K : Nat} {parts : List (List Int)} {rest : List Int} (hF : Few K rest) (hP : PartsOk K parts) (hR : RestOk K rest) {k : Nat} (hk : k < parts.length) : zI (parts[k]!) rest ≤ 16 := by
  obtain ⟨hl, hb, j, hj, hpos⟩ := hP k hk
  have h1 := timesTo_le (l := parts[k]!) (m := rest) (k := (parts[k]!).length) (j := j) (by omega) hpos
  have h2 : rest[j]! / (parts[k]!)[j]! ≤ 16 := by
    exact Int.le_trans (Int.ediv_le_self _ (hR.2 j hj).1) (hF j hj)
  unfold zI
  omega
/-- The greedy packing is one. -/
theorem packs_ne {K : Nat} {parts : List (List Int)} (hP : PartsOk K parts) : ∀ (f k : Nat) (rest : List Int), k + f = parts.length → RestOk K rest → Few K rest → FullTo parts rest k → packs parts f k rest ≠ []
  | 0, k, rest, hk, hR, hF, hT => by
    rw [packs_full (fun i hi => hT i (by omega))]; simp
  | f + 1, k, rest, hk, hR, hF, hT => by
    have hb := times_bd hP hR (k := k) (by omega)
    have h16 := times_few hF hP hR (k := k) (by omega)
    have h1 := packs_ne hP f (k + 1) (jH rest (parts[k]!) (-(zI (parts[k]!) rest))) (by omega) (hR.take hP (by omega) hb.1 (Int.le_refl _)) (hF.take hP hR (by omega) hb.1 (Int.le_refl _)) (by
      refine FullTo.succ (fun i hi => ?_) (within_none hP hR (by omega) (by omega))
      refine within_less (K := K) (hP i (by omega)).1 (hT i hi) fun q hq => ?_
      rw [plus_get (by have := hR.1; omega)]
      exact (take_get hP hR (by omega) hb.1 (Int.le_refl _) hq).2)
    obtain ⟨x, hx⟩ := List.exists_mem_of_ne_nil _ h1
    refine List.ne_nil_of_mem (a := zI (parts[k]!) rest :: x) ?_
    rw [packs, List.mem_flatMap]
    have e : (((zI (parts[k]!) rest).toNat : Nat) : Int) = zI (parts[k]!) rest := by omega
    refine ⟨(zI (parts[k]!) rest).toNat, List.mem_range.2 (by omega), List.mem_map.2 ⟨x, ?_, by rw [e]⟩⟩
    rw [e]; exact hx
theorem packs_few {K : Nat} {parts : List (List Int)} (hP : PartsOk K parts) : ∀ (f k : Nat) (rest : List Int), k + (f + 1) = parts.length → RestOk K rest → Few K rest → (packs parts (f + 1) k rest).length ≤ 17 ^ f
  | 0, k, rest, hk, hR, hF => by
    have hb := times_bd hP hR (k := k) (by omega)
    rw [packs_succ, packsTo_succ, List.length_append, List.length_map]
    have h1 : zL parts 0 k rest (zI (parts[k]!) rest).toNat = [] := by
      rw [zL, List.flatMap_eq_nil_iff]
      intro n hn
      rw [List.mem_range] at hn
      rw [packs_none (fun h => ?_), List.map_nil]
      have h2 := within_more hP hR (k := k) (by omega) (n := (n : Int)) (by omega) (by omega)
      rw [h k (by omega)] at h2
      cases h2
    rw [h1, List.length_nil, Nat.zero_add, packs]
    split <;> simp
  | f + 1, k, rest, hk, hR, hF => by
    have hb := times_bd hP hR (k := k) (by omega)
    have h16 := times_few hF hP hR (k := k) (by omega)
    rw [packs]
    refine Nat.le_trans (fmap_le (c := 17 ^ f) _ _ fun n hn => ?_) ?_
    · rw [List.mem_range] at hn
      rw [List.length_map]
      exact packs_few hP f (k + 1) _ (by omega) (hR.take hP (by omega) (by omega) (by omega)) (hF.take hP hR (by omega) (by omega) (by omega))
    · rw [List.length_range, Nat.pow_succ, Nat.mul_comm]
      exact Nat.mul_le_mul_left _ (by omega)
theorem sum_few {K : Nat} {rest : List Int} (hR : RestOk K rest) (h : Qz rest ≤ 16) : Few K rest := by
  have key : ∀ n, n ≤ rest.length → 0 ≤ sumTo rest n ∧ ∀ q, q < n → rest[q]! ≤ sumTo rest n := by
    intro n
    induction n with
    | zero => intro _; exact ⟨by simp [sumTo], fun q hq => by omega⟩
    | succ n ih =>
      intro hn
      have hi := ih (by omega)
      have hr := hR.2 n (by have := hR.1; omega)
      rw [sumTo]
      refine ⟨by omega, fun q hq => ?_⟩
      by_cases e : q = n
      · subst e; omega
      · have := hi.2 q (by omega); omega
  intro q hq
  have := (key rest.length (Nat.le_refl _)).2 q (by have := hR.1; omega)
  unfold Qz at h
  omega
end Go.Proofs.YtgjnaocffdhnbaaGreat
