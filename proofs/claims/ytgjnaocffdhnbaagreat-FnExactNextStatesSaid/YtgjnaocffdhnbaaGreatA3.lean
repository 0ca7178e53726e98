/- Walks and laws, printed by program and by hand: what each function comes to, for all arguments, part 3. -/
import Derived.Test.YtgjnaocffdhnbaaGreatA2
import Derived.Shelf.SlSortCmp.Whole1
import Derived.Ground.SlsfProg
import Derived.Test.YtgjnaocffdhnbaaGreatRows
import Derived.ProofKit
import Derived.OpenShut
import Derived.Carry
import Derived.BigQuiet
import Derived.Lib.SmallJoins
namespace Go.Proofs.YtgjnaocffdhnbaaGreat
set_option linter.unusedVariables false
set_option linter.unusedSimpArgs false
open Go.Proofs.YtgjnaocffdhnbaaGreat.Tot (tot)
open Go.Proofs.YtgjnaocffdhnbaaGreat.Mark (cnt mrk mkd mkd_mark cnt_mark)
section

def PartsOk (K : Nat) (parts : List (List Int)) : Prop := ∀ i, i < parts.length → (parts[i]!).length = K ∧ (∀ q, q < K → 0 ≤ (parts[i]!)[q]! ∧ (parts[i]!)[q]! ≤ 1000) ∧ ∃ j, j < K ∧ 0 < (parts[i]!)[j]!
def RestOk (K : Nat) (rest : List Int) : Prop := rest.length = K ∧ ∀ q, q < K → 0 ≤ rest[q]! ∧ rest[q]! ≤ 1000
def VC (parts : List (List Int)) (rest : List Int) : Prop := ∃ K, K ≤ 8 ∧ PartsOk K parts ∧ RestOk K rest ∧ parts.length ≤ 8

theorem times_bd {K : Nat} {parts : List (List Int)} {rest : List Int} (hP : PartsOk K parts) (hR : RestOk K rest) {k : Nat} (hk : k < parts.length) : 0 ≤ vM (parts[k]!) rest ∧ vM (parts[k]!) rest ≤ 1000 :=
  timesTo_bd (fun q hq => (hR.2 q (by have := (hP k hk).1; omega)).1) _ (Nat.le_refl _)
theorem take_get {K : Nat} {parts : List (List Int)} {rest : List Int} (hP : PartsOk K parts) (hR : RestOk K rest) {k : Nat} (hk : k < parts.length) {n : Int} (h0 : 0 ≤ n) (h1 : n ≤ vM (parts[k]!) rest) {q : Nat} (hq : q < K) :
    0 ≤ rest[q]! + -n * (parts[k]!)[q]! ∧ rest[q]! + -n * (parts[k]!)[q]! ≤ rest[q]! := by
  obtain ⟨hl, hb, _⟩ := hP k hk
  have a := timesL_left (l := parts[k]!) (m := rest) (fun j hj => (hb j (by omega)).1) (fun j hj => (hR.2 j (by omega)).1) (k := q) (by omega)
  have b := Int.mul_le_mul_of_nonneg_right h1 (hb q hq).1
  have c := Int.mul_nonneg h0 (hb q hq).1
  have d : -n * (parts[k]!)[q]! = -(n * (parts[k]!)[q]!) := Int.neg_mul ..
  have e : -(vM (parts[k]!) rest) * (parts[k]!)[q]! = -(vM (parts[k]!) rest * (parts[k]!)[q]!) := Int.neg_mul ..
  omega
theorem RestOk.take {K : Nat} {parts : List (List Int)} {rest : List Int} (hP : PartsOk K parts) (hR : RestOk K rest) {k : Nat} (hk : k < parts.length) {n : Int} (h0 : 0 ≤ n) (h1 : n ≤ vM (parts[k]!) rest) : RestOk K (vk rest (parts[k]!) (-n)) := by
  refine ⟨by rw [plusL_len]; exact hR.1, fun q hq => ?_⟩
  rw [plus_get (by have := hR.1; omega)]
  have := take_get hP hR hk h0 h1 hq
  have := hR.2 q hq
  omega
theorem VC.times {parts : List (List Int)} {rest : List Int} (h : VC parts rest) {k : Nat} (hk : k < parts.length) :
    (parts[k]!).length ≤ rest.length ∧ (∀ q, q < (parts[k]!).length → 0 ≤ rest[q]! ∧ rest[q]! ≤ 1000) ∧ (∃ j, j < (parts[k]!).length ∧ 0 < (parts[k]!)[j]!) ∧ rest.length ≤ 8 ∧ 0 ≤ vM (parts[k]!) rest ∧ vM (parts[k]!) rest ≤ 1000 := by
  obtain ⟨K, hK, hP, hR, hn⟩ := h
  obtain ⟨hl, hb, hj⟩ := hP k hk
  have ht := times_bd hP hR hk
  refine ⟨by have := hR.1; omega, fun q hq => hR.2 q (by omega), by rw [hl]; exact hj, by have := hR.1; omega, ht⟩
theorem VC.plus {parts : List (List Int)} {rest : List Int} (h : VC parts rest) {k : Nat} (hk : k < parts.length) {n : Int} (h0 : 0 ≤ n) (h1 : n ≤ vM (parts[k]!) rest) :
    rest.length ≤ (parts[k]!).length ∧ Mid rest ∧ SmallT (parts[k]!) (-n) ∧ VC parts (vk rest (parts[k]!) (-n)) := by
  obtain ⟨K, hK, hP, hR, hn⟩ := h
  obtain ⟨hl, hb, hj⟩ := hP k hk
  have ht := times_bd hP hR hk
  refine ⟨by have := hR.1; omega, ⟨by have := hR.1; omega, fun q hq => by have := hR.2 q (by have := hR.1; omega); omega⟩, fun q hq => ?_, K, hK, hP, hR.take hP hk h0 h1, hn⟩
  have a := hb q (by omega)
  have b := Int.mul_nonneg h0 a.1
  have c := Int.mul_le_mul (show n ≤ 1000 by omega) a.2 a.1 (by omega)
  have d : -n * (parts[k]!)[q]! = -(n * (parts[k]!)[q]!) := Int.neg_mul ..
  omega
theorem VC.small {parts : List (List Int)} {rest : List Int} (h : VC parts rest) : rest.length ≤ 8 ∧ parts.length ≤ 8 := by
  obtain ⟨K, hK, _, hR, hn⟩ := h
  exact ⟨by have := hR.1; omega, hn⟩
theorem VC.smallB {parts : List (List Int)} {rest : List Int} (h : VC parts rest) : Small rest := by
  obtain ⟨K, hK, _, hR, hn⟩ := h
  exact ⟨by have := hR.1; omega, fun q hq => by have := hR.2 q (by have := hR.1; omega); omega⟩

theorem pack_step {parts : List (List Int)} {rest begin' : List Int} {out : List (List Int)} {f n : Nat} (hf : begin'.length + f = parts.length) (hp : begin'.length < parts.length)
    (h : (gath out (begins begin' (vV parts (f - 1) begin'.length rest n))).length ≤ 2000) :
    gath (gath out (begins begin' (vV parts (f - 1) begin'.length rest n))) (begins (begin' ++ [(n : Int)]) (packs parts (parts.length - (begin' ++ [(n : Int)]).length) (begin' ++ [(n : Int)]).length (vk rest (parts[begin'.length]!) (-(n : Int))))) =
      gath out (begins begin' (vV parts (f - 1) begin'.length rest (n + 1))) := by
  rw [← gath_step h, List.length_append, List.length_cons, List.length_nil, show parts.length - (begin'.length + (0 + 1)) = f - 1 by omega]
theorem pack_start {parts : List (List Int)} {rest begin' : List Int} {out : List (List Int)} {f : Nat} (h : out.length ≤ 2000) : out = gath out (begins begin' (vV parts f begin'.length rest 0)) := by
  rw [packsTo_zero]; exact (gath_nil (by omega)).symm
theorem pack_full {parts : List (List Int)} {rest begin' : List Int} {out : List (List Int)} (hl : begin'.length = parts.length) (h : FullOk parts rest) (ho : out.length ≤ 2000) :
    gath out (begins begin' (packs parts (parts.length - begin'.length) begin'.length rest)) = out ++ [begin'] := by
  rw [show parts.length - begin'.length = 0 by omega, packs_full h, begins_one, gath_one ho]
theorem pack_none {parts : List (List Int)} {rest begin' : List Int} {out : List (List Int)} (hl : begin'.length = parts.length) (h : ¬ FullOk parts rest) (ho : out.length ≤ 2000) :
    gath out (begins begin' (packs parts (parts.length - begin'.length) begin'.length rest)) = out := by
  rw [show parts.length - begin'.length = 0 by omega, packs_none h]; exact gath_nil (by omega)
theorem pack_end {parts : List (List Int)} {rest begin' : List Int} {out : List (List Int)} {f n : Nat} (hf : begin'.length + f = parts.length) (hp : begin'.length < parts.length) (hn : (n : Int) ≤ vM (parts[begin'.length]!) rest + 1)
    (h0 : 0 ≤ vM (parts[begin'.length]!) rest) (h : ¬ (n : Int) ≤ vM (parts[begin'.length]!) rest ∨ ¬ ((gath out (begins begin' (vV parts (f - 1) begin'.length rest n))).length : Int) ≤ 2000) :
    gath out (begins begin' (packs parts (parts.length - begin'.length) begin'.length rest)) = gath out (begins begin' (vV parts (f - 1) begin'.length rest n)) := by
  obtain ⟨f, rfl⟩ : ∃ g, f = g + 1 := ⟨f - 1, by omega⟩
  rw [show parts.length - begin'.length = f + 1 by omega]
  rw [show f + 1 - 1 = f from rfl] at h ⊢
  exact (gath_end (by omega) (by rcases h with h | h; (left; omega); (right; omega))).symm
theorem all_a {b : List Int} {parts : List (List Int)} (h : X4 b > 16) : zu b parts = ([], 3) := by rw [zu, if_pos h]
theorem all_b {b : List Int} {parts : List (List Int)} (h : ¬ X4 b > 16) (h1 : ((gath ([] : List (List Int)) (begins ([] : List Int) (packs parts (parts.length - ([] : List Int).length) ([] : List Int).length b))).length : Int) > 2000) : zu b parts = ([], 3) := by
  replace h1 : (gath [] (begins [] (packs parts (parts.length - 0) 0 b))).length > 2000 := by have : ((gath [] (begins [] (packs parts (parts.length - 0) 0 b))).length : Int) > 2000 := h1; omega
  rw [begins_nil] at h1
  have h2 : (packs parts parts.length 0 b).length > 2000 := gath_all.1 h1
  rw [zu, if_neg h, if_pos h2]
theorem all_0 {b : List Int} {parts : List (List Int)} (h : ¬ X4 b > 16) (h1 : ¬ ((gath ([] : List (List Int)) (begins ([] : List Int) (packs parts (parts.length - ([] : List Int).length) ([] : List Int).length b))).length : Int) > 2000) :
    zu b parts = (gath ([] : List (List Int)) (begins ([] : List Int) (packs parts (parts.length - ([] : List Int).length) ([] : List Int).length b)), 0) := by
  show zu b parts = (gath [] (begins [] (packs parts (parts.length - 0) 0 b)), 0)
  replace h1 : ¬ (gath [] (begins [] (packs parts (parts.length - 0) 0 b))).length > 2000 := fun h => h1 (by have : ((gath [] (begins [] (packs parts (parts.length - 0) 0 b))).length : Int) > 2000 := (by omega); exact this)
  rw [begins_nil] at h1 ⊢
  have h2 : ¬ (packs parts parts.length 0 b).length > 2000 := fun h => h1 (gath_all.2 h)
  rw [zu, if_neg h, if_neg h2, show parts.length - 0 = parts.length from rfl, gath_few h2]

theorem fmap_le {α β : Type} {c : Nat} (g : α → List β) : ∀ (l : List α), (∀ x ∈ l, (g x).length ≤ c) → (l.flatMap g).length ≤ l.length * c
  | [], _ => by simp
  | x :: l, h => by
    have h1 := h x (List.mem_cons_self ..)
    have h2 := fmap_le g l fun y hy => h y (List.mem_cons_of_mem _ hy)
    rw [List.flatMap_cons, List.length_append, List.length_cons, Nat.add_mul, Nat.one_mul]
    omega
theorem within_more {K : Nat} {parts : List (List Int)} {rest : List Int} (hP : PartsOk K parts) (hR : RestOk K rest) {k : Nat} (hk : k < parts.length) {n : Int} (h0 : 0 ≤ n) (h1 : n < vM (parts[k]!) rest) :
    within (parts[k]!) (vk rest (parts[k]!) (-n)) = true := by
  rw [within_iff]
  intro q hq
  obtain ⟨hl, hb, _⟩ := hP k hk
  rw [plus_get (by have := hR.1; omega)]
  have a := (take_get hP hR hk (show 0 ≤ n + 1 by omega) (by omega) (q := q) (by omega)).1
  have d : -n * (parts[k]!)[q]! = -(n * (parts[k]!)[q]!) := Int.neg_mul ..
  have e : -(n + 1) * (parts[k]!)[q]! = -((n + 1) * (parts[k]!)[q]!) := Int.neg_mul ..
  have g : (n + 1) * (parts[k]!)[q]! = n * (parts[k]!)[q]! + (parts[k]!)[q]! := by rw [Int.add_mul, Int.one_mul]
  omega
theorem within_none {K : Nat} {parts : List (List Int)} {rest : List Int} (hP : PartsOk K parts) (hR : RestOk K rest) {k : Nat} (hk : k < parts.length) (hb : vM (parts[k]!) rest < 1000) :
    within (parts[k]!) (vk rest (parts[k]!) (-(vM (parts[k]!) rest))) = false := by
  rw [Bool.eq_false_iff]
  intro hw
  rw [within_iff] at hw
  obtain ⟨hl, hbb, _⟩ := hP k hk
  have key : ∀ j, j ≤ (parts[k]!).length → vM (parts[k]!) rest + 1 ≤ jT (parts[k]!) rest j := by
    intro j
    induction j with
    | zero => intro _; rw [jT]; omega
    | succ j ih =>
      intro hj
      have hi := ih (by omega)
      rw [jT]
      split
      · next hpos =>
        have h1 := hw j (by omega)
        rw [plus_get (by have := hR.1; omega)] at h1
        have e : -(vM (parts[k]!) rest) * (parts[k]!)[j]! = -(vM (parts[k]!) rest * (parts[k]!)[j]!) := Int.neg_mul ..
        have g : (vM (parts[k]!) rest + 1) * (parts[k]!)[j]! = vM (parts[k]!) rest * (parts[k]!)[j]! + (parts[k]!)[j]! := by rw [Int.add_mul, Int.one_mul]
        have := (Int.le_ediv_iff_mul_le hpos).2 (show (vM (parts[k]!) rest + 1) * (parts[k]!)[j]! ≤ rest[j]! by omega)
        omega
      · exact hi
  have := key _ (Nat.le_refl _)
  unfold vM at this
  omega
theorem within_less {K : Nat} {l m m' : List Int} (hl : l.length = K) (h : within l m = false) (hle : ∀ q, q < K → m'[q]! ≤ m[q]!) : within l m' = false := by
  rw [Bool.eq_false_iff] at h ⊢
  intro hw
  rw [within_iff] at hw
  exact h (within_iff.2 fun q hq => Int.le_trans (hw q hq) (hle q (by omega)))
def Few (K : Nat) (rest : List Int) : Prop := ∀ q, q < K → rest[q]! ≤ 16
theorem Few.take {K : Nat} {parts : List (List Int)} {rest : List Int} (hF : Few K rest) (hP : PartsOk K parts) (hR : RestOk K rest) {k : Nat} (hk : k < parts.length) {n : Int} (h0 : 0 ≤ n) (h1 : n ≤ vM (parts[k]!) rest) : Few K (vk rest (parts[k]!) (-n)) := fun q hq => by
  rw [plus_get (by have := hR.1; omega)]
  have := take_get hP hR hk h0 h1 hq
  have := hF q hq
  omega
theorem times_few {K : Nat} {parts : List (List Int)} {rest : List Int} (hF : Few K rest) (hP : PartsOk K parts) (hR : RestOk K rest) {k : Nat} (hk : k < parts.length) : vM (parts[k]!) rest ≤ 16 := by
  obtain ⟨hl, hb, j, hj, hpos⟩ := hP k hk
  have h1 := timesTo_le (l := parts[k]!) (m := rest) (k := (parts[k]!).length) (j := j) (by omega) hpos
  have h2 : rest[j]! / (parts[k]!)[j]! ≤ 16 := by
    exact Int.le_trans (Int.ediv_le_self _ (hR.2 j hj).1) (hF j hj)
  unfold vM
  omega
theorem packs_ne {K : Nat} {parts : List (List Int)} (hP : PartsOk K parts) : ∀ (f k : Nat) (rest : List Int), k + f = parts.length → RestOk K rest → Few K rest → FullTo parts rest k → packs parts f k rest ≠ []
  | 0, k, rest, hk, hR, hF, hT => by
    rw [packs_full (fun i hi => hT i (by omega))]; simp
  | f + 1, k, rest, hk, hR, hF, hT => by
    have hb := times_bd hP hR (k := k) (by omega)
    have h16 := times_few hF hP hR (k := k) (by omega)
    have h1 := packs_ne hP f (k + 1) (vk rest (parts[k]!) (-(vM (parts[k]!) rest))) (by omega) (hR.take hP (by omega) hb.1 (Int.le_refl _)) (hF.take hP hR (by omega) hb.1 (Int.le_refl _)) (by
      refine FullTo.succ (fun i hi => ?_) (within_none hP hR (by omega) (by omega))
      refine within_less (K := K) (hP i (by omega)).1 (hT i hi) fun q hq => ?_
      rw [plus_get (by have := hR.1; omega)]
      exact (take_get hP hR (by omega) hb.1 (Int.le_refl _) hq).2)
    obtain ⟨x, hx⟩ := List.exists_mem_of_ne_nil _ h1
    refine List.ne_nil_of_mem (a := vM (parts[k]!) rest :: x) ?_
    rw [packs, List.mem_flatMap]
    have e : (((vM (parts[k]!) rest).toNat : Nat) : Int) = vM (parts[k]!) rest := by omega
    refine ⟨(vM (parts[k]!) rest).toNat, List.mem_range.2 (by omega), List.mem_map.2 ⟨x, ?_, by rw [e]⟩⟩
    rw [e]; exact hx
theorem packs_few {K : Nat} {parts : List (List Int)} (hP : PartsOk K parts) : ∀ (f k : Nat) (rest : List Int), k + (f + 1) = parts.length → RestOk K rest → Few K rest → (packs parts (f + 1) k rest).length ≤ 17 ^ f
  | 0, k, rest, hk, hR, hF => by
    have hb := times_bd hP hR (k := k) (by omega)
    rw [packs_succ, packsTo_succ, List.length_append, List.length_map]
    have h1 : vV parts 0 k rest (vM (parts[k]!) rest).toNat = [] := by
      rw [vV, List.flatMap_eq_nil_iff]
      intro n hn
      rw [List.mem_range] at hn
      rw [packs_none (fun h => ?_), List.map_nil]
      have h2 := within_more hP hR (k := k) (by omega) (n := (n : Int)) (by omega) (by omega)
      rw [h k (by omega)] at h2
      cases h2
    rw [h1, List.length_nil, Nat.zero_add, packs]
    split <;> simp
  | f + 1, k, rest, hk, hR, hF => by
    have hb := times_bd hP hR (k := k) (by omega)
    have h16 := times_few hF hP hR (k := k) (by omega)
    rw [packs]
    refine Nat.le_trans (fmap_le (c := 17 ^ f) _ _ fun n hn => ?_) ?_
    · rw [List.mem_range] at hn
      rw [List.length_map]
      exact packs_few hP f (k + 1) _ (by omega) (hR.take hP (by omega) (by omega) (by omega)) (hF.take hP hR (by omega) (by omega) (by omega))
    · rw [List.length_range, Nat.pow_succ, Nat.mul_comm]
      exact Nat.mul_le_mul_left _ (by omega)
theorem sum_few {K : Nat} {rest : List Int} (hR : RestOk K rest) (h : X4 rest ≤ 16) : Few K rest := by
  have key : ∀ n, n ≤ rest.length → 0 ≤ sumTo rest n ∧ ∀ q, q < n → rest[q]! ≤ sumTo rest n := by
    intro n
    induction n with
    | zero => intro _; exact ⟨by simp [sumTo], fun q hq => by omega⟩
    | succ n ih =>
      intro hn
      have hi := ih (by omega)
      have hr := hR.2 n (by have := hR.1; omega)
      rw [sumTo]
      refine ⟨by omega, fun q hq => ?_⟩
      by_cases e : q = n
      · subst e; omega
      · have := hi.2 q (by omega); omega
  intro q hq
  have := (key rest.length (Nat.le_refl _)).2 q (by have := hR.1; omega)
  unfold X4 at h
  omega
noncomputable def cellT (s : qy) (t : qE) (k c : Nat) : List Int := (applL s t k).filter fun x => decide ((s.qg[x.toNat]!).qp = (c : Int))
theorem cellT_yes {s : qy} {t : qE} {k c : Nat} (h : Appl s t k) (hc : (s.qg[k]!).qp = (c : Int)) : cellT s t k c ++ [(k : Int)] = cellT s t (k + 1) c := by
  unfold cellT; rw [← applL_yes h, List.filter_append, List.filter_cons_of_pos (by rw [Int.toNat_natCast]; exact decide_eq_true hc), List.filter_nil]
theorem Xd {s : qy} {t : qE} {k c : Nat} (h : ¬ Appl s t k) : cellT s t k c = cellT s t (k + 1) c := by
  unfold cellT; rw [← applL_no h]
theorem QG {s : qy} {t : qE} {k c : Nat} (h : ¬ (s.qg[k]!).qp = (c : Int)) : cellT s t k c = cellT s t (k + 1) c := by
  by_cases ha : Appl s t k
  · unfold cellT; rw [← applL_yes ha, List.filter_append, List.filter_cons_of_neg (by rw [Int.toNat_natCast]; simpa only [decide_eq_true_eq] using h), List.filter_nil, List.append_nil]
  · exact Xd ha
def xI (s : qy) (l : List Int) : List (List Int) := l.map fun x => (s.qg[x.toNat]!).qV
theorem XG (s : qy) (l : List Int) : (xI s l).length = l.length := by simp [xI]
theorem needs_snoc (s : qy) (l : List Int) (x : Int) : xI s l ++ [(s.qg[x.toNat]!).qV] = xI s (l ++ [x]) := by simp [xI]
theorem needs_yes {s : qy} {t : qE} {k c : Nat} (h : Appl s t k) (hc : (s.qg[k]!).qp = (c : Int)) : xI s (cellT s t k c) ++ [(s.qg[k]!).qV] = xI s (cellT s t (k + 1) c) := by
  rw [← cellT_yes h hc]; exact needs_snoc s _ (k : Int)
theorem needs_take {s : qy} {l : List Int} {k : Nat} (h : k < l.length) : xI s (l.take k) ++ [(s.qg[(l[k]!).toNat]!).qV] = xI s (l.take (k + 1)) := by rw [needs_snoc, take_snoc h]
theorem needs_get {s : qy} {l : List Int} {k : Nat} (h : k < l.length) : (xI s l)[k]! = (s.qg[(l[k]!).toNat]!).qV := by
  rw [getElem!_pos (xI s l) k (by rw [XG]; exact h)]; simp [xI, getElem!_pos l k h]
noncomputable def xY (s : qy) (t : qE) (c : Nat) : List Int := cellT s t s.qg.length c
noncomputable def cellP (s : qy) (t : qE) (c : Nat) : List (List Int) × Int := zu (t.ql[c]!) (xI s (xY s t c))
theorem mem_cellT {s : qy} {t : qE} {k c : Nat} {x : Int} (h : x ∈ cellT s t k c) : 0 ≤ x ∧ x.toNat < k ∧ Appl s t x.toNat ∧ (s.qg[x.toNat]!).qp = (c : Int) := by
  unfold cellT at h
  obtain ⟨h1, h2⟩ := List.mem_filter.1 h
  obtain ⟨a, b, d⟩ := mem_applL.1 h1
  exact ⟨a, b, d, by simpa using h2⟩
theorem cellT_at {s : qy} {t : qE} {k c j : Nat} (h : j < (cellT s t k c).length) : 0 ≤ (cellT s t k c)[j]! ∧ ((cellT s t k c)[j]!).toNat < k ∧ Appl s t ((cellT s t k c)[j]!).toNat ∧ (s.qg[((cellT s t k c)[j]!).toNat]!).qp = (c : Int) :=
  mem_cellT (by rw [getElem!_pos _ j h]; exact List.getElem_mem h)
theorem cellR_at {s : qy} {t : qE} {c j : Nat} (h : j < (xY s t c).length) : 0 ≤ (xY s t c)[j]! ∧ ((xY s t c)[j]!).toNat < s.qg.length ∧ Appl s t ((xY s t c)[j]!).toNat ∧ (s.qg[((xY s t c)[j]!).toNat]!).qp = (c : Int) := cellT_at h
theorem ofCell_all {s : qy} (hs : jG s) (c : Int) : ∀ k, k ≤ s.qg.length → Ve s.qg c k ≤ 8
  | 0, _ => by simp [Ve]
  | k + 1, hk => by
    have h := ofCell_all hs c k (by omega)
    by_cases e : (s.qg[k]!).qp = c
    · have := (hs.2.2 k (by omega)).2; rw [e] at this; exact this
    · rw [Ve, if_neg e]; omega
theorem cellT_len {s : qy} {t : qE} {c : Nat} : ∀ k, ((cellT s t k c).length : Int) ≤ Ve s.qg (c : Int) k
  | 0 => by simp [cellT, applL, Ve]
  | k + 1 => by
    have h := cellT_len (s := s) (t := t) (c := c) k
    rw [Ve]
    by_cases e : (s.qg[k]!).qp = (c : Int)
    · rw [if_pos e]
      by_cases ha : Appl s t k
      · rw [← cellT_yes ha e, List.length_append, List.length_singleton]; omega
      · rw [← Xd ha]; omega
    · rw [if_neg e, ← QG e]; omega
theorem cellT_le (s : qy) (t : qE) (k c : Nat) : (cellT s t k c).length ≤ k := Nat.le_trans (List.length_filter_le _ _) (applL_le s t k)
theorem cellR_len {s : qy} {t : qE} (hs : jG s) (c : Nat) : (xY s t c).length ≤ 8 := by
  have := cellT_len (s := s) (t := t) (c := c) s.qg.length
  have := ofCell_all hs (c : Int) s.qg.length (Nat.le_refl _)
  unfold xY; omega
theorem cell_parts {s : qy} {t : qE} (hs : jG s) (c : Nat) : PartsOk (yZ s) (xI s (xY s t c)) := by
  intro i hi
  rw [XG] at hi
  obtain ⟨a1, a2, a3, a4⟩ := cellR_at hi
  rw [needs_get hi]
  have q := hs.rule a2
  have b := q.2.2.2.2.1
  have hl := b.len
  have hsum := q.2.2.2.2.2.2.2.2.2.1
  obtain ⟨j, hj, hp⟩ := sum_pos b.1 hsum
  exact ⟨hl, fun q' hq' => b.get (by omega), j, by omega, hp⟩
theorem cell_rest {s : qy} {t : qE} (ht : zt s t) {c : Nat} (hc : c < t.ql.length) : RestOk (yZ s) (t.ql[c]!) := by
  have b := (ht.2.2.2.2 c hc).1
  exact ⟨b.len, fun q hq => b.get (by have := b.len; omega)⟩
theorem cell_pack {s : qy} {t : qE} (hs : jG s) (ht : zt s t) {c : Nat} (hc : c < t.ql.length) : VC (xI s (xY s t c)) (t.ql[c]!) :=
  ⟨yZ s, kinds_le hs, cell_parts hs c, cell_rest ht hc, by rw [XG]; exact cellR_len hs c⟩
theorem all_cases {b : List Int} {parts : List (List Int)} : (zu b parts = ([], 3)) ∨ (X4 b ≤ 16 ∧ zu b parts = (packs parts parts.length 0 b, 0) ∧ (packs parts parts.length 0 b).length ≤ 2000) := by
  unfold zu
  split
  · exact .inl rfl
  · split
    · exact .inl rfl
    · exact .inr ⟨by omega, rfl, by omega⟩
theorem all_len (b : List Int) (parts : List (List Int)) : (zu b parts).1.length ≤ 2000 := by
  rcases all_cases (b := b) (parts := parts) with h | ⟨_, h, h1⟩ <;> rw [h]
  · simp
  · exact h1
theorem all_at {b : List Int} {parts : List (List Int)} {x : Nat} (h : x < (zu b parts).1.length) : ((zu b parts).1[x]!).length = parts.length := by
  rcases all_cases (b := b) (parts := parts) with h1 | ⟨_, h1, _⟩
  · rw [h1] at h; simp at h
  · rw [h1] at h ⊢
    exact packs_len (by rw [getElem!_pos _ x h]; exact List.getElem_mem h)
theorem all_code {b : List Int} {parts : List (List Int)} (h : (zu b parts).2 ≠ 0) : (zu b parts).2 = 3 := by
  rcases all_cases (b := b) (parts := parts) with h1 | ⟨_, h1, _⟩
  · rw [h1]
  · rw [h1] at h; exact absurd rfl h

def FewTo (s : qy) (t : qE) (k : Nat) : Prop := ∀ c, c < k → (xY s t c).length = 0 ∨ ¬ X4 (t.ql[c]!) > 16
theorem FewTo.succ {s : qy} {t : qE} {k : Nat} (h : FewTo s t k) (h1 : (xY s t k).length = 0 ∨ ¬ X4 (t.ql[k]!) > 16) : FewTo s t (k + 1) := fun j hj => by
  by_cases e : j = k
  · subst e; exact h1
  · exact h j (by omega)
def GoodP (s : qy) (t : qE) (k : Nat) : Prop := ∀ c, c < k → (xY s t c).length = 0 ∨ (cellP s t c).2 = 0
theorem GoodP.succ {s : qy} {t : qE} {k : Nat} (h : GoodP s t k) (h1 : (xY s t k).length = 0 ∨ (cellP s t k).2 = 0) : GoodP s t (k + 1) := fun j hj => by
  by_cases e : j = k
  · subst e; exact h1
  · exact h j (by omega)
theorem bad_sum {s : qy} {t : qE} {c n : Nat} (hc : c < n) (h : ¬ (xY s t c).length = 0) (h1 : X4 (t.ql[c]!) > 16) : ¬ GoodP s t n := fun hg => by
  rcases hg c hc with h2 | h2
  · exact h h2
  · unfold cellP at h2; rw [all_a h1] at h2; simp at h2
theorem bad_code {s : qy} {t : qE} {c n : Nat} (hc : c < n) (h : ¬ (xY s t c).length = 0) (h1 : ¬ (cellP s t c).2 = 0) : ¬ GoodP s t n := fun hg => (hg c hc).elim h h1
noncomputable def X5 (s : qy) (t : qE) (k : Nat) : List Nat := (List.range k).filter fun c => decide ((xY s t c).length ≠ 0)
noncomputable def qO (s : qy) (t : qE) (k : Nat) : List (List Int) := (X5 s t k).map (xY s t)
noncomputable def xk (s : qy) (t : qE) (k : Nat) : List (List (List Int)) := (X5 s t k).map fun c => (cellP s t c).1
theorem live_yes {s : qy} {t : qE} {k : Nat} (h : ¬ (xY s t k).length = 0) : X5 s t (k + 1) = X5 s t k ++ [k] := by unfold X5; rw [List.range_succ, List.filter_append, List.filter_cons_of_pos (a := k) (by simpa only [decide_eq_true_eq] using h), List.filter_nil]
theorem live_no {s : qy} {t : qE} {k : Nat} (h : (xY s t k).length = 0) : X5 s t (k + 1) = X5 s t k := by unfold X5; rw [List.range_succ, List.filter_append, List.filter_cons_of_neg (by simp only [decide_eq_true_eq]; exact fun x => x h), List.filter_nil, List.append_nil]
theorem rules_yes {s : qy} {t : qE} {k : Nat} (h : ¬ (xY s t k).length = 0) : qO s t k ++ [xY s t k] = qO s t (k + 1) := by simp [qO, live_yes h]
theorem rules_no {s : qy} {t : qE} {k : Nat} (h : (xY s t k).length = 0) : qO s t k = qO s t (k + 1) := by simp [qO, live_no h]
theorem packsL_yes {s : qy} {t : qE} {k : Nat} (h : ¬ (xY s t k).length = 0) : xk s t k ++ [(cellP s t k).1] = xk s t (k + 1) := by simp [xk, live_yes h]
theorem packsL_no {s : qy} {t : qE} {k : Nat} (h : (xY s t k).length = 0) : xk s t k = xk s t (k + 1) := by simp [xk, live_no h]
theorem live_le (s : qy) (t : qE) (k : Nat) : (X5 s t k).length ≤ k := by
  have := List.length_filter_le (fun c => decide ((xY s t c).length ≠ 0)) (List.range k)
  simpa [X5] using this
theorem rules_le (s : qy) (t : qE) (k : Nat) : (qO s t k).length ≤ k := by simpa [qO] using live_le s t k
theorem packsL_le (s : qy) (t : qE) (k : Nat) : (xk s t k).length = (qO s t k).length := by simp [xk, qO]
theorem live_at {s : qy} {t : qE} {k i : Nat} (h : i < (qO s t k).length) : ∃ c, c < k ∧ ¬ (xY s t c).length = 0 ∧ (qO s t k)[i]! = xY s t c ∧ (xk s t k)[i]! = (cellP s t c).1 := by
  have hl : i < (X5 s t k).length := by simpa [qO] using h
  have hm := List.mem_filter.1 (show (X5 s t k)[i] ∈ X5 s t k from List.getElem_mem hl)
  refine ⟨(X5 s t k)[i], by simpa using hm.1, by simpa using hm.2, ?_, ?_⟩
  · rw [getElem!_pos _ i h]; simp [qO]
  · rw [getElem!_pos _ i (by rw [packsL_le]; exact h)]; simp [xk]

def QO (all : List (List (List Int))) : Nat → Nat
  | 0 => 1
  | k + 1 => QO all k * (all[k]!).length
theorem prod_mul (all : List (List (List Int))) (k : Nat) : ((QO all k : Nat) : Int) * ((all[k]!).length : Int) = ((QO all (k + 1) : Nat) : Int) := by rw [QO, Int.natCast_mul]
theorem prod_mono {all : List (List (List Int))} {n : Nat} (h : ∀ j, j < n → all[j]! ≠ []) : ∀ {j i : Nat}, i ≤ j → j ≤ n → QO all i ≤ QO all j
  | 0, i, hi, _ => by obtain rfl : i = 0 := by omega
                      exact Nat.le_refl _
  | j + 1, i, hi, hj => by
    by_cases e : i = j + 1
    · subst e; exact Nat.le_refl _
    · have h1 := prod_mono h (show i ≤ j by omega) (by omega)
      have h2 : 0 < (all[j]!).length := List.length_pos_iff.2 (h j (by omega))
      rw [QO]
      exact Nat.le_trans h1 (Nat.le_mul_of_pos_right _ h2)
theorem prod_pre {l : List (List (List Int))} {x : List (List Int)} : ∀ {k : Nat}, k ≤ l.length → QO (l ++ [x]) k = QO l k
  | 0, _ => rfl
  | k + 1, h => by
    rw [QO, QO, prod_pre (by omega)]
    congr 1
    rw [getElem!_pos (l ++ [x]) k (by simp; omega), getElem!_pos l k (by omega), List.getElem_append_left]
theorem prod_snoc (l : List (List (List Int))) (x : List (List Int)) : QO (l ++ [x]) (l ++ [x]).length = QO l l.length * x.length := by
  rw [List.length_append, List.length_singleton, QO, prod_pre (Nat.le_refl _)]
  congr 1
  rw [getElem!_pos (l ++ [x]) l.length (by simp)]; simp
theorem cellP_ne {s : qy} {t : qE} (hs : jG s) (ht : zt s t) {c : Nat} (hc : c < t.ql.length) (h : (cellP s t c).2 = 0) : (cellP s t c).1 ≠ [] := by
  unfold cellP at h ⊢
  rcases all_cases (b := t.ql[c]!) (parts := xI s (xY s t c)) with h1 | ⟨h0, h1, _⟩
  · rw [h1] at h; simp at h
  · rw [h1]
    exact packs_ne (cell_parts hs c) _ 0 _ (Nat.zero_add _) (cell_rest ht hc) (sum_few (cell_rest ht hc) h0) fun i hi => by omega
theorem cellP_few {s : qy} {t : qE} (hs : jG s) (ht : zt s t) {c : Nat} (hc : c < t.ql.length) (hr : ¬ (xY s t c).length = 0) : (cellP s t c).1.length ≤ 17 ^ ((xY s t c).length - 1) := by
  unfold cellP
  rcases all_cases (b := t.ql[c]!) (parts := xI s (xY s t c)) with h1 | ⟨h0, h1, _⟩
  · rw [h1]; simp
  · rw [h1]
    have := packs_few (cell_parts (t := t) hs c) ((xY s t c).length - 1) 0 _ (by rw [XG]; omega) (cell_rest ht hc) (sum_few (cell_rest ht hc) h0)
    rw [XG, show (xY s t c).length = (xY s t c).length - 1 + 1 by omega]
    exact this
noncomputable def sumR (s : qy) (t : qE) : Nat → Nat
  | 0 => 0
  | k + 1 => sumR s t k + (xY s t k).length
theorem filter_two (f : Int → Int) (k : Int) : ∀ (l : List Int), (l.filter fun x => decide (f x < k + 1)).length = (l.filter fun x => decide (f x < k)).length + (l.filter fun x => decide (f x = k)).length
  | [] => rfl
  | x :: l => by
    have h := filter_two f k l
    simp only [List.filter_cons]
    by_cases h1 : f x < k
    · rw [if_pos (by simp; omega), if_pos (by simpa using h1), if_neg (by simp; omega)]; simp only [List.length_cons]; omega
    · by_cases h2 : f x = k
      · rw [if_pos (by simp; omega), if_neg (by simpa using h1), if_pos (by simpa using h2)]; simp only [List.length_cons]; omega
      · rw [if_neg (by simp; omega), if_neg (by simpa using h1), if_neg (by simpa using h2)]; exact h
theorem sumR_eq (s : qy) (t : qE) : ∀ k, sumR s t k ≤ ((appls s t).filter fun x => decide ((s.qg[x.toNat]!).qp < (k : Int))).length
  | 0 => Nat.zero_le _
  | k + 1 => by
    have h := sumR_eq s t k
    have h2 := filter_two (fun x => (s.qg[x.toNat]!).qp) (k : Int) (appls s t)
    rw [sumR, show ((k + 1 : Nat) : Int) = (k : Int) + 1 by omega, h2]
    exact Nat.add_le_add h (Nat.le_refl _)
theorem sumR_le {s : qy} {t : qE} (hs : jG s) (k : Nat) : sumR s t k ≤ 16 :=
  Nat.le_trans (sumR_eq s t k) (Nat.le_trans (List.length_filter_le _ _) (Nat.le_trans (applL_le s t _) hs.2.1))
theorem prod_few {s : qy} {t : qE} (hs : jG s) (ht : zt s t) : ∀ k, k ≤ t.ql.length → QO (xk s t k) (xk s t k).length ≤ 17 ^ (sumR s t k - 1)
  | 0, _ => by show QO [] 0 ≤ _; rw [QO]; exact Nat.one_le_pow _ _ (by decide)
  | k + 1, hk => by
    have h := prod_few hs ht k (by omega)
    rw [sumR]
    by_cases e : (xY s t k).length = 0
    · rw [← packsL_no e, e]; exact h
    · rw [← packsL_yes e, prod_snoc]
      refine Nat.le_trans (Nat.mul_le_mul h (cellP_few hs ht (by omega) e)) ?_
      rw [← Nat.pow_add]
      exact Nat.pow_le_pow_right (by decide) (by omega)
theorem packsL_ne {s : qy} {t : qE} (hs : jG s) (ht : zt s t) {k : Nat} (hk : k ≤ t.ql.length) (hg : GoodP s t k) : ∀ j, j < (xk s t k).length → (xk s t k)[j]! ≠ [] := fun j hj => by
  obtain ⟨c, hc, hr, _, h2⟩ := live_at (s := s) (t := t) (k := k) (i := j) (by rw [← packsL_le]; exact hj)
  rw [h2]
  exact cellP_ne hs ht (by omega) ((hg c hc).resolve_left hr)
theorem prod_bd {s : qy} {t : qE} (hs : jG s) (ht : zt s t) {k : Nat} (hk : k ≤ t.ql.length) (hg : GoodP s t k) : ∀ j, j ≤ (xk s t k).length → ((QO (xk s t k) j : Nat) : Int) ≤ 2862423051509815793 := fun j hj => by
  have h1 := prod_mono (packsL_ne hs ht hk hg) hj (Nat.le_refl _)
  have h2 := prod_few hs ht k hk
  have h3 : 17 ^ (sumR s t k - 1) ≤ 17 ^ 15 := Nat.pow_le_pow_right (by decide) (by have := sumR_le (t := t) hs k; omega)
  have h4 : 17 ^ 15 = 2862423051509815793 := by decide
  omega

def setTo (o r x : List Int) : Nat → List Int
  | 0 => o
  | k + 1 => (setTo o r x k).set (r[k]!).toNat (x[k]!)
theorem setTo_len (o r x : List Int) : ∀ k, (setTo o r x k).length = o.length
  | 0 => rfl
  | k + 1 => by rw [setTo, List.length_set, setTo_len o r x k]
def setAll (o r x : List Int) : List Int := setTo o r x r.length
theorem setAll_len (o r x : List Int) : (setAll o r x).length = o.length := setTo_len o r x _
def nextK (G : List (List Int)) (r : List Int) (P : List (List Int)) (k : Nat) : List (List Int) := (G.take k).flatMap fun o => P.map (setAll o r)
def nextX (G : List (List Int)) (r : List Int) (P : List (List Int)) (k x : Nat) : List (List Int) := nextK G r P k ++ (P.take x).map (setAll (G[k]!) r)
theorem nextX_zero (G : List (List Int)) (r : List Int) (P : List (List Int)) (k : Nat) : nextK G r P k = nextX G r P k 0 := by simp [nextX]
theorem nextX_succ {G : List (List Int)} {r : List Int} {P : List (List Int)} {k x : Nat} (h : x < P.length) {v : List Int} (hv : v = setAll (G[k]!) r (P[x]!)) : nextX G r P k x ++ [v] = nextX G r P k (x + 1) := by
  subst hv; unfold nextX; rw [List.append_assoc, ← take_snoc h, List.map_append]; rfl
theorem nextX_end {G : List (List Int)} {r : List Int} {P : List (List Int)} {k x : Nat} (hk : k < G.length) (h : x = P.length) : nextX G r P k x = nextK G r P (k + 1) := by
  subst h; unfold nextX nextK; rw [List.take_length, ← take_snoc hk, List.flatMap_append]; simp
theorem nextK_len {G : List (List Int)} {r : List Int} {P : List (List Int)} : ∀ {k : Nat}, k ≤ G.length → (nextK G r P k).length = k * P.length
  | 0, _ => by simp [nextK]
  | k + 1, h => by
    rw [← nextX_end (show k < G.length by omega) rfl, nextX, List.length_append, nextK_len (by omega), List.take_length, List.length_map, Nat.add_mul, Nat.one_mul]
theorem nextX_len {G : List (List Int)} {r : List Int} {P : List (List Int)} {k x : Nat} (hk : k < G.length) (hx : x ≤ P.length) : (nextX G r P k x).length = k * P.length + x := by
  rw [nextX, List.length_append, nextK_len (by omega), List.length_map, List.length_take]; omega
theorem nextX_le {G : List (List Int)} {r : List Int} {P : List (List Int)} {k x : Nat} (hk : k < G.length) (hx : x ≤ P.length) : (nextX G r P k x).length ≤ G.length * P.length := by
  rw [nextX_len hk hx]
  have := Nat.mul_le_mul_right P.length (show k + 1 ≤ G.length from hk)
  rw [Nat.add_mul, Nat.one_mul] at this
  omega
def vF (n : Nat) (rs : List (List Int)) (all : List (List (List Int))) : Nat → List (List Int)
  | 0 => [List.replicate n 0]
  | i + 1 => nextK (vF n rs all i) (rs[i]!) (all[i]!) (vF n rs all i).length
theorem XF {n : Nat} {rs : List (List Int)} {all : List (List (List Int))} : ∀ i, (vF n rs all i).length = QO all i
  | 0 => rfl
  | i + 1 => by rw [vF, nextK_len (Nat.le_refl _), XF i, QO]
theorem mem_at_L {l : List (List Int)} {k : Nat} (h : k < l.length) : l[k]! ∈ l := by rw [getElem!_pos l k h]; exact List.getElem_mem h
theorem prodG_row {n : Nat} {rs : List (List Int)} {all : List (List (List Int))} : ∀ i, ∀ x ∈ vF n rs all i, x.length = n
  | 0, x, h => by obtain rfl := List.mem_singleton.1 h; simp
  | i + 1, x, h => by
    rw [vF, nextK, List.mem_flatMap] at h
    obtain ⟨o, ho, h⟩ := h
    obtain ⟨y, _, rfl⟩ := List.mem_map.1 h
    rw [setAll_len]
    exact prodG_row i o (List.mem_of_mem_take ho)
theorem prodG_at {n : Nat} {rs : List (List Int)} {all : List (List (List Int))} {i k : Nat} (h : k < (vF n rs all i).length) : ((vF n rs all i)[k]!).length = n := prodG_row i _ (mem_at_L h)
open Classical in
noncomputable def inOrder (l : List (List Int)) : List (List Int) := if h : ∃ m, l.Perm m ∧ InOrder m then Classical.choose h else l
theorem inOrder_eq {n : Nat} {l m : List (List Int)} (hn : ∀ x ∈ l, x.length = n) (hp : l.Perm m) (ho : InOrder m) : inOrder l = m := by
  have h : ∃ m, l.Perm m ∧ InOrder m := ⟨m, hp, ho⟩
  unfold inOrder
  rw [dif_pos h]
  have hc := Classical.choose_spec h
  exact order_one (n := n) (fun x hx => hn x (hc.1.symm.subset hx)) (hc.1.symm.trans hp) hc.2 ho
open Classical in
noncomputable def zG (s : qy) (t : qE) : List (List Int) × Int :=
  if ¬ GoodP s t s.qf.length then ([], 3) else if QO (xk s t s.qf.length) (xk s t s.qf.length).length > 300 then ([], 3)
  else (inOrder (vF s.qg.length (qO s t s.qf.length) (xk s t s.qf.length) (xk s t s.qf.length).length), 0)
theorem cho_3 {s : qy} {t : qE} (h : ¬ GoodP s t s.qf.length ∨ QO (xk s t s.qf.length) (xk s t s.qf.length).length > 300) : zG s t = ([], 3) := by
  unfold zG
  by_cases h1 : GoodP s t s.qf.length
  · rw [if_neg (by simpa using h1), if_pos (h.resolve_left (by simpa using h1))]
  · rw [if_pos h1]
theorem cho_0 {s : qy} {t : qE} {m : List (List Int)} (h : GoodP s t s.qf.length) (h1 : ¬ QO (xk s t s.qf.length) (xk s t s.qf.length).length > 300)
    (hp : (vF s.qg.length (qO s t s.qf.length) (xk s t s.qf.length) (xk s t s.qf.length).length).Perm m) (ho : InOrder m) : zG s t = (m, 0) := by
  unfold zG
  rw [if_neg (by simpa using h), if_neg h1, inOrder_eq (prodG_row _) hp ho]
theorem in_order {l : List (List Int)} {i : Nat} (hi : l.length ≤ i) (h : ∀ a b, a < b → b < i → ¬ ahead (l[b]!) (l[a]!)) : InOrder l := by
  have := (orderTo_iff (l := l) (k := l.length) (Nat.le_refl _)).2 fun a b hab hb => h a b hab (by omega)
  unfold OrderTo at this
  rwa [List.take_length] at this
theorem cho_code {s : qy} {t : qE} {b : List Int} {p : List (List Int)} (h : ¬ GoodP s t s.qf.length) (h1 : ¬ (zu b p).2 = 0) : zG s t = ([], (zu b p).2) := by rw [cho_3 (.inl h), all_code h1]
theorem next_le {n i k x : Nat} {rs : List (List Int)} {all : List (List (List Int))} (h : ∀ j, j < all.length → all[j]! ≠ []) (h1 : ¬ QO all all.length > 300) (hi : i < all.length) (hk : k < (vF n rs all i).length) (hx : x ≤ (all[i]!).length) : (nextX (vF n rs all i) (rs[i]!) (all[i]!) k x).length ≤ 300 := by
  have h2 := nextX_le (r := rs[i]!) hk hx
  have h3 := prod_mono h (show i + 1 ≤ all.length from hi) (Nat.le_refl _)
  rw [QO, ← XF (n := n) (rs := rs) i] at h3
  omega
theorem G_le {n i : Nat} {rs : List (List Int)} {all : List (List (List Int))} (h : ∀ j, j < all.length → all[j]! ≠ []) (h1 : ¬ QO all all.length > 300) (hi : i ≤ all.length) : (vF n rs all i).length ≤ 300 := by
  have h3 := prod_mono h hi (Nat.le_refl _)
  rw [XF]; omega
theorem cell_few {s : qy} {t : qE} {n i : Nat} (hs : jG s) (hi : i < (qO s t n).length) : ((qO s t n)[i]!).length ≤ 8 ∧ ((xk s t n)[i]!).length ≤ 2000 := by
  obtain ⟨c, _, _, e, e1⟩ := live_at hi
  rw [e, e1]
  exact ⟨cellR_len hs c, all_len _ _⟩
theorem choice_at {s : qy} {t : qE} {n i r : Nat} (hi : i < (qO s t n).length) (hr : r < ((qO s t n)[i]!).length) : 0 ≤ ((qO s t n)[i]!)[r]! ∧ (((qO s t n)[i]!)[r]!).toNat < s.qg.length := by
  obtain ⟨c, _, _, e, _⟩ := live_at hi
  rw [e] at hr ⊢
  have := cellR_at hr
  exact ⟨this.1, this.2.1⟩
theorem pack_at {s : qy} {t : qE} {n i x : Nat} (hi : i < (qO s t n).length) (hx : x < ((xk s t n)[i]!).length) : (((xk s t n)[i]!)[x]!).length = ((qO s t n)[i]!).length := by
  obtain ⟨c, _, _, e, e1⟩ := live_at hi
  rw [e1] at hx ⊢
  rw [e]
  exact (all_at hx).trans (XG _ _)
theorem perm_rows {n m : Nat} {rs : List (List Int)} {all : List (List (List Int))} {l : List (List Int)} (h : (vF n rs all m).Perm l) : ∀ j, j < l.length → (l[j]!).length = n := fun j hj => prodG_row m _ (h.symm.subset (mem_at_L hj))
theorem perm_swap {l m : List (List Int)} {k : Nat} (h : l.Perm m) (hk : 0 < k) (hl : k < m.length) : l.Perm (swapAt m k) := h.trans (swap_perm hk hl).symm
theorem cho_len (s : qy) (t : qE) : (zG s t).1.length ≤ 300 := by
  unfold zG
  split
  · simp
  · split
    · simp
    · next h1 h2 =>
      show (inOrder _).length ≤ 300
      unfold inOrder
      split
      · next h => rw [← (Classical.choose_spec h).1.length_eq, XF]; omega
      · rw [XF]; omega
noncomputable def ownL (e : TypeId) (s : qy) (t : qE) (n q : Nat) : List (OwnI e) := (List.range n).map fun (c : Nat) => ⟨((appls s t).take q).filter fun x => decide ((s.qg[x.toNat]!).qp = (c : Int))⟩
theorem ownL_len (e : TypeId) (s : qy) (t : qE) (n q : Nat) : (ownL e s t n q).length = n := by simp [ownL]
theorem ownL_get {e : TypeId} {s : qy} {t : qE} {n q c : Nat} (h : c < n) : (ownL e s t n q)[c]! = ⟨((appls s t).take q).filter fun x => decide ((s.qg[x.toNat]!).qp = (c : Int))⟩ := by
  rw [getElem!_pos (ownL e s t n q) c (by rw [ownL_len]; exact h)]; simp [ownL]
theorem ownL_zero (e : TypeId) (s : qy) (t : qE) (n : Nat) : List.replicate n (⟨[]⟩ : OwnI e) = ownL e s t n 0 := by
  refine List.ext_getElem (by simp [ownL]) fun i h1 h2 => by simp [ownL]
theorem ownL_set {e : TypeId} {s : qy} {t : qE} {n q c : Nat} (hq : q < (appls s t).length) (hc : (s.qg[((appls s t)[q]!).toNat]!).qp.toNat = c) (h0 : 0 ≤ (s.qg[((appls s t)[q]!).toNat]!).qp) (hn : c < n)
    {l : List (OwnI e)} (hl : l = (ownL e s t n q).set c ⟨((ownL e s t n q)[c]!).l ++ [(appls s t)[q]!]⟩) : l = ownL e s t n (q + 1) := by
  subst hl
  refine List.ext_getElem (by simp [ownL]) fun i h1 h2 => ?_
  have hi : i < n := by simpa [ownL] using h1
  rw [← getElem!_pos _ i h1, ← getElem!_pos _ i h2, getset (by rw [ownL_len]; exact hn), ownL_get (q := q + 1) hi]
  rw [← take_snoc hq, List.filter_append]
  by_cases e' : i = c
  · subst e'
    rw [if_pos rfl, ownL_get hi, List.filter_cons_of_pos (a := (appls s t)[q]!) (decide_eq_true (by omega)), List.filter_nil]
  · rw [if_neg e', ownL_get hi]
    rw [List.filter_cons_of_neg (a := (appls s t)[q]!) (fun h => by have := of_decide_eq_true h; omega), List.filter_nil, List.append_nil]
theorem ownL_le {e : TypeId} {s : qy} {t : qE} {n q c : Nat} (h : c < n) : ((ownL e s t n q)[c]!).l.length ≤ (appls s t).length := by
  rw [ownL_get h]
  exact Nat.le_trans (List.length_filter_le _ _) (by rw [List.length_take]; omega)
noncomputable def cellsR (s : qy) (t : qE) (n : Nat) : List (List Int) := (List.range n).map (xY s t)
theorem cellsR_len (s : qy) (t : qE) (n : Nat) : (cellsR s t n).length = n := by simp [cellsR]
theorem cellsR_get {s : qy} {t : qE} {n c : Nat} (h : c < n) : (cellsR s t n)[c]! = xY s t c := by
  rw [getElem!_pos (cellsR s t n) c (by rw [cellsR_len]; exact h)]; simp [cellsR]
theorem ownL_end {e : TypeId} {s : qy} {t : qE} {n q : Nat} (h : (appls s t).length ≤ q) : (ownL e s t n q).map OwnI.l = cellsR s t n := by
  unfold ownL cellsR
  rw [List.take_of_length_le h, List.map_map]
  rfl
theorem own_bad {s : qy} {t : qE} (hs : jG s) {q : Nat} (hq : q < (appls s t).length) (h1 : X4 (t.ql[(s.qg[((appls s t)[q]!).toNat]!).qp.toNat]!) > 16) : ¬ GoodP s t s.qf.length := by
  have hm : (appls s t)[q]! ∈ appls s t := by rw [getElem!_pos _ q hq]; exact List.getElem_mem hq
  obtain ⟨a, b, d⟩ := mem_applL.1 hm
  have hc := (hs.rule b).1
  have hcl := (hs.rule b).cell
  refine bad_sum (c := (s.qg[((appls s t)[q]!).toNat]!).qp.toNat) hcl (fun h0 => ?_) h1
  have : (appls s t)[q]! ∈ xY s t (s.qg[((appls s t)[q]!).toNat]!).qp.toNat := by
    unfold xY cellT
    exact List.mem_filter.2 ⟨hm, decide_eq_true (Int.toNat_of_nonneg hc.1).symm⟩
  rw [List.eq_nil_of_length_eq_zero h0] at this
  simp at this
noncomputable def Qq (s : qy) (t : qE) (k : Nat) : List inCellD := (X5 s t k).map fun c => ⟨xY s t c, (cellP s t c).1⟩
theorem cells_len (s : qy) (t : qE) (k : Nat) : (Qq s t k).length = (qO s t k).length := by simp [Qq, qO]
theorem cells_yes {s : qy} {t : qE} {k : Nat} (h : ¬ (xY s t k).length = 0) : Qq s t k ++ [⟨xY s t k, (cellP s t k).1⟩] = Qq s t (k + 1) := by simp [Qq, live_yes h]
theorem cells_no {s : qy} {t : qE} {k : Nat} (h : (xY s t k).length = 0) : Qq s t k = Qq s t (k + 1) := by simp [Qq, live_no h]
theorem cells_at {s : qy} {t : qE} {k i : Nat} (h : i < (Qq s t k).length) : ((Qq s t k)[i]!).frules = (qO s t k)[i]! ∧ ((Qq s t k)[i]!).fpackings = (xk s t k)[i]! := by
  have h1 : i < (qO s t k).length := by rw [← cells_len]; exact h
  have h2 : i < (xk s t k).length := by rw [packsL_le]; exact h1
  rw [getElem!_pos _ i h, getElem!_pos _ i h1, getElem!_pos _ i h2]
  simp [Qq, qO, xk]
theorem prod_stop {all : List (List (List Int))} {n i k : Nat} (h : ∀ j, j < n → all[j]! ≠ []) (hi : i < n) {G : List (List Int)} {r : List Int} (hG : G.length = QO all i) (hk : k ≤ G.length) (h1 : (nextK G r (all[i]!) k).length > 300) : QO all n > 300 := by
  rw [nextK_len hk] at h1
  have h2 := prod_mono h (show i + 1 ≤ n from hi) (Nat.le_refl _)
  rw [QO, ← hG] at h2
  have h3 := Nat.mul_le_mul_right (all[i]!).length hk
  omega
theorem appls_inH {s : qy} {t : qE} {q : Nat} (hq : q < (appls s t).length) : 0 ≤ (appls s t)[q]! ∧ ((appls s t)[q]!).toNat < s.qg.length ∧ Appl s t ((appls s t)[q]!).toNat := by
  have hm : (appls s t)[q]! ∈ appls s t := by rw [getElem!_pos _ q hq]; exact List.getElem_mem hq
  exact mem_applL.1 hm
theorem bagAny_okH {l : List Int} : zB (l.length : Int) l ↔ X6 l := ⟨fun h => h.1, fun h => ⟨h, rfl⟩⟩
theorem sumTo_ge {l : List Int} (h : ∀ k, k < l.length → 0 ≤ l[k]!) : ∀ n, n ≤ l.length → 0 ≤ sumTo l n ∧ ∀ j, j < n → l[j]! ≤ sumTo l n
  | 0, _ => ⟨by simp [sumTo], fun j hj => by omega⟩
  | n + 1, hn => by
    obtain ⟨h1, h2⟩ := sumTo_ge h n (by omega)
    have h3 := h n (by omega)
    rw [sumTo]
    refine ⟨by omega, fun j hj => ?_⟩
    by_cases e : j = n
    · subst e; omega
    · have := h2 j (by omega); omega
theorem VC.bags {parts : List (List Int)} {rest : List Int} (h : VC parts rest) (h1 : 1 ≤ parts.length) :
    X6 rest ∧ parts.length ≤ 8 ∧ ∀ i, i < parts.length → X6 (parts[i]!) ∧ (parts[i]!).length = rest.length ∧ X4 (parts[i]!) ≠ 0 := by
  obtain ⟨K, hK, hP, hR, hn⟩ := h
  have bag : ∀ i, i < parts.length → X6 (parts[i]!) ∧ (parts[i]!).length = rest.length ∧ X4 (parts[i]!) ≠ 0 := fun i hi => by
    obtain ⟨hl, hb, j, hj, hp⟩ := hP i hi
    refine ⟨⟨fun k hk => hb k (by omega), by omega, by omega⟩, by have := hR.1; omega, ?_⟩
    have := (sumTo_ge (l := parts[i]!) (fun k hk => (hb k (by omega)).1) _ (Nat.le_refl _)).2 j (by omega)
    unfold X4; omega
  obtain ⟨hl, _, j, hj, _⟩ := hP 0 (by omega)
  exact ⟨⟨fun k hk => hR.2 k (by have := hR.1; omega), by have := hR.1; omega, by have := hR.1; omega⟩, hn, bag⟩
theorem pack_begin {cs cn : List Int} {i : Nat} {n : Int} (hc : i < cn.length) (h2 : cn.take i = cs.take i) : (cn.set i n).take (i + 1) = cs.take i ++ [n] := by
  rw [List.take_add_one, List.take_set_of_le (Nat.le_refl _), h2, List.getElem?_set_self hc]; rfl
theorem pack_keep {cs cn c2 : List Int} {i : Nat} {n : Int} (h : c2.take (i + 1) = (cn.set i n).take (i + 1)) (h2 : cn.take i = cs.take i) : c2.take i = cs.take i := by
  have := congrArg (List.take i) h
  rwa [List.take_take, List.take_take, Nat.min_eq_left (by omega), List.take_set_of_le (Nat.le_refl _), h2] at this
theorem pack_stepI {parts : List (List Int)} {rest cs cn : List Int} {out : List (List Int)} {f i n : Nat} (hf : i + f = parts.length) (hp : i < parts.length) (hc : cn.length = parts.length) (h2 : cn.take i = cs.take i)
    (h : (gath out (begins (cs.take i) (vV parts (f - 1) i rest n))).length ≤ 2000) :
    gath (gath out (begins (cs.take i) (vV parts (f - 1) i rest n))) (begins ((cn.set i (n : Int)).take (i + 1)) (packs parts (parts.length - (i + 1)) (i + 1) (vk rest (parts[i]!) (-(n : Int))))) = gath out (begins (cs.take i) (vV parts (f - 1) i rest (n + 1))) := by
  rw [pack_begin (by omega) h2, ← gath_step h, show parts.length - (i + 1) = f - 1 by omega]
theorem pack_startI {parts : List (List Int)} {rest cs : List Int} {out : List (List Int)} {f i : Nat} (h : out.length ≤ 2000) : out = gath out (begins (cs.take i) (vV parts f i rest 0)) := by
  rw [packsTo_zero]; exact (gath_nil (by omega)).symm
theorem pack_fullI {parts : List (List Int)} {rest cs : List Int} {out : List (List Int)} {i : Nat} (hl : i = parts.length) (hc : cs.length = parts.length) (h : FullOk parts rest) (ho : out.length ≤ 2000) :
    gath out (begins (cs.take i) (packs parts (parts.length - i) i rest)) = out ++ [cs] := by
  rw [show parts.length - i = 0 by omega, packs_full h, begins_one, gath_one ho, List.take_of_length_le (by omega)]
theorem pack_noneI {parts : List (List Int)} {rest cs : List Int} {out : List (List Int)} {i : Nat} (hl : i = parts.length) (h : ¬ FullOk parts rest) (ho : out.length ≤ 2000) :
    gath out (begins (cs.take i) (packs parts (parts.length - i) i rest)) = out := by
  rw [show parts.length - i = 0 by omega, packs_none h]; exact gath_nil (by omega)
theorem pack_endI {parts : List (List Int)} {rest cs : List Int} {out : List (List Int)} {f i n : Nat} (hf : i + f = parts.length) (hp : i < parts.length) (hn : (n : Int) ≤ vM (parts[i]!) rest + 1)
    (h0 : 0 ≤ vM (parts[i]!) rest) (h : ¬ (n : Int) ≤ vM (parts[i]!) rest ∨ ¬ (gath out (begins (cs.take i) (vV parts (f - 1) i rest n))).length ≤ 2000) :
    gath out (begins (cs.take i) (packs parts (parts.length - i) i rest)) = gath out (begins (cs.take i) (vV parts (f - 1) i rest n)) := by
  obtain ⟨f, rfl⟩ : ∃ g, f = g + 1 := ⟨f - 1, by omega⟩
  rw [show parts.length - i = f + 1 by omega]
  rw [show f + 1 - 1 = f from rfl] at h ⊢
  exact (gath_end (by omega) (by rcases h with h | h; (left; omega); (right; omega))).symm
theorem all_bI {b cs : List Int} {parts : List (List Int)} (h : ¬ X4 b > 16) (h1 : (gath ([] : List (List Int)) (begins (cs.take 0) (packs parts (parts.length - 0) 0 b))).length > 2000) : zu b parts = ([], 3) := by
  rw [show cs.take 0 = [] from rfl, begins_nil] at h1
  have h2 : (packs parts parts.length 0 b).length > 2000 := gath_all.1 h1
  rw [zu, if_neg h, if_pos h2]
theorem all_0I {b cs : List Int} {parts : List (List Int)} (h : ¬ X4 b > 16) (h1 : ¬ (gath ([] : List (List Int)) (begins (cs.take 0) (packs parts (parts.length - 0) 0 b))).length > 2000) : zu b parts = (gath ([] : List (List Int)) (begins (cs.take 0) (packs parts (parts.length - 0) 0 b)), 0) := by
  rw [show cs.take 0 = [] from rfl, begins_nil] at h1 ⊢
  have h2 : ¬ (packs parts parts.length 0 b).length > 2000 := fun h => h1 (gath_all.2 h)
  rw [zu, if_neg h, if_neg h2, show parts.length - 0 = parts.length from rfl, gath_few h2]
def dotP : List Int → List (List Int) → Nat → Int
  | n :: y, p :: ps, q => n * p[q]! + dotP y ps q
  | _, _, _ => 0
theorem packs_mem {K : Nat} {parts : List (List Int)} (hP : PartsOk K parts) : ∀ (f k : Nat) (rest y : List Int), k + f = parts.length → RestOk K rest → y ∈ packs parts f k rest →
    (∀ v ∈ y, 0 ≤ v ∧ v ≤ 1000) ∧ ∀ q, q < K → 0 ≤ rest[q]! - dotP y (parts.drop k) q
  | 0, k, rest, y, hk, hR, h => by
    rw [packs] at h
    split at h
    · obtain rfl := List.mem_singleton.1 h
      refine ⟨fun v hv => by simp at hv, fun q hq => ?_⟩
      have := (hR.2 q hq).1
      simp only [dotP]; omega
    · simp at h
  | f + 1, k, rest, y, hk, hR, h => by
    rw [packs, List.mem_flatMap] at h
    obtain ⟨n, hn, h⟩ := h
    obtain ⟨y', hy, rfl⟩ := List.mem_map.1 h
    have hb := times_bd hP hR (k := k) (by omega)
    rw [List.mem_range] at hn
    obtain ⟨h1, h2⟩ := packs_mem hP f (k + 1) _ y' (by omega) (hR.take hP (by omega) (n := (n : Int)) (by omega) (by omega)) hy
    refine ⟨fun v hv => ?_, fun q hq => ?_⟩
    · rcases List.mem_cons.1 hv with rfl | hv
      · omega
      · exact h1 v hv
    · have h3 := h2 q hq
      rw [plus_get (by have := hR.1; omega), Int.neg_mul] at h3
      rw [drop_cons' (show k < parts.length by omega), dotP]
      omega
where
  drop_cons' {l : List (List Int)} {i : Nat} (h : i < l.length) : l.drop i = l[i]! :: l.drop (i + 1) := by
    rw [getElem!_pos l i h]; exact (List.drop_eq_getElem_cons h)
def VQ (s : qy) (x : List Int) (q : Nat) : List Int → Int
  | [] => 0
  | r :: l => x[r.toNat]! * ((s.qg[r.toNat]!).qV)[q]! + VQ s x q l
theorem sumOver_cat (s : qy) (x : List Int) (q : Nat) : ∀ (l m : List Int), VQ s x q (l ++ m) = VQ s x q l + VQ s x q m
  | [], m => by simp [VQ]
  | r :: l, m => by rw [List.cons_append, VQ, VQ, sumOver_cat s x q l m]; omega
theorem sumOver_dot {s : qy} {x : List Int} {q : Nat} : ∀ {l y : List Int}, y.length = l.length → (∀ j, j < l.length → x[(l[j]!).toNat]! = y[j]!) → VQ s x q l = dotP y (xI s l) q
  | [], [], _, _ => rfl
  | [], _ :: _, h, _ => by simp at h
  | _ :: _, [], h, _ => by simp at h
  | r :: l, v :: y, h, h1 => by
    have h0 := h1 0 (by simp)
    simp only [List.getElem!_cons_zero] at h0
    show _ = dotP (v :: y) ((s.qg[r.toNat]!).qV :: xI s l) q
    rw [VQ, dotP, h0, sumOver_dot (by simpa using h) fun j hj => by simpa using h1 (j + 1) (by simp; omega)]
theorem needS_cell {s : qy} {t : qE} {x : List Int} {c q : Nat} (hs : jG s) : ∀ k, k ≤ s.qg.length → (∀ i, i < k → (s.qg[i]!).qp = (c : Int) → ¬ Appl s t i → x[i]! = 0) → needS s x k c q = -(VQ s x q (cellT s t k c))
  | 0, _, _ => by simp [needS, cellT, applL, VQ]
  | k + 1, hk, h => by
    have ih := needS_cell (t := t) (c := c) (q := q) hs k (by omega) fun i hi => h i (by omega)
    rw [needS, ih, needF, at']
    by_cases e : (s.qg[k]!).qp = (c : Int)
    · rw [if_pos (by omega)]
      by_cases ha : Appl s t k
      · rw [← cellT_yes ha e, sumOver_cat]
        simp only [VQ, Int.toNat_natCast]
        rw [Int.neg_mul]; omega
      · rw [← Xd ha, h k (by omega) e ha]
        simp
    · rw [if_neg (fun h' => e (by have := (hs.rule (i := k) (by omega)).1.1; omega)), ← QG e]; omega

theorem setTo_ne {o r x : List Int} {p : Nat} : ∀ {k : Nat}, (∀ j, j < k → (r[j]!).toNat ≠ p) → (∀ j, j < k → (r[j]!).toNat < o.length) → (setTo o r x k)[p]! = o[p]!
  | 0, _, _ => rfl
  | k + 1, h, h1 => by
    rw [setTo, getset (by rw [setTo_len]; exact h1 k (by omega)), if_neg (fun e => h k (by omega) e.symm)]
    exact setTo_ne (fun j hj => h j (by omega)) fun j hj => h1 j (by omega)
theorem setTo_eq {o r x : List Int} {j : Nat} : ∀ {k : Nat}, (∀ a b, a < k → b < k → (r[a]!).toNat = (r[b]!).toNat → a = b) → (∀ j, j < k → (r[j]!).toNat < o.length) → j < k → (setTo o r x k)[(r[j]!).toNat]! = x[j]!
  | 0, _, _, h => by omega
  | k + 1, hi, h1, hj => by
    rw [setTo, getset (by rw [setTo_len]; exact h1 k (by omega))]
    by_cases e : j = k
    · subst e; rw [if_pos rfl]
    · rw [if_neg (fun e' => e (hi j k (by omega) (by omega) e'))]
      exact setTo_eq (fun a b ha hb => hi a b (by omega) (by omega)) (fun j hj => h1 j (by omega)) (by omega)
theorem inj_lt {α : Type} [LT α] {l : List α} (irr : ∀ x : α, ¬ x < x) (h : l.Pairwise (· < ·)) {a b : Nat} (ha : a < l.length) (hb : b < l.length) (e : l[a] = l[b]) : a = b := by
  rw [List.pairwise_iff_getElem] at h
  rcases Nat.lt_trichotomy a b with h1 | h1 | h1
  · have := h a b ha hb h1; rw [e] at this; exact absurd this (irr _)
  · exact h1
  · have := h b a hb ha h1; rw [e] at this; exact absurd this (irr _)
theorem applL_lt (s : qy) (t : qE) (k : Nat) : (applL s t k).Pairwise (· < ·) := by
  unfold applL
  rw [List.pairwise_map]
  exact (List.pairwise_lt_range.filter _).imp fun h => by simpa using h
theorem cellR_inj {s : qy} {t : qE} {c a b : Nat} (ha : a < (xY s t c).length) (hb : b < (xY s t c).length) (h : ((xY s t c)[a]!).toNat = ((xY s t c)[b]!).toNat) : a = b := by
  have h1 := (cellR_at ha).1
  have h2 := (cellR_at hb).1
  have hn : (xY s t c).Pairwise (· < ·) := by unfold xY cellT; exact (applL_lt s t _).filter _
  have e : (xY s t c)[a]! = (xY s t c)[b]! := by omega
  rw [getElem!_pos _ a ha, getElem!_pos _ b hb] at e
  exact inj_lt (fun x => by omega) hn ha hb e
theorem live_cell {s : qy} {t : qE} {k i i' : Nat} (h : i < (qO s t k).length) (h' : i' < (qO s t k).length) : ∃ c c', (qO s t k)[i]! = xY s t c ∧ (qO s t k)[i']! = xY s t c' ∧ (c = c' → i = i') := by
  have hl : i < (X5 s t k).length := by simpa [qO] using h
  have hl' : i' < (X5 s t k).length := by simpa [qO] using h'
  have hn : (X5 s t k).Pairwise (· < ·) := by unfold X5; exact List.pairwise_lt_range.filter _
  refine ⟨(X5 s t k)[i], (X5 s t k)[i'], ?_, ?_, fun e => inj_lt (fun x => by omega) hn hl hl' e⟩
  · rw [getElem!_pos _ i h]; simp [qO]
  · rw [getElem!_pos _ i' h']; simp [qO]
theorem rules_inj {s : qy} {t : qE} {k i i' j j' : Nat} (h : i < (qO s t k).length) (h' : i' < (qO s t k).length) (hj : j < ((qO s t k)[i]!).length) (hj' : j' < ((qO s t k)[i']!).length)
    (e : (((qO s t k)[i]!)[j]!).toNat = (((qO s t k)[i']!)[j']!).toNat) : i = i' ∧ j = j' := by
  obtain ⟨c, c', e1, e2, e3⟩ := live_cell h h'
  rw [e1] at hj e
  rw [e2] at hj' e
  have h1 := cellR_at hj
  have h2 := cellR_at hj'
  have hc : c = c' := by
    have a := h1.2.2.2
    have b := h2.2.2.2
    rw [e] at a
    omega
  subst hc
  exact ⟨e3 rfl, cellR_inj hj hj' e⟩
def Says (s : qy) (t : qE) (k m : Nat) (x : List Int) : Prop :=
  x.length = s.qg.length ∧ (∀ i, i < m → ∃ y, y ∈ (xk s t k)[i]! ∧ ∀ j, j < ((qO s t k)[i]!).length → x[(((qO s t k)[i]!)[j]!).toNat]! = y[j]!) ∧
  ∀ r, r < s.qg.length → (∀ i, i < m → ∀ j, j < ((qO s t k)[i]!).length → (((qO s t k)[i]!)[j]!).toNat ≠ r) → x[r]! = 0
theorem prodG_says {s : qy} {t : qE} {k : Nat} : ∀ m, m ≤ (qO s t k).length → ∀ x ∈ vF s.qg.length (qO s t k) (xk s t k) m, Says s t k m x
  | 0, _, x, h => by
    obtain rfl := List.mem_singleton.1 h
    refine ⟨by simp, fun i hi => by omega, fun r hr _ => ?_⟩
    rw [getElem!_pos _ r (by simpa using hr)]; simp
  | m + 1, hm, x, h => by
    rw [vF, nextK, List.mem_flatMap] at h
    obtain ⟨o, ho, h⟩ := h
    obtain ⟨y, hy, rfl⟩ := List.mem_map.1 h
    obtain ⟨h1, h2, h3⟩ := prodG_says m (by omega) o (List.mem_of_mem_take ho)
    have hb : ∀ j, j < ((qO s t k)[m]!).length → (((qO s t k)[m]!)[j]!).toNat < o.length := fun j hj => by rw [h1]; exact (choice_at (by omega) hj).2
    have hn : ∀ a b, a < ((qO s t k)[m]!).length → b < ((qO s t k)[m]!).length → (((qO s t k)[m]!)[a]!).toNat = (((qO s t k)[m]!)[b]!).toNat → a = b := fun a b ha hb' e => (rules_inj (show m < _ by omega) (show m < _ by omega) ha hb' e).2
    refine ⟨by rw [setAll_len]; exact h1, fun i hi => ?_, fun r hr hne => ?_⟩
    · by_cases e : i = m
      · subst e
        exact ⟨y, hy, fun j hj => setTo_eq hn hb hj⟩
      · obtain ⟨y', hy', h4⟩ := h2 i (by omega)
        refine ⟨y', hy', fun j hj => ?_⟩
        rw [← h4 j hj]
        exact setTo_ne (fun a ha e' => e (rules_inj (show m < _ by omega) (show i < _ by omega) ha hj e').1.symm) hb
    · rw [← h3 r hr fun i hi j hj => hne i (by omega) j hj]
      exact setTo_ne (fun a ha => hne m (by omega) a ha) hb
theorem cell_live {s : qy} {t : qE} {k c : Nat} (hk : c < k) (h : ¬ (xY s t c).length = 0) : ∃ i, i < (qO s t k).length ∧ (qO s t k)[i]! = xY s t c ∧ (xk s t k)[i]! = (cellP s t c).1 := by
  have hm : c ∈ X5 s t k := List.mem_filter.2 ⟨List.mem_range.2 hk, decide_eq_true h⟩
  obtain ⟨i, hi, e⟩ := List.mem_iff_getElem.1 hm
  refine ⟨i, by simpa [qO] using hi, ?_, ?_⟩
  · rw [getElem!_pos _ i (by simpa [qO] using hi)]; simp [qO, e]
  · rw [getElem!_pos _ i (by simpa [xk] using hi)]; simp [xk, e]
theorem says_choice {s : qy} {t : qE} (hs : jG s) (ht : zt s t) {x : List Int} (h : Says s t s.qf.length (qO s t s.qf.length).length x) : CntOk s x ∧ IsCh s t x := by
  obtain ⟨h1, h2, h3⟩ := h
  have hB := ht.2.1
  -- a packing of a cell
  have cell : ∀ c, c < s.qf.length → ¬ (xY s t c).length = 0 → ∃ y, y.length = (xY s t c).length ∧ (∀ v ∈ y, 0 ≤ v ∧ v ≤ 1000) ∧ (∀ j, j < (xY s t c).length → x[((xY s t c)[j]!).toNat]! = y[j]!) ∧ ∀ q, q < yZ s → 0 ≤ (t.ql[c]!)[q]! - dotP y (xI s (xY s t c)) q := fun c hc hr => by
    obtain ⟨i, hi, e1, e2⟩ := cell_live (s := s) (t := t) hc hr
    obtain ⟨y, hy, h4⟩ := h2 i hi
    rw [e1] at h4
    rw [e2] at hy
    unfold cellP at hy
    rcases all_cases (b := t.ql[c]!) (parts := xI s (xY s t c)) with h5 | ⟨_, h5, _⟩
    · rw [h5] at hy; simp at hy
    · rw [h5] at hy
      have h6 := packs_mem (cell_parts (t := t) hs c) _ 0 _ y (Nat.zero_add _) (cell_rest ht (by omega)) hy
      exact ⟨y, (packs_len hy).trans (XG _ _), h6.1, h4, h6.2⟩
  have at' : ∀ i, i < s.qg.length → (x[i]! = 0 ∨ Appl s t i) ∧ 0 ≤ x[i]! ∧ x[i]! ≤ 1000 := fun i hi => by
    by_cases hex : ∃ a b, a < (qO s t s.qf.length).length ∧ b < ((qO s t s.qf.length)[a]!).length ∧ (((qO s t s.qf.length)[a]!)[b]!).toNat = i
    · obtain ⟨a, b, ha, hb, e⟩ := hex
      obtain ⟨c, hc, hr, e1, _⟩ := live_at ha
      rw [e1] at hb e
      obtain ⟨y, hl, hv, hx, _⟩ := cell c hc hr
      have h5 := cellR_at hb
      have h6 := hx b hb
      rw [e] at h5 h6
      have h7 := hv (y[b]!) (by rw [getElem!_pos y b (by omega)]; exact List.getElem_mem _)
      rw [h6]
      exact ⟨.inr h5.2.2.1, h7⟩
    · have h5 := h3 i hi fun a ha b hb e => hex ⟨a, b, ha, hb, e⟩
      rw [h5]
      exact ⟨.inl rfl, by omega, by omega⟩
  have hc : CntOk s x := ⟨h1, fun i hi => (at' i (by omega)).2⟩
  refine ⟨hc, fun i hi hb => ?_, fun p hp q hq => ?_⟩
  · rcases (at' i (by omega)).1 with h5 | h5
    · have := hb.1; omega
    · exact hb.2 h5
  · rw [h1] at hq ⊢
    have he := restR_ent hs ht hc s.qg.length (Nat.le_refl _)
    have hl : ((yz s t x s.qg.length)[p]!).length = yZ s := (he.sh.2 p (by unfold vJ; omega)).1
    have heq := he.eq p q (by unfold vJ; omega) (by omega)
    rw [heq]
    have hn := needS_cell (t := t) (x := x) (c := p) (q := q) hs s.qg.length (Nat.le_refl _) fun i hi _ ha => ((at' i hi).1).resolve_right ha
    rw [hn]
    have hbag := (cell_rest (s := s) ht hp).2 q (by omega)
    by_cases hr : (xY s t p).length = 0
    · show 0 ≤ (t.ql[p]!)[q]! + -(VQ s x q (xY s t p))
      rw [List.eq_nil_of_length_eq_zero hr]
      simp only [VQ]; omega
    · obtain ⟨y, hy, _, hx, hd⟩ := cell p (by omega) hr
      have h6 := hd q (by omega)
      rw [← sumOver_dot hy hx] at h6
      show 0 ≤ (t.ql[p]!)[q]! + -(VQ s x q (xY s t p))
      omega
theorem cho_ok {s : qy} {t : qE} (hs : jG s) (ht : zt s t) {k : Nat} (hk : k < (zG s t).1.length) : CntOk s ((zG s t).1[k]!) ∧ IsCh s t ((zG s t).1[k]!) := by
  have hm : (zG s t).1[k]! ∈ (zG s t).1 := mem_at_L hk
  generalize (zG s t).1[k]! = x at hm
  unfold zG at hm
  split at hm
  · simp at hm
  · split at hm
    · simp at hm
    · have hx : x ∈ inOrder (vF s.qg.length (qO s t s.qf.length) (xk s t s.qf.length) (xk s t s.qf.length).length) := hm
      unfold inOrder at hx
      have hle := packsL_le s t s.qf.length
      split at hx
      · next h => exact says_choice hs ht (by rw [← hle]; exact prodG_says _ (by omega) x ((Classical.choose_spec h).1.symm.subset hx))
      · exact says_choice hs ht (by rw [← hle]; exact prodG_says _ (by omega) x hx)
theorem halt_cells {s : qy} {t : qE} (h : Halted s t) (c : Nat) : (xY s t c).length = 0 := by
  have h1 := appls_halt.2 h
  have h2 : (xY s t c).length ≤ (appls s t).length := List.length_filter_le _ _
  omega
theorem halt_live {s : qy} {t : qE} (h : Halted s t) : ∀ k, xk s t k = []
  | 0 => rfl
  | k + 1 => by rw [← packsL_no (halt_cells h k)]; exact halt_live h k
theorem halt_cho {s : qy} {t : qE} (h : Halted s t) : (zG s t).2 = 0 := by
  unfold zG
  rw [if_neg (fun h' => h' fun c _ => .inl (halt_cells h c)), halt_live h, if_neg (by show ¬ 1 > 300; omega)]
open Classical in
noncomputable def yt (s : qy) (t : qE) : List qE × Int := if Halted s t then ([], 0) else if (zG s t).2 ≠ 0 then ([], (zG s t).2) else yN s t (zG s t).1
theorem succ_h {s : qy} {t : qE} (h : Halted s t) : yt s t = ([], 0) := by rw [yt, if_pos h]
theorem succ_c {s : qy} {t : qE} (h : (zG s t).2 ≠ 0) : yt s t = ([], (zG s t).2) := by rw [yt, if_neg (fun h' => h (halt_cho h')), if_pos h]
theorem succ_0 {s : qy} {t : qE} (h : ¬ Halted s t) (h1 : (zG s t).2 = 0) : yt s t = yN s t (zG s t).1 := by rw [yt, if_neg h, if_neg (fun x => x h1)]
open Classical in
noncomputable def zy (s : qy) (t : qE) : List qE × Int := if ¬ (jG s ∧ zt s t) then ([], 1) else yt s t
theorem nx_1 {s : qy} {t : qE} (h : ¬ (jG s ∧ zt s t)) : zy s t = ([], 1) := by rw [zy, if_pos h]
theorem nx_0 {s : qy} {t : qE} (h : jG s ∧ zt s t) : zy s t = yt s t := by rw [zy, if_neg (by simpa using h)]
theorem next_few {s : qy} {t : qE} {cs : List (List Int)} {n : Nat} (hs : jg s) (hn : cs.length ≤ n) : (yN s t cs).1.length ≤ n ∧ ∀ u ∈ (yN s t cs).1, FewState u := by
  rw [yN]
  split
  · exact ⟨Nat.le_trans (nextTo_len _) hn, fun u hu => nextTo_few hs _ u hu⟩
  · exact ⟨Nat.zero_le _, fun u hu => by simp at hu⟩
theorem succ_few {s : qy} {t : qE} (hs : jg s) : (yt s t).1.length ≤ 300 ∧ ∀ u ∈ (yt s t).1, FewState u := by
  rw [yt]
  split
  · exact ⟨Nat.zero_le _, fun u hu => by simp at hu⟩
  · split
    · exact ⟨Nat.zero_le _, fun u hu => by simp at hu⟩
    · exact next_few hs (cho_len s t)
theorem few_nx (s : qy) (t : qE) : cnt (zy s t).1 ≤ 18600 := by
  by_cases h : jG s ∧ zt s t
  · rw [nx_0 h]
    obtain ⟨hl, hf⟩ := succ_few (t := t) h.1.1
    have := cntTo_one (yt s t).1 62 (fun k hk => cnt_StateD' _ (hf _ (by rw [getElem!_pos _ k hk]; exact List.getElem_mem hk))) _ (Nat.le_refl _)
    rw [XQ]
    omega
  · rw [nx_1 h]; exact Nat.zero_le _
theorem St.rowel_StateD {W0 w : World} {ps : List Prv} {Γ : List Fact} (H : St W0 w ps Γ) (k : Nat) {b c : Nat} {e : TypeId} {nn : Nat} {xs : List Value} (hp : ps[k]? = some (.row (.slice (some ⟨b, 0, none⟩) nn c) e 3 nn xs)) (j : Nat) {fr : Bool} {F : List Nat} {l : List qE}
    (hf : Γ[j]? = some (xN fr F xs l)) {iv : Int} (i : Nat) (h : iv.toNat = i) (h1 : i < nn) :
    ∃ (aA : Option Addr) (cA : Nat) (FA : List Nat) (aB : Option Addr) (cB : Nat) (FB : List Nat) (aO : Option Addr) (cO : Nat) (FO : List Nat),
      (∀ (q : Nat) (v : Value), ([.slice aA ((l[i]!).qh.length) cA, .slice aB ((l[i]!).ql.length) cB, .slice aO ((l[i]!).qj.length) cO] : List Value)[q]? = some v → xs[0 + iv.toNat * 3 + q]? = some v) ∧
      St W0 w ps (isF fr FA (.slice aA ((l[i]!).qh.length) cA) ((l[i]!).qh) :: isF fr FB (.slice aB ((l[i]!).ql.length) cB) ((l[i]!).ql) :: isF fr FO (.slice aO ((l[i]!).qj.length) cO) ((l[i]!).qj) :: Γ) := by
  obtain ⟨cs, G, hc, hr, hsub, hfr, v1, v2, hv, hv1⟩ := St.rowElem (α := qE) H k hp j hf (by decide) h h1
  obtain ⟨vA, vB, vO, FA, FB, FO, rfl, hFF, hA, hB, hO⟩ := id hr
  obtain ⟨aA, cA, rfl⟩ := slice_form hA
  obtain ⟨aB, cB, rfl⟩ := slice_form hB
  obtain ⟨aO, cO, rfl⟩ := slice_form hO
  refine ⟨aA, cA, FA, aB, cB, FB, aO, cO, FO, fun q v hq => ?_, ?_⟩
  · have hv1 : v1.length = i * 3 := hv1
    have hlt : q < 3 := by
      rcases Nat.lt_or_ge q 3 with h | h
      · exact h
      · rw [List.getElem?_eq_none (by simpa using h)] at hq; cases hq
    rw [hv, List.append_assoc, Nat.zero_add, h, ← hv1, List.getElem?_append_right (by omega), Nat.add_sub_cancel_left, List.getElem?_append_left (by simpa using hlt)]
    exact hq
  · have s3 := H.yu j hf (isF fr FO (.slice aO ((l[i]!).qj.length) cO) ((l[i]!).qj)) ⟨hO, fun e => (hfr e).sub (by rw [hFF]; intro x hx; simp [hx])⟩ (fun x hx => hsub x (by rw [hFF]; have hx : x ∈ FO := hx; simp [hx]))
    have s2 := s3.yu (j + 1) hf (isF fr FB (.slice aB ((l[i]!).ql.length) cB) ((l[i]!).ql)) ⟨hB, fun e => (hfr e).sub (by rw [hFF]; intro x hx; simp [hx])⟩ (fun x hx => hsub x (by rw [hFF]; have hx : x ∈ FB := hx; simp [hx]))
    exact s2.yu (j + 2) hf (isF fr FA (.slice aA ((l[i]!).qh.length) cA) ((l[i]!).qh)) ⟨hA, fun e => (hfr e).sub (by rw [hFF]; intro x hx; simp [hx])⟩ (fun x hx => hsub x (by rw [hFF]; have hx : x ∈ FA := hx; simp [hx]))
end
section
open Go.RowKit
section
variable {α : Type} [qB α]
theorem reps_perm {w : World} (h1 : qB.size α = 1) : ∀ {z z' : List (Value × α)}, z.Perm z' → ∀ {F : List Nat}, reps w F (z.map Prod.fst) (z.map Prod.snd) → ∃ F', F'.Perm F ∧ reps w F' (z'.map Prod.fst) (z'.map Prod.snd) := by
  intro z z' hp
  have one : ∀ {c : List Value} {G : List Nat} {x : α}, qB.rep w G c x → ∃ v, c = [v] := fun h => List.length_eq_one_iff.1 ((qB.len h).trans h1)
  induction hp with
  | nil => intro F h; exact ⟨F, .refl _, h⟩
  | cons x _ ih =>
    rintro F ⟨F1, F2, c1, c2, rfl, hv, hx, hr⟩
    obtain ⟨v, rfl⟩ := one hx
    obtain ⟨rfl, rfl⟩ := List.cons.inj hv
    obtain ⟨F', hF, hr'⟩ := ih hr
    exact ⟨F1 ++ F', hF.append_left F1, F1, F', [x.1], _, rfl, rfl, hx, hr'⟩
  | swap x y l =>
    rintro F ⟨F1, F2, c1, c2, rfl, hv, hx, F3, F4, c3, c4, rfl, hv2, hy, hr⟩
    obtain ⟨v, rfl⟩ := one hx
    obtain ⟨u, rfl⟩ := one hy
    subst hv2
    obtain ⟨e1, e2⟩ := List.cons.inj hv
    obtain ⟨e3, e4⟩ := List.cons.inj e2
    subst e1 e3 e4
    refine ⟨F3 ++ (F1 ++ F4), ?_, F3, F1 ++ F4, [x.1], y.1 :: _, rfl, rfl, hy, F1, F4, [y.1], _, rfl, rfl, hx, hr⟩
    rw [← List.append_assoc, ← List.append_assoc]
    exact List.perm_append_comm.append_right F4
  | trans _ _ ih1 ih2 =>
    intro F h
    obtain ⟨F1, h1, h2⟩ := ih1 h
    obtain ⟨F2, h3, h4⟩ := ih2 h2
    exact ⟨F2, h3.trans h1, h4⟩
end
theorem swapZ {α : Type} : ∀ {l : List α} {i : Nat} {a b : α}, l[i]? = some a → l[i + 1]? = some b → l.Perm ((l.set (i + 1) a).set i b)
  | [], _, _, _, h, _ => by simp at h
  | x :: l, 0, a, b, h, h1 => by
    cases l with
    | nil => simp at h1
    | cons y l =>
      simp only [List.getElem?_cons_zero, Option.some.injEq] at h
      simp only [List.getElem?_cons_succ, List.getElem?_cons_zero, Option.some.injEq, Nat.zero_add] at h1
      subst h h1
      exact List.Perm.swap ..
  | x :: l, i + 1, a, b, h, h1 => by
    simp only [List.getElem?_cons_succ] at h h1
    exact (swapZ h h1).cons x
theorem zip_at {α β : Type} : ∀ {xs : List α} {l : List β} {i : Nat} {a : α} {b : β}, xs[i]? = some a → l[i]? = some b → (xs.zip l)[i]? = some (a, b) := by
  intro xs l i a b h h1
  rw [List.getElem?_zip_eq_some]
  exact ⟨h, h1⟩
theorem zip_fst {α β : Type} : ∀ {xs : List α} {l : List β}, xs.length = l.length → (xs.zip l).map Prod.fst = xs := by
  intro xs l h; exact List.map_fst_zip (by omega)
theorem zip_snd {α β : Type} : ∀ {xs : List α} {l : List β}, xs.length = l.length → (xs.zip l).map Prod.snd = l := by
  intro xs l h; exact List.map_snd_zip (by omega)
section
variable {W0 w : World} {ps : List Prv} {Γ : List Fact}
theorem St.rowElemX {α : Type} [qB α] (H : St W0 w ps Γ) (k : Nat) {b c : Nat} {e : TypeId} {nn : Nat} {xs : List Value} (hp : ps[k]? = some (.row (.slice (some ⟨b, 0, none⟩) nn c) e 1 nn xs)) (j : Nat) {fr : Bool} {F : List Nat} {l : List (List α)}
    (hf : Γ[j]? = some (xN fr F xs l)) {iv : Int} (i : Nat) (h : iv.toNat = i) (h1 : i < nn) :
    ∃ (a : Option Addr) (c' : Nat) (G : List Nat), (∀ x ∈ G, x ∈ F) ∧ w.cell? ⟨b, 0 + iv.toNat * 1, none⟩ = some (.slice a (l[i]!).length c') ∧ xs[0 + iv.toNat * 1]? = some (.slice a (l[i]!).length c') ∧ xs[iv.toNat]? = some (.slice a (l[i]!).length c') ∧ St W0 w ps (isF fr G (.slice a (l[i]!).length c') (l[i]!) :: Γ) := by
  obtain ⟨cs, G, hc, hr, hsub, hfr, v1, v2, hx, hv⟩ := H.rowElem k hp j hf Nat.one_pos h h1
  obtain ⟨a, c', rfl, hx'⟩ := id hr
  have hxi : xs[i]? = some (.slice a (l[i]!).length c') := by
    have hl1 : v1.length = i := by rw [hv]; exact Nat.mul_one _
    rw [hx, List.append_assoc, List.getElem?_append_right (by omega)]
    simp [hl1]
  exact ⟨a, c', G, hsub, by simpa [qB.size] using hc 0 _ rfl, by rw [show 0 + iv.toNat * 1 = i by omega]; exact hxi, by rw [h]; exact hxi, H.yu j hf _ ⟨hr, hfr⟩ hsub⟩
theorem St.swapR (H : St W0 w ps Γ) (j : Nat) {fr : Bool} {F : List Nat} {xs : List Value} {l : List (List Int)} (hf : Γ[j]? = some (xN fr F xs l)) {k i : Nat} (hk : 0 < k) (hkl : k < l.length) (hi : i = k - 1) {v0 v1 : Value} (h0 : xs[i]? = some v0) (h1 : xs[k]? = some v1) :
    ∃ F', F'.Perm F ∧ St W0 w ps (xN fr F' ((xs.set k v0).set i v1) (swapAt l k) :: Γ) := by
  obtain ⟨hr, hfr⟩ := H.get j hf
  obtain ⟨i, rfl⟩ : ∃ i, k = i + 1 := ⟨k - 1, by omega⟩
  rw [show i + 1 - 1 = i from rfl] at hi
  subst hi
  have hl : xs.length = l.length := by have := VJ hr; simpa [qB.size] using this
  have e0 : l[i]? = some (l[i]!) := by rw [getElem!_pos l i (by omega)]; exact List.getElem?_eq_getElem (by omega)
  have e1 : l[i + 1]? = some (l[i + 1]!) := by rw [getElem!_pos l (i + 1) hkl]; exact List.getElem?_eq_getElem hkl
  have hp := swapZ (zip_at h0 e0) (zip_at h1 e1)
  have hr' : reps w F ((xs.zip l).map Prod.fst) ((xs.zip l).map Prod.snd) := by
    rw [zip_fst hl, zip_snd hl]
    exact hr
  obtain ⟨F', hF, h2⟩ := reps_perm rfl hp hr'
  refine ⟨F', hF, H.yu j hf _ ⟨?_, fun e x hx => hfr e x (hF.subset hx)⟩ fun x hx => hF.subset hx⟩
  rw [List.map_set, List.map_set, List.map_set, List.map_set, zip_fst hl, zip_snd hl] at h2
  exact h2
theorem Fresh.perm {B : Nat} {L : List (List Nat)} {F F' : List Nat} (N : Fresh B (F :: L)) (h : F'.Perm F) : Fresh B (F' :: L) := N.less (fun b hb => h.subset hb) fun hn => h.nodup_iff.2 hn
end
section
variable {P : Program} {n : Nat} {ρ : Env} {w : World}
theorem ret3 {fn : Func} {R : Ending → World → Prop} {t u z : Nat} (v x y : Value) (hr : fn.results = #[.tmp t, .tmp u, .tmp z]) (hv : ev n ρ (.tmp t) = v) (hx : ev n ρ (.tmp u) = x) (hy : ev n ρ (.tmp z) = y) (h : R (.returned (.tuple #[v, x, y])) w) : bodyPost P fn R .ret (mk n ρ) w := by
  refine bodyPost_ret (results_tmp3 hr _ _ _) rfl ?_
  have e := congrFun (XH n ρ) (.tmp t)
  have e' := congrFun (XH n ρ) (.tmp u)
  have e'' := congrFun (XH n ρ) (.tmp z)
  simp only [Act.eval] at e e' e''
  rw [e, hv, e', hx, e'', hy]
  exact h
end
end
section
open Go.RowKit Go.Shelf Go.Lib Go.Sort
def cmpL : List Int → List Int → Int
  | [], [] => 0
  | [], _ :: _ => -1
  | _ :: _, [] => 1
  | x :: a, y :: b => if x < y then -1 else if y < x then 1 else cmpL a b
theorem cmpL_refl : ∀ a, cmpL a a = 0
  | [] => rfl
  | x :: a => by rw [cmpL, if_neg (Int.lt_irrefl x), if_neg (Int.lt_irrefl x), cmpL_refl a]
theorem cmpL_trans : ∀ {a b c : List Int}, cmpL a b < 0 → cmpL b c < 0 → cmpL a c < 0
  | [], [], _, h, _ => by simp [cmpL] at h
  | [], _ :: _, [], _, h => by simp [cmpL] at h
  | [], _ :: _, _ :: _, _, _ => by simp [cmpL]
  | _ :: _, [], _, h, _ => by simp [cmpL] at h
  | _ :: _, _ :: _, [], _, h => by simp [cmpL] at h
  | x :: a, y :: b, z :: c, h1, h2 => by
    rw [cmpL] at h1 h2 ⊢
    by_cases e1 : x < y
    · by_cases e2 : y < z
      · rw [if_pos (by omega)]; omega
      · rw [if_neg e2] at h2
        by_cases e3 : z < y
        · rw [if_pos e3] at h2; omega
        · rw [if_pos (by omega)]; omega
    · rw [if_neg e1] at h1
      by_cases e2 : y < x
      · rw [if_pos e2] at h1; omega
      · rw [if_neg e2] at h1
        by_cases e3 : y < z
        · rw [if_pos (by omega)]; omega
        · rw [if_neg e3] at h2
          by_cases e4 : z < y
          · rw [if_pos e4] at h2; omega
          · rw [if_neg e4] at h2
            rw [if_neg (by omega), if_neg (by omega)]
            exact cmpL_trans h1 h2
theorem cmpL_ntrans : ∀ {a b c : List Int}, ¬ cmpL a b < 0 → ¬ cmpL b c < 0 → ¬ cmpL a c < 0
  | [], [], [], _, _ => by simp [cmpL]
  | _ :: _, _, [], _, _ => by simp [cmpL]
  | [], _ :: _, _, h, _ => by simp [cmpL] at h
  | _, [], _ :: _, _, h => by simp [cmpL] at h
  | x :: a, y :: b, z :: c, h1, h2 => by
    rw [cmpL] at h1 h2 ⊢
    by_cases e1 : x < y
    · rw [if_pos e1] at h1; omega
    · rw [if_neg e1] at h1
      by_cases e2 : y < z
      · rw [if_pos e2] at h2; omega
      · rw [if_neg e2] at h2
        rw [if_neg (by omega)]
        by_cases e3 : z < x
        · rw [if_pos e3]; omega
        · rw [if_neg e3]
          have ey : ¬ y < x := by omega
          have ez : ¬ z < y := by omega
          rw [if_neg ey] at h1
          rw [if_neg ez] at h2
          exact cmpL_ntrans h1 h2
theorem drop_cons {l : List Int} {i : Nat} (h : i < l.length) : l.drop i = l[i]! :: l.drop (i + 1) := by
  rw [getElem!_pos l i h]; exact (List.drop_eq_getElem_cons h)
theorem cmp_a {a b : List Int} {i : Nat} (h : i < a.length) (h1 : b.length ≤ i) : cmpL (a.drop i) (b.drop i) = 1 := by rw [drop_cons h, List.drop_eq_nil_of_le h1, cmpL]
theorem cmp_b {a b : List Int} {i : Nat} (h : a.length ≤ i) (h1 : i < b.length) : cmpL (a.drop i) (b.drop i) = -1 := by rw [drop_cons h1, List.drop_eq_nil_of_le h, cmpL]
theorem cmp_c {a b : List Int} {i : Nat} (h : a.length ≤ i) (h1 : b.length ≤ i) : cmpL (a.drop i) (b.drop i) = 0 := by rw [List.drop_eq_nil_of_le h, List.drop_eq_nil_of_le h1, cmpL]
theorem cmp_d {a b : List Int} {i : Nat} (h : i < a.length) (h1 : i < b.length) (h2 : a[i]! < b[i]!) : cmpL (a.drop i) (b.drop i) = -1 := by rw [drop_cons h, drop_cons h1, cmpL, if_pos h2]
theorem cmp_e {a b : List Int} {i : Nat} (h : i < a.length) (h1 : i < b.length) (h2 : a[i]! > b[i]!) : cmpL (a.drop i) (b.drop i) = 1 := by rw [drop_cons h, drop_cons h1, cmpL, if_neg (by omega), if_pos h2]
theorem cmp_f {a b : List Int} {i : Nat} (h : i < a.length) (h1 : i < b.length) (h2 : ¬ a[i]! < b[i]!) (h3 : ¬ a[i]! > b[i]!) : cmpL (a.drop i) (b.drop i) = cmpL (a.drop (i + 1)) (b.drop (i + 1)) := by rw [drop_cons h, drop_cons h1, cmpL, if_neg h2, if_neg h3]
theorem cmpL_ahead : ∀ {a b : List Int}, a.length = b.length → (cmpL a b < 0 ↔ ahead a b)
  | [], [], _ => ⟨fun h => by simp [cmpL] at h, fun ⟨i, h, _⟩ => by simp at h⟩
  | x :: a, [], h => by simp at h
  | [], y :: b, h => by simp at h
  | x :: a, y :: b, h => by
    have ih := cmpL_ahead (a := a) (b := b) (by simpa using h)
    rw [cmpL]
    constructor
    · intro h1
      by_cases e : x < y
      · exact ⟨0, by simp, fun j hj => by omega, by simpa using e⟩
      · rw [if_neg e] at h1
        by_cases e2 : y < x
        · rw [if_pos e2] at h1; omega
        · rw [if_neg e2] at h1
          obtain ⟨i, h2, h3, h4⟩ := ih.1 h1
          refine ⟨i + 1, by simp; omega, fun j hj => ?_, by simpa using h4⟩
          cases j with
          | zero => simp; omega
          | succ j => simpa using h3 j (by omega)
    · rintro ⟨i, h2, h3, h4⟩
      cases i with
      | zero => rw [if_pos (by simpa using h4)]; omega
      | succ i =>
        have h0 := h3 0 (by omega)
        simp only [List.getElem!_cons_zero] at h0
        rw [if_neg (by omega), if_neg (by omega)]
        exact ih.2 ⟨i, by simpa using h2, fun j hj => by simpa using h3 (j + 1) (by omega), by simpa using h4⟩

section
variable {W0 w : World} {ps : List Prv} {Γ : List Fact}
theorem sw_block {α : Type} [Inhabited α] {enc : α → Value} {blk m : Nat} {d : Array α} {os : Array Obj} {k : Nat} (hk : k < w.heap.size) (hne : k ≠ blk) : (sortWorld enc w blk 0 m d os).heap[k]? = w.heap[k]? := by
  unfold sortWorld putRow mapBlock grow
  show ((Sort.ahead w m).heap.modify blk _ ++ os)[k]? = _
  have hs : ((Sort.ahead w m).heap.modify blk (onCells (putCells enc 0 d))).size = w.heap.size := by rw [Array.size_modify]; rfl
  rw [Array.getElem?_append_left (by rw [hs]; exact hk), Array.getElem?_modify, if_neg (Ne.symm hne)]
  rfl
theorem sw_row {α : Type} [Inhabited α] {enc : α → Value} {blk m : Nat} {d : Array α} {os : Array Obj} {cur : Array Value} {e : TypeId} (h : w.heap[blk]? = some (.cells cur e (0, 0))) : (sortWorld enc w blk 0 m d os).heap[blk]? = some (.cells (putCells enc 0 d cur) e (0, 0)) := by
  have hk : blk < w.heap.size := (Array.getElem?_eq_some_iff.1 h).1
  unfold sortWorld putRow mapBlock grow
  show ((Sort.ahead w m).heap.modify blk _ ++ os)[blk]? = _
  have hs : ((Sort.ahead w m).heap.modify blk (onCells (putCells enc 0 d))).size = w.heap.size := by rw [Array.size_modify]; rfl
  rw [Array.getElem?_append_left (by rw [hs]; exact hk), Array.getElem?_modify, if_pos rfl]
  show (w.heap[blk]?).map _ = _
  rw [h]
  rfl
theorem sortRow {P : Program} {ρ : Ren} (L : SlLaysF.n6 P ρ) {g : Nat} (eg : ∀ args w, (callFunc g args).run P w = .ok (.enter g args) w)
    (cmp : ∀ (W : World) (x y : List Int) (a : Option Addr) (c : Nat) (F : List Nat) (a' : Option Addr) (c' : Nat) (F' : List Nat), qB.rep W F [.slice a x.length c] x → qB.rep W F' [.slice a' y.length c'] y →
      Calls P g #[.slice a x.length c, .slice a' y.length c'] W fun e w' => e = .returned (.int .i64 (cmpL x y)) ∧ w' = W)
    (H : St W0 w ps Γ) (k : Nat) {b c : Nat} {e : TypeId} {nn : Nat} {xs : List Value} (hp : ps[k]? = some (.row (.slice (some ⟨b, 0, none⟩) nn c) e 1 nn xs)) (j : Nat) {fr : Bool} {F : List Nat} {l : List (List Int)} (hf : Γ[j]? = some (xN fr F xs l)) (h0 : 0 < l.length) (hsz : l.length < 4611686018427387904) :
    Calls P (ρ.f 6) #[.slice (some ⟨b, 0, none⟩) nn c, .func (.func g) #[] #[]] w fun e' w' => ∃ v, e' = .returned v ∧ ∃ xs' F' l', v = .tuple #[] ∧ F'.Perm F ∧ l.Perm l' ∧ (∀ i j, i < j → j < l'.length → ¬ cmpL (l'[j]!) (l'[i]!) < 0) ∧
      St W0 w' (ps.set k (.row (.slice (some ⟨b, 0, none⟩) nn c) e 1 nn xs')) (xN fr F' xs' l' :: Γ) := by
  have ho := (H.has _ (List.mem_of_getElem? hp) : w.ownsRow W0.heap.size e 1 _ nn xs)
  obtain ⟨hr, hfr⟩ := H.get j hf
  have hxl : xs.length = l.length := by have := VJ hr; simpa [qB.size] using this
  have hnn : nn = l.length := by have := ho.1; omega
  subst hnn
  obtain ⟨hl, h | ⟨g', cap, cur, hv, hB, hg, hn, hm, hcs, ht⟩⟩ := ho
  · simp at h
  simp only [Value.slice.injEq, Option.some.injEq, Addr.mk.injEq, and_true] at hv
  obtain ⟨rfl, _, rfl⟩ := hv
  have hF := (H.facts _ (List.mem_of_getElem? hf)).2
  have hbF : ∀ x ∈ F, x ≠ b := fun x hx e' => (hF x hx).2 k (by simp [vZ, hp, Prv.blk, Value.ownBlock, e'])
  let enc : Nat → Value := fun i => xs[i % l.length]!
  let cf : Nat → Nat → Int := fun i j => cmpL (l[i % l.length]!) (l[j % l.length]!)
  have hmod : ∀ i, i % l.length < l.length := fun i => Nat.mod_lt _ h0
  have hrep : ∀ i, ∃ a c' G, (∀ x ∈ G, x ∈ F) ∧ enc i = .slice a (l[i % l.length]!).length c' ∧ qB.rep w G [.slice a (l[i % l.length]!).length c'] (l[i % l.length]!) := fun i => by
    obtain ⟨F1, Fk, F2, v1, cs, v2, hFe, hxe, hl1, hl2, hu, _, _⟩ := reps_get hr (i % l.length) (hmod i)
    obtain ⟨a, c', rfl, hx⟩ := id hu
    have hl1' : v1.length = i % l.length := by rw [hl1]; exact Nat.mul_one _
    refine ⟨a, c', Fk, fun x hx => by rw [hFe]; simp [hx], ?_, ?_⟩
    · show xs[i % l.length]! = _
      rw [getElem!_pos l _ (hmod i), getElem!_pos xs _ (by rw [hxl]; exact hmod i)]
      have : xs[i % l.length]? = some (.slice a (l[i % l.length]'(hmod i)).length c') := by
        refine (congrArg (fun z : List Value => z[i % l.length]?) hxe).trans ?_
        show (v1 ++ [_] ++ v2)[i % l.length]? = _
        rw [List.append_assoc, List.getElem?_append_right (by omega)]
        simp [hl1']
      exact (List.getElem?_eq_some_iff.1 this).2
    · rw [getElem!_pos l _ (hmod i)]; exact hu
  have hO : OneCell enc := fun i => by obtain ⟨a, c', G, _, he, _⟩ := hrep i; show Value.oneCell' (enc i) = true; rw [he]; rfl
  have hS : SWO (ltOf cf) := by
    refine ⟨fun x => ?_, fun x y z h1 h2 => ?_, fun x y z h1 h2 => ?_⟩ <;> unfold ltOf at *
    · show decide (cmpL _ _ < 0) = false
      rw [cmpL_refl]; rfl
    · exact decide_eq_true (cmpL_trans (of_decide_eq_true h1) (of_decide_eq_true h2))
    · exact decide_eq_false (cmpL_ntrans (of_decide_eq_false h1) (of_decide_eq_false h2))
  let d : Array Nat := Array.range l.length
  have hds : d.size = l.length := Array.size_range
  have hdi : ∀ i, i < l.length → d[i]! = i := fun i hi => by rw [getElem!_pos d i (by rw [hds]; exact hi)]; exact Array.getElem_range _
  have hcx : ∀ i, i < l.length → cur[i]? = some (enc i) := fun i hi => by
    have h1 : xs[i]? = some (enc i) := by
      show xs[i]? = some (xs[i % l.length]!)
      rw [Nat.mod_eq_of_lt hi, getElem!_pos xs i (by omega)]
      exact List.getElem?_eq_getElem (by omega)
    rw [← ht, List.getElem?_take, if_pos (by omega)] at h1
    simpa using h1
  have hH : Holds enc w b 0 d := fun i hi => by
    have hi' : i < l.length := by rw [hds] at hi; exact hi
    rw [hdi i hi', Nat.zero_add]
    constructor
    · rw [World.cell?, hg]; exact hcx i hi'
    · rw [World.frozen?, hg]; simp
  have hcmp : CmpLays1 P g #[] enc cf b 0 d.size w := fun m os dk hs x y => by
    obtain ⟨a, c1, G, hG, he, hx⟩ := hrep x
    obtain ⟨a2, c2, G2, hG2, he2, hy⟩ := hrep y
    have st : ∀ z ∈ F, (sortWorld enc w b 0 m dk os).heap[z]? = w.heap[z]? := fun z hz => sw_block (hF z hz).1 (hbF z hz)
    rw [he, he2]
    refine (cmp _ _ _ a c1 G a2 c2 G2 (qB.stay hx fun z hz => st z (hG z hz)) (qB.stay hy fun z hz => st z (hG2 z hz))).mono fun e' w' h => ⟨h.1, 0, #[], ?_⟩
    rw [grow_empty]; exact h.2
  have hblk : b < w.heap.size := (Array.getElem?_eq_some_iff.1 hg).1
  have hc := Any.slices_SortFunc L enc hO cf hS g #[] b 0 c d w eg hcmp hH hblk (by rw [hds]; exact hsz)
  rw [hds] at hc
  refine hc.mono fun e' w' ⟨he, d', n, os, hpm, hso, hw⟩ => ⟨_, he, ?_⟩
  have hd' : d'.size = l.length := hpm.1.trans hds
  have hperm : d'.toList.Perm (List.range l.length) := by
    have := hpm.2.2
    rw [Array.extract_eq_self_of_le (by omega), Array.extract_eq_self_of_le (by omega)] at this
    simpa [d] using this
  have hlt : ∀ x ∈ d'.toList, x < l.length := fun x hx => List.mem_range.1 (hperm.subset hx)
  -- the pairs
  have hz : (xs.zip l).Perm (d'.toList.map fun i => (xs[i]!, l[i]!)) := by
    have e1 : xs.zip l = (List.range l.length).map fun i => (xs[i]!, l[i]!) := by
      refine List.ext_getElem (by simp [hxl]) fun i h1 h2 => ?_
      have hi : i < l.length := by simpa using h2
      rw [List.getElem_zip, List.getElem_map, List.getElem_range, getElem!_pos xs i (by omega), getElem!_pos l i hi]
    rw [e1]
    exact (hperm.map _).symm
  have hr' : reps w F ((xs.zip l).map Prod.fst) ((xs.zip l).map Prod.snd) := by rw [zip_fst hxl, zip_snd hxl]; exact hr
  obtain ⟨F', hF', hr2⟩ := reps_perm rfl hz hr'
  rw [List.map_map, List.map_map] at hr2
  refine ⟨d'.toList.map fun i => xs[i]!, F', d'.toList.map fun i => l[i]!, rfl, hF', ?_, ?_, ?_⟩
  · have := hz.map Prod.snd
    rw [zip_snd hxl, List.map_map] at this
    exact this
  · intro i j hij hj
    rw [List.length_map, Array.length_toList, hd'] at hj
    have hge : ∀ q, q < l.length → (d'.toList.map fun i => l[i]!)[q]! = l[d'[q]! % l.length]! := fun q hq => by
      rw [getElem!_pos _ q (by simp [hd', hq]), List.getElem_map, Array.getElem_toList]
      have : d'[q]! = d'[q] := getElem!_pos d' q (by omega)
      rw [this, Nat.mod_eq_of_lt (hlt _ (by simp))]
    rw [hge i (by omega), hge j hj]
    exact of_decide_eq_false (hso i j (Nat.zero_le _) hij hj)
  · subst hw
    have hcells : ∀ q, q < l.length → (putCells enc 0 d' cur)[q]? = some (xs[d'[q]!]!) := fun q hq => by
      unfold putCells
      rw [Array.getElem?_mapIdx]
      have hcq := hcx q hq
      rw [hcq]
      simp only [Option.map_some, Nat.zero_le, true_and, Nat.zero_add, hd', if_pos hq, Nat.sub_zero]
      show some (xs[d'[q]! % l.length]!) = _
      have : d'[q]! = d'[q] := getElem!_pos d' q (by omega)
      rw [this, Nat.mod_eq_of_lt (hlt _ (by simp))]
    have hown : (sortWorld enc w b 0 n d' os).ownsRow W0.heap.size e 1 (.slice (some ⟨b, 0, none⟩) l.length c) l.length (d'.toList.map fun i => xs[i]!) := by
      refine ⟨by simp [hd'], Or.inr ⟨b, c, putCells enc 0 d' cur, rfl, hB, sw_row hg, hn, hm, by unfold putCells; rw [Array.size_mapIdx]; exact hcs, ?_⟩⟩
      rw [Nat.mul_one]
      refine List.ext_getElem? fun q => ?_
      rw [List.getElem?_take]
      split
      · next hq =>
        rw [Array.getElem?_toList, hcells q hq, List.getElem?_map, Array.getElem?_toList]
        have : d'[q]! = d'[q] := getElem!_pos d' q (by omega)
        rw [this, Array.getElem?_eq_getElem (by omega)]
        rfl
      · next hq => rw [List.getElem?_eq_none (by simp; omega)]
    have hsize : w.heap.size ≤ (sortWorld enc w b 0 n d' os).heap.size := by
      unfold sortWorld putRow mapBlock grow
      show _ ≤ ((Sort.ahead w n).heap.modify b _ ++ os).size
      rw [Array.size_append, Array.size_modify]
      exact Nat.le_add_right _ _
    have H1 := H.change k hp (w' := sortWorld enc w b 0 n d' os) (p' := .row (.slice (some ⟨b, 0, none⟩) l.length c) e 1 l.length (d'.toList.map fun i => xs[i]!)) rfl rfl rfl hsize (fun i hi hne => sw_block hi (fun e2 => hne (by subst e2; rfl))) hown (Or.inl rfl)
    refine H1.add _ ⟨?_, fun e2 x hx => ?_⟩ fun x hx => ?_
    · exact reps_stay hr2 fun z hz => sw_block (hF z (hF'.subset hz)).1 (hbF z (hF'.subset hz))
    · have h2 := hfr e2 x (hF'.subset hx)
      obtain ⟨o1, o2, ho⟩ := h2
      exact ⟨o1, o2, (sw_block (hF x (hF'.subset hx)).1 (hbF x (hF'.subset hx))).trans ho⟩
    · refine ⟨Nat.lt_of_lt_of_le (hF x (hF'.subset hx)).1 hsize, fun i hi => ?_⟩
      have h3 := (hF x (hF'.subset hx)).2
      by_cases e3 : i = k
      · subst e3
        have : (ps.set i (Prv.row (.slice (some ⟨b, 0, none⟩) l.length c) e 1 l.length (d'.toList.map fun i => xs[i]!)))[i]? = some (Prv.row (.slice (some ⟨b, 0, none⟩) l.length c) e 1 l.length (d'.toList.map fun i => xs[i]!)) := set_at hp
        simp only [vZ, this, Option.bind_some, Prv.blk, Value.ownBlock, Option.some.injEq] at hi
        exact hbF x (hF'.subset hx) hi.symm
      · have : vZ (ps.set k (Prv.row (.slice (some ⟨b, 0, none⟩) l.length c) e 1 l.length (d'.toList.map fun i => xs[i]!))) i = vZ ps i := by unfold vZ; rw [List.getElem?_set_ne (Ne.symm e3)]
        rw [this] at hi
        exact h3 i hi
end
end
section
open Go.ChangeShapes Go.WideShapes Go.ChangeAt Go.RowKit Go.Joins
set_option linter.unusedVariables false
set_option linter.unusedSimpArgs false
def Reads (P : Program) (t : TypeId) (α : Type) [qB α] : Prop :=
  ∀ {H : Type} {enc : TypeId × Value → H} {w : World} {spare : Nat → Bool} {held : Bool} {fuel : Nat} {cs : List Value} {x : DataW H × List MemPlace},
    DataW.trod enc P w 0 spare held fuel t cs = some x → ∃ F, ∃ y : α, qB.rep w F cs y

theorem QX {P : Program} {t : TypeId} (hu : P.underlying t = some (.int .i64)) : Reads P t Int := fun h => by
  obtain ⟨n, rfl, _⟩ := DataW.trod_int hu h
  exact ⟨[], n, rfl, rfl⟩
theorem reads_bool {P : Program} {t : TypeId} (hu : P.underlying t = some .bool) : Reads P t Bool := fun h => by
  obtain ⟨b, rfl, _⟩ := DataW.trod_bool hu h
  exact ⟨[], b, rfl, rfl⟩

theorem cell_spot {w : World} {a : Addr} {v : Value} (h : w.cell? a = some v) : a.spot = none := by
  unfold World.cell? at h
  split at h
  · split at h
    · cases h
    · rename_i hs; simpa using hs
  · cases h

theorem yM {α : Type} [qB α] {P : Program} {t e : TypeId} (hu : P.underlying t = some (.slice e)) (hc : P.cellsOf e = qB.size α) (hz : 0 < qB.size α) (he : Reads P e α) : Reads P t (List α) := by
  intro H enc w spare held fuel cs x h
  rcases DataW.trod_slice hu h with ⟨rfl, _⟩ | ⟨a, len, cap, elems, rest, n, _, rfl, _, _, hlc, hcm, hel, hget, _⟩
  · exact ⟨[], [], none, 0, rfl, by simp, Or.inl ⟨rfl, rfl⟩⟩
  · have hm : cap ≤ 9223372036854775807 := by unfold maxLen at hcm; omega
    rcases Nat.eq_zero_or_pos len with h0 | h0
    · subst h0
      exact ⟨[], [], some a, cap, rfl, by simp, Or.inl ⟨rfl, rfl⟩⟩
    · have hone : ∀ i, i < len → ∃ ci Fi, ∃ y : α, w.cells? 0 (a.add (i * qB.size α)) (qB.size α) = some ci ∧ qB.rep w Fi ci y := by
        intro i hi
        have hg := hget i hi
        rw [hc] at hg
        have hs : elems[i]? = some (elems[i]'(by omega)) := List.getElem?_eq_getElem (by omega)
        rw [hs] at hg
        obtain ⟨ci, h1, h2⟩ := Option.bind_eq_some_iff.1 hg
        obtain ⟨Fi, y, hr⟩ := he h2
        exact ⟨ci, Fi, y, h1, hr⟩
      have hsp : a.spot = none := by
        obtain ⟨ci, Fi, y, h1, _⟩ := hone 0 h0
        obtain ⟨_, hl, hcell⟩ := World.cells?_some h1
        have := hcell 0 hz
        rw [List.getElem?_eq_getElem (show 0 < ci.length by omega)] at this
        have := cell_spot this
        simpa [Addr.add] using this
      obtain ⟨b, off, sp⟩ := a
      simp only at hsp
      subst hsp
      have hadd : ∀ i j : Nat, ((⟨b, off, none⟩ : Addr).add (i * qB.size α)).add j = ⟨b, off + i * qB.size α + j, none⟩ := fun i j => by simp [Addr.add_mid]
      have hall : ∀ m, m ≤ len → ∃ F vs, ∃ l : List α, l.length = m ∧ reps w F vs l ∧ zK w b off vs := by
        intro m
        induction m with
        | zero => exact fun _ => ⟨[], [], [], rfl, ⟨rfl, rfl⟩, fun i v hv => by simp at hv⟩
        | succ m ih =>
          intro hm'
          obtain ⟨F, vs, l, hl, hr, hcl⟩ := ih (by omega)
          obtain ⟨ci, Fi, y, h1, h2⟩ := hone m (by omega)
          obtain ⟨_, hcl2, hcell⟩ := World.cells?_some h1
          refine ⟨F ++ Fi, vs ++ ci, l ++ [y], by simp [hl], yL hr (reps_one h2), fun i v hv => ?_⟩
          have hvl := VJ hr
          rw [hl] at hvl
          rcases Nat.lt_or_ge i vs.length with hi | hi
          · rw [List.getElem?_append_left hi] at hv
            exact hcl i v hv
          · rw [List.getElem?_append_right hi] at hv
            have hi2 : i - vs.length < ci.length := by
              rcases Nat.lt_or_ge (i - vs.length) ci.length with h | h
              · exact h
              · simp [h] at hv
            have := hcell (i - vs.length) (by omega)
            rw [hadd, hv] at this
            rw [← this]
            congr 1
            rw [show off + i = off + m * qB.size α + (i - vs.length) by omega]
      obtain ⟨F, vs, l, hl, hr, hcl⟩ := hall len (Nat.le_refl _)
      have hb : b < w.heap.size := by
        have h1 : 0 < vs.length := by rw [VJ hr, hl]; exact Nat.mul_pos h0 hz
        exact World.block_lt_of_cell? w _ (hcl 0 _ (List.getElem?_eq_getElem h1))
      subst hl
      exact ⟨b :: F, l, some ⟨b, off, none⟩, cap, rfl, ⟨by omega, hlc⟩, Or.inr ⟨b, off, F, vs, rfl, rfl, hb, hr, hcl⟩⟩

theorem je {n : Nat} {cs : List Value} (h : cs.length = n + 1) : ∃ c cs', cs = c :: cs' ∧ cs'.length = n := by
  cases cs with
  | nil => simp at h
  | cons c cs => exact ⟨c, cs, rfl, by simpa using h⟩
theorem jq {P : Program} {H : Type} {enc : TypeId × Value → H} {w : World} {spare : Nat → Bool} {held : Bool} {fuel : Nat} {t : TypeId} {fs : Array Field} {cs : List Value} {x : DataW H × List MemPlace} (hu : P.underlying t = some (.struct fs))
    (h : DataW.trod enc P w 0 spare held fuel t cs = some x) (i off : Nat) {f : Field} (hf : fs[i]? = some f) (ho : f.offset = off) {α : Type} [qB α] (hr : Reads P f.type α) (h1 : qB.size α = 1) (hc : P.cellsOf f.type = 1) :
    ∃ F, ∃ y : α, ∃ v, cs[off]? = some v ∧ qB.rep w F [v] y := by
  obtain ⟨xs, n, _, _, hl, hxl, hall⟩ := DataW.trod_struct hu h
  have hi : i < xs.length := by
    rw [hxl]
    exact (Array.getElem?_eq_some_iff.1 hf).1
  have hg := hall i f hf
  rw [List.getElem?_eq_getElem hi, hc, ho] at hg
  obtain ⟨F, y, hy⟩ := hr hg
  have hlen := qB.len hy
  rw [h1] at hlen
  obtain ⟨v, cs', e, hl'⟩ := je hlen
  obtain rfl := List.eq_nil_of_length_eq_zero hl'
  rw [e] at hy
  refine ⟨F, y, v, ?_, hy⟩
  have : (List.take 1 (List.drop off cs))[0]? = some v := by rw [e]; rfl
  simpa using this
theorem arg_struct {P : Program} {α : Type} [qB α] {H : Type} {enc : TypeId × Value → H} {w : World} {spare : Nat → Bool} {held : Bool} {b0 : Nat} {t : TypeId} {fs : Array Field} {v : Value} {d : DataW H} {p : List MemPlace} (hu : P.underlying t = some (.struct fs)) (hr : Reads P t α)
    (hv : Value.okWide P w .any b0 t v) (h : DataW.Trod enc P w 0 spare held t v d p) : ∃ (cs : List Value) (F : List Nat) (x : α), v = .agg cs.toArray ∧ qB.rep w F cs x := by
  obtain ⟨cs, rfl, _⟩ := okWide_struct hu hv
  obtain ⟨fuel, hf⟩ := h
  obtain ⟨F, x, hx⟩ := hr hf
  exact ⟨cs.toList, F, x, by simp, hx⟩
theorem slice_is {α : Type} [qB α] {w : World} {F : List Nat} {v : Value} {l : List α} (h : qB.rep w F [v] l) : ∃ a c, v = .slice a l.length c ∧ qB.rep w F [.slice a l.length c] l := by
  obtain ⟨a, c, hc, _⟩ := id h
  simp only [List.cons.injEq, and_true] at hc
  exact ⟨a, c, hc, hc ▸ h⟩
section
variable {H : Type} {enc : TypeId × Value → H} {P : Program}

theorem trodAll_below (hl : laidOutB P = true) {W W' : World} (hb : Below W.heap.size W W') :
    ∀ (ts : List TypeId) (vs : List Value) (ds : List (DataW H)) (ps : List MemPlace), (∀ t ∈ ts, P.readableRec t = true ∧ t < P.types.size) →
      DataW.TrodAll enc P W 0 (fun _ => true) true ts vs ds ps → (∀ x ∈ ps, x.block < W.heap.size) →
      DataW.TrodAll enc P W' 0 (fun b => decide (b < W.heap.size)) true ts vs ds ps
  | [], vs, ds, ps, _, h, _ => by
    obtain ⟨rfl, rfl, rfl⟩ := trodAll_nil h
    exact trodAll_mk0
  | t :: ts, vs, ds, ps, hr, h, hp => by
    obtain ⟨v, vs', d, ds', p, q, rfl, rfl, rfl, h0, h1⟩ := trodAll_cons h
    have ht := hr t (List.mem_cons_self ..)
    exact trodAll_cons_mk (Below.trod hl ht.1 ht.2 h0 hb (fun x hx => hp x (List.mem_append_left _ hx)))
      (trodAll_below hl hb ts vs' ds' q (fun t' ht' => hr t' (List.mem_cons_of_mem _ ht')) h1 (fun x hx => hp x (List.mem_append_right _ hx)))

theorem post_law {f : Func} {s : ChangeSpec} {W W' : World} {args : Array Value} {tb : TypeId} {ds gs : List (DataW H)} {before : List MemPlace}
    (hW : DataW.Whole enc P f.params.toList s.vars false W args.toList ds gs before) (hv : s.vars = [])
    (hs : s.fn H (ds ++ []) = { results := [.lit (.bool true)], args := ds }) (hr : f.resultTypes = #[tb]) (hu : P.underlying tb = some .bool)
    (hl : laidOutB P = true) (hts : ∀ t ∈ f.params.toList, P.readableRec t = true ∧ t < P.types.size) (hb : Below W.heap.size W W') :
    s.post enc P f false true false false W args (.bool true) W' := by
  have hW' := hW
  obtain ⟨p, q, hA, hV, rfl, hz, hn⟩ := hW
  rw [hv] at hV
  obtain ⟨rfl, rfl⟩ := trodVars_none hV
  have hlt : ∀ x ∈ p ++ [], x.block < W.heap.size := fun x hx => hW'.lt x hx
  refine ⟨ds, [], p ++ [], [], p, [], hW', ?_, ?_, ?_, World.keptBut_mono (fun x hx => ⟨hx, Or.inr (Or.inl (by simpa using hx))⟩) (hb.frame (· ∈ p ++ [])), fun h => by cases h⟩
  · rw [hs, hr]
    simp only [Value.resultList]
    exact trodAll_mk1 (shut_bool hu true)
  · rw [hs]
    exact trodAll_below hl hb _ _ _ _ hts hA (fun x hx => hlt x (by simpa using hx))
  · rw [hv, hs]
    exact rfl
end
end
section
open Go.RowKit
set_option linter.unusedVariables false
set_option linter.unusedSimpArgs false
set_option maxRecDepth 100000
set_option maxHeartbeats 4000000
variable {ax al qo qC qN xh qG : Option Addr} {cx cl bs os qm qA bt ot qL qZ qF : Nat} {Fx Fl qP xu xE zf xw : List Nat}
theorem yS (w : World) (x : List Int) (kk : Int) (ax : Option Addr) (cx : Nat) (Fx : List Nat) (hx : qB.rep w Fx [.slice ax x.length cx] x) (nd : Fx.Nodup) (fr : zC w Fx) (p0 : 0 ≤ kk) (p1 : kk + (cnt x : Nat) ≤ 4611686018427387904) : Calls Tryz.prog 68 #[.slice ax x.length cx, .int .i64 kk] w (RetM (fun v w' => v = .int .i64 (kk + (cnt x : Nat)) ∧ (isF true Fx (.slice ax x.length cx) (mrk x kk)).φ w') Fx w) := by
 refine en Tryz.func68 Tryz.ntmps68 ?_
 have H := St.start w
 replace H := H.add (sF true Fx ax cx x) ⟨hx, fun _ => fr.sub (by intro z hz; simp [hz])⟩ (VH hx)
 have nhx := qx hx
 clear hx
 have C : Chg Fx w w := Chg.refl _ _
 have N : ([Fx] : List (List Nat)).flatten.Nodup := by simpa using nd
 refine zcr (sp (.int .i64 0) (zjcc (sp (.int .i64 0) (zjn (qM ?_)))))
 replace H : St w w [] [isF true Fx (.slice ax x.length cx) (zO x kk 0)] := by rw [markTo_zero]; exact H
 refine xQ (fun m' ρ w1 => ∃ (junk : Env) (k : Nat) (r : Int) (W : World), ρ = upd (upd (upd (upd junk 0 (.slice ax x.length cx)) 1 (.int .i64 r)) 4 (.int .i64 0)) 5 (.int .i64 k) ∧ (k ≤ x.length) ∧ (r = kk + (X9 x k : Nat)) ∧ (Chg Fx w W) ∧ m' = x.length - k ∧ St W w1 [] [isF true Fx (.slice ax x.length cx) (zO x kk k)]) (x.length - 0) ⟨_, 0, kk, w, uE4, (by omega), (by exact (Int.add_zero _).symm), (by exact C), rfl, H⟩ ?_
 clear H
 rintro m' ρ w2 ⟨junk, k, r, W, rfl, i0, i1, C, rfl, H⟩
 have hc := fun h => cnt_get (l := x) (k := k) h
 refine zcc (sps [.int .i64 k, .slice ax x.length cx] (oN rfl (sp (.bool (decide ((k : Int) < x.length))) (zjn (cD rfl (fun h3 => ?_) (fun h3 => ?_))))))
 ·skip
  refine qK (t_n (xC (qM (zcr (sps [.slice ax x.length cx, .int .i64 k, .int .i64 r] ?_)))))
  obtain ⟨b4, o5, rfl⟩ := H.addr 0 rfl (by rw [zX _ _ (by omega)]; omega)
  obtain ⟨xs1, xs2, G1, G2, rfl, hx, H, N⟩ := H.open_Int nd k (by rw [zX _ _ (by omega)]; omega) (markTo_get _ _ (by omega))
  refine oI rfl rfl (sw (o_storeHole H N _ 0 hx (.int .i64 r) Tryz.sizeOf2 rfl rfl rfl (Nat.le_of_ble_eq_true rfl) fun w6 W7 C8 H => ?_))
  replace C := C.trans (C8.mono (hole_sub _ _ _ _))
  replace H : St _ _ _ [XE b4 o5 xs1 [.int .i64 r] xs2 G1 G2 ((zO x kk k).take k) ((zO x kk k).drop (k + 1))] := H
  refine zjn (xH (sp (.int .i64 r) (sw (xX r 1 rfl rfl (by (have := hc (by omega); have e : cnt (x[k]!) = 1 := rfl; omega)) (sp (.int .i64 (r + 1)) (xG (b_n (t_n (xH (sp (.int .i64 k) (sw (xX k 1 rfl rfl (by (have := hc (by omega); have e : cnt (x[k]!) = 1 := rfl; omega)) (sp (.int .i64 (k + 1)) (xG ?_))))))))))))))
  replace H := H.closeAt (y := mrk (x[k]!) r) (m := x.length) (c := cx) ⟨rfl, rfl⟩ (zC.nil _) (by intro z hz; simp at hz) (zO x kk (k + 1)) (by subst i1; exact markTo_step _ _ (by omega)) (zX _ _ (by omega)) (by rw [zX _ _ (by omega)]; exact nhx)
  refine qR (m' := x.length - (k + 1)) (by omega) ⟨_, k + 1, r + 1, W7, uE4, ?_, ?_, ?_, rfl, H⟩
  · omega
  · rw [yg]; have e : cnt (x[k]!) = 1 := rfl; omega
  · exact C
 refine zx4 (zcr (sps [.int .i64 r, .int .i64 r] (zjr ?_)))
 obtain rfl : k = x.length := by omega
 refine ret1 (.int .i64 r) rfl rfl ⟨_, rfl, ⟨?_, H.get 0 rfl⟩, C.trans (Chg.ofExt H.base)⟩
 first | rfl | (refine congrArg (Value.int .i64) ?_; rw [XQ]; omega)

theorem markBoolS_ok (w : World) (x : List Bool) (kk : Int) (ax : Option Addr) (cx : Nat) (Fx : List Nat) (hx : qB.rep w Fx [.slice ax x.length cx] x) (nd : Fx.Nodup) (fr : zC w Fx) (p0 : 0 ≤ kk) (p1 : kk + (cnt x : Nat) ≤ 4611686018427387904) : Calls Tryz.prog 70 #[.slice ax x.length cx, .int .i64 kk] w (RetM (fun v w' => v = .int .i64 (kk + (cnt x : Nat)) ∧ (isF true Fx (.slice ax x.length cx) (mrk x kk)).φ w') Fx w) := by
 refine en Tryz.func70 Tryz.ntmps70 ?_
 have H := St.start w
 replace H := H.add (sF true Fx ax cx x) ⟨hx, fun _ => fr.sub (by intro z hz; simp [hz])⟩ (VH hx)
 have nhx := qx hx
 clear hx
 have C : Chg Fx w w := Chg.refl _ _
 have N : ([Fx] : List (List Nat)).flatten.Nodup := by simpa using nd
 refine zcr (sp (.int .i64 0) (zjcc (sp (.int .i64 0) (zjn (qM ?_)))))
 replace H : St w w [] [isF true Fx (.slice ax x.length cx) (zO x kk 0)] := by rw [markTo_zero]; exact H
 refine xQ (fun m' ρ w1 => ∃ (junk : Env) (k : Nat) (r : Int) (W : World), ρ = upd (upd (upd (upd junk 0 (.slice ax x.length cx)) 1 (.int .i64 r)) 4 (.int .i64 0)) 5 (.int .i64 k) ∧ (k ≤ x.length) ∧ (r = kk + (X9 x k : Nat)) ∧ (Chg Fx w W) ∧ m' = x.length - k ∧ St W w1 [] [isF true Fx (.slice ax x.length cx) (zO x kk k)]) (x.length - 0) ⟨_, 0, kk, w, uE4, (by omega), (by exact (Int.add_zero _).symm), (by exact C), rfl, H⟩ ?_
 clear H
 rintro m' ρ w2 ⟨junk, k, r, W, rfl, i0, i1, C, rfl, H⟩
 have hc := fun h => cnt_get (l := x) (k := k) h
 refine zcc (sps [.int .i64 k, .slice ax x.length cx] (oN rfl (sp (.bool (decide ((k : Int) < x.length))) (zjn (cD rfl (fun h3 => ?_) (fun h3 => ?_))))))
 ·skip
  refine qK (t_n (xC (qM (zcr (sps [.slice ax x.length cx, .int .i64 k, .int .i64 r] (sw (o_rem r 3 rfl rfl (by (have := hc (by omega); have e : cnt (x[k]!) = 1 := rfl; omega)) (by omega) (by (have := hc (by omega); have e : cnt (x[k]!) = 1 := rfl; omega)) (sp (.bool ((r % 3 : Int) == 0)) ?_))))))))
  obtain ⟨b4, o5, rfl⟩ := H.addr 0 rfl (by rw [zX _ _ (by omega)]; omega)
  obtain ⟨xs1, xs2, G1, G2, rfl, hx, H, N⟩ := H.open_Bool nd k (by rw [zX _ _ (by omega)]; omega) (markTo_get _ _ (by omega))
  refine oI rfl rfl (sw (o_storeHole H N _ 0 hx (.bool ((r % 3 : Int) == 0)) Tryz.sizeOf4 rfl rfl rfl (Nat.le_of_ble_eq_true rfl) fun w6 W7 C8 H => ?_))
  replace C := C.trans (C8.mono (hole_sub _ _ _ _))
  replace H : St _ _ _ [XE b4 o5 xs1 [.bool ((r % 3 : Int) == 0)] xs2 G1 G2 ((zO x kk k).take k) ((zO x kk k).drop (k + 1))] := H
  refine zjn (xH (sp (.int .i64 r) (sw (xX r 1 rfl rfl (by (have := hc (by omega); have e : cnt (x[k]!) = 1 := rfl; omega)) (sp (.int .i64 (r + 1)) (xG (b_n (t_n (xH (sp (.int .i64 k) (sw (xX k 1 rfl rfl (by (have := hc (by omega); have e : cnt (x[k]!) = 1 := rfl; omega)) (sp (.int .i64 (k + 1)) (xG ?_))))))))))))))
  replace H := H.closeAt (y := mrk (x[k]!) r) (m := x.length) (c := cx) ⟨rfl, rfl⟩ (zC.nil _) (by intro z hz; simp at hz) (zO x kk (k + 1)) (by subst i1; exact markTo_step _ _ (by omega)) (zX _ _ (by omega)) (by rw [zX _ _ (by omega)]; exact nhx)
  refine qR (m' := x.length - (k + 1)) (by omega) ⟨_, k + 1, r + 1, W7, uE4, ?_, ?_, ?_, rfl, H⟩
  · omega
  · rw [yg]; have e : cnt (x[k]!) = 1 := rfl; omega
  · exact C
 refine zx4 (zcr (sps [.int .i64 r, .int .i64 r] (zjr ?_)))
 obtain rfl : k = x.length := by omega
 refine ret1 (.int .i64 r) rfl rfl ⟨_, rfl, ⟨?_, H.get 0 rfl⟩, C.trans (Chg.ofExt H.base)⟩
 first | rfl | (refine congrArg (Value.int .i64) ?_; rw [XQ]; omega)

theorem markInt64SS_ok (w : World) (x : List (List Int)) (kk : Int) (ax : Option Addr) (cx : Nat) (Fx : List Nat) (hx : qB.rep w Fx [.slice ax x.length cx] x) (nd : Fx.Nodup) (fr : zC w Fx) (p0 : 0 ≤ kk) (p1 : kk + (cnt x : Nat) ≤ 4611686018427387904) : Calls Tryz.prog 25 #[.slice ax x.length cx, .int .i64 kk] w (RetM (fun v w' => v = .int .i64 (kk + (cnt x : Nat)) ∧ (isF true Fx (.slice ax x.length cx) (mrk x kk)).φ w') Fx w) := by
 refine en Tryz.func25 Tryz.ntmps25 ?_
 have H := St.start w
 replace H := H.add (sF true Fx ax cx x) ⟨hx, fun _ => fr.sub (by intro z hz; simp [hz])⟩ (VH hx)
 have nhx := qx hx
 clear hx
 have C : Chg Fx w w := Chg.refl _ _
 have N : ([Fx] : List (List Nat)).flatten.Nodup := by simpa using nd
 refine zcr (sp (.int .i64 0) (zjcc (sp (.int .i64 0) (zjn (qM ?_)))))
 replace H : St w w [] [isF true Fx (.slice ax x.length cx) (zO x kk 0)] := by rw [markTo_zero]; exact H
 refine xQ (fun m' ρ w1 => ∃ (junk : Env) (k : Nat) (r : Int) (W : World), ρ = upd (upd (upd (upd junk 0 (.slice ax x.length cx)) 1 (.int .i64 r)) 4 (.int .i64 0)) 5 (.int .i64 k) ∧ (k ≤ x.length) ∧ (r = kk + (X9 x k : Nat)) ∧ (Chg Fx w W) ∧ m' = x.length - k ∧ St W w1 [] [isF true Fx (.slice ax x.length cx) (zO x kk k)]) (x.length - 0) ⟨_, 0, kk, w, uE4, (by omega), (by exact (Int.add_zero _).symm), (by exact C), rfl, H⟩ ?_
 clear H
 rintro m' ρ w2 ⟨junk, k, r, W, rfl, i0, i1, C, rfl, H⟩
 have hc := fun h => cnt_get (l := x) (k := k) h
 refine zcc (sps [.int .i64 k, .slice ax x.length cx] (oN rfl (sp (.bool (decide ((k : Int) < x.length))) (zjn (cD rfl (fun h3 => ?_) (fun h3 => ?_))))))
 ·skip
  refine qK (t_n (xC (qM (xH (sps [.slice ax x.length cx, .int .i64 k] ?_)))))
  obtain ⟨b4, o5, rfl⟩ := H.addr 0 rfl (by rw [zX _ _ (by omega)]; omega)
  obtain ⟨xs1, xs2, G1, G2, aq, cq, Fq, rfl, hx, H, N⟩ := H.open_List nd k (by rw [zX _ _ (by omega)]; omega) (markTo_get _ _ (by omega))
  refine oI rfl rfl (oL rfl (H.VL _ 0 hx rfl) (sp (.int .i64 r) (sw (Xb #[.slice aq ((x[k]!).length) cq, .int .i64 r] rfl rfl Tryz.call68 (yS w2 (x[k]!) r aq cq Fq (H.get 1 rfl).1 (yI N 1 rfl) ((H.get 1 rfl).2 rfl) (by (have := hc (by omega); skip; omega)) (by (have := hc (by omega); skip; omega))) ?_))))
  rintro _ w6 ⟨rfl, m10⟩ x8
  obtain ⟨W7, C9, H⟩ := H.chgAt N 1 rfl (isF true Fq (.slice aq ((x[k]!).length) cq) (mrk (x[k]!) r)) rfl x8 m10
  replace C := C.trans (C9.mono (by intro z hz; have hz : z ∈ Fq := hz; simp [hz]))
  replace H : St _ _ _ [XE b4 o5 xs1 [.slice aq ((x[k]!).length) cq] xs2 G1 G2 ((zO x kk k).take k) ((zO x kk k).drop (k + 1)), isF true Fq (.slice aq ((x[k]!).length) cq) (mrk (x[k]!) r)] := H
  refine sp (.int .i64 (r + (cnt (x[k]!) : Nat))) (xG (b_n (t_n (xH (sp (.int .i64 k) (sw (xX k 1 rfl rfl (by (have := hc (by omega); skip; omega)) (sp (.int .i64 (k + 1)) (xG ?_)))))))))
  replace H := H.closeAt (y := mrk (x[k]!) r) (m := x.length) (c := cx) (H.get 1 rfl).1 ((H.get 1 rfl).2 rfl) (H.ltOwn 1 rfl) (zO x kk (k + 1)) (by subst i1; exact markTo_step _ _ (by omega)) (zX _ _ (by omega)) (by rw [zX _ _ (by omega)]; exact nhx)
  refine qR (m' := x.length - (k + 1)) (by omega) ⟨_, k + 1, r + (cnt (x[k]!) : Nat), W7, uE4, ?_, ?_, ?_, rfl, H⟩
  · omega
  · rw [yg]; skip; omega
  · exact C
 refine zx4 (zcr (sps [.int .i64 r, .int .i64 r] (zjr ?_)))
 obtain rfl : k = x.length := by omega
 refine ret1 (.int .i64 r) rfl rfl ⟨_, rfl, ⟨?_, H.get 0 rfl⟩, C.trans (Chg.ofExt H.base)⟩
 first | rfl | (refine congrArg (Value.int .i64) ?_; rw [XQ]; omega)

theorem markIntoS_ok (w : World) (x : List IntoD) (kk : Int) (ax : Option Addr) (cx : Nat) (Fx : List Nat) (hx : qB.rep w Fx [.slice ax x.length cx] x) (nd : Fx.Nodup) (fr : zC w Fx) (p0 : 0 ≤ kk) (p1 : kk + (cnt x : Nat) ≤ 4611686018427387904) : Calls Tryz.prog 110 #[.slice ax x.length cx, .int .i64 kk] w (RetM (fun v w' => v = .int .i64 (kk + (cnt x : Nat)) ∧ (isF true Fx (.slice ax x.length cx) (mrk x kk)).φ w') Fx w) := by
 refine en Tryz.func110 Tryz.ntmps110 ?_
 have H := St.start w
 replace H := H.add (sF true Fx ax cx x) ⟨hx, fun _ => fr.sub (by intro z hz; simp [hz])⟩ (VH hx)
 have nhx := qx hx
 clear hx
 have C : Chg Fx w w := Chg.refl _ _
 have N : ([Fx] : List (List Nat)).flatten.Nodup := by simpa using nd
 refine zcr (sp (.int .i64 0) (zjcc (sp (.int .i64 0) (zjn (qM ?_)))))
 replace H : St w w [] [isF true Fx (.slice ax x.length cx) (zO x kk 0)] := by rw [markTo_zero]; exact H
 refine xQ (fun m' ρ w1 => ∃ (junk : Env) (k : Nat) (r : Int) (W : World), ρ = upd (upd (upd (upd junk 0 (.slice ax x.length cx)) 1 (.int .i64 r)) 4 (.int .i64 0)) 5 (.int .i64 k) ∧ (k ≤ x.length) ∧ (r = kk + (X9 x k : Nat)) ∧ (Chg Fx w W) ∧ m' = x.length - k ∧ St W w1 [] [isF true Fx (.slice ax x.length cx) (zO x kk k)]) (x.length - 0) ⟨_, 0, kk, w, uE4, (by omega), (by exact (Int.add_zero _).symm), (by exact C), rfl, H⟩ ?_
 clear H
 rintro m' ρ w2 ⟨junk, k, r, W, rfl, i0, i1, C, rfl, H⟩
 have hc := fun h => cnt_get (l := x) (k := k) h
 refine zcc (sps [.int .i64 k, .slice ax x.length cx] (oN rfl (sp (.bool (decide ((k : Int) < x.length))) (zjn (cD rfl (fun h3 => ?_) (fun h3 => ?_))))))
 ·skip
  refine qK (t_n (xC (qM (zcr (sps [.slice ax x.length cx, .int .i64 k, .int .i64 r] ?_)))))
  obtain ⟨b4, o5, rfl⟩ := H.addr 0 rfl (by rw [zX _ _ (by omega)]; omega)
  obtain ⟨xs1, xs2, G1, G2, aqBag, cqBag, FqBag, rfl, hx, H, N⟩ := H.open_IntoD nd k (by rw [zX _ _ (by omega)]; omega) (markTo_get _ _ (by omega))
  refine oI rfl rfl (oF rfl (sw (o_storeHole H N _ 0 hx (.int .i64 r) Tryz.sizeOf2 rfl rfl rfl (Nat.le_of_ble_eq_true rfl) fun w6 W7 C8 H => ?_)))
  replace C := C.trans (C8.mono (hole_sub _ _ _ _))
  replace H : St _ _ _ [XE b4 o5 xs1 [.int .i64 r, .slice aqBag (((x[k]!).vS).length) cqBag] xs2 G1 G2 ((zO x kk k).take k) ((zO x kk k).drop (k + 1)), sF true FqBag aqBag cqBag ((x[k]!).vS)] := H
  refine zjc (sp (.int .i64 r) (sw (xX r 1 rfl rfl (by (have := hc (by omega); have e := cnt_IntoD (x[k]!); omega)) (sp (.int .i64 (r + 1)) (zjn (xH (sps [.slice (aa b4 o5) x.length cx, .int .i64 k] (oI rfl rfl (oF rfl (oL rfl (H.VL _ 1 hx rfl) (sp (.int .i64 (r + 1)) (sw (Xb #[.slice aqBag (((x[k]!).vS).length) cqBag, .int .i64 (r + 1)] rfl rfl Tryz.call68 (yS w6 ((x[k]!).vS) (r + 1) aqBag cqBag FqBag (H.get 1 rfl).1 (yI N 1 rfl) ((H.get 1 rfl).2 rfl) (by (have := hc (by omega); have e := cnt_IntoD (x[k]!); omega)) (by (have := hc (by omega); have e := cnt_IntoD (x[k]!); omega))) ?_)))))))))))))
  rintro _ w9 ⟨rfl, m13⟩ x11
  obtain ⟨W10, C12, H⟩ := H.chgAt N 1 rfl (isF true FqBag (.slice aqBag (((x[k]!).vS).length) cqBag) (mrk ((x[k]!).vS) (r + 1))) rfl x11 m13
  replace C := C.trans (C12.mono (by intro z hz; have hz : z ∈ FqBag := hz; simp [hz]))
  replace H : St _ _ _ [XE b4 o5 xs1 [.int .i64 r, .slice aqBag (((x[k]!).vS).length) cqBag] xs2 G1 G2 ((zO x kk k).take k) ((zO x kk k).drop (k + 1)), isF true FqBag (.slice aqBag (((x[k]!).vS).length) cqBag) (mrk ((x[k]!).vS) (r + 1))] := H
  refine sp (.int .i64 (r + 1 + (cnt ((x[k]!).vS) : Nat))) (xG (b_n (t_n (xH (sp (.int .i64 k) (sw (xX k 1 rfl rfl (by (have := hc (by omega); have e := cnt_IntoD (x[k]!); omega)) (sp (.int .i64 (k + 1)) (xG ?_)))))))))
  replace H := H.closeAt (y := mrk (x[k]!) r) (m := x.length) (c := cx) ⟨_, _, rfl, rfl, (H.get 1 rfl).1⟩ ((H.get 1 rfl).2 rfl) (H.ltOwn 1 rfl) (zO x kk (k + 1)) (by subst i1; exact markTo_step _ _ (by omega)) (zX _ _ (by omega)) (by rw [zX _ _ (by omega)]; exact nhx)
  refine qR (m' := x.length - (k + 1)) (by omega) ⟨_, k + 1, r + 1 + (cnt ((x[k]!).vS) : Nat), W10, uE4, ?_, ?_, ?_, rfl, H⟩
  · omega
  · rw [yg]; have e := cnt_IntoD (x[k]!); omega
  · exact C
 refine zx4 (zcr (sps [.int .i64 r, .int .i64 r] (zjr ?_)))
 obtain rfl : k = x.length := by omega
 refine ret1 (.int .i64 r) rfl rfl ⟨_, rfl, ⟨?_, H.get 0 rfl⟩, C.trans (Chg.ofExt H.base)⟩
 first | rfl | (refine congrArg (Value.int .i64) ?_; rw [XQ]; omega)

theorem markRuleS_ok (w : World) (x : List Qr) (kk : Int) (ax : Option Addr) (cx : Nat) (Fx : List Nat) (hx : qB.rep w Fx [.slice ax x.length cx] x) (nd : Fx.Nodup) (fr : zC w Fx) (p0 : 0 ≤ kk) (p1 : kk + (cnt x : Nat) ≤ 4611686018427387904) : Calls Tryz.prog 69 #[.slice ax x.length cx, .int .i64 kk] w (RetM (fun v w' => v = .int .i64 (kk + (cnt x : Nat)) ∧ (isF true Fx (.slice ax x.length cx) (mrk x kk)).φ w') Fx w) := by
 refine en Tryz.func69 Tryz.ntmps69 ?_
 have H := St.start w
 replace H := H.add (sF true Fx ax cx x) ⟨hx, fun _ => fr.sub (by intro z hz; simp [hz])⟩ (VH hx)
 have nhx := qx hx
 clear hx
 have C : Chg Fx w w := Chg.refl _ _
 have N : ([Fx] : List (List Nat)).flatten.Nodup := by simpa using nd
 refine zcr (sp (.int .i64 0) (zjcc (sp (.int .i64 0) (zjn (qM ?_)))))
 replace H : St w w [] [isF true Fx (.slice ax x.length cx) (zO x kk 0)] := by rw [markTo_zero]; exact H
 refine xQ (fun m' ρ w1 => ∃ (junk : Env) (k : Nat) (r : Int) (W : World), ρ = upd (upd (upd (upd junk 0 (.slice ax x.length cx)) 1 (.int .i64 r)) 4 (.int .i64 0)) 5 (.int .i64 k) ∧ (k ≤ x.length) ∧ (r = kk + (X9 x k : Nat)) ∧ (Chg Fx w W) ∧ m' = x.length - k ∧ St W w1 [] [isF true Fx (.slice ax x.length cx) (zO x kk k)]) (x.length - 0) ⟨_, 0, kk, w, uE4, (by omega), (by exact (Int.add_zero _).symm), (by exact C), rfl, H⟩ ?_
 clear H
 rintro m' ρ w2 ⟨junk, k, r, W, rfl, i0, i1, C, rfl, H⟩
 have hc := fun h => cnt_get (l := x) (k := k) h
 refine zcc (sps [.int .i64 k, .slice ax x.length cx] (oN rfl (sp (.bool (decide ((k : Int) < x.length))) (zjn (cD rfl (fun h3 => ?_) (fun h3 => ?_))))))
 ·skip
  refine qK (t_n (xC (qM (zcr (sps [.slice ax x.length cx, .int .i64 k, .int .i64 r] ?_)))))
  obtain ⟨b4, o5, rfl⟩ := H.addr 0 rfl (by rw [zX _ _ (by omega)]; omega)
  obtain ⟨xs1, xs2, G1, G2, Vx, Vl, FqNeed, VB, Vq, FqHave, Vy, Vm, FqLack, VA, Vp, FqHere, aqOut, cqOut, FqOut, Vz, Vo, FqInto, rfl, hx, H, N⟩ := H.open_RuleD nd k (by rw [zX _ _ (by omega)]; omega) (markTo_get _ _ (by omega))
  refine oI rfl rfl (oF rfl (sw (o_storeHole H N _ 0 hx (.int .i64 r) Tryz.sizeOf2 rfl rfl rfl (Nat.le_of_ble_eq_true rfl) fun w6 W7 C8 H => ?_)))
  replace C := C.trans (C8.mono (hole_sub _ _ _ _))
  replace H : St _ _ _ [XE b4 o5 xs1 [.int .i64 r, .int .i64 ((x[k]!).zg), .slice Vx (((x[k]!).qV).length) Vl, .slice VB (((x[k]!).xg).length) Vq, .slice Vy (((x[k]!).xm).length) Vm, .slice VA (((x[k]!).xq).length) Vp, .slice aqOut (((x[k]!).zq).length) cqOut, .slice Vz (((x[k]!).qI).length) Vo, .bool ((x[k]!).xO)] xs2 G1 G2 ((zO x kk k).take k) ((zO x kk k).drop (k + 1)), sF true FqNeed Vx Vl ((x[k]!).qV), sF true FqHave VB Vq ((x[k]!).xg), sF true FqLack Vy Vm ((x[k]!).xm), sF true FqHere VA Vp ((x[k]!).xq), sF true FqOut aqOut cqOut ((x[k]!).zq), sF true FqInto Vz Vo ((x[k]!).qI)] := H
  refine zjc (sp (.int .i64 r) (sw (xX r 1 rfl rfl (by (have := hc (by omega); have e := yf (x[k]!); omega)) (sp (.int .i64 (r + 1)) (zjc (sps [.slice (aa b4 o5) x.length cx, .int .i64 k, .int .i64 (r + 1)] (oI rfl rfl (oF rfl (sw (o_storeHole H N _ 1 hx (.int .i64 (r + 1)) Tryz.sizeOf2 rfl rfl rfl (Nat.le_of_ble_eq_true rfl) fun w9 W10 C11 H => ?_))))))))))
  replace C := C.trans (C11.mono (hole_sub _ _ _ _))
  replace H : St _ _ _ [XE b4 o5 xs1 [.int .i64 r, .int .i64 (r + 1), .slice Vx (((x[k]!).qV).length) Vl, .slice VB (((x[k]!).xg).length) Vq, .slice Vy (((x[k]!).xm).length) Vm, .slice VA (((x[k]!).xq).length) Vp, .slice aqOut (((x[k]!).zq).length) cqOut, .slice Vz (((x[k]!).qI).length) Vo, .bool ((x[k]!).xO)] xs2 G1 G2 ((zO x kk k).take k) ((zO x kk k).drop (k + 1)), sF true FqNeed Vx Vl ((x[k]!).qV), sF true FqHave VB Vq ((x[k]!).xg), sF true FqLack Vy Vm ((x[k]!).xm), sF true FqHere VA Vp ((x[k]!).xq), sF true FqOut aqOut cqOut ((x[k]!).zq), sF true FqInto Vz Vo ((x[k]!).qI)] := H
  refine zjc (sp (.int .i64 (r + 1)) (sw (xX (r + 1) 1 rfl rfl (by (have := hc (by omega); have e := yf (x[k]!); omega)) (sp (.int .i64 ((r + 1) + 1)) (zjc (sps [.slice (aa b4 o5) x.length cx, .int .i64 k] (oI rfl rfl (oF rfl (oL rfl (H.VL _ 2 hx rfl) (sp (.int .i64 ((r + 1) + 1)) ?_))))))))))
  refine sw (Xb #[.slice Vx (((x[k]!).qV).length) Vl, .int .i64 ((r + 1) + 1)] rfl rfl Tryz.call68 (yS w9 ((x[k]!).qV) ((r + 1) + 1) Vx Vl FqNeed (H.get 1 rfl).1 (yI N 1 rfl) ((H.get 1 rfl).2 rfl) (by (have := hc (by omega); have e := yf (x[k]!); omega)) (by (have := hc (by omega); have e := yf (x[k]!); omega))) ?_)
  rintro _ w12 ⟨rfl, m16⟩ x14
  obtain ⟨W13, C15, H⟩ := H.chgAt N 1 rfl (isF true FqNeed (.slice Vx (((x[k]!).qV).length) Vl) (mrk ((x[k]!).qV) ((r + 1) + 1))) rfl x14 m16
  replace C := C.trans (C15.mono (by intro z hz; have hz : z ∈ FqNeed := hz; simp [hz]))
  replace H : St _ _ _ [XE b4 o5 xs1 [.int .i64 r, .int .i64 (r + 1), .slice Vx (((x[k]!).qV).length) Vl, .slice VB (((x[k]!).xg).length) Vq, .slice Vy (((x[k]!).xm).length) Vm, .slice VA (((x[k]!).xq).length) Vp, .slice aqOut (((x[k]!).zq).length) cqOut, .slice Vz (((x[k]!).qI).length) Vo, .bool ((x[k]!).xO)] xs2 G1 G2 ((zO x kk k).take k) ((zO x kk k).drop (k + 1)), isF true FqNeed (.slice Vx (((x[k]!).qV).length) Vl) (mrk ((x[k]!).qV) ((r + 1) + 1)), sF true FqHave VB Vq ((x[k]!).xg), sF true FqLack Vy Vm ((x[k]!).xm), sF true FqHere VA Vp ((x[k]!).xq), sF true FqOut aqOut cqOut ((x[k]!).zq), sF true FqInto Vz Vo ((x[k]!).qI)] := H
  refine sp (.int .i64 ((r + 1) + 1 + (cnt ((x[k]!).qV) : Nat))) (zjc (sps [.slice (aa b4 o5) x.length cx, .int .i64 k] (oI rfl rfl (oF rfl (oL rfl (H.VL _ 3 hx rfl) (sp (.int .i64 ((r + 1) + 1 + (cnt ((x[k]!).qV) : Nat))) ?_))))))
  refine sw (Xb #[.slice VB (((x[k]!).xg).length) Vq, .int .i64 ((r + 1) + 1 + (cnt ((x[k]!).qV) : Nat))] rfl rfl Tryz.call68 (yS w12 ((x[k]!).xg) ((r + 1) + 1 + (cnt ((x[k]!).qV) : Nat)) VB Vq FqHave (H.get 2 rfl).1 (yI N 2 rfl) ((H.get 2 rfl).2 rfl) (by (have := hc (by omega); have e := yf (x[k]!); omega)) (by (have := hc (by omega); have e := yf (x[k]!); omega))) ?_)
  rintro _ w17 ⟨rfl, m21⟩ x19
  obtain ⟨W18, C20, H⟩ := H.chgAt N 2 rfl (isF true FqHave (.slice VB (((x[k]!).xg).length) Vq) (mrk ((x[k]!).xg) ((r + 1) + 1 + (cnt ((x[k]!).qV) : Nat)))) rfl x19 m21
  replace C := C.trans (C20.mono (by intro z hz; have hz : z ∈ FqHave := hz; simp [hz]))
  replace H : St _ _ _ [XE b4 o5 xs1 [.int .i64 r, .int .i64 (r + 1), .slice Vx (((x[k]!).qV).length) Vl, .slice VB (((x[k]!).xg).length) Vq, .slice Vy (((x[k]!).xm).length) Vm, .slice VA (((x[k]!).xq).length) Vp, .slice aqOut (((x[k]!).zq).length) cqOut, .slice Vz (((x[k]!).qI).length) Vo, .bool ((x[k]!).xO)] xs2 G1 G2 ((zO x kk k).take k) ((zO x kk k).drop (k + 1)), isF true FqNeed (.slice Vx (((x[k]!).qV).length) Vl) (mrk ((x[k]!).qV) ((r + 1) + 1)), isF true FqHave (.slice VB (((x[k]!).xg).length) Vq) (mrk ((x[k]!).xg) ((r + 1) + 1 + (cnt ((x[k]!).qV) : Nat))), sF true FqLack Vy Vm ((x[k]!).xm), sF true FqHere VA Vp ((x[k]!).xq), sF true FqOut aqOut cqOut ((x[k]!).zq), sF true FqInto Vz Vo ((x[k]!).qI)] := H
  refine sp (.int .i64 ((r + 1) + 1 + (cnt ((x[k]!).qV) : Nat) + (cnt ((x[k]!).xg) : Nat))) (zjc (sps [.slice (aa b4 o5) x.length cx, .int .i64 k] (oI rfl rfl (oF rfl (oL rfl (H.VL _ 4 hx rfl) (sp (.int .i64 ((r + 1) + 1 + (cnt ((x[k]!).qV) : Nat) + (cnt ((x[k]!).xg) : Nat))) ?_))))))
  refine sw (Xb #[.slice Vy (((x[k]!).xm).length) Vm, .int .i64 ((r + 1) + 1 + (cnt ((x[k]!).qV) : Nat) + (cnt ((x[k]!).xg) : Nat))] rfl rfl Tryz.call68 (yS w17 ((x[k]!).xm) ((r + 1) + 1 + (cnt ((x[k]!).qV) : Nat) + (cnt ((x[k]!).xg) : Nat)) Vy Vm FqLack (H.get 3 rfl).1 (yI N 3 rfl) ((H.get 3 rfl).2 rfl) (by (have := hc (by omega); have e := yf (x[k]!); omega)) (by (have := hc (by omega); have e := yf (x[k]!); omega))) ?_)
  rintro _ w22 ⟨rfl, m26⟩ x24
  obtain ⟨W23, C25, H⟩ := H.chgAt N 3 rfl (isF true FqLack (.slice Vy (((x[k]!).xm).length) Vm) (mrk ((x[k]!).xm) ((r + 1) + 1 + (cnt ((x[k]!).qV) : Nat) + (cnt ((x[k]!).xg) : Nat)))) rfl x24 m26
  replace C := C.trans (C25.mono (by intro z hz; have hz : z ∈ FqLack := hz; simp [hz]))
  replace H : St _ _ _ [XE b4 o5 xs1 [.int .i64 r, .int .i64 (r + 1), .slice Vx (((x[k]!).qV).length) Vl, .slice VB (((x[k]!).xg).length) Vq, .slice Vy (((x[k]!).xm).length) Vm, .slice VA (((x[k]!).xq).length) Vp, .slice aqOut (((x[k]!).zq).length) cqOut, .slice Vz (((x[k]!).qI).length) Vo, .bool ((x[k]!).xO)] xs2 G1 G2 ((zO x kk k).take k) ((zO x kk k).drop (k + 1)), isF true FqNeed (.slice Vx (((x[k]!).qV).length) Vl) (mrk ((x[k]!).qV) ((r + 1) + 1)), isF true FqHave (.slice VB (((x[k]!).xg).length) Vq) (mrk ((x[k]!).xg) ((r + 1) + 1 + (cnt ((x[k]!).qV) : Nat))), isF true FqLack (.slice Vy (((x[k]!).xm).length) Vm) (mrk ((x[k]!).xm) ((r + 1) + 1 + (cnt ((x[k]!).qV) : Nat) + (cnt ((x[k]!).xg) : Nat))), sF true FqHere VA Vp ((x[k]!).xq), sF true FqOut aqOut cqOut ((x[k]!).zq), sF true FqInto Vz Vo ((x[k]!).qI)] := H
  refine sp (.int .i64 ((r + 1) + 1 + (cnt ((x[k]!).qV) : Nat) + (cnt ((x[k]!).xg) : Nat) + (cnt ((x[k]!).xm) : Nat))) (zjc (sps [.slice (aa b4 o5) x.length cx, .int .i64 k] (oI rfl rfl (oF rfl (oL rfl (H.VL _ 5 hx rfl) (sp (.int .i64 ((r + 1) + 1 + (cnt ((x[k]!).qV) : Nat) + (cnt ((x[k]!).xg) : Nat) + (cnt ((x[k]!).xm) : Nat))) ?_))))))
  refine sw (Xb #[.slice VA (((x[k]!).xq).length) Vp, .int .i64 ((r + 1) + 1 + (cnt ((x[k]!).qV) : Nat) + (cnt ((x[k]!).xg) : Nat) + (cnt ((x[k]!).xm) : Nat))] rfl rfl Tryz.call68 (yS w22 ((x[k]!).xq) ((r + 1) + 1 + (cnt ((x[k]!).qV) : Nat) + (cnt ((x[k]!).xg) : Nat) + (cnt ((x[k]!).xm) : Nat)) VA Vp FqHere (H.get 4 rfl).1 (yI N 4 rfl) ((H.get 4 rfl).2 rfl) (by (have := hc (by omega); have e := yf (x[k]!); omega)) (by (have := hc (by omega); have e := yf (x[k]!); omega))) ?_)
  rintro _ w27 ⟨rfl, m31⟩ x29
  obtain ⟨W28, C30, H⟩ := H.chgAt N 4 rfl (isF true FqHere (.slice VA (((x[k]!).xq).length) Vp) (mrk ((x[k]!).xq) ((r + 1) + 1 + (cnt ((x[k]!).qV) : Nat) + (cnt ((x[k]!).xg) : Nat) + (cnt ((x[k]!).xm) : Nat)))) rfl x29 m31
  replace C := C.trans (C30.mono (by intro z hz; have hz : z ∈ FqHere := hz; simp [hz]))
  replace H : St _ _ _ [XE b4 o5 xs1 [.int .i64 r, .int .i64 (r + 1), .slice Vx (((x[k]!).qV).length) Vl, .slice VB (((x[k]!).xg).length) Vq, .slice Vy (((x[k]!).xm).length) Vm, .slice VA (((x[k]!).xq).length) Vp, .slice aqOut (((x[k]!).zq).length) cqOut, .slice Vz (((x[k]!).qI).length) Vo, .bool ((x[k]!).xO)] xs2 G1 G2 ((zO x kk k).take k) ((zO x kk k).drop (k + 1)), isF true FqNeed (.slice Vx (((x[k]!).qV).length) Vl) (mrk ((x[k]!).qV) ((r + 1) + 1)), isF true FqHave (.slice VB (((x[k]!).xg).length) Vq) (mrk ((x[k]!).xg) ((r + 1) + 1 + (cnt ((x[k]!).qV) : Nat))), isF true FqLack (.slice Vy (((x[k]!).xm).length) Vm) (mrk ((x[k]!).xm) ((r + 1) + 1 + (cnt ((x[k]!).qV) : Nat) + (cnt ((x[k]!).xg) : Nat))), isF true FqHere (.slice VA (((x[k]!).xq).length) Vp) (mrk ((x[k]!).xq) ((r + 1) + 1 + (cnt ((x[k]!).qV) : Nat) + (cnt ((x[k]!).xg) : Nat) + (cnt ((x[k]!).xm) : Nat))), sF true FqOut aqOut cqOut ((x[k]!).zq), sF true FqInto Vz Vo ((x[k]!).qI)] := H
  refine sp (.int .i64 ((r + 1) + 1 + (cnt ((x[k]!).qV) : Nat) + (cnt ((x[k]!).xg) : Nat) + (cnt ((x[k]!).xm) : Nat) + (cnt ((x[k]!).xq) : Nat))) (zjc (sps [.slice (aa b4 o5) x.length cx, .int .i64 k] (oI rfl rfl (oF rfl (oL rfl (H.VL _ 6 hx rfl) (sp (.int .i64 ((r + 1) + 1 + (cnt ((x[k]!).qV) : Nat) + (cnt ((x[k]!).xg) : Nat) + (cnt ((x[k]!).xm) : Nat) + (cnt ((x[k]!).xq) : Nat))) ?_))))))
  refine sw (Xb #[.slice aqOut (((x[k]!).zq).length) cqOut, .int .i64 ((r + 1) + 1 + (cnt ((x[k]!).qV) : Nat) + (cnt ((x[k]!).xg) : Nat) + (cnt ((x[k]!).xm) : Nat) + (cnt ((x[k]!).xq) : Nat))] rfl rfl Tryz.call68 (yS w27 ((x[k]!).zq) ((r + 1) + 1 + (cnt ((x[k]!).qV) : Nat) + (cnt ((x[k]!).xg) : Nat) + (cnt ((x[k]!).xm) : Nat) + (cnt ((x[k]!).xq) : Nat)) aqOut cqOut FqOut (H.get 5 rfl).1 (yI N 5 rfl) ((H.get 5 rfl).2 rfl) (by (have := hc (by omega); have e := yf (x[k]!); omega)) (by (have := hc (by omega); have e := yf (x[k]!); omega))) ?_)
  rintro _ w32 ⟨rfl, m36⟩ x34
  obtain ⟨W33, C35, H⟩ := H.chgAt N 5 rfl (isF true FqOut (.slice aqOut (((x[k]!).zq).length) cqOut) (mrk ((x[k]!).zq) ((r + 1) + 1 + (cnt ((x[k]!).qV) : Nat) + (cnt ((x[k]!).xg) : Nat) + (cnt ((x[k]!).xm) : Nat) + (cnt ((x[k]!).xq) : Nat)))) rfl x34 m36
  replace C := C.trans (C35.mono (by intro z hz; have hz : z ∈ FqOut := hz; simp [hz]))
  replace H : St _ _ _ [XE b4 o5 xs1 [.int .i64 r, .int .i64 (r + 1), .slice Vx (((x[k]!).qV).length) Vl, .slice VB (((x[k]!).xg).length) Vq, .slice Vy (((x[k]!).xm).length) Vm, .slice VA (((x[k]!).xq).length) Vp, .slice aqOut (((x[k]!).zq).length) cqOut, .slice Vz (((x[k]!).qI).length) Vo, .bool ((x[k]!).xO)] xs2 G1 G2 ((zO x kk k).take k) ((zO x kk k).drop (k + 1)), isF true FqNeed (.slice Vx (((x[k]!).qV).length) Vl) (mrk ((x[k]!).qV) ((r + 1) + 1)), isF true FqHave (.slice VB (((x[k]!).xg).length) Vq) (mrk ((x[k]!).xg) ((r + 1) + 1 + (cnt ((x[k]!).qV) : Nat))), isF true FqLack (.slice Vy (((x[k]!).xm).length) Vm) (mrk ((x[k]!).xm) ((r + 1) + 1 + (cnt ((x[k]!).qV) : Nat) + (cnt ((x[k]!).xg) : Nat))), isF true FqHere (.slice VA (((x[k]!).xq).length) Vp) (mrk ((x[k]!).xq) ((r + 1) + 1 + (cnt ((x[k]!).qV) : Nat) + (cnt ((x[k]!).xg) : Nat) + (cnt ((x[k]!).xm) : Nat))), isF true FqOut (.slice aqOut (((x[k]!).zq).length) cqOut) (mrk ((x[k]!).zq) ((r + 1) + 1 + (cnt ((x[k]!).qV) : Nat) + (cnt ((x[k]!).xg) : Nat) + (cnt ((x[k]!).xm) : Nat) + (cnt ((x[k]!).xq) : Nat))), sF true FqInto Vz Vo ((x[k]!).qI)] := H
  refine sp (.int .i64 ((r + 1) + 1 + (cnt ((x[k]!).qV) : Nat) + (cnt ((x[k]!).xg) : Nat) + (cnt ((x[k]!).xm) : Nat) + (cnt ((x[k]!).xq) : Nat) + (cnt ((x[k]!).zq) : Nat))) (zjc (sps [.slice (aa b4 o5) x.length cx, .int .i64 k] (oI rfl rfl (oF rfl (oL rfl (H.VL _ 7 hx rfl) (sp (.int .i64 ((r + 1) + 1 + (cnt ((x[k]!).qV) : Nat) + (cnt ((x[k]!).xg) : Nat) + (cnt ((x[k]!).xm) : Nat) + (cnt ((x[k]!).xq) : Nat) + (cnt ((x[k]!).zq) : Nat))) ?_))))))
  refine sw (Xb #[.slice Vz (((x[k]!).qI).length) Vo, .int .i64 ((r + 1) + 1 + (cnt ((x[k]!).qV) : Nat) + (cnt ((x[k]!).xg) : Nat) + (cnt ((x[k]!).xm) : Nat) + (cnt ((x[k]!).xq) : Nat) + (cnt ((x[k]!).zq) : Nat))] rfl rfl Tryz.call110 (markIntoS_ok w32 ((x[k]!).qI) ((r + 1) + 1 + (cnt ((x[k]!).qV) : Nat) + (cnt ((x[k]!).xg) : Nat) + (cnt ((x[k]!).xm) : Nat) + (cnt ((x[k]!).xq) : Nat) + (cnt ((x[k]!).zq) : Nat)) Vz Vo FqInto (H.get 6 rfl).1 (yI N 6 rfl) ((H.get 6 rfl).2 rfl) (by (have := hc (by omega); have e := yf (x[k]!); omega)) (by (have := hc (by omega); have e := yf (x[k]!); omega))) ?_)
  rintro _ w37 ⟨rfl, m41⟩ x39
  obtain ⟨W38, C40, H⟩ := H.chgAt N 6 rfl (isF true FqInto (.slice Vz (((x[k]!).qI).length) Vo) (mrk ((x[k]!).qI) ((r + 1) + 1 + (cnt ((x[k]!).qV) : Nat) + (cnt ((x[k]!).xg) : Nat) + (cnt ((x[k]!).xm) : Nat) + (cnt ((x[k]!).xq) : Nat) + (cnt ((x[k]!).zq) : Nat)))) rfl x39 m41
  replace C := C.trans (C40.mono (by intro z hz; have hz : z ∈ FqInto := hz; simp [hz]))
  replace H : St _ _ _ [XE b4 o5 xs1 [.int .i64 r, .int .i64 (r + 1), .slice Vx (((x[k]!).qV).length) Vl, .slice VB (((x[k]!).xg).length) Vq, .slice Vy (((x[k]!).xm).length) Vm, .slice VA (((x[k]!).xq).length) Vp, .slice aqOut (((x[k]!).zq).length) cqOut, .slice Vz (((x[k]!).qI).length) Vo, .bool ((x[k]!).xO)] xs2 G1 G2 ((zO x kk k).take k) ((zO x kk k).drop (k + 1)), isF true FqNeed (.slice Vx (((x[k]!).qV).length) Vl) (mrk ((x[k]!).qV) ((r + 1) + 1)), isF true FqHave (.slice VB (((x[k]!).xg).length) Vq) (mrk ((x[k]!).xg) ((r + 1) + 1 + (cnt ((x[k]!).qV) : Nat))), isF true FqLack (.slice Vy (((x[k]!).xm).length) Vm) (mrk ((x[k]!).xm) ((r + 1) + 1 + (cnt ((x[k]!).qV) : Nat) + (cnt ((x[k]!).xg) : Nat))), isF true FqHere (.slice VA (((x[k]!).xq).length) Vp) (mrk ((x[k]!).xq) ((r + 1) + 1 + (cnt ((x[k]!).qV) : Nat) + (cnt ((x[k]!).xg) : Nat) + (cnt ((x[k]!).xm) : Nat))), isF true FqOut (.slice aqOut (((x[k]!).zq).length) cqOut) (mrk ((x[k]!).zq) ((r + 1) + 1 + (cnt ((x[k]!).qV) : Nat) + (cnt ((x[k]!).xg) : Nat) + (cnt ((x[k]!).xm) : Nat) + (cnt ((x[k]!).xq) : Nat))), isF true FqInto (.slice Vz (((x[k]!).qI).length) Vo) (mrk ((x[k]!).qI) ((r + 1) + 1 + (cnt ((x[k]!).qV) : Nat) + (cnt ((x[k]!).xg) : Nat) + (cnt ((x[k]!).xm) : Nat) + (cnt ((x[k]!).xq) : Nat) + (cnt ((x[k]!).zq) : Nat)))] := H
  refine sp (.int .i64 ((r + 1) + 1 + (cnt ((x[k]!).qV) : Nat) + (cnt ((x[k]!).xg) : Nat) + (cnt ((x[k]!).xm) : Nat) + (cnt ((x[k]!).xq) : Nat) + (cnt ((x[k]!).zq) : Nat) + (cnt ((x[k]!).qI) : Nat))) (zjc (sps [.slice (aa b4 o5) x.length cx, .int .i64 k, .int .i64 ((r + 1) + 1 + (cnt ((x[k]!).qV) : Nat) + (cnt ((x[k]!).xg) : Nat) + (cnt ((x[k]!).xm) : Nat) + (cnt ((x[k]!).xq) : Nat) + (cnt ((x[k]!).zq) : Nat) + (cnt ((x[k]!).qI) : Nat))] ?_))
  refine sw (o_rem ((r + 1) + 1 + (cnt ((x[k]!).qV) : Nat) + (cnt ((x[k]!).xg) : Nat) + (cnt ((x[k]!).xm) : Nat) + (cnt ((x[k]!).xq) : Nat) + (cnt ((x[k]!).zq) : Nat) + (cnt ((x[k]!).qI) : Nat)) 3 rfl rfl (by (have := hc (by omega); have e := yf (x[k]!); omega)) (by omega) (by (have := hc (by omega); have e := yf (x[k]!); omega)) (sp (.bool ((((r + 1) + 1 + (cnt ((x[k]!).qV) : Nat) + (cnt ((x[k]!).xg) : Nat) + (cnt ((x[k]!).xm) : Nat) + (cnt ((x[k]!).xq) : Nat) + (cnt ((x[k]!).zq) : Nat) + (cnt ((x[k]!).qI) : Nat)) % 3 : Int) == 0)) (oI rfl rfl (oF rfl ?_))))
  refine sw (o_storeHole H N _ 8 hx (.bool ((((r + 1) + 1 + (cnt ((x[k]!).qV) : Nat) + (cnt ((x[k]!).xg) : Nat) + (cnt ((x[k]!).xm) : Nat) + (cnt ((x[k]!).xq) : Nat) + (cnt ((x[k]!).zq) : Nat) + (cnt ((x[k]!).qI) : Nat)) % 3 : Int) == 0)) Tryz.sizeOf4 rfl rfl rfl (Nat.le_of_ble_eq_true rfl) fun w42 W43 C44 H => ?_)
  replace C := C.trans (C44.mono (hole_sub _ _ _ _))
  replace H : St _ _ _ [XE b4 o5 xs1 [.int .i64 r, .int .i64 (r + 1), .slice Vx (((x[k]!).qV).length) Vl, .slice VB (((x[k]!).xg).length) Vq, .slice Vy (((x[k]!).xm).length) Vm, .slice VA (((x[k]!).xq).length) Vp, .slice aqOut (((x[k]!).zq).length) cqOut, .slice Vz (((x[k]!).qI).length) Vo, .bool ((((r + 1) + 1 + (cnt ((x[k]!).qV) : Nat) + (cnt ((x[k]!).xg) : Nat) + (cnt ((x[k]!).xm) : Nat) + (cnt ((x[k]!).xq) : Nat) + (cnt ((x[k]!).zq) : Nat) + (cnt ((x[k]!).qI) : Nat)) % 3 : Int) == 0)] xs2 G1 G2 ((zO x kk k).take k) ((zO x kk k).drop (k + 1)), isF true FqNeed (.slice Vx (((x[k]!).qV).length) Vl) (mrk ((x[k]!).qV) ((r + 1) + 1)), isF true FqHave (.slice VB (((x[k]!).xg).length) Vq) (mrk ((x[k]!).xg) ((r + 1) + 1 + (cnt ((x[k]!).qV) : Nat))), isF true FqLack (.slice Vy (((x[k]!).xm).length) Vm) (mrk ((x[k]!).xm) ((r + 1) + 1 + (cnt ((x[k]!).qV) : Nat) + (cnt ((x[k]!).xg) : Nat))), isF true FqHere (.slice VA (((x[k]!).xq).length) Vp) (mrk ((x[k]!).xq) ((r + 1) + 1 + (cnt ((x[k]!).qV) : Nat) + (cnt ((x[k]!).xg) : Nat) + (cnt ((x[k]!).xm) : Nat))), isF true FqOut (.slice aqOut (((x[k]!).zq).length) cqOut) (mrk ((x[k]!).zq) ((r + 1) + 1 + (cnt ((x[k]!).qV) : Nat) + (cnt ((x[k]!).xg) : Nat) + (cnt ((x[k]!).xm) : Nat) + (cnt ((x[k]!).xq) : Nat))), isF true FqInto (.slice Vz (((x[k]!).qI).length) Vo) (mrk ((x[k]!).qI) ((r + 1) + 1 + (cnt ((x[k]!).qV) : Nat) + (cnt ((x[k]!).xg) : Nat) + (cnt ((x[k]!).xm) : Nat) + (cnt ((x[k]!).xq) : Nat) + (cnt ((x[k]!).zq) : Nat)))] := H
  refine zjn (xH (sp (.int .i64 ((r + 1) + 1 + (cnt ((x[k]!).qV) : Nat) + (cnt ((x[k]!).xg) : Nat) + (cnt ((x[k]!).xm) : Nat) + (cnt ((x[k]!).xq) : Nat) + (cnt ((x[k]!).zq) : Nat) + (cnt ((x[k]!).qI) : Nat))) (sw (xX ((r + 1) + 1 + (cnt ((x[k]!).qV) : Nat) + (cnt ((x[k]!).xg) : Nat) + (cnt ((x[k]!).xm) : Nat) + (cnt ((x[k]!).xq) : Nat) + (cnt ((x[k]!).zq) : Nat) + (cnt ((x[k]!).qI) : Nat)) 1 rfl rfl (by (have := hc (by omega); have e := yf (x[k]!); omega)) ?_))))
  refine sp (.int .i64 (((r + 1) + 1 + (cnt ((x[k]!).qV) : Nat) + (cnt ((x[k]!).xg) : Nat) + (cnt ((x[k]!).xm) : Nat) + (cnt ((x[k]!).xq) : Nat) + (cnt ((x[k]!).zq) : Nat) + (cnt ((x[k]!).qI) : Nat)) + 1)) (xG (b_n (t_n (xH (sp (.int .i64 k) (sw (xX k 1 rfl rfl (by (have := hc (by omega); have e := yf (x[k]!); omega)) (sp (.int .i64 (k + 1)) (xG ?_)))))))))
  replace H := H.closeAt (y := mrk (x[k]!) r) (m := x.length) (c := cx) ⟨_, _, _, _, _, _, _, _, _, _, _, _, rfl, rfl, (H.get 1 rfl).1, (H.get 2 rfl).1, (H.get 3 rfl).1, (H.get 4 rfl).1, (H.get 5 rfl).1, (H.get 6 rfl).1⟩ (((((((H.get 1 rfl).2 rfl).app ((H.get 2 rfl).2 rfl)).app ((H.get 3 rfl).2 rfl)).app ((H.get 4 rfl).2 rfl)).app ((H.get 5 rfl).2 rfl)).app ((H.get 6 rfl).2 rfl)) (Xt (Xt (Xt (Xt (Xt (H.ltOwn 1 rfl) (H.ltOwn 2 rfl)) (H.ltOwn 3 rfl)) (H.ltOwn 4 rfl)) (H.ltOwn 5 rfl)) (H.ltOwn 6 rfl)) (zO x kk (k + 1)) (by subst i1; exact markTo_step _ _ (by omega)) (zX _ _ (by omega)) (by rw [zX _ _ (by omega)]; exact nhx)
  refine qR (m' := x.length - (k + 1)) (by omega) ⟨_, k + 1, ((r + 1) + 1 + (cnt ((x[k]!).qV) : Nat) + (cnt ((x[k]!).xg) : Nat) + (cnt ((x[k]!).xm) : Nat) + (cnt ((x[k]!).xq) : Nat) + (cnt ((x[k]!).zq) : Nat) + (cnt ((x[k]!).qI) : Nat)) + 1, W43, uE4, ?_, ?_, ?_, rfl, H⟩
  · omega
  · rw [yg]; have e := yf (x[k]!); omega
  · exact C
 refine zx4 (zcr (sps [.int .i64 r, .int .i64 r] (zjr ?_)))
 obtain rfl : k = x.length := by omega
 refine ret1 (.int .i64 r) rfl rfl ⟨_, rfl, ⟨?_, H.get 0 rfl⟩, C.trans (Chg.ofExt H.base)⟩
 first | rfl | (refine congrArg (Value.int .i64) ?_; rw [XQ]; omega)

theorem markSystem_ok (w : World) (x : qy) (kk : Int) (vC : Option Addr) (vz : Nat) (yF : List Nat) (yE : Option Addr) (yC : Nat) (Xi : List Nat) (Qi : qB.rep w yF [.slice vC x.qf.length vz] x.qf) (X7 : qB.rep w Xi [.slice yE x.qg.length yC] x.qg) (nd : (yF ++ Xi).Nodup) (fr : zC w (yF ++ Xi)) (p0 : 0 ≤ kk) (p1 : kk + (cnt x.qf : Nat) + (cnt x.qg : Nat) ≤ 4611686018427387904) : Calls Tryz.prog 23 #[.agg #[.int .i64 x.qJ, .slice vC x.qf.length vz, .slice yE x.qg.length yC], .int .i64 kk] w (RetM (fun v w' => v = .int .i64 (kk + (cnt x.qf : Nat) + (cnt x.qg : Nat)) ∧ (isF true yF (.slice vC x.qf.length vz) (mrk x.qf kk)).φ w' ∧ (isF true Xi (.slice yE x.qg.length yC) (mrk x.qg (kk + (cnt x.qf : Nat)))).φ w') (yF ++ Xi) w) := by
 refine en Tryz.func23 Tryz.ntmps23 ?_
 have H := St.start w
 replace H := H.add (sF true Xi yE yC x.qg) ⟨X7, fun _ => fr.sub (by intro z hz; simp [hz])⟩ (VH X7)
 replace H := H.add (sF true yF vC vz x.qf) ⟨Qi, fun _ => fr.sub (by intro z hz; simp [hz])⟩ (VH Qi)
 have nhxParents := qx Qi
 have nhxRules := qx X7
 clear Qi X7
 have C : Chg (yF ++ Xi) w w := Chg.refl _ _
 have N : ([yF, Xi] : List (List Nat)).flatten.Nodup := by simpa using nd
 refine zcr (sw (o_box H (.agg #[.int .i64 x.qJ, .slice vC x.qf.length vz, .slice yE x.qg.length yC]) rfl fun b1 w2 H => ?_))
 replace H : St _ _ [.box b1 [.int .i64 x.qJ, .slice vC x.qf.length vz, .slice yE x.qg.length yC] 36] _ := H
 refine sp (.int .i64 0) (zjc (oF rfl (oL rfl (H.cell 0 rfl rfl) (sp (.int .i64 kk) (sw (Xb #[.slice vC x.qf.length vz, .int .i64 kk] rfl rfl Tryz.call68 (yS w2 x.qf kk vC vz yF (H.get 0 rfl).1 (yI N 0 rfl) ((H.get 0 rfl).2 rfl) (by omega) (by omega)) ?_))))))
 rintro _ w3 ⟨rfl, m7⟩ x5
 obtain ⟨W4, C6, H⟩ := H.chgAt N 0 rfl (isF true yF (.slice vC x.qf.length vz) (mrk x.qf kk)) rfl x5 m7
 replace C := C.trans (C6.mono (by intro z hz; have hz : z ∈ yF := hz; simp [hz]))
 replace H : St _ _ _ [isF true yF (.slice vC x.qf.length vz) (mrk x.qf kk), sF true Xi yE yC x.qg] := H
 refine sp (.int .i64 (kk + (cnt x.qf : Nat))) (zjc (oF rfl (oL rfl (H.cell 0 rfl rfl) (sp (.int .i64 (kk + (cnt x.qf : Nat))) (sw (Xb #[.slice yE x.qg.length yC, .int .i64 (kk + (cnt x.qf : Nat))] rfl rfl Tryz.call69 (markRuleS_ok w3 x.qg (kk + (cnt x.qf : Nat)) yE yC Xi (H.get 1 rfl).1 (yI N 1 rfl) ((H.get 1 rfl).2 rfl) (by omega) (by omega)) ?_))))))
 rintro _ w8 ⟨rfl, m12⟩ x10
 obtain ⟨W9, C11, H⟩ := H.chgAt N 1 rfl (isF true Xi (.slice yE x.qg.length yC) (mrk x.qg (kk + (cnt x.qf : Nat)))) rfl x10 m12
 replace C := C.trans (C11.mono (by intro z hz; have hz : z ∈ Xi := hz; simp [hz]))
 replace H : St _ _ _ [isF true yF (.slice vC x.qf.length vz) (mrk x.qf kk), isF true Xi (.slice yE x.qg.length yC) (mrk x.qg (kk + (cnt x.qf : Nat)))] := H
 refine sp (.int .i64 (kk + (cnt x.qf : Nat) + (cnt x.qg : Nat))) (zjc (sps [.int .i64 (kk + (cnt x.qf : Nat) + (cnt x.qg : Nat)), .int .i64 (kk + (cnt x.qf : Nat) + (cnt x.qg : Nat))] (zjr ?_)))
 simp_all
 refine ret1 (.int .i64 (kk + (cnt x.qf : Nat) + (cnt x.qg : Nat))) rfl rfl ⟨_, rfl, ⟨?_, H.get 0 rfl, H.get 1 rfl⟩, C.trans (Chg.ofExt H.base)⟩
 first | rfl | (refine congrArg (Value.int .i64) ?_; rw [XQ]; omega)

theorem markState_ok (w : World) (x : qE) (kk : Int) (jV : Option Addr) (jU : Nat) (Q4 : List Nat) (Qy : Option Addr) (Qx : Nat) (V6 : List Nat) (vY : Option Addr) (vX : Nat) (Qb : List Nat) (X8 : qB.rep w Q4 [.slice jV x.qh.length jU] x.qh) (hxBags : qB.rep w V6 [.slice Qy x.ql.length Qx] x.ql) (QT : qB.rep w Qb [.slice vY x.qj.length vX] x.qj) (nd : (Q4 ++ V6 ++ Qb).Nodup) (fr : zC w (Q4 ++ V6 ++ Qb)) (p0 : 0 ≤ kk) (p1 : kk + (cnt x.qh : Nat) + (cnt x.ql : Nat) + (cnt x.qj : Nat) ≤ 4611686018427387904) : Calls Tryz.prog 24 #[.agg #[.slice jV x.qh.length jU, .slice Qy x.ql.length Qx, .slice vY x.qj.length vX], .int .i64 kk] w (RetM (fun v w' => v = .int .i64 (kk + (cnt x.qh : Nat) + (cnt x.ql : Nat) + (cnt x.qj : Nat)) ∧ (isF true Q4 (.slice jV x.qh.length jU) (mrk x.qh kk)).φ w' ∧ (isF true V6 (.slice Qy x.ql.length Qx) (mrk x.ql (kk + (cnt x.qh : Nat)))).φ w' ∧ (isF true Qb (.slice vY x.qj.length vX) (mrk x.qj (kk + (cnt x.qh : Nat) + (cnt x.ql : Nat)))).φ w') (Q4 ++ V6 ++ Qb) w) := by
 refine en Tryz.func24 Tryz.ntmps24 ?_
 have H := St.start w
 replace H := H.add (sF true Qb vY vX x.qj) ⟨QT, fun _ => fr.sub (by intro z hz; simp [hz])⟩ (VH QT)
 replace H := H.add (sF true V6 Qy Qx x.ql) ⟨hxBags, fun _ => fr.sub (by intro z hz; simp [hz])⟩ (VH hxBags)
 replace H := H.add (sF true Q4 jV jU x.qh) ⟨X8, fun _ => fr.sub (by intro z hz; simp [hz])⟩ (VH X8)
 have nhxAlive := qx X8
 have nhxBags := qx hxBags
 have nhxAround := qx QT
 clear X8 hxBags QT
 have C : Chg (Q4 ++ V6 ++ Qb) w w := Chg.refl _ _
 have N : ([Q4, V6, Qb] : List (List Nat)).flatten.Nodup := by simpa using nd
 refine zcr (sw (o_box H (.agg #[.slice jV x.qh.length jU, .slice Qy x.ql.length Qx, .slice vY x.qj.length vX]) rfl fun b1 w2 H => ?_))
 replace H : St _ _ [.box b1 [.slice jV x.qh.length jU, .slice Qy x.ql.length Qx, .slice vY x.qj.length vX] 38] _ := H
 refine sp (.int .i64 0) (zjc (oF rfl (oL rfl (H.cell 0 rfl rfl) (sp (.int .i64 kk) (sw (Xb #[.slice jV x.qh.length jU, .int .i64 kk] rfl rfl Tryz.call70 (markBoolS_ok w2 x.qh kk jV jU Q4 (H.get 0 rfl).1 (yI N 0 rfl) ((H.get 0 rfl).2 rfl) (by omega) (by omega)) ?_))))))
 rintro _ w3 ⟨rfl, m7⟩ x5
 obtain ⟨W4, C6, H⟩ := H.chgAt N 0 rfl (isF true Q4 (.slice jV x.qh.length jU) (mrk x.qh kk)) rfl x5 m7
 replace C := C.trans (C6.mono (by intro z hz; have hz : z ∈ Q4 := hz; simp [hz]))
 replace H : St _ _ _ [isF true Q4 (.slice jV x.qh.length jU) (mrk x.qh kk), sF true V6 Qy Qx x.ql, sF true Qb vY vX x.qj] := H
 refine sp (.int .i64 (kk + (cnt x.qh : Nat))) (zjc (oF rfl (oL rfl (H.cell 0 rfl rfl) (sp (.int .i64 (kk + (cnt x.qh : Nat))) (sw (Xb #[.slice Qy x.ql.length Qx, .int .i64 (kk + (cnt x.qh : Nat))] rfl rfl Tryz.call25 (markInt64SS_ok w3 x.ql (kk + (cnt x.qh : Nat)) Qy Qx V6 (H.get 1 rfl).1 (yI N 1 rfl) ((H.get 1 rfl).2 rfl) (by omega) (by omega)) ?_))))))
 rintro _ w8 ⟨rfl, m12⟩ x10
 obtain ⟨W9, C11, H⟩ := H.chgAt N 1 rfl (isF true V6 (.slice Qy x.ql.length Qx) (mrk x.ql (kk + (cnt x.qh : Nat)))) rfl x10 m12
 replace C := C.trans (C11.mono (by intro z hz; have hz : z ∈ V6 := hz; simp [hz]))
 replace H : St _ _ _ [isF true Q4 (.slice jV x.qh.length jU) (mrk x.qh kk), isF true V6 (.slice Qy x.ql.length Qx) (mrk x.ql (kk + (cnt x.qh : Nat))), sF true Qb vY vX x.qj] := H
 refine sp (.int .i64 (kk + (cnt x.qh : Nat) + (cnt x.ql : Nat))) (zjc (oF rfl (oL rfl (H.cell 0 rfl rfl) (sp (.int .i64 (kk + (cnt x.qh : Nat) + (cnt x.ql : Nat))) (sw (Xb #[.slice vY x.qj.length vX, .int .i64 (kk + (cnt x.qh : Nat) + (cnt x.ql : Nat))] rfl rfl Tryz.call68 (yS w8 x.qj (kk + (cnt x.qh : Nat) + (cnt x.ql : Nat)) vY vX Qb (H.get 2 rfl).1 (yI N 2 rfl) ((H.get 2 rfl).2 rfl) (by omega) (by omega)) ?_))))))
 rintro _ w13 ⟨rfl, m17⟩ x15
 obtain ⟨W14, C16, H⟩ := H.chgAt N 2 rfl (isF true Qb (.slice vY x.qj.length vX) (mrk x.qj (kk + (cnt x.qh : Nat) + (cnt x.ql : Nat)))) rfl x15 m17
 replace C := C.trans (C16.mono (by intro z hz; have hz : z ∈ Qb := hz; simp [hz]))
 replace H : St _ _ _ [isF true Q4 (.slice jV x.qh.length jU) (mrk x.qh kk), isF true V6 (.slice Qy x.ql.length Qx) (mrk x.ql (kk + (cnt x.qh : Nat))), isF true Qb (.slice vY x.qj.length vX) (mrk x.qj (kk + (cnt x.qh : Nat) + (cnt x.ql : Nat)))] := H
 refine sp (.int .i64 (kk + (cnt x.qh : Nat) + (cnt x.ql : Nat) + (cnt x.qj : Nat))) (zjc (sps [.int .i64 (kk + (cnt x.qh : Nat) + (cnt x.ql : Nat) + (cnt x.qj : Nat)), .int .i64 (kk + (cnt x.qh : Nat) + (cnt x.ql : Nat) + (cnt x.qj : Nat))] (zjr ?_)))
 simp_all
 refine ret1 (.int .i64 (kk + (cnt x.qh : Nat) + (cnt x.ql : Nat) + (cnt x.qj : Nat))) rfl rfl ⟨_, rfl, ⟨?_, H.get 0 rfl, H.get 1 rfl, H.get 2 rfl⟩, C.trans (Chg.ofExt H.base)⟩
 first | rfl | (refine congrArg (Value.int .i64) ?_; rw [XQ]; omega)

theorem heldInt64S_ok (w : World) (x : List Int) (kk : Int) (hx : qB.rep w Fx [.slice ax x.length cx] x) (m : mkd x kk) (p0 : 0 ≤ kk) (p1 : kk + (cnt x : Nat) ≤ 4611686018427387904) : Calls Tryz.prog 71 #[.slice ax x.length cx, .int .i64 kk] w (Ret (fun v w' => v = .int .i64 (kk + (cnt x : Nat))) w) := by
 refine en Tryz.func71 Tryz.ntmps71 ?_
 have H := (St.start w).arg hx
 have nhx := qx hx
 clear hx
 refine zcr (sp (.int .i64 0) (zjcc (sp (.int .i64 0) (zjn (qM ?_)))))
 refine xQ (fun m' ρ w1 => ∃ (junk : Env) (k : Nat) (r : Int), ρ = upd (upd (upd junk 0 (.slice ax x.length cx)) 1 (.int .i64 r)) 5 (.int .i64 k) ∧ (k ≤ x.length) ∧ (r = kk + (X9 x k : Nat)) ∧ m' = x.length - k ∧ St w w1 [] [sF false Fx ax cx x]) (x.length - 0) ⟨_, 0, kk, uE3, (by omega), (by exact (Int.add_zero _).symm), rfl, H⟩ ?_
 clear H
 rintro m' ρ w2 ⟨junk, k, r, rfl, i0, i1, rfl, H⟩
 have hc := fun h => cnt_get (l := x) (k := k) h
 refine zcc (sps [.int .i64 k, .slice ax x.length cx] (oN rfl (sp (.bool (decide ((k : Int) < x.length))) (zjn (cD rfl (fun h3 => ?_) (fun h3 => ?_))))))
 ·skip
  have m0 := m k (by omega)
  rw [← i1] at m0
  replace m0 : x[k]! = r := m0
  refine qK (t_n (xC (qM (zcc (sps [.slice ax x.length cx, .int .i64 k] ?_)))))
  obtain ⟨b4, o5, rfl⟩ := H.addr 0 rfl (by omega)
  refine oI rfl rfl (oL rfl (H.jd 0 rfl k (by omega) (by omega)) (sps [.int .i64 r, .bool ((x[k]! : Int) != r)] (zjn (xn ((x[k]! : Int) != r) rfl (fun h6 => ?_) (fun h6 => ?_)))))
  ·skip
   replace h6 := bne_iff_ne.1 h6
   refine zcr (sp (.int .i64 (-1)) (zjr (t_r (zr5 (ret1 (.int .i64 (-1)) rfl rfl ⟨_, rfl, ?_, H.base⟩)))))
   exfalso; first | omega | (exact absurd ‹_› ‹¬ _›) | simp_all
  replace h6 := xf h6
  refine qK (t_n (xH (sp (.int .i64 r) (sw (xX r 1 rfl rfl (by (have := hc (by omega); have e : cnt (x[k]!) = 1 := rfl; omega)) (sp (.int .i64 (r + 1)) (xG (b_n (t_n (xH (sp (.int .i64 k) (sw (xX k 1 rfl rfl (by (have := hc (by omega); have e : cnt (x[k]!) = 1 := rfl; omega)) (sp (.int .i64 (k + 1)) (xG (qR (m' := x.length - (k + 1)) (by omega) ⟨_, k + 1, r + 1, uE3, ?_, ?_, rfl, H⟩))))))))))))))))
  · omega
  · rw [yg]; have e : cnt (x[k]!) = 1 := rfl; omega
 refine zx4 (zcr (sps [.int .i64 r, .int .i64 r] (zjr (ret1 (.int .i64 r) rfl rfl ⟨_, rfl, ?_, H.base⟩))))
 first | rfl | (refine congrArg (Value.int .i64) ?_; obtain rfl : k = x.length := (by omega); exact i1)

theorem heldBoolS_ok (w : World) (x : List Bool) (kk : Int) (hx : qB.rep w Fx [.slice ax x.length cx] x) (m : mkd x kk) (p0 : 0 ≤ kk) (p1 : kk + (cnt x : Nat) ≤ 4611686018427387904) : Calls Tryz.prog 74 #[.slice ax x.length cx, .int .i64 kk] w (Ret (fun v w' => v = .int .i64 (kk + (cnt x : Nat))) w) := by
 refine en Tryz.func74 Tryz.ntmps74 ?_
 have H := (St.start w).arg hx
 have nhx := qx hx
 clear hx
 refine zcr (sp (.int .i64 0) (zjcc (sp (.int .i64 0) (zjn (qM ?_)))))
 refine xQ (fun m' ρ w1 => ∃ (junk : Env) (k : Nat) (r : Int), ρ = upd (upd (upd junk 0 (.slice ax x.length cx)) 1 (.int .i64 r)) 5 (.int .i64 k) ∧ (k ≤ x.length) ∧ (r = kk + (X9 x k : Nat)) ∧ m' = x.length - k ∧ St w w1 [] [sF false Fx ax cx x]) (x.length - 0) ⟨_, 0, kk, uE3, (by omega), (by exact (Int.add_zero _).symm), rfl, H⟩ ?_
 clear H
 rintro m' ρ w2 ⟨junk, k, r, rfl, i0, i1, rfl, H⟩
 have hc := fun h => cnt_get (l := x) (k := k) h
 refine zcc (sps [.int .i64 k, .slice ax x.length cx] (oN rfl (sp (.bool (decide ((k : Int) < x.length))) (zjn (cD rfl (fun h3 => ?_) (fun h3 => ?_))))))
 ·skip
  have m0 := m k (by omega)
  rw [← i1] at m0
  replace m0 : x[k]! = (r % 3 == 0) := m0
  refine qK (t_n (xC (qM (zcc (sps [.slice ax x.length cx, .int .i64 k] ?_)))))
  obtain ⟨b4, o5, rfl⟩ := H.addr 0 rfl (by omega)
  refine oI rfl rfl (oL rfl (H.Xc 0 rfl k (by omega) (by omega)) (sp (.int .i64 r) (sw (o_rem r 3 rfl rfl (by (have := hc (by omega); have e : cnt (x[k]!) = 1 := rfl; omega)) (by omega) (by (have := hc (by omega); have e : cnt (x[k]!) = 1 := rfl; omega)) (sp (.bool ((r % 3 : Int) == 0)) (sw (o_neB Tryz.underlying4 (x[k]!) ((r % 3 : Int) == 0) rfl rfl (zjn (xn ((x[k]!) != ((r % 3 : Int) == 0)) rfl (fun h6 => ?_) (fun h6 => ?_))))))))))
  ·skip
   replace h6 := bne_iff_ne.1 h6
   refine zcr (sp (.int .i64 (-1)) (zjr (t_r (zr5 (ret1 (.int .i64 (-1)) rfl rfl ⟨_, rfl, ?_, H.base⟩)))))
   exfalso; first | omega | (exact absurd ‹_› ‹¬ _›) | simp_all
  replace h6 := xf h6
  refine qK (t_n (xH (sp (.int .i64 r) (sw (xX r 1 rfl rfl (by (have := hc (by omega); have e : cnt (x[k]!) = 1 := rfl; omega)) (sp (.int .i64 (r + 1)) (xG (b_n (t_n (xH (sp (.int .i64 k) (sw (xX k 1 rfl rfl (by (have := hc (by omega); have e : cnt (x[k]!) = 1 := rfl; omega)) (sp (.int .i64 (k + 1)) (xG (qR (m' := x.length - (k + 1)) (by omega) ⟨_, k + 1, r + 1, uE3, ?_, ?_, rfl, H⟩))))))))))))))))
  · omega
  · rw [yg]; have e : cnt (x[k]!) = 1 := rfl; omega
 refine zx4 (zcr (sps [.int .i64 r, .int .i64 r] (zjr (ret1 (.int .i64 r) rfl rfl ⟨_, rfl, ?_, H.base⟩))))
 first | rfl | (refine congrArg (Value.int .i64) ?_; obtain rfl : k = x.length := (by omega); exact i1)

theorem heldInt64SS_ok (w : World) (x : List (List Int)) (kk : Int) (hx : qB.rep w Fx [.slice ax x.length cx] x) (m : mkd x kk) (p0 : 0 ≤ kk) (p1 : kk + (cnt x : Nat) ≤ 4611686018427387904) : Calls Tryz.prog 26 #[.slice ax x.length cx, .int .i64 kk] w (Ret (fun v w' => v = .int .i64 (kk + (cnt x : Nat))) w) := by
 refine en Tryz.func26 Tryz.ntmps26 ?_
 have H := (St.start w).arg hx
 have nhx := qx hx
 clear hx
 refine zcr (sp (.int .i64 0) (zjcc (sp (.int .i64 0) (zjn (qM ?_)))))
 refine xQ (fun m' ρ w1 => ∃ (junk : Env) (k : Nat) (r : Int), ρ = upd (upd (upd junk 0 (.slice ax x.length cx)) 1 (.int .i64 r)) 5 (.int .i64 k) ∧ (k ≤ x.length) ∧ (r = kk + (X9 x k : Nat)) ∧ m' = x.length - k ∧ St w w1 [] [sF false Fx ax cx x]) (x.length - 0) ⟨_, 0, kk, uE3, (by omega), (by exact (Int.add_zero _).symm), rfl, H⟩ ?_
 clear H
 rintro m' ρ w2 ⟨junk, k, r, rfl, i0, i1, rfl, H⟩
 have hc := fun h => cnt_get (l := x) (k := k) h
 refine zcc (sps [.int .i64 k, .slice ax x.length cx] (oN rfl (sp (.bool (decide ((k : Int) < x.length))) (zjn (cD rfl (fun h3 => ?_) (fun h3 => ?_))))))
 ·skip
  have m0 := m k (by omega)
  rw [← i1] at m0
  refine qK (t_n (xC (qM (zcr (sps [.slice ax x.length cx, .int .i64 k] ?_)))))
  obtain ⟨b4, o5, rfl⟩ := H.addr 0 rfl (by omega)
  obtain ⟨ae6, ce6, Fe6, H⟩ := H.zU 0 rfl k k (by omega) (by omega) (by omega)
  refine oI rfl rfl (oL rfl (H.xB 1 rfl 0 rfl) (sp (.int .i64 r) (sw (oq (heldInt64S_ok _ (x[k]!) r (H.get 0 rfl).1 (by assumption) (by (have := hc (by omega); skip; omega)) (by (have := hc (by omega); skip; omega))) H fun w7 H => sp (.int .i64 (r + (cnt (x[k]!) : Nat))) (zjc (sps [.int .i64 (r + (cnt (x[k]!) : Nat)), .bool (decide ((r + (cnt (x[k]!) : Nat) : Int) < 0))] (zjn (cD rfl (fun h9 => ?_) (fun h9 => ?_)))))))))
  ·skip
   refine zcr (sp (.int .i64 (-1)) (zjr (zr5 (ret1 (.int .i64 (-1)) rfl rfl ⟨_, rfl, ?_, H.base⟩))))
   exfalso; first | omega | (exact absurd ‹_› ‹¬ _›) | simp_all
  refine qK (b_n (t_n (xH (sp (.int .i64 k) (sw (xX k 1 rfl rfl (by (have := hc (by omega); skip; omega)) (sp (.int .i64 (k + 1)) (xG (qR (m' := x.length - (k + 1)) (by omega) ⟨_, k + 1, r + (cnt (x[k]!) : Nat), uE3, ?_, ?_, rfl, H.sel _ (.refl _) _ (by simp)⟩)))))))))
  · omega
  · rw [yg]; skip; omega
 refine zx4 (zcr (sps [.int .i64 r, .int .i64 r] (zjr (ret1 (.int .i64 r) rfl rfl ⟨_, rfl, ?_, H.base⟩))))
 first | rfl | (refine congrArg (Value.int .i64) ?_; obtain rfl : k = x.length := (by omega); exact i1)
theorem l01Bag_ok (w : World) (l : List Int) (hl : qB.rep w Fl [.slice al l.length cl] l) : Calls Tryz.prog 150 #[.slice al l.length cl] w (Ret (fun v w' => v = .bool (dec (X6 l))) w) := by
 refine en Tryz.func150 Tryz.ntmps150 ?_
 have H := (St.start w).arg hl
 have nhl := qx hl
 clear hl
 refine zcr (sp (.bool false) (zjcc (sp (.int .i64 0) (zjn (qM ?_)))))
 refine xQ (fun m' ρ w1 => ∃ (junk : Env) (k : Nat), ρ = upd (upd junk 0 (.slice al l.length cl)) 3 (.int .i64 k) ∧ (k ≤ l.length) ∧ (Counts l k) ∧ m' = l.length - k ∧ St w w1 [] [sF false Fl al cl l]) (l.length - 0) ⟨_, 0, uE2, (by omega), (by exact Counts.zero l), rfl, H⟩ ?_
 clear H
 rintro m' ρ w2 ⟨junk, k, rfl, i0, i1, rfl, H⟩
 refine zcc (sps [.int .i64 k, .slice al l.length cl] (oN rfl (sp (.bool (decide ((k : Int) < l.length))) (zjn (cD rfl (fun h3 => ?_) (fun h3 => ?_))))))
 ·skip
  refine qK (t_n (xC (qM (zcr (sps [.slice al l.length cl, .int .i64 k] ?_)))))
  obtain ⟨b4, o5, rfl⟩ := H.addr 0 rfl (by omega)
  refine oI rfl rfl (oL rfl (H.jd 0 rfl k (by omega) (by omega)) (sw (oq (l00In_ok w2 (l[k]!) 0 1000) H fun w6 H => sp (.bool (!(inR (l[k]!) 0 1000))) (zjn (xn (!(inR (l[k]!) 0 1000)) rfl (fun h8 => ?_) (fun h8 => ?_))))))
  ·skip
   replace h8 := qW h8
   replace h8 := XI h8
   refine zcr (sp (.bool false) (zjr (zr5 (ret1 (.bool false) rfl rfl ⟨_, rfl, ?_, H.base⟩))))
   rw [qY (fun h => ‹¬ (0 ≤ l[k]! ∧ l[k]! ≤ 1000)› (h.1 k (by omega)))]
  replace h8 := qQ h8
  replace h8 := QZ.1 h8
  refine qK (b_n (t_n (xH (sp (.int .i64 k) (sw (xX k 1 rfl rfl (by omega) (sp (.int .i64 (k + 1)) (xG (qR (m' := l.length - (k + 1)) (by omega) ⟨_, k + 1, uE2, ?_, ?_, rfl, H⟩)))))))))
  · omega
  · exact i1.succ ‹_›
 refine zx4 (zcr (sp (.slice al l.length cl) (oN rfl (sw (oq (l00In_ok w2 l.length 1 8) H fun w9 H => sp (.bool (inR l.length 1 8)) (zjr (ret1 (.bool (inR l.length 1 8)) rfl rfl ⟨_, rfl, ?_, H.base⟩)))))))
 obtain rfl : k = l.length := by omega
 refine congrArg Value.bool (dec_eq ?_)
 rw [QZ]
 exact ⟨fun h => ⟨i1, by omega, by omega⟩, fun h => by have := h.2; omega⟩

theorem QF (w : World) (s : qy) (b : List Int) {ab : Option Addr} {cb : Nat} {Fb : List Nat} (hs : zK w bs os [.int .i64 s.qJ, .slice qo s.qf.length qm, .slice qC s.qg.length qA]) (qU : qB.rep w qP [.slice qo s.qf.length qm] s.qf) (xx : qB.rep w xu [.slice qC s.qg.length qA] s.qg) (hb : qB.rep w Fb [.slice ab b.length cb] b) : Calls Tryz.prog 122 #[pp bs os, .slice ab b.length cb] w (Ret (fun v w' => v = .bool (dec (zB s.qJ b))) w) := by
 refine en Tryz.func122 Tryz.ntmps122 ?_
 have H := ((((St.start w).arg hb).arg xx).arg qU).XX hs
 have zJ := qx qU
 have vW := qx xx
 have nhb := qx hb
 clear hs qU xx hb
 refine zcr (sp (.bool false) (zjc (sp (.slice ab b.length cb) (sw (oq (l01Bag_ok _ b (H.get 3 rfl).1) H fun w1 H => sp (.bool (dec (X6 b))) ?_)))))
 cases h3 : (dec (X6 b))
 ·skip
  replace h3 := zA h3
  refine xJ [8, 9, 10, 11, 12, 13, 14] (sps [.bool false, .bool false] (zjr (ret1 (.bool false) rfl rfl ⟨_, rfl, ?_, H.base⟩)))
  rw [qY (fun h => ‹¬ X6 b› h.1)]
 replace h3 := yU h3
 refine qH 7 rfl rfl (sp (.slice ab b.length cb) (qH 7 rfl rfl (oN rfl (qH 7 rfl rfl (sp (pp bs os) (qH 7 rfl rfl (sp (pp bs os) (qH 7 rfl rfl (oF rfl (qH 7 rfl rfl (oL rfl (H.xB 0 rfl 0 rfl) (qH 7 rfl rfl (sps [.bool ((b.length : Int) == s.qJ), .bool ((b.length : Int) == s.qJ), .bool ((b.length : Int) == s.qJ)] (zjr (ret1 (.bool ((b.length : Int) == s.qJ)) rfl rfl ⟨_, rfl, (congrArg Value.bool (dec_eq ?_)), H.base⟩)))))))))))))))
 rw [beq_iff_eq]
 exact ⟨fun h => ⟨‹_›, h⟩, fun h => h.2⟩

theorem l02Frame_ok (w : World) (s : qy) (hs : zK w bs os [.int .i64 s.qJ, .slice qo s.qf.length qm, .slice qC s.qg.length qA]) (qU : qB.rep w qP [.slice qo s.qf.length qm] s.qf) (xx : qB.rep w xu [.slice qC s.qg.length qA] s.qg) : Calls Tryz.prog 133 #[pp bs os] w (Ret (fun v w' => v = .bool (dec (jg s))) w) := by
 refine en Tryz.func133 Tryz.ntmps133 ?_
 have H := (((St.start w).arg xx).arg qU).XX hs
 have zJ := qx qU
 have vW := qx xx
 clear hs qU xx
 refine zcr (sp (.bool false) (zjcc (sps [pp bs os, pp bs os] (oF rfl (oL rfl (H.xB 0 rfl 0 rfl) (sw (oq (l00In_ok w s.qJ 1 8) H fun w1 H => sps [.bool (!(inR s.qJ 1 8)), .bool (!(inR s.qJ 1 8))] ?_)))))))
 cases h3 : (!(inR s.qJ 1 8))
 ·skip
  replace h3 := qQ h3
  replace h3 := QZ.1 h3
  refine qH 10 rfl rfl (sp (pp bs os) (qH 10 rfl rfl (sp (pp bs os) (qH 10 rfl rfl (oF rfl (qH 10 rfl rfl (oL rfl (H.xB 0 rfl 1 rfl) (qH 10 rfl rfl (oN rfl (qH 10 rfl rfl (sw (oq (l00In_ok w1 s.qf.length 1 6) H fun w4 H => qH 10 rfl rfl (sps [.bool (!(inR s.qf.length 1 6)), .bool (!(inR s.qf.length 1 6)), .bool (!(inR s.qf.length 1 6))] ?_)))))))))))))
  cases h6 : (!(inR s.qf.length 1 6))
  ·skip
   replace h6 := qQ h6
   replace h6 := QZ.1 h6
   refine qH 19 rfl rfl (sp (pp bs os) (qH 19 rfl rfl (sp (pp bs os) (qH 19 rfl rfl (oF rfl (qH 19 rfl rfl (oL rfl (H.xB 0 rfl 1 rfl) (qH 19 rfl rfl ?_))))))))
   obtain ⟨b7, o8, rfl⟩ := H.addr 1 rfl (by omega)
   refine oI rfl rfl (qH 19 rfl rfl (oL rfl (H.jd 1 rfl 0 (by omega) (by omega)) (qH 19 rfl rfl (sps [.bool ((s.qf[0]! : Int) != (-1)), .bool ((s.qf[0]! : Int) != (-1))] (zjn (xn ((s.qf[0]! : Int) != (-1)) rfl (fun h9 => ?_) (fun h9 => ?_)))))))
   ·skip
    replace h9 := bne_iff_ne.1 h9
    refine zcr (sp (.bool false) (zjr (t_r (ret1 (.bool false) rfl rfl ⟨_, rfl, ?_, H.base⟩))))
    rw [qY (fun h => by obtain ⟨h1, h2, h3, h4⟩ := h; first | omega | (have := h4 k (by omega) (by omega); omega))]
   replace h9 := xf h9
   refine qK (t_n (zcc (sp (.int .i64 1) (zjn (qM ?_)))))
   refine xQ (fun m' ρ w10 => ∃ (junk : Env) (k : Nat), ρ = upd (upd junk 0 (pp bs os)) 3 (.int .i64 k) ∧ (k ≤ s.qf.length) ∧ (1 ≤ k) ∧ (FrameTo s k) ∧ m' = s.qf.length - k ∧ St w w10 [] [atF bs os [.int .i64 s.qJ, .slice (aa b7 o8) s.qf.length qm, .slice qC s.qg.length qA], sF false qP (aa b7 o8) qm s.qf, sF false xu qC qA s.qg]) (s.qf.length - 1) ⟨_, 1, uE2, (by omega), (by omega), (by exact FrameTo.one s), rfl, H⟩ ?_
   clear H
   rintro m' ρ w11 ⟨junk, k, rfl, i0, i2, i1, rfl, H⟩
   refine zcc (sps [.int .i64 k, pp bs os, pp bs os] (oF rfl (oL rfl (H.xB 0 rfl 1 rfl) (oN rfl (sp (.bool (decide ((k : Int) < s.qf.length))) (zjn (cD rfl (fun h12 => ?_) (fun h12 => ?_))))))))
   ·skip
    refine qK (t_n (xC (qM (zcr (sps [pp bs os, pp bs os] (oF rfl (oL rfl (H.xB 0 rfl 1 rfl) (sp (.int .i64 k) (oI rfl rfl (oL rfl (H.jd 1 rfl k (by omega) (by omega)) (sp (.int .i64 k) (sw (o_sub k 1 rfl rfl (by omega) (sw (oq (l00In_ok w11 (s.qf[k]!) 0 (k - 1)) H fun w13 H => sp (.bool (!(inR (s.qf[k]!) 0 (k - 1)))) (zjn (xn (!(inR (s.qf[k]!) 0 (k - 1))) rfl (fun h15 => ?_) (fun h15 => ?_))))))))))))))))))
    ·skip
     replace h15 := qW h15
     replace h15 := XI h15
     refine zcr (sp (.bool false) (zjr (zr5 (ret1 (.bool false) rfl rfl ⟨_, rfl, ?_, H.base⟩))))
     rw [qY (fun h => by obtain ⟨h1, h2, h3, h4⟩ := h; first | omega | (have := h4 k (by omega) (by omega); omega))]
    replace h15 := qQ h15
    replace h15 := QZ.1 h15
    refine qK (b_n (t_n (xH (sp (.int .i64 k) (sw (xX k 1 rfl rfl (by omega) (sp (.int .i64 (k + 1)) (xG (qR (m' := s.qf.length - (k + 1)) (by omega) ⟨_, k + 1, uE2, ?_, ?_, ?_, rfl, H⟩)))))))))
    · omega
    · omega
    · exact i1.succ ‹_›
   refine zx4 (zcr (sp (.bool true) (zjr (ret1 (.bool true) rfl rfl ⟨_, rfl, ?_, H.base⟩))))
   obtain rfl : k = s.qf.length := by omega
   rw [jF ⟨by omega, by omega, by omega, i1⟩]
  replace h6 := qW h6
  replace h6 := XI h6
  refine xJ [20, 21, 22, 23, 24, 25, 26] (sp (.bool true) (zjn (xn true rfl (fun _ => zcr (sp (.bool false) (zjr (t_r (ret1 (.bool false) rfl rfl ⟨_, rfl, ?_, H.base⟩))))) (fun h => absurd h (by decide)))))
  rw [qY (fun h => by obtain ⟨h1, h2, h3, h4⟩ := h; first | omega | (have := h4 k (by omega) (by omega); omega))]
 replace h3 := qW h3
 replace h3 := XI h3
 refine xJ [11, 12, 13, 14, 15, 16, 17] (sps [.bool true, .bool true] (xJ [20, 21, 22, 23, 24, 25, 26] (sp (.bool true) (zjn (xn true rfl (fun _ => zcr (sp (.bool false) (zjr (t_r (ret1 (.bool false) rfl rfl ⟨_, rfl, ?_, H.base⟩))))) (fun h => absurd h (by decide)))))))
 rw [qY (fun h => by obtain ⟨h1, h2, h3, h4⟩ := h; first | omega | (have := h4 k (by omega) (by omega); omega))]

theorem l02In_ok (w : World) (s : qy) (c : Int) (other : Int) (hs : zK w bs os [.int .i64 s.qJ, .slice qo s.qf.length qm, .slice qC s.qg.length qA]) (qU : qB.rep w qP [.slice qo s.qf.length qm] s.qf) (xx : qB.rep w xu [.slice qC s.qg.length qA] s.qg) (p0 : jg s) (p1 : CellIn s c) : Calls Tryz.prog 170 #[pp bs os, .int .i64 c, .int .i64 other] w (Ret (fun v w' => v = .bool (dec (Lies s.qf other c))) w) := by
 refine en Tryz.func170 Tryz.ntmps170 ?_
 have H := (((St.start w).arg xx).arg qU).XX hs
 have zJ := qx qU
 have vW := qx xx
 clear hs qU xx
 refine zcr (sp (.bool false) (zjn (xC (qM ?_))))
 refine xQ (fun m' ρ w1 => ∃ (junk : Env) (y : Int), ρ = upd (upd (upd junk 0 (pp bs os)) 1 (.int .i64 y)) 2 (.int .i64 other) ∧ (0 ≤ y ∧ y ≤ (s.qf.length : Int) - 1) ∧ (Lies s.qf other c ↔ Lies s.qf other y) ∧ m' = y.toNat ∧ St w w1 [] [atF bs os [.int .i64 s.qJ, .slice qo s.qf.length qm, .slice qC s.qg.length qA], sF false qP qo qm s.qf, sF false xu qC qA s.qg]) (c.toNat) ⟨_, c, uE3, (by exact p1), (by exact Iff.rfl), rfl, H⟩ ?_
 clear H
 rintro m' ρ w2 ⟨junk, y, rfl, i0, i1, rfl, H⟩
 have up := fun h => p0.up (c := y) h i0.2
 refine zcc (sps [.int .i64 y, .bool (decide ((y : Int) > 0))] (zjn (cD rfl (fun h3 => ?_) (fun h3 => ?_))))
 ·skip
  refine qK (t_n (qM (zcr (sps [pp bs os, pp bs os] (oF rfl (oL rfl (H.xB 0 rfl 1 rfl) (sp (.int .i64 y) ?_)))))))
  obtain ⟨b4, o5, rfl⟩ := H.addr 1 rfl (by omega)
  refine oI rfl rfl (oL rfl (H.jd 1 rfl y (by omega) (by omega)) (sp (.int .i64 (s.qf[y.toNat]!)) (zjc (sps [.int .i64 (s.qf[y.toNat]!), .int .i64 other, .bool ((s.qf[y.toNat]! : Int) == other)] (zjn (cE rfl (fun h6 => ?_) (fun h6 => ?_)))))))
  ·skip
   refine zcr (sp (.bool true) (zjr (b_r (t_r (b_r (t_r (ret1 (.bool true) rfl rfl ⟨_, rfl, ?_, H.base⟩)))))))
   rw [jF (i1.2 (.here (by omega) ‹_›))]
  refine qK (b_n ?_)
  have up1 := up (by omega)
  refine qR (m' := (s.qf[y.toNat]!).toNat) (by omega) ⟨_, (s.qf[y.toNat]!), uE3, ?_, ?_, rfl, H⟩
  · have := up (by omega); omega
  · exact i1.trans (lies_iff.trans ⟨fun h => h.2.resolve_left ‹_›, fun h => ⟨by omega, .inr h⟩⟩)
 refine zx4 (zcr (sp (.bool false) (zjr (ret1 (.bool false) rfl rfl ⟨_, rfl, ?_, H.base⟩))))
 rw [qY (fun h => by have := (lies_iff.1 (i1.1 h)).1; omega)]

theorem l02Rule_ok (w : World) (s : qy) (r : Qr) {br or : Nat} {jO : Option Addr} {jI : Nat} {VD : List Nat} {jR : Option Addr} {jL : Nat} {VG : List Nat} {jP : Option Addr} {jJ : Nat} {VE : List Nat} {jQ : Option Addr} {jK : Nat} {VF : List Nat} {QR : Option Addr} {QQ : Nat} {FrOut : List Nat} {jv : Option Addr} {jr : Nat} {FrInto : List Nat} (hs : zK w bs os [.int .i64 s.qJ, .slice qo s.qf.length qm, .slice qC s.qg.length qA]) (qU : qB.rep w qP [.slice qo s.qf.length qm] s.qf) (xx : qB.rep w xu [.slice qC s.qg.length qA] s.qg) (hr : zK w br or [.int .i64 r.qp, .int .i64 r.zg, .slice jO r.qV.length jI, .slice jR r.xg.length jL, .slice jP r.xm.length jJ, .slice jQ r.xq.length jK, .slice QR r.zq.length QQ, .slice jv r.qI.length jr, .bool r.xO]) (hrNeed : qB.rep w VD [.slice jO r.qV.length jI] r.qV) (hrHave : qB.rep w VG [.slice jR r.xg.length jL] r.xg) (hrLack : qB.rep w VE [.slice jP r.xm.length jJ] r.xm) (hrHere : qB.rep w VF [.slice jQ r.xq.length jK] r.xq) (hrOut : qB.rep w FrOut [.slice QR r.zq.length QQ] r.zq) (hrInto : qB.rep w FrInto [.slice jv r.qI.length jr] r.qI) (p0 : jg s) : Calls Tryz.prog 134 #[pp bs os, pp br or] w (Ret (fun v w' => v = .bool (dec (RuleOk s r))) w) := by
 refine en Tryz.func134 Tryz.ntmps134 ?_
 have H := ((((((((((St.start w).arg hrInto).arg hrOut).arg hrHere).arg hrLack).arg hrHave).arg hrNeed).XX hr).arg xx).arg qU).XX hs
 have zJ := qx qU
 have vW := qx xx
 have nhrNeed := qx hrNeed
 have nhrHave := qx hrHave
 have nhrLack := qx hrLack
 have nhrHere := qx hrHere
 have nhrOut := qx hrOut
 have nhrInto := qx hrInto
 clear hs qU xx hr hrNeed hrHave hrLack hrHere hrOut hrInto
 refine zcr (sp (.bool false) (zjn (xC (xC ?_))))
 refine vH rfl H fun H => rtp 0 (pp br or) H ?_
 refine rtp 1 (pp br or) H ?_
 refine tF 2 rfl rfl H ?_
 refine tL 3 rfl rfl (fun _ h => h.xB 3 rfl 0 rfl) H ?_
 refine rtp 4 (pp bs os) H ?_
 refine rtp 5 (pp bs os) H ?_
 refine tF 6 rfl rfl H ?_
 refine tL 7 rfl rfl (fun _ h => h.xB 0 rfl 1 rfl) H ?_
 refine tN 8 rfl rfl H ?_
 refine rt 9 (.int .i64 (s.qf.length - 1)) (y_sub s.qf.length 1 rfl rfl (by omega)) H ?_
 refine ro 10 rfl (oq (l00In_ok w.drew r.qp 0 (s.qf.length - 1)) H fun w2 H => ⟨H, (rtp 11 (.bool (!(inR r.qp 0 (s.qf.length - 1)))) H ?_)⟩)
 refine rtp 12 (.bool (!(inR r.qp 0 (s.qf.length - 1)))) H ?_
 cases h4 : (!(inR r.qp 0 (s.qf.length - 1)))
 ·skip
  replace h4 := qQ h4
  replace h4 := QZ.1 h4
  refine rgp 13 (pp br or) 19 H ?_
  refine rgp 14 (pp br or) 19 H ?_
  refine gF 15 rfl rfl H ?_
  refine gL 16 rfl rfl (fun _ h => h.xB 3 rfl 1 rfl) H ?_
  refine vT [17] (by kernel_rfl) (by simp) (r_opG rfl (e := 19) rfl rfl (oq (l00In_ok w2 r.zg 0 9) H fun w5 H => ⟨H, (rgp 18 (.bool (!(inR r.zg 0 9))) 19 H ?_)⟩) vU)
  refine rtp 19 (.bool (!(inR r.zg 0 9))) H ?_
  refine rtp 20 (.bool (!(inR r.zg 0 9))) H ?_
  cases h7 : (!(inR r.zg 0 9))
  ·skip
   replace h7 := qQ h7
   replace h7 := QZ.1 h7
   refine rgp 21 (pp br or) 27 H ?_
   refine rgp 22 (pp br or) 27 H ?_
   refine gF 23 rfl rfl H ?_
   refine gL 24 rfl rfl (fun _ h => h.xB 3 rfl 8 rfl) H ?_
   refine rgp 25 (.bool r.xO) 27 H ?_
   cases h8 : (r.xO)
   ·skip
    rw [h8] at H
    refine zo [26, 27, 28, 29, 30] 5 (H) (rgp 31 (.bool false) 27 H ?_)
    refine rtp 32 (.bool false) H ?_
    refine rtp 33 (.bool false) H ?_
    refine rgp 34 (pp br or) 40 H ?_
    refine rgp 35 (pp br or) 40 H ?_
    refine gF 36 rfl rfl H ?_
    refine gL 37 rfl rfl (fun _ h => h.xB 3 rfl 7 rfl) H ?_
    refine gN 38 rfl rfl H ?_
    refine rgp 39 (.bool (decide ((r.qI.length : Int) > 3))) 40 H ?_
    refine rtp 40 (.bool (decide ((r.qI.length : Int) > 3))) H ?_
    refine xy (by kernel_rfl) (t_n (cD rfl (fun h9 => ?_) (fun h9 => ?_)))
    ·skip
     refine zcr (sp (.bool false) (zjr (t_r (ret1 (.bool false) rfl rfl ⟨_, rfl, ?_, H.base⟩))))
     rw [qY (fun h => by obtain ⟨h1, h2, h3, h4, h5, h6, h7, h8, h9, h10, h11⟩ := h; first | contradiction | omega | exact h3 ⟨‹_›, ‹_›⟩ | (obtain ⟨q1, q2, q3, q4, q5⟩ := h11 k (by omega); first | contradiction | omega | (have := q5 (by omega); omega)))]
    refine qK (t_n (zcc (sps [pp bs os, pp br or, pp br or] (oF rfl (oL rfl (H.xB 3 rfl 2 rfl) (sw (oq (QF _ s r.qV (qw (H.get 0 rfl) 0 3) (H.get 1 rfl).1 (H.get 2 rfl).1 (H.get 4 rfl).1) H fun w10 H => sps [.bool (!(dec (zB s.qJ r.qV))), .bool (!(dec (zB s.qJ r.qV)))] ?_)))))))
    cases h12 : (!(dec (zB s.qJ r.qV)))
    ·skip
     replace h12 := qQ h12
     replace h12 := yU h12
     refine qH 55 rfl rfl (sp (pp bs os) (qH 55 rfl rfl (sp (pp br or) (qH 55 rfl rfl (sp (pp br or) (qH 55 rfl rfl (oF rfl (qH 55 rfl rfl (oL rfl (H.xB 3 rfl 3 rfl) (qH 55 rfl rfl (sw (oq (QF _ s r.xg (qw (H.get 0 rfl) 0 3) (H.get 1 rfl).1 (H.get 2 rfl).1 (H.get 5 rfl).1) H fun w13 H => qH 55 rfl rfl (sps [.bool (!(dec (zB s.qJ r.xg))), .bool (!(dec (zB s.qJ r.xg))), .bool (!(dec (zB s.qJ r.xg)))] ?_)))))))))))))
     cases h15 : (!(dec (zB s.qJ r.xg)))
     ·skip
      replace h15 := qQ h15
      replace h15 := yU h15
      refine qH 64 rfl rfl (sp (pp bs os) (qH 64 rfl rfl (sp (pp br or) (qH 64 rfl rfl (sp (pp br or) (qH 64 rfl rfl (oF rfl (qH 64 rfl rfl (oL rfl (H.xB 3 rfl 4 rfl) (qH 64 rfl rfl (sw (oq (QF _ s r.xm (qw (H.get 0 rfl) 0 3) (H.get 1 rfl).1 (H.get 2 rfl).1 (H.get 6 rfl).1) H fun w16 H => qH 64 rfl rfl (sps [.bool (!(dec (zB s.qJ r.xm))), .bool (!(dec (zB s.qJ r.xm))), .bool (!(dec (zB s.qJ r.xm)))] ?_)))))))))))))
      cases h18 : (!(dec (zB s.qJ r.xm)))
      ·skip
       replace h18 := qQ h18
       replace h18 := yU h18
       refine qH 73 rfl rfl (sp (pp bs os) (qH 73 rfl rfl (sp (pp br or) (qH 73 rfl rfl (sp (pp br or) (qH 73 rfl rfl (oF rfl (qH 73 rfl rfl (oL rfl (H.xB 3 rfl 5 rfl) (qH 73 rfl rfl (sw (oq (QF _ s r.xq (qw (H.get 0 rfl) 0 3) (H.get 1 rfl).1 (H.get 2 rfl).1 (H.get 7 rfl).1) H fun w19 H => qH 73 rfl rfl (sps [.bool (!(dec (zB s.qJ r.xq))), .bool (!(dec (zB s.qJ r.xq))), .bool (!(dec (zB s.qJ r.xq)))] ?_)))))))))))))
       cases h21 : (!(dec (zB s.qJ r.xq)))
       ·skip
        replace h21 := qQ h21
        replace h21 := yU h21
        refine qH 82 rfl rfl (sp (pp bs os) (qH 82 rfl rfl (sp (pp br or) (qH 82 rfl rfl (sp (pp br or) (qH 82 rfl rfl (oF rfl (qH 82 rfl rfl (oL rfl (H.xB 3 rfl 6 rfl) (qH 82 rfl rfl (sw (oq (QF _ s r.zq (qw (H.get 0 rfl) 0 3) (H.get 1 rfl).1 (H.get 2 rfl).1 (H.get 8 rfl).1) H fun w22 H => qH 82 rfl rfl (sps [.bool (!(dec (zB s.qJ r.zq))), .bool (!(dec (zB s.qJ r.zq))), .bool (!(dec (zB s.qJ r.zq)))] ?_)))))))))))))
        cases h24 : (!(dec (zB s.qJ r.zq)))
        ·skip
         replace h24 := qQ h24
         replace h24 := yU h24
         refine qH 91 rfl rfl (sp (pp br or) (qH 91 rfl rfl (sp (pp br or) (qH 91 rfl rfl (oF rfl (qH 91 rfl rfl (oL rfl (H.xB 3 rfl 2 rfl) (qH 91 rfl rfl (sw (oq (V3 _ r.qV (H.get 4 rfl).1 (by first | assumption | exact zL (by assumption) | exact yD (by assumption))) H fun w25 H => qH 91 rfl rfl (sps [.bool ((X4 r.qV : Int) == 0), .bool ((X4 r.qV : Int) == 0)] (zjn (cE rfl (fun h27 => ?_) (fun h27 => ?_))))))))))))))
         ·skip
          refine zcr (sp (.bool false) (zjr (t_r (ret1 (.bool false) rfl rfl ⟨_, rfl, ?_, H.base⟩))))
          rw [qY (fun h => by obtain ⟨h1, h2, h3, h4, h5, h6, h7, h8, h9, h10, h11⟩ := h; first | contradiction | omega | exact h3 ⟨‹_›, ‹_›⟩ | (obtain ⟨q1, q2, q3, q4, q5⟩ := h11 k (by omega); first | contradiction | omega | (have := q5 (by omega); omega)))]
         refine qK (t_n (zcc (sp (.int .i64 0) (zjn (qM ?_)))))
         refine xQ (fun m' ρ w28 => ∃ (junk : Env) (k : Nat), ρ = upd (upd (upd junk 0 (pp bs os)) 1 (pp br or)) 5 (.int .i64 k) ∧ (k ≤ r.qI.length) ∧ (IntosTo s r k) ∧ m' = r.qI.length - k ∧ St w w28 [] [atF bs os [.int .i64 s.qJ, .slice qo s.qf.length qm, .slice qC s.qg.length qA], sF false qP qo qm s.qf, sF false xu qC qA s.qg, atF br or [.int .i64 r.qp, .int .i64 r.zg, .slice jO r.qV.length jI, .slice jR r.xg.length jL, .slice jP r.xm.length jJ, .slice jQ r.xq.length jK, .slice QR r.zq.length QQ, .slice jv r.qI.length jr, .bool false], sF false VD jO jI r.qV, sF false VG jR jL r.xg, sF false VE jP jJ r.xm, sF false VF jQ jK r.xq, sF false FrOut QR QQ r.zq, sF false FrInto jv jr r.qI]) (r.qI.length - 0) ⟨_, 0, uE3, (by omega), (by exact fun j hj => by omega), rfl, H⟩ ?_
         clear H
         rintro m' ρ w29 ⟨junk, k, rfl, i0, i1, rfl, H⟩
         refine zcc (sps [.int .i64 k, pp br or, pp br or] (oF rfl (oL rfl (H.xB 3 rfl 7 rfl) (oN rfl (sp (.bool (decide ((k : Int) < r.qI.length))) (zjn (cD rfl (fun h30 => ?_) (fun h30 => ?_))))))))
         ·skip
          refine qK (t_n (xC (qM (zcr (sps [pp br or, pp br or] (oF rfl (oL rfl (H.xB 3 rfl 7 rfl) (sp (.int .i64 k) ?_))))))))
          obtain ⟨b31, o32, rfl⟩ := H.addr 9 rfl (by omega)
          obtain ⟨ae33Bag, ce33Bag, Fe33Bag, H⟩ := H.jh 9 rfl k k (by omega) (by omega) (by omega)
          refine oI rfl rfl (sp (pp b31 (o32 + (k : Int).toNat * 2)) (zjn (xC (xC ?_))))
          refine vH rfl H fun H => rtp 0 (pp b31 (o32 + (k : Int).toNat * 2)) H ?_
          refine rtp 1 (pp b31 (o32 + (k : Int).toNat * 2)) H ?_
          refine tF 2 rfl rfl H ?_
          refine tL 3 rfl rfl (fun _ h => h.xB 1 rfl 0 rfl) H ?_
          refine rtp 4 (pp bs os) H ?_
          refine rtp 5 (pp bs os) H ?_
          refine tF 6 rfl rfl H ?_
          refine tL 7 rfl rfl (fun _ h => h.xB 2 rfl 1 rfl) H ?_
          refine tN 8 rfl rfl H ?_
          refine rt 9 (.int .i64 (s.qf.length - 1)) (y_sub s.qf.length 1 rfl rfl (by omega)) H ?_
          refine ro 10 rfl (oq (l00In_ok w29.drew ((r.qI[k]!).qp) 0 (s.qf.length - 1)) H fun w35 H => ⟨H, (rtp 11 (.bool (!(inR ((r.qI[k]!).qp) 0 (s.qf.length - 1)))) H ?_)⟩)
          refine rtp 12 (.bool (!(inR ((r.qI[k]!).qp) 0 (s.qf.length - 1)))) H ?_
          cases h37 : (!(inR ((r.qI[k]!).qp) 0 (s.qf.length - 1)))
          ·skip
           replace h37 := qQ h37
           replace h37 := QZ.1 h37
           refine rgp 13 (pp bs os) 126 H ?_
           refine rgp 14 (pp b31 (o32 + (k : Int).toNat * 2)) 126 H ?_
           refine rgp 15 (pp b31 (o32 + (k : Int).toNat * 2)) 126 H ?_
           refine gF 16 rfl rfl H ?_
           refine gL 17 rfl rfl (fun _ h => h.xB 1 rfl 0 rfl) H ?_
           refine rgp 18 (pp br or) 126 H ?_
           refine rgp 19 (pp br or) 126 H ?_
           refine gF 20 rfl rfl H ?_
           refine gL 21 rfl rfl (fun _ h => h.xB 5 rfl 0 rfl) H ?_
           refine vT [22] (by kernel_rfl) (by simp) (r_opG rfl (e := 126) rfl rfl (oq (l02In_ok _ s ((r.qI[k]!).qp) r.qp (qw (H.get 2 rfl) 0 3) (H.get 3 rfl).1 (H.get 4 rfl).1 (by assumption) (by assumption)) H fun w38 H => ⟨H, (rgp 23 (.bool (!(dec (Lies s.qf r.qp ((r.qI[k]!).qp))))) 126 H ?_)⟩) vU)
           refine rtp 24 (.bool (!(dec (Lies s.qf r.qp ((r.qI[k]!).qp))))) H ?_
           refine rtp 25 (.bool (!(dec (Lies s.qf r.qp ((r.qI[k]!).qp))))) H ?_
           cases h40 : (!(dec (Lies s.qf r.qp ((r.qI[k]!).qp))))
           ·skip
            replace h40 := qQ h40
            replace h40 := yU h40
            refine rgp 26 (pp bs os) 139 H ?_
            refine rgp 27 (pp b31 (o32 + (k : Int).toNat * 2)) 139 H ?_
            refine rgp 28 (pp b31 (o32 + (k : Int).toNat * 2)) 139 H ?_
            refine gF 29 rfl rfl H ?_
            refine gL 30 rfl rfl (fun _ h => h.xB 1 rfl 1 rfl) H ?_
            refine vT [31] (by kernel_rfl) (by simp) (r_opG rfl (e := 139) rfl rfl (oq (QF _ s ((r.qI[k]!).vS) (qw (H.get 2 rfl) 0 3) (H.get 3 rfl).1 (H.get 4 rfl).1 (H.get 0 rfl).1) H fun w41 H => ⟨H, (rgp 32 (.bool (!(dec (zB s.qJ ((r.qI[k]!).vS))))) 139 H ?_)⟩) vU)
            refine rtp 33 (.bool (!(dec (zB s.qJ ((r.qI[k]!).vS))))) H ?_
            refine rtp 34 (.bool (!(dec (zB s.qJ ((r.qI[k]!).vS))))) H ?_
            cases h43 : (!(dec (zB s.qJ ((r.qI[k]!).vS))))
            ·skip
             replace h43 := qQ h43
             replace h43 := yU h43
             refine rgp 35 (pp b31 (o32 + (k : Int).toNat * 2)) 148 H ?_
             refine rgp 36 (pp b31 (o32 + (k : Int).toNat * 2)) 148 H ?_
             refine gF 37 rfl rfl H ?_
             refine gL 38 rfl rfl (fun _ h => h.xB 1 rfl 1 rfl) H ?_
             refine vT [39] (by kernel_rfl) (by simp) (r_opG rfl (e := 148) rfl rfl (oq (V3 _ ((r.qI[k]!).vS) (H.get 0 rfl).1 (by first | assumption | exact zL (by assumption) | exact yD (by assumption))) H fun w44 H => ⟨H, (rgp 40 (.bool ((X4 ((r.qI[k]!).vS) : Int) == 0)) 148 H ?_)⟩) vU)
             refine rtp 41 (.bool ((X4 ((r.qI[k]!).vS) : Int) == 0)) H ?_
             refine xy (by kernel_rfl) (t_n (cE rfl (fun h46 => ?_) (fun h46 => ?_)))
             ·skip
              refine zcr (sp (.bool false) (zjr (t_r (zr5 (ret1 (.bool false) rfl rfl ⟨_, rfl, ?_, H.base⟩)))))
              rw [qY (fun h => by obtain ⟨h1, h2, h3, h4, h5, h6, h7, h8, h9, h10, h11⟩ := h; first | contradiction | omega | exact h3 ⟨‹_›, ‹_›⟩ | (obtain ⟨q1, q2, q3, q4, q5⟩ := h11 k (by omega); first | contradiction | omega | (have := q5 (by omega); omega)))]
             refine qK (t_n (xC ?_))
             refine vH rfl H fun H => rtp 0 (.int .i64 k) H ?_
             refine rtp 1 (.bool (decide ((k : Int) > 0))) H ?_
             refine rtp 2 (.bool (decide ((k : Int) > 0))) H ?_
             cases h48 : (decide ((k : Int) > 0))
             ·skip
              replace h48 := of_decide_eq_false h48
              refine zo [3, 4, 5, 6, 7, 8, 9, 10, 11, 12, 13, 14, 15, 16] 14 (H) (rtp 17 (.bool false) H ?_)
              refine xy (by kernel_rfl) (t_n (xn false rfl (fun h => absurd h (by decide)) (fun _ => qK (b_n (t_n (xH (sp (.int .i64 k) (sw (xX k 1 rfl rfl (by omega) (sp (.int .i64 (k + 1)) (xG (qR (m' := r.qI.length - (k + 1)) (by omega) ⟨_, k + 1, uE3, ?_, ?_, rfl, H.sel _ (.refl _) _ (by simp)⟩))))))))))))
              · omega
              · exact i1.succ ⟨‹_›, ‹_›, ‹_›, ‹_›, fun hk => by omega⟩
             replace h48 := of_decide_eq_true h48
             refine rgp 3 (pp br or) 158 H ?_
             refine rgp 4 (pp br or) 158 H ?_
             refine gF 5 rfl rfl H ?_
             refine gL 6 rfl rfl (fun _ h => h.xB 5 rfl 7 rfl) H ?_
             refine rgp 7 (.int .i64 k) 158 H ?_
             refine rg 8 (.int .i64 (k - 1)) 158 (y_sub k 1 rfl rfl (by omega)) H ?_
             obtain ⟨ae49Bag, ce49Bag, Fe49Bag, H⟩ := H.jh 11 rfl (k - 1) (k - 1) (by omega) (by omega) (by omega)
             refine gI 9 rfl rfl rfl (H.sel _ (.refl _) _ (fun _ h => List.mem_cons_of_mem _ (List.mem_cons_of_mem _ (h)))) ?_
             refine gF 10 rfl rfl (H.sel _ (.refl _) _ (fun _ h => List.mem_cons_of_mem _ (List.mem_cons_of_mem _ (h)))) ?_
             refine rgp 12 (pp b31 (o32 + (k : Int).toNat * 2)) 158 (H.sel _ (.refl _) _ (fun _ h => List.mem_cons_of_mem _ (List.mem_cons_of_mem _ (h)))) ?_
             refine rgp 13 (pp b31 (o32 + (k : Int).toNat * 2)) 158 (H.sel _ (.refl _) _ (fun _ h => List.mem_cons_of_mem _ (List.mem_cons_of_mem _ (h)))) ?_
             refine gF 14 rfl rfl (H.sel _ (.refl _) _ (fun _ h => List.mem_cons_of_mem _ (List.mem_cons_of_mem _ (h)))) ?_
             refine gL 15 rfl rfl (fun _ h => h.xB 1 rfl 0 rfl) (H.sel _ (.refl _) _ (fun _ h => List.mem_cons_of_mem _ (List.mem_cons_of_mem _ (h)))) ?_
             refine vT [11] (by kernel_rfl) (by simp) (r_opG rfl (e := 158) rfl rfl (zl (.int .i64 ((r.qI[k - 1]!).qp)) Tryz.isAgg2 rfl (H.xB 1 rfl 0 rfl) (⟨H.dF 2, (rgp 16 (.bool (decide (((r.qI[k - 1]!).qp : Int) ≥ ((r.qI[k]!).qp)))) 158 (H.sel _ (.refl _) _ (fun _ h => List.mem_cons_of_mem _ (List.mem_cons_of_mem _ (h)))) ?_)⟩)) vU)
             refine rtp 17 (.bool (decide (((r.qI[k - 1]!).qp : Int) ≥ ((r.qI[k]!).qp)))) (H.sel _ (.refl _) _ (fun _ h => List.mem_cons_of_mem _ (List.mem_cons_of_mem _ (h)))) ?_
             refine xy (by kernel_rfl) (t_n (cD rfl (fun h50 => ?_) (fun h50 => ?_)))
             ·skip
              refine zcr (sp (.bool false) (zjr (zr5 (ret1 (.bool false) rfl rfl ⟨_, rfl, ?_, H.base⟩))))
              rw [qY (fun h => by obtain ⟨h1, h2, h3, h4, h5, h6, h7, h8, h9, h10, h11⟩ := h; first | contradiction | omega | exact h3 ⟨‹_›, ‹_›⟩ | (obtain ⟨q1, q2, q3, q4, q5⟩ := h11 k (by omega); first | contradiction | omega | (have := q5 (by omega); omega)))]
             refine qK (b_n (t_n (xH (sp (.int .i64 k) (sw (xX k 1 rfl rfl (by omega) (sp (.int .i64 (k + 1)) (xG (qR (m' := r.qI.length - (k + 1)) (by omega) ⟨_, k + 1, uE3, ?_, ?_, rfl, H.sel _ (.refl _) _ (by simp)⟩)))))))))
             · omega
             · exact i1.succ ⟨‹_›, ‹_›, ‹_›, ‹_›, fun hk => by omega⟩
            replace h43 := qW h43
            replace h43 := zA h43
            refine zo [35, 36, 37, 38, 39, 40] 6 (H) (rtp 41 (.bool true) H ?_)
            refine xy (by kernel_rfl) (t_n (xn true rfl (fun _ => zcr (sp (.bool false) (zjr (t_r (zr5 (ret1 (.bool false) rfl rfl ⟨_, rfl, ?_, H.base⟩)))))) (fun h => absurd h (by decide))))
            rw [qY (fun h => by obtain ⟨h1, h2, h3, h4, h5, h6, h7, h8, h9, h10, h11⟩ := h; first | contradiction | omega | exact h3 ⟨‹_›, ‹_›⟩ | (obtain ⟨q1, q2, q3, q4, q5⟩ := h11 k (by omega); first | contradiction | omega | (have := q5 (by omega); omega)))]
           replace h40 := qW h40
           replace h40 := zA h40
           refine zo [26, 27, 28, 29, 30, 31, 32] 7 (H) (rtp 33 (.bool true) H ?_)
           refine rtp 34 (.bool true) H ?_
           refine zo [35, 36, 37, 38, 39, 40] 6 (H) (rtp 41 (.bool true) H ?_)
           refine xy (by kernel_rfl) (t_n (xn true rfl (fun _ => zcr (sp (.bool false) (zjr (t_r (zr5 (ret1 (.bool false) rfl rfl ⟨_, rfl, ?_, H.base⟩)))))) (fun h => absurd h (by decide))))
           rw [qY (fun h => by obtain ⟨h1, h2, h3, h4, h5, h6, h7, h8, h9, h10, h11⟩ := h; first | contradiction | omega | exact h3 ⟨‹_›, ‹_›⟩ | (obtain ⟨q1, q2, q3, q4, q5⟩ := h11 k (by omega); first | contradiction | omega | (have := q5 (by omega); omega)))]
          replace h37 := qW h37
          replace h37 := XI h37
          refine zo [13, 14, 15, 16, 17, 18, 19, 20, 21, 22, 23] 11 (H) (rtp 24 (.bool true) H ?_)
          refine rtp 25 (.bool true) H ?_
          refine zo [26, 27, 28, 29, 30, 31, 32] 7 (H) (rtp 33 (.bool true) H ?_)
          refine rtp 34 (.bool true) H ?_
          refine zo [35, 36, 37, 38, 39, 40] 6 (H) (rtp 41 (.bool true) H ?_)
          refine xy (by kernel_rfl) (t_n (xn true rfl (fun _ => zcr (sp (.bool false) (zjr (t_r (zr5 (ret1 (.bool false) rfl rfl ⟨_, rfl, ?_, H.base⟩)))))) (fun h => absurd h (by decide))))
          rw [qY (fun h => by obtain ⟨h1, h2, h3, h4, h5, h6, h7, h8, h9, h10, h11⟩ := h; first | contradiction | omega | exact h3 ⟨‹_›, ‹_›⟩ | (obtain ⟨q1, q2, q3, q4, q5⟩ := h11 k (by omega); first | contradiction | omega | (have := q5 (by omega); omega)))]
         refine zx4 (zcr (sp (.bool true) (zjr (ret1 (.bool true) rfl rfl ⟨_, rfl, ?_, H.base⟩))))
         obtain rfl : k = r.qI.length := by omega
         rw [jF ⟨by assumption, by omega, by simp_all, by omega, by assumption, by assumption, by assumption, by assumption, by assumption, by assumption, i1⟩]
        replace h24 := qW h24
        replace h24 := zA h24
        refine xJ [92, 93, 94, 95, 96, 97] (sp (.bool true) (zjn (xn true rfl (fun _ => zcr (sp (.bool false) (zjr (t_r (ret1 (.bool false) rfl rfl ⟨_, rfl, ?_, H.base⟩))))) (fun h => absurd h (by decide)))))
        rw [qY (fun h => by obtain ⟨h1, h2, h3, h4, h5, h6, h7, h8, h9, h10, h11⟩ := h; first | contradiction | omega | exact h3 ⟨‹_›, ‹_›⟩ | (obtain ⟨q1, q2, q3, q4, q5⟩ := h11 k (by omega); first | contradiction | omega | (have := q5 (by omega); omega)))]
       replace h21 := qW h21
       replace h21 := zA h21
       refine xJ [83, 84, 85, 86, 87, 88, 89] (sps [.bool true, .bool true] (xJ [92, 93, 94, 95, 96, 97] (sp (.bool true) (zjn (xn true rfl (fun _ => zcr (sp (.bool false) (zjr (t_r (ret1 (.bool false) rfl rfl ⟨_, rfl, ?_, H.base⟩))))) (fun h => absurd h (by decide)))))))
       rw [qY (fun h => by obtain ⟨h1, h2, h3, h4, h5, h6, h7, h8, h9, h10, h11⟩ := h; first | contradiction | omega | exact h3 ⟨‹_›, ‹_›⟩ | (obtain ⟨q1, q2, q3, q4, q5⟩ := h11 k (by omega); first | contradiction | omega | (have := q5 (by omega); omega)))]
      replace h18 := qW h18
      replace h18 := zA h18
      refine xJ [74, 75, 76, 77, 78, 79, 80] (sps [.bool true, .bool true] (xJ [83, 84, 85, 86, 87, 88, 89] (sps [.bool true, .bool true] (xJ [92, 93, 94, 95, 96, 97] (sp (.bool true) (zjn (xn true rfl (fun _ => zcr (sp (.bool false) (zjr (t_r (ret1 (.bool false) rfl rfl ⟨_, rfl, ?_, H.base⟩))))) (fun h => absurd h (by decide)))))))))
      rw [qY (fun h => by obtain ⟨h1, h2, h3, h4, h5, h6, h7, h8, h9, h10, h11⟩ := h; first | contradiction | omega | exact h3 ⟨‹_›, ‹_›⟩ | (obtain ⟨q1, q2, q3, q4, q5⟩ := h11 k (by omega); first | contradiction | omega | (have := q5 (by omega); omega)))]
     replace h15 := qW h15
     replace h15 := zA h15
     refine xJ [65, 66, 67, 68, 69, 70, 71] (sps [.bool true, .bool true] (xJ [74, 75, 76, 77, 78, 79, 80] (sps [.bool true, .bool true] (xJ [83, 84, 85, 86, 87, 88, 89] (sps [.bool true, .bool true] (xJ [92, 93, 94, 95, 96, 97] (sp (.bool true) (zjn (xn true rfl (fun _ => zcr (sp (.bool false) (zjr (t_r (ret1 (.bool false) rfl rfl ⟨_, rfl, ?_, H.base⟩))))) (fun h => absurd h (by decide)))))))))))
     rw [qY (fun h => by obtain ⟨h1, h2, h3, h4, h5, h6, h7, h8, h9, h10, h11⟩ := h; first | contradiction | omega | exact h3 ⟨‹_›, ‹_›⟩ | (obtain ⟨q1, q2, q3, q4, q5⟩ := h11 k (by omega); first | contradiction | omega | (have := q5 (by omega); omega)))]
    replace h12 := qW h12
    replace h12 := zA h12
    refine xJ [56, 57, 58, 59, 60, 61, 62] (sps [.bool true, .bool true] (xJ [65, 66, 67, 68, 69, 70, 71] (sps [.bool true, .bool true] (xJ [74, 75, 76, 77, 78, 79, 80] (sps [.bool true, .bool true] (xJ [83, 84, 85, 86, 87, 88, 89] (sps [.bool true, .bool true] (xJ [92, 93, 94, 95, 96, 97] (sp (.bool true) (zjn (xn true rfl (fun _ => zcr (sp (.bool false) (zjr (t_r (ret1 (.bool false) rfl rfl ⟨_, rfl, ?_, H.base⟩))))) (fun h => absurd h (by decide)))))))))))))
    rw [qY (fun h => by obtain ⟨h1, h2, h3, h4, h5, h6, h7, h8, h9, h10, h11⟩ := h; first | contradiction | omega | exact h3 ⟨‹_›, ‹_›⟩ | (obtain ⟨q1, q2, q3, q4, q5⟩ := h11 k (by omega); first | contradiction | omega | (have := q5 (by omega); omega)))]
   rw [h8] at H
   refine rgp 26 (pp br or) 32 H ?_
   refine rgp 27 (pp br or) 32 H ?_
   refine gF 28 rfl rfl H ?_
   refine gL 29 rfl rfl (fun _ h => h.xB 3 rfl 0 rfl) H ?_
   refine rgp 30 (.bool ((r.qp : Int) == 0)) 32 H ?_
   refine rgp 31 (.bool ((r.qp : Int) == 0)) 27 H ?_
   refine rtp 32 (.bool ((r.qp : Int) == 0)) H ?_
   refine rtp 33 (.bool ((r.qp : Int) == 0)) H ?_
   cases h51 : ((r.qp : Int) == 0)
   ·skip
    replace h51 := ne_of_beq_false h51
    refine rgp 34 (pp br or) 40 H ?_
    refine rgp 35 (pp br or) 40 H ?_
    refine gF 36 rfl rfl H ?_
    refine gL 37 rfl rfl (fun _ h => h.xB 3 rfl 7 rfl) H ?_
    refine gN 38 rfl rfl H ?_
    refine rgp 39 (.bool (decide ((r.qI.length : Int) > 3))) 40 H ?_
    refine rtp 40 (.bool (decide ((r.qI.length : Int) > 3))) H ?_
    refine xy (by kernel_rfl) (t_n (cD rfl (fun h52 => ?_) (fun h52 => ?_)))
    ·skip
     refine zcr (sp (.bool false) (zjr (t_r (ret1 (.bool false) rfl rfl ⟨_, rfl, ?_, H.base⟩))))
     rw [qY (fun h => by obtain ⟨h1, h2, h3, h4, h5, h6, h7, h8, h9, h10, h11⟩ := h; first | contradiction | omega | exact h3 ⟨‹_›, ‹_›⟩ | (obtain ⟨q1, q2, q3, q4, q5⟩ := h11 k (by omega); first | contradiction | omega | (have := q5 (by omega); omega)))]
    refine qK (t_n (zcc (sps [pp bs os, pp br or, pp br or] (oF rfl (oL rfl (H.xB 3 rfl 2 rfl) (sw (oq (QF _ s r.qV (qw (H.get 0 rfl) 0 3) (H.get 1 rfl).1 (H.get 2 rfl).1 (H.get 4 rfl).1) H fun w53 H => sps [.bool (!(dec (zB s.qJ r.qV))), .bool (!(dec (zB s.qJ r.qV)))] ?_)))))))
    cases h55 : (!(dec (zB s.qJ r.qV)))
    ·skip
     replace h55 := qQ h55
     replace h55 := yU h55
     refine qH 55 rfl rfl (sp (pp bs os) (qH 55 rfl rfl (sp (pp br or) (qH 55 rfl rfl (sp (pp br or) (qH 55 rfl rfl (oF rfl (qH 55 rfl rfl (oL rfl (H.xB 3 rfl 3 rfl) (qH 55 rfl rfl (sw (oq (QF _ s r.xg (qw (H.get 0 rfl) 0 3) (H.get 1 rfl).1 (H.get 2 rfl).1 (H.get 5 rfl).1) H fun w56 H => qH 55 rfl rfl (sps [.bool (!(dec (zB s.qJ r.xg))), .bool (!(dec (zB s.qJ r.xg))), .bool (!(dec (zB s.qJ r.xg)))] ?_)))))))))))))
     cases h58 : (!(dec (zB s.qJ r.xg)))
     ·skip
      replace h58 := qQ h58
      replace h58 := yU h58
      refine qH 64 rfl rfl (sp (pp bs os) (qH 64 rfl rfl (sp (pp br or) (qH 64 rfl rfl (sp (pp br or) (qH 64 rfl rfl (oF rfl (qH 64 rfl rfl (oL rfl (H.xB 3 rfl 4 rfl) (qH 64 rfl rfl (sw (oq (QF _ s r.xm (qw (H.get 0 rfl) 0 3) (H.get 1 rfl).1 (H.get 2 rfl).1 (H.get 6 rfl).1) H fun w59 H => qH 64 rfl rfl (sps [.bool (!(dec (zB s.qJ r.xm))), .bool (!(dec (zB s.qJ r.xm))), .bool (!(dec (zB s.qJ r.xm)))] ?_)))))))))))))
      cases h61 : (!(dec (zB s.qJ r.xm)))
      ·skip
       replace h61 := qQ h61
       replace h61 := yU h61
       refine qH 73 rfl rfl (sp (pp bs os) (qH 73 rfl rfl (sp (pp br or) (qH 73 rfl rfl (sp (pp br or) (qH 73 rfl rfl (oF rfl (qH 73 rfl rfl (oL rfl (H.xB 3 rfl 5 rfl) (qH 73 rfl rfl (sw (oq (QF _ s r.xq (qw (H.get 0 rfl) 0 3) (H.get 1 rfl).1 (H.get 2 rfl).1 (H.get 7 rfl).1) H fun w62 H => qH 73 rfl rfl (sps [.bool (!(dec (zB s.qJ r.xq))), .bool (!(dec (zB s.qJ r.xq))), .bool (!(dec (zB s.qJ r.xq)))] ?_)))))))))))))
       cases h64 : (!(dec (zB s.qJ r.xq)))
       ·skip
        replace h64 := qQ h64
        replace h64 := yU h64
        refine qH 82 rfl rfl (sp (pp bs os) (qH 82 rfl rfl (sp (pp br or) (qH 82 rfl rfl (sp (pp br or) (qH 82 rfl rfl (oF rfl (qH 82 rfl rfl (oL rfl (H.xB 3 rfl 6 rfl) (qH 82 rfl rfl (sw (oq (QF _ s r.zq (qw (H.get 0 rfl) 0 3) (H.get 1 rfl).1 (H.get 2 rfl).1 (H.get 8 rfl).1) H fun w65 H => qH 82 rfl rfl (sps [.bool (!(dec (zB s.qJ r.zq))), .bool (!(dec (zB s.qJ r.zq))), .bool (!(dec (zB s.qJ r.zq)))] ?_)))))))))))))
        cases h67 : (!(dec (zB s.qJ r.zq)))
        ·skip
         replace h67 := qQ h67
         replace h67 := yU h67
         refine qH 91 rfl rfl (sp (pp br or) (qH 91 rfl rfl (sp (pp br or) (qH 91 rfl rfl (oF rfl (qH 91 rfl rfl (oL rfl (H.xB 3 rfl 2 rfl) (qH 91 rfl rfl (sw (oq (V3 _ r.qV (H.get 4 rfl).1 (by first | assumption | exact zL (by assumption) | exact yD (by assumption))) H fun w68 H => qH 91 rfl rfl (sps [.bool ((X4 r.qV : Int) == 0), .bool ((X4 r.qV : Int) == 0)] (zjn (cE rfl (fun h70 => ?_) (fun h70 => ?_))))))))))))))
         ·skip
          refine zcr (sp (.bool false) (zjr (t_r (ret1 (.bool false) rfl rfl ⟨_, rfl, ?_, H.base⟩))))
          rw [qY (fun h => by obtain ⟨h1, h2, h3, h4, h5, h6, h7, h8, h9, h10, h11⟩ := h; first | contradiction | omega | exact h3 ⟨‹_›, ‹_›⟩ | (obtain ⟨q1, q2, q3, q4, q5⟩ := h11 k (by omega); first | contradiction | omega | (have := q5 (by omega); omega)))]
         refine qK (t_n (zcc (sp (.int .i64 0) (zjn (qM ?_)))))
         refine xQ (fun m' ρ w71 => ∃ (junk : Env) (k : Nat), ρ = upd (upd (upd junk 0 (pp bs os)) 1 (pp br or)) 5 (.int .i64 k) ∧ (k ≤ r.qI.length) ∧ (IntosTo s r k) ∧ m' = r.qI.length - k ∧ St w w71 [] [atF bs os [.int .i64 s.qJ, .slice qo s.qf.length qm, .slice qC s.qg.length qA], sF false qP qo qm s.qf, sF false xu qC qA s.qg, atF br or [.int .i64 r.qp, .int .i64 r.zg, .slice jO r.qV.length jI, .slice jR r.xg.length jL, .slice jP r.xm.length jJ, .slice jQ r.xq.length jK, .slice QR r.zq.length QQ, .slice jv r.qI.length jr, .bool true], sF false VD jO jI r.qV, sF false VG jR jL r.xg, sF false VE jP jJ r.xm, sF false VF jQ jK r.xq, sF false FrOut QR QQ r.zq, sF false FrInto jv jr r.qI]) (r.qI.length - 0) ⟨_, 0, uE3, (by omega), (by exact fun j hj => by omega), rfl, H⟩ ?_
         clear H
         rintro m' ρ w72 ⟨junk, k, rfl, i0, i1, rfl, H⟩
         refine zcc (sps [.int .i64 k, pp br or, pp br or] (oF rfl (oL rfl (H.xB 3 rfl 7 rfl) (oN rfl (sp (.bool (decide ((k : Int) < r.qI.length))) (zjn (cD rfl (fun h73 => ?_) (fun h73 => ?_))))))))
         ·skip
          refine qK (t_n (xC (qM (zcr (sps [pp br or, pp br or] (oF rfl (oL rfl (H.xB 3 rfl 7 rfl) (sp (.int .i64 k) ?_))))))))
          obtain ⟨b74, o75, rfl⟩ := H.addr 9 rfl (by omega)
          obtain ⟨ae76Bag, ce76Bag, Fe76Bag, H⟩ := H.jh 9 rfl k k (by omega) (by omega) (by omega)
          refine oI rfl rfl (sp (pp b74 (o75 + (k : Int).toNat * 2)) (zjn (xC (xC ?_))))
          refine vH rfl H fun H => rtp 0 (pp b74 (o75 + (k : Int).toNat * 2)) H ?_
          refine rtp 1 (pp b74 (o75 + (k : Int).toNat * 2)) H ?_
          refine tF 2 rfl rfl H ?_
          refine tL 3 rfl rfl (fun _ h => h.xB 1 rfl 0 rfl) H ?_
          refine rtp 4 (pp bs os) H ?_
          refine rtp 5 (pp bs os) H ?_
          refine tF 6 rfl rfl H ?_
          refine tL 7 rfl rfl (fun _ h => h.xB 2 rfl 1 rfl) H ?_
          refine tN 8 rfl rfl H ?_
          refine rt 9 (.int .i64 (s.qf.length - 1)) (y_sub s.qf.length 1 rfl rfl (by omega)) H ?_
          refine ro 10 rfl (oq (l00In_ok w72.drew ((r.qI[k]!).qp) 0 (s.qf.length - 1)) H fun w78 H => ⟨H, (rtp 11 (.bool (!(inR ((r.qI[k]!).qp) 0 (s.qf.length - 1)))) H ?_)⟩)
          refine rtp 12 (.bool (!(inR ((r.qI[k]!).qp) 0 (s.qf.length - 1)))) H ?_
          cases h80 : (!(inR ((r.qI[k]!).qp) 0 (s.qf.length - 1)))
          ·skip
           replace h80 := qQ h80
           replace h80 := QZ.1 h80
           refine rgp 13 (pp bs os) 126 H ?_
           refine rgp 14 (pp b74 (o75 + (k : Int).toNat * 2)) 126 H ?_
           refine rgp 15 (pp b74 (o75 + (k : Int).toNat * 2)) 126 H ?_
           refine gF 16 rfl rfl H ?_
           refine gL 17 rfl rfl (fun _ h => h.xB 1 rfl 0 rfl) H ?_
           refine rgp 18 (pp br or) 126 H ?_
           refine rgp 19 (pp br or) 126 H ?_
           refine gF 20 rfl rfl H ?_
           refine gL 21 rfl rfl (fun _ h => h.xB 5 rfl 0 rfl) H ?_
           refine vT [22] (by kernel_rfl) (by simp) (r_opG rfl (e := 126) rfl rfl (oq (l02In_ok _ s ((r.qI[k]!).qp) r.qp (qw (H.get 2 rfl) 0 3) (H.get 3 rfl).1 (H.get 4 rfl).1 (by assumption) (by assumption)) H fun w81 H => ⟨H, (rgp 23 (.bool (!(dec (Lies s.qf r.qp ((r.qI[k]!).qp))))) 126 H ?_)⟩) vU)
           refine rtp 24 (.bool (!(dec (Lies s.qf r.qp ((r.qI[k]!).qp))))) H ?_
           refine rtp 25 (.bool (!(dec (Lies s.qf r.qp ((r.qI[k]!).qp))))) H ?_
           cases h83 : (!(dec (Lies s.qf r.qp ((r.qI[k]!).qp))))
           ·skip
            replace h83 := qQ h83
            replace h83 := yU h83
            refine rgp 26 (pp bs os) 139 H ?_
            refine rgp 27 (pp b74 (o75 + (k : Int).toNat * 2)) 139 H ?_
            refine rgp 28 (pp b74 (o75 + (k : Int).toNat * 2)) 139 H ?_
            refine gF 29 rfl rfl H ?_
            refine gL 30 rfl rfl (fun _ h => h.xB 1 rfl 1 rfl) H ?_
            refine vT [31] (by kernel_rfl) (by simp) (r_opG rfl (e := 139) rfl rfl (oq (QF _ s ((r.qI[k]!).vS) (qw (H.get 2 rfl) 0 3) (H.get 3 rfl).1 (H.get 4 rfl).1 (H.get 0 rfl).1) H fun w84 H => ⟨H, (rgp 32 (.bool (!(dec (zB s.qJ ((r.qI[k]!).vS))))) 139 H ?_)⟩) vU)
            refine rtp 33 (.bool (!(dec (zB s.qJ ((r.qI[k]!).vS))))) H ?_
            refine rtp 34 (.bool (!(dec (zB s.qJ ((r.qI[k]!).vS))))) H ?_
            cases h86 : (!(dec (zB s.qJ ((r.qI[k]!).vS))))
            ·skip
             replace h86 := qQ h86
             replace h86 := yU h86
             refine rgp 35 (pp b74 (o75 + (k : Int).toNat * 2)) 148 H ?_
             refine rgp 36 (pp b74 (o75 + (k : Int).toNat * 2)) 148 H ?_
             refine gF 37 rfl rfl H ?_
             refine gL 38 rfl rfl (fun _ h => h.xB 1 rfl 1 rfl) H ?_
             refine vT [39] (by kernel_rfl) (by simp) (r_opG rfl (e := 148) rfl rfl (oq (V3 _ ((r.qI[k]!).vS) (H.get 0 rfl).1 (by first | assumption | exact zL (by assumption) | exact yD (by assumption))) H fun w87 H => ⟨H, (rgp 40 (.bool ((X4 ((r.qI[k]!).vS) : Int) == 0)) 148 H ?_)⟩) vU)
             refine rtp 41 (.bool ((X4 ((r.qI[k]!).vS) : Int) == 0)) H ?_
             refine xy (by kernel_rfl) (t_n (cE rfl (fun h89 => ?_) (fun h89 => ?_)))
             ·skip
              refine zcr (sp (.bool false) (zjr (t_r (zr5 (ret1 (.bool false) rfl rfl ⟨_, rfl, ?_, H.base⟩)))))
              rw [qY (fun h => by obtain ⟨h1, h2, h3, h4, h5, h6, h7, h8, h9, h10, h11⟩ := h; first | contradiction | omega | exact h3 ⟨‹_›, ‹_›⟩ | (obtain ⟨q1, q2, q3, q4, q5⟩ := h11 k (by omega); first | contradiction | omega | (have := q5 (by omega); omega)))]
             refine qK (t_n (xC ?_))
             refine vH rfl H fun H => rtp 0 (.int .i64 k) H ?_
             refine rtp 1 (.bool (decide ((k : Int) > 0))) H ?_
             refine rtp 2 (.bool (decide ((k : Int) > 0))) H ?_
             cases h91 : (decide ((k : Int) > 0))
             ·skip
              replace h91 := of_decide_eq_false h91
              refine zo [3, 4, 5, 6, 7, 8, 9, 10, 11, 12, 13, 14, 15, 16] 14 (H) (rtp 17 (.bool false) H ?_)
              refine xy (by kernel_rfl) (t_n (xn false rfl (fun h => absurd h (by decide)) (fun _ => qK (b_n (t_n (xH (sp (.int .i64 k) (sw (xX k 1 rfl rfl (by omega) (sp (.int .i64 (k + 1)) (xG (qR (m' := r.qI.length - (k + 1)) (by omega) ⟨_, k + 1, uE3, ?_, ?_, rfl, H.sel _ (.refl _) _ (by simp)⟩))))))))))))
              · omega
              · exact i1.succ ⟨‹_›, ‹_›, ‹_›, ‹_›, fun hk => by omega⟩
             replace h91 := of_decide_eq_true h91
             refine rgp 3 (pp br or) 158 H ?_
             refine rgp 4 (pp br or) 158 H ?_
             refine gF 5 rfl rfl H ?_
             refine gL 6 rfl rfl (fun _ h => h.xB 5 rfl 7 rfl) H ?_
             refine rgp 7 (.int .i64 k) 158 H ?_
             refine rg 8 (.int .i64 (k - 1)) 158 (y_sub k 1 rfl rfl (by omega)) H ?_
             obtain ⟨ae92Bag, ce92Bag, Fe92Bag, H⟩ := H.jh 11 rfl (k - 1) (k - 1) (by omega) (by omega) (by omega)
             refine gI 9 rfl rfl rfl (H.sel _ (.refl _) _ (fun _ h => List.mem_cons_of_mem _ (List.mem_cons_of_mem _ (h)))) ?_
             refine gF 10 rfl rfl (H.sel _ (.refl _) _ (fun _ h => List.mem_cons_of_mem _ (List.mem_cons_of_mem _ (h)))) ?_
             refine rgp 12 (pp b74 (o75 + (k : Int).toNat * 2)) 158 (H.sel _ (.refl _) _ (fun _ h => List.mem_cons_of_mem _ (List.mem_cons_of_mem _ (h)))) ?_
             refine rgp 13 (pp b74 (o75 + (k : Int).toNat * 2)) 158 (H.sel _ (.refl _) _ (fun _ h => List.mem_cons_of_mem _ (List.mem_cons_of_mem _ (h)))) ?_
             refine gF 14 rfl rfl (H.sel _ (.refl _) _ (fun _ h => List.mem_cons_of_mem _ (List.mem_cons_of_mem _ (h)))) ?_
             refine gL 15 rfl rfl (fun _ h => h.xB 1 rfl 0 rfl) (H.sel _ (.refl _) _ (fun _ h => List.mem_cons_of_mem _ (List.mem_cons_of_mem _ (h)))) ?_
             refine vT [11] (by kernel_rfl) (by simp) (r_opG rfl (e := 158) rfl rfl (zl (.int .i64 ((r.qI[k - 1]!).qp)) Tryz.isAgg2 rfl (H.xB 1 rfl 0 rfl) (⟨H.dF 2, (rgp 16 (.bool (decide (((r.qI[k - 1]!).qp : Int) ≥ ((r.qI[k]!).qp)))) 158 (H.sel _ (.refl _) _ (fun _ h => List.mem_cons_of_mem _ (List.mem_cons_of_mem _ (h)))) ?_)⟩)) vU)
             refine rtp 17 (.bool (decide (((r.qI[k - 1]!).qp : Int) ≥ ((r.qI[k]!).qp)))) (H.sel _ (.refl _) _ (fun _ h => List.mem_cons_of_mem _ (List.mem_cons_of_mem _ (h)))) ?_
             refine xy (by kernel_rfl) (t_n (cD rfl (fun h93 => ?_) (fun h93 => ?_)))
             ·skip
              refine zcr (sp (.bool false) (zjr (zr5 (ret1 (.bool false) rfl rfl ⟨_, rfl, ?_, H.base⟩))))
              rw [qY (fun h => by obtain ⟨h1, h2, h3, h4, h5, h6, h7, h8, h9, h10, h11⟩ := h; first | contradiction | omega | exact h3 ⟨‹_›, ‹_›⟩ | (obtain ⟨q1, q2, q3, q4, q5⟩ := h11 k (by omega); first | contradiction | omega | (have := q5 (by omega); omega)))]
             refine qK (b_n (t_n (xH (sp (.int .i64 k) (sw (xX k 1 rfl rfl (by omega) (sp (.int .i64 (k + 1)) (xG (qR (m' := r.qI.length - (k + 1)) (by omega) ⟨_, k + 1, uE3, ?_, ?_, rfl, H.sel _ (.refl _) _ (by simp)⟩)))))))))
             · omega
             · exact i1.succ ⟨‹_›, ‹_›, ‹_›, ‹_›, fun hk => by omega⟩
            replace h86 := qW h86
            replace h86 := zA h86
            refine zo [35, 36, 37, 38, 39, 40] 6 (H) (rtp 41 (.bool true) H ?_)
            refine xy (by kernel_rfl) (t_n (xn true rfl (fun _ => zcr (sp (.bool false) (zjr (t_r (zr5 (ret1 (.bool false) rfl rfl ⟨_, rfl, ?_, H.base⟩)))))) (fun h => absurd h (by decide))))
            rw [qY (fun h => by obtain ⟨h1, h2, h3, h4, h5, h6, h7, h8, h9, h10, h11⟩ := h; first | contradiction | omega | exact h3 ⟨‹_›, ‹_›⟩ | (obtain ⟨q1, q2, q3, q4, q5⟩ := h11 k (by omega); first | contradiction | omega | (have := q5 (by omega); omega)))]
           replace h83 := qW h83
           replace h83 := zA h83
           refine zo [26, 27, 28, 29, 30, 31, 32] 7 (H) (rtp 33 (.bool true) H ?_)
           refine rtp 34 (.bool true) H ?_
           refine zo [35, 36, 37, 38, 39, 40] 6 (H) (rtp 41 (.bool true) H ?_)
           refine xy (by kernel_rfl) (t_n (xn true rfl (fun _ => zcr (sp (.bool false) (zjr (t_r (zr5 (ret1 (.bool false) rfl rfl ⟨_, rfl, ?_, H.base⟩)))))) (fun h => absurd h (by decide))))
           rw [qY (fun h => by obtain ⟨h1, h2, h3, h4, h5, h6, h7, h8, h9, h10, h11⟩ := h; first | contradiction | omega | exact h3 ⟨‹_›, ‹_›⟩ | (obtain ⟨q1, q2, q3, q4, q5⟩ := h11 k (by omega); first | contradiction | omega | (have := q5 (by omega); omega)))]
          replace h80 := qW h80
          replace h80 := XI h80
          refine zo [13, 14, 15, 16, 17, 18, 19, 20, 21, 22, 23] 11 (H) (rtp 24 (.bool true) H ?_)
          refine rtp 25 (.bool true) H ?_
          refine zo [26, 27, 28, 29, 30, 31, 32] 7 (H) (rtp 33 (.bool true) H ?_)
          refine rtp 34 (.bool true) H ?_
          refine zo [35, 36, 37, 38, 39, 40] 6 (H) (rtp 41 (.bool true) H ?_)
          refine xy (by kernel_rfl) (t_n (xn true rfl (fun _ => zcr (sp (.bool false) (zjr (t_r (zr5 (ret1 (.bool false) rfl rfl ⟨_, rfl, ?_, H.base⟩)))))) (fun h => absurd h (by decide))))
          rw [qY (fun h => by obtain ⟨h1, h2, h3, h4, h5, h6, h7, h8, h9, h10, h11⟩ := h; first | contradiction | omega | exact h3 ⟨‹_›, ‹_›⟩ | (obtain ⟨q1, q2, q3, q4, q5⟩ := h11 k (by omega); first | contradiction | omega | (have := q5 (by omega); omega)))]
         refine zx4 (zcr (sp (.bool true) (zjr (ret1 (.bool true) rfl rfl ⟨_, rfl, ?_, H.base⟩))))
         obtain rfl : k = r.qI.length := by omega
         rw [jF ⟨by assumption, by omega, by simp_all, by omega, by assumption, by assumption, by assumption, by assumption, by assumption, by assumption, i1⟩]
        replace h67 := qW h67
        replace h67 := zA h67
        refine xJ [92, 93, 94, 95, 96, 97] (sp (.bool true) (zjn (xn true rfl (fun _ => zcr (sp (.bool false) (zjr (t_r (ret1 (.bool false) rfl rfl ⟨_, rfl, ?_, H.base⟩))))) (fun h => absurd h (by decide)))))
        rw [qY (fun h => by obtain ⟨h1, h2, h3, h4, h5, h6, h7, h8, h9, h10, h11⟩ := h; first | contradiction | omega | exact h3 ⟨‹_›, ‹_›⟩ | (obtain ⟨q1, q2, q3, q4, q5⟩ := h11 k (by omega); first | contradiction | omega | (have := q5 (by omega); omega)))]
       replace h64 := qW h64
       replace h64 := zA h64
       refine xJ [83, 84, 85, 86, 87, 88, 89] (sps [.bool true, .bool true] (xJ [92, 93, 94, 95, 96, 97] (sp (.bool true) (zjn (xn true rfl (fun _ => zcr (sp (.bool false) (zjr (t_r (ret1 (.bool false) rfl rfl ⟨_, rfl, ?_, H.base⟩))))) (fun h => absurd h (by decide)))))))
       rw [qY (fun h => by obtain ⟨h1, h2, h3, h4, h5, h6, h7, h8, h9, h10, h11⟩ := h; first | contradiction | omega | exact h3 ⟨‹_›, ‹_›⟩ | (obtain ⟨q1, q2, q3, q4, q5⟩ := h11 k (by omega); first | contradiction | omega | (have := q5 (by omega); omega)))]
      replace h61 := qW h61
      replace h61 := zA h61
      refine xJ [74, 75, 76, 77, 78, 79, 80] (sps [.bool true, .bool true] (xJ [83, 84, 85, 86, 87, 88, 89] (sps [.bool true, .bool true] (xJ [92, 93, 94, 95, 96, 97] (sp (.bool true) (zjn (xn true rfl (fun _ => zcr (sp (.bool false) (zjr (t_r (ret1 (.bool false) rfl rfl ⟨_, rfl, ?_, H.base⟩))))) (fun h => absurd h (by decide)))))))))
      rw [qY (fun h => by obtain ⟨h1, h2, h3, h4, h5, h6, h7, h8, h9, h10, h11⟩ := h; first | contradiction | omega | exact h3 ⟨‹_›, ‹_›⟩ | (obtain ⟨q1, q2, q3, q4, q5⟩ := h11 k (by omega); first | contradiction | omega | (have := q5 (by omega); omega)))]
     replace h58 := qW h58
     replace h58 := zA h58
     refine xJ [65, 66, 67, 68, 69, 70, 71] (sps [.bool true, .bool true] (xJ [74, 75, 76, 77, 78, 79, 80] (sps [.bool true, .bool true] (xJ [83, 84, 85, 86, 87, 88, 89] (sps [.bool true, .bool true] (xJ [92, 93, 94, 95, 96, 97] (sp (.bool true) (zjn (xn true rfl (fun _ => zcr (sp (.bool false) (zjr (t_r (ret1 (.bool false) rfl rfl ⟨_, rfl, ?_, H.base⟩))))) (fun h => absurd h (by decide)))))))))))
     rw [qY (fun h => by obtain ⟨h1, h2, h3, h4, h5, h6, h7, h8, h9, h10, h11⟩ := h; first | contradiction | omega | exact h3 ⟨‹_›, ‹_›⟩ | (obtain ⟨q1, q2, q3, q4, q5⟩ := h11 k (by omega); first | contradiction | omega | (have := q5 (by omega); omega)))]
    replace h55 := qW h55
    replace h55 := zA h55
    refine xJ [56, 57, 58, 59, 60, 61, 62] (sps [.bool true, .bool true] (xJ [65, 66, 67, 68, 69, 70, 71] (sps [.bool true, .bool true] (xJ [74, 75, 76, 77, 78, 79, 80] (sps [.bool true, .bool true] (xJ [83, 84, 85, 86, 87, 88, 89] (sps [.bool true, .bool true] (xJ [92, 93, 94, 95, 96, 97] (sp (.bool true) (zjn (xn true rfl (fun _ => zcr (sp (.bool false) (zjr (t_r (ret1 (.bool false) rfl rfl ⟨_, rfl, ?_, H.base⟩))))) (fun h => absurd h (by decide)))))))))))))
    rw [qY (fun h => by obtain ⟨h1, h2, h3, h4, h5, h6, h7, h8, h9, h10, h11⟩ := h; first | contradiction | omega | exact h3 ⟨‹_›, ‹_›⟩ | (obtain ⟨q1, q2, q3, q4, q5⟩ := h11 k (by omega); first | contradiction | omega | (have := q5 (by omega); omega)))]
   replace h51 := eq_of_beq h51
   refine zo [34, 35, 36, 37, 38, 39] 6 (H) (rtp 40 (.bool true) H ?_)
   refine xy (by kernel_rfl) (t_n (xn true rfl (fun _ => zcr (sp (.bool false) (zjr (t_r (ret1 (.bool false) rfl rfl ⟨_, rfl, ?_, H.base⟩))))) (fun h => absurd h (by decide))))
   rw [qY (fun h => by obtain ⟨h1, h2, h3, h4, h5, h6, h7, h8, h9, h10, h11⟩ := h; first | contradiction | omega | exact h3 ⟨‹_›, ‹_›⟩ | (obtain ⟨q1, q2, q3, q4, q5⟩ := h11 k (by omega); first | contradiction | omega | (have := q5 (by omega); omega)))]
  replace h7 := qW h7
  replace h7 := XI h7
  refine zo [21, 22, 23, 24, 25, 26, 27, 28, 29, 30, 31] 11 (H) (rtp 32 (.bool true) H ?_)
  refine rtp 33 (.bool true) H ?_
  refine zo [34, 35, 36, 37, 38, 39] 6 (H) (rtp 40 (.bool true) H ?_)
  refine xy (by kernel_rfl) (t_n (xn true rfl (fun _ => zcr (sp (.bool false) (zjr (t_r (ret1 (.bool false) rfl rfl ⟨_, rfl, ?_, H.base⟩))))) (fun h => absurd h (by decide))))
  rw [qY (fun h => by obtain ⟨h1, h2, h3, h4, h5, h6, h7, h8, h9, h10, h11⟩ := h; first | contradiction | omega | exact h3 ⟨‹_›, ‹_›⟩ | (obtain ⟨q1, q2, q3, q4, q5⟩ := h11 k (by omega); first | contradiction | omega | (have := q5 (by omega); omega)))]
 replace h4 := qW h4
 replace h4 := XI h4
 refine zo [13, 14, 15, 16, 17, 18] 6 (H) (rtp 19 (.bool true) H ?_)
 refine rtp 20 (.bool true) H ?_
 refine zo [21, 22, 23, 24, 25, 26, 27, 28, 29, 30, 31] 11 (H) (rtp 32 (.bool true) H ?_)
 refine rtp 33 (.bool true) H ?_
 refine zo [34, 35, 36, 37, 38, 39] 6 (H) (rtp 40 (.bool true) H ?_)
 refine xy (by kernel_rfl) (t_n (xn true rfl (fun _ => zcr (sp (.bool false) (zjr (t_r (ret1 (.bool false) rfl rfl ⟨_, rfl, ?_, H.base⟩))))) (fun h => absurd h (by decide))))
 rw [qY (fun h => by obtain ⟨h1, h2, h3, h4, h5, h6, h7, h8, h9, h10, h11⟩ := h; first | contradiction | omega | exact h3 ⟨‹_›, ‹_›⟩ | (obtain ⟨q1, q2, q3, q4, q5⟩ := h11 k (by omega); first | contradiction | omega | (have := q5 (by omega); omega)))]

theorem l02State_ok (w : World) (s : qy) (t : qE) (hs : zK w bs os [.int .i64 s.qJ, .slice qo s.qf.length qm, .slice qC s.qg.length qA]) (qU : qB.rep w qP [.slice qo s.qf.length qm] s.qf) (xx : qB.rep w xu [.slice qC s.qg.length qA] s.qg) (ht : zK w bt ot [.slice qN t.qh.length qL, .slice xh t.ql.length qZ, .slice qG t.qj.length qF]) (xK : qB.rep w xE [.slice qN t.qh.length qL] t.qh) (zn : qB.rep w zf [.slice xh t.ql.length qZ] t.ql) (xA : qB.rep w xw [.slice qG t.qj.length qF] t.qj) (p0 : jg s) : Calls Tryz.prog 87 #[pp bs os, pp bt ot] w (Ret (fun v w' => v = .bool (dec (zt s t))) w) := by
 refine en Tryz.func87 Tryz.ntmps87 ?_
 have H := (((((((St.start w).arg xA).arg zn).arg xK).XX ht).arg xx).arg qU).XX hs
 have zJ := qx qU
 have vW := qx xx
 have yJ := qx xK
 have QD := qx zn
 have jB := qx xA
 clear hs qU xx ht xK zn xA
 have p1 := p0.2.1
 refine zcr (sp (.bool false) (zjn (xC (xC ?_))))
 refine vH rfl H fun H => rtp 0 (pp bt ot) H ?_
 refine rtp 1 (pp bt ot) H ?_
 refine tF 2 rfl rfl H ?_
 refine tL 3 rfl rfl (fun _ h => h.xB 3 rfl 0 rfl) H ?_
 refine tN 4 rfl rfl H ?_
 refine rtp 5 (pp bs os) H ?_
 refine rtp 6 (pp bs os) H ?_
 refine tF 7 rfl rfl H ?_
 refine tL 8 rfl rfl (fun _ h => h.xB 0 rfl 1 rfl) H ?_
 refine tN 9 rfl rfl H ?_
 refine rtp 10 (.bool ((t.qh.length : Int) != s.qf.length)) H ?_
 refine rtp 11 (.bool ((t.qh.length : Int) != s.qf.length)) H ?_
 cases h2 : ((t.qh.length : Int) != s.qf.length)
 ·skip
  replace h2 := xf h2
  refine rgp 12 (pp bt ot) 17 H ?_
  refine rgp 13 (pp bt ot) 17 H ?_
  refine gF 14 rfl rfl H ?_
  refine gL 15 rfl rfl (fun _ h => h.xB 3 rfl 1 rfl) H ?_
  refine gN 16 rfl rfl H ?_
  refine rgp 17 (pp bs os) 17 H ?_
  refine rgp 18 (pp bs os) 17 H ?_
  refine gF 19 rfl rfl H ?_
  refine gL 20 rfl rfl (fun _ h => h.xB 0 rfl 1 rfl) H ?_
  refine gN 21 rfl rfl H ?_
  refine rgp 22 (.bool ((t.ql.length : Int) != s.qf.length)) 17 H ?_
  refine rtp 23 (.bool ((t.ql.length : Int) != s.qf.length)) H ?_
  refine rtp 24 (.bool ((t.ql.length : Int) != s.qf.length)) H ?_
  cases h3 : ((t.ql.length : Int) != s.qf.length)
  ·skip
   replace h3 := xf h3
   refine rgp 25 (pp bt ot) 30 H ?_
   refine rgp 26 (pp bt ot) 30 H ?_
   refine gF 27 rfl rfl H ?_
   refine gL 28 rfl rfl (fun _ h => h.xB 3 rfl 0 rfl) H ?_
   obtain ⟨b4, o5, rfl⟩ := H.addr 4 rfl (by omega)
   refine gI 29 rfl rfl rfl H ?_
   refine gL 30 rfl rfl (fun _ h => h.Xc 4 rfl 0 (by omega) (by omega)) H ?_
   refine rgp 31 (.bool (!(t.qh[0]!))) 30 H ?_
   refine rtp 32 (.bool (!(t.qh[0]!))) H ?_
   refine rtp 33 (.bool (!(t.qh[0]!))) H ?_
   cases h6 : (!(t.qh[0]!))
   ·skip
    replace h6 := qQ h6
    refine rgp 34 (pp bs os) 39 H ?_
    refine rgp 35 (pp bt ot) 39 H ?_
    refine rgp 36 (pp bt ot) 39 H ?_
    refine gF 37 rfl rfl H ?_
    refine gL 38 rfl rfl (fun _ h => h.xB 3 rfl 2 rfl) H ?_
    refine vT [39] (by kernel_rfl) (by simp) (r_opG rfl (e := 39) rfl rfl (oq (QF _ s t.qj (qw (H.get 0 rfl) 0 3) (H.get 1 rfl).1 (H.get 2 rfl).1 (H.get 6 rfl).1) H fun w7 H => ⟨H, (rgp 40 (.bool (!(dec (zB s.qJ t.qj)))) 39 H ?_)⟩) vU)
    refine rtp 41 (.bool (!(dec (zB s.qJ t.qj)))) H ?_
    refine xy (by kernel_rfl) (t_n (cQ rfl (fun h9 => ?_) (fun h9 => ?_)))
    ·skip
     refine zcr (sp (.bool false) (zjr (t_r (ret1 (.bool false) rfl rfl ⟨_, rfl, ?_, H.base⟩))))
     rw [qY (fun h => by obtain ⟨h1, h2, h3, h4, h5⟩ := h; first | contradiction | omega | (simp_all; done) | (obtain ⟨q1, q2⟩ := h5 k (by omega); first | contradiction | (have := q2 (by assumption); omega)))]
    refine qK (t_n (zcc (sp (.int .i64 0) (zjn (qM ?_)))))
    refine xQ (fun m' ρ w10 => ∃ (junk : Env) (k : Nat), ρ = upd (upd (upd junk 0 (pp bs os)) 1 (pp bt ot)) 5 (.int .i64 k) ∧ (k ≤ t.ql.length) ∧ (BagsTo s t k) ∧ m' = t.ql.length - k ∧ St w w10 [] [atF bs os [.int .i64 s.qJ, .slice qo s.qf.length qm, .slice qC s.qg.length qA], sF false qP qo qm s.qf, sF false xu qC qA s.qg, atF bt ot [.slice (aa b4 o5) t.qh.length qL, .slice xh t.ql.length qZ, .slice qG t.qj.length qF], sF false xE (aa b4 o5) qL t.qh, sF false zf xh qZ t.ql, sF false xw qG qF t.qj]) (t.ql.length - 0) ⟨_, 0, uE3, (by omega), (by exact fun j hj => by omega), rfl, H⟩ ?_
    clear H
    rintro m' ρ w11 ⟨junk, k, rfl, i0, i1, rfl, H⟩
    refine zcc (sps [.int .i64 k, pp bt ot, pp bt ot] (oF rfl (oL rfl (H.xB 3 rfl 1 rfl) (oN rfl (sp (.bool (decide ((k : Int) < t.ql.length))) (zjn (cD rfl (fun h12 => ?_) (fun h12 => ?_))))))))
    ·skip
     refine qK (t_n (xC (qM (zcr (sps [pp bs os, pp bt ot, pp bt ot] (oF rfl (oL rfl (H.xB 3 rfl 1 rfl) (sp (.int .i64 k) ?_))))))))
     obtain ⟨b13, o14, rfl⟩ := H.addr 5 rfl (by omega)
     obtain ⟨ae15, ce15, Fe15, H⟩ := H.zU 5 rfl k k (by omega) (by omega) (by omega)
     refine oI rfl rfl (oL rfl (H.xB 1 rfl 0 rfl) (sw (oq (QF _ s (t.ql[k]!) (qw (H.get 2 rfl) 0 3) (H.get 3 rfl).1 (H.get 4 rfl).1 (H.get 0 rfl).1) H fun w16 H => sps [.bool (!(dec (zB s.qJ (t.ql[k]!)))), .bool (!(dec (zB s.qJ (t.ql[k]!))))] ?_)))
     cases h18 : (!(dec (zB s.qJ (t.ql[k]!))))
     ·skip
      replace h18 := qQ h18
      replace h18 := yU h18
      refine qH 67 rfl rfl (sp (pp bt ot) (qH 67 rfl rfl (sp (pp bt ot) (qH 67 rfl rfl (oF rfl (qH 67 rfl rfl (oL rfl (H.xB 5 rfl 0 rfl) (qH 67 rfl rfl (sp (.int .i64 k) (qH 67 rfl rfl (oI rfl rfl (qH 67 rfl rfl (oL rfl (H.Xc 6 rfl k (by omega) (by omega)) (qH 67 rfl rfl (sp (.bool (!(t.qh[k]!))) (qH 67 rfl rfl (sp (.bool (!(t.qh[k]!))) ?_)))))))))))))))))
      cases h19 : (!(t.qh[k]!))
      ·skip
       replace h19 := qQ h19
       refine xJ [77, 78, 79, 80, 81, 82, 83, 84, 85] (qH 67 rfl rfl (sps [.bool false, .bool false] (zjn (xn false rfl (fun h => absurd h (by decide)) (fun _ => qK (b_n (t_n (xH (sp (.int .i64 k) (sw (xX k 1 rfl rfl (by omega) (sp (.int .i64 (k + 1)) (xG (qR (m' := t.ql.length - (k + 1)) (by omega) ⟨_, k + 1, uE3, ?_, ?_, rfl, H.sel _ (.refl _) _ (by simp)⟩))))))))))))))
       · omega
       · exact i1.succ ‹_› (fun hk => by first | omega | simp_all)
      replace h19 := qW h19
      refine qH 76 rfl rfl (sp (pp bt ot) (qH 76 rfl rfl (sp (pp bt ot) (qH 76 rfl rfl (oF rfl (qH 76 rfl rfl (oL rfl (H.xB 5 rfl 1 rfl) (qH 76 rfl rfl (sp (.int .i64 k) (qH 76 rfl rfl (oI rfl rfl (qH 76 rfl rfl (oL rfl (H.xB 1 rfl 0 rfl) (qH 76 rfl rfl (sw (oq (V3 _ (t.ql[k]!) (H.get 0 rfl).1 (by first | assumption | exact zL (by assumption) | exact yD (by assumption))) H fun w20 H => qH 76 rfl rfl (sp (.bool (decide ((X4 (t.ql[k]!) : Int) > 0))) (qH 67 rfl rfl ?_))))))))))))))))))
      refine sps [.bool (decide ((X4 (t.ql[k]!) : Int) > 0)), .bool (decide ((X4 (t.ql[k]!) : Int) > 0))] (zjn (cD rfl (fun h22 => ?_) (fun h22 => ?_)))
      ·skip
       refine zcr (sp (.bool false) (zjr (zr5 (ret1 (.bool false) rfl rfl ⟨_, rfl, ?_, H.base⟩))))
       rw [qY (fun h => by obtain ⟨h1, h2, h3, h4, h5⟩ := h; first | contradiction | omega | (simp_all; done) | (obtain ⟨q1, q2⟩ := h5 k (by omega); first | contradiction | (have := q2 (by assumption); omega)))]
      refine qK (b_n (t_n (xH (sp (.int .i64 k) (sw (xX k 1 rfl rfl (by omega) (sp (.int .i64 (k + 1)) (xG (qR (m' := t.ql.length - (k + 1)) (by omega) ⟨_, k + 1, uE3, ?_, ?_, rfl, H.sel _ (.refl _) _ (by simp)⟩)))))))))
      · omega
      · exact i1.succ ‹_› (fun hk => by first | omega | simp_all)
     replace h18 := qW h18
     replace h18 := zA h18
     refine xJ [68, 69, 70, 71, 72, 73, 74, 75, 76, 77, 78, 79, 80, 81, 82, 83, 84, 85, 86] (sp (.bool true) (zjn (xn true rfl (fun _ => zcr (sp (.bool false) (zjr (zr5 (ret1 (.bool false) rfl rfl ⟨_, rfl, ?_, H.base⟩))))) (fun h => absurd h (by decide)))))
     rw [qY (fun h => by obtain ⟨h1, h2, h3, h4, h5⟩ := h; first | contradiction | omega | (simp_all; done) | (obtain ⟨q1, q2⟩ := h5 k (by omega); first | contradiction | (have := q2 (by assumption); omega)))]
    refine zx4 (zcr (sp (.bool true) (zjr (ret1 (.bool true) rfl rfl ⟨_, rfl, ?_, H.base⟩))))
    obtain rfl : k = t.ql.length := by omega
    rw [jF ⟨by omega, by omega, by first | assumption | simp_all, by assumption, i1⟩]
   replace h6 := qW h6
   refine zo [34, 35, 36, 37, 38, 39, 40] 7 (H) (rtp 41 (.bool true) H ?_)
   refine xy (by kernel_rfl) (t_n (xn true rfl (fun _ => zcr (sp (.bool false) (zjr (t_r (ret1 (.bool false) rfl rfl ⟨_, rfl, ?_, H.base⟩))))) (fun h => absurd h (by decide))))
   rw [qY (fun h => by obtain ⟨h1, h2, h3, h4, h5⟩ := h; first | contradiction | omega | (simp_all; done) | (obtain ⟨q1, q2⟩ := h5 k (by omega); first | contradiction | (have := q2 (by assumption); omega)))]
  replace h3 := bne_iff_ne.1 h3
  refine zo [25, 26, 27, 28, 29, 30, 31] 7 (H) (rtp 32 (.bool true) H ?_)
  refine rtp 33 (.bool true) H ?_
  refine zo [34, 35, 36, 37, 38, 39, 40] 7 (H) (rtp 41 (.bool true) H ?_)
  refine xy (by kernel_rfl) (t_n (xn true rfl (fun _ => zcr (sp (.bool false) (zjr (t_r (ret1 (.bool false) rfl rfl ⟨_, rfl, ?_, H.base⟩))))) (fun h => absurd h (by decide))))
  rw [qY (fun h => by obtain ⟨h1, h2, h3, h4, h5⟩ := h; first | contradiction | omega | (simp_all; done) | (obtain ⟨q1, q2⟩ := h5 k (by omega); first | contradiction | (have := q2 (by assumption); omega)))]
 replace h2 := bne_iff_ne.1 h2
 refine zo [12, 13, 14, 15, 16, 17, 18, 19, 20, 21, 22] 11 (H) (rtp 23 (.bool true) H ?_)
 refine rtp 24 (.bool true) H ?_
 refine zo [25, 26, 27, 28, 29, 30, 31] 7 (H) (rtp 32 (.bool true) H ?_)
 refine rtp 33 (.bool true) H ?_
 refine zo [34, 35, 36, 37, 38, 39, 40] 7 (H) (rtp 41 (.bool true) H ?_)
 refine xy (by kernel_rfl) (t_n (xn true rfl (fun _ => zcr (sp (.bool false) (zjr (t_r (ret1 (.bool false) rfl rfl ⟨_, rfl, ?_, H.base⟩))))) (fun h => absurd h (by decide))))
 rw [qY (fun h => by obtain ⟨h1, h2, h3, h4, h5⟩ := h; first | contradiction | omega | (simp_all; done) | (obtain ⟨q1, q2⟩ := h5 k (by omega); first | contradiction | (have := q2 (by assumption); omega)))]

theorem l02Parent_ok (w : World) (s : qy) (t : qE) (c : Int) (hs : zK w bs os [.int .i64 s.qJ, .slice qo s.qf.length qm, .slice qC s.qg.length qA]) (qU : qB.rep w qP [.slice qo s.qf.length qm] s.qf) (xx : qB.rep w xu [.slice qC s.qg.length qA] s.qg) (ht : zK w bt ot [.slice qN t.qh.length qL, .slice xh t.ql.length qZ, .slice qG t.qj.length qF]) (xK : qB.rep w xE [.slice qN t.qh.length qL] t.qh) (zn : qB.rep w zf [.slice xh t.ql.length qZ] t.ql) (xA : qB.rep w xw [.slice qG t.qj.length qF] t.qj) (p0 : jg s) (p1 : CellIn s c) (p2 : t.qh.length = s.qf.length) : Calls Tryz.prog 182 #[pp bs os, pp bt ot, .int .i64 c] w (Ret (fun v w' => v = .int .i64 (xe s t c)) w) := by
 refine en Tryz.func182 Tryz.ntmps182 ?_
 have H := (((((((St.start w).arg xA).arg zn).arg xK).XX ht).arg xx).arg qU).XX hs
 have zJ := qx qU
 have vW := qx xx
 have yJ := qx xK
 have QD := qx zn
 have jB := qx xA
 clear hs qU xx ht xK zn xA
 have p3 := p0.step p1.1 p1.2
 refine zcr (sp (.int .i64 0) (zjc (sps [pp bs os, pp bs os] (oF rfl (oL rfl (H.xB 0 rfl 1 rfl) (sp (.int .i64 c) ?_))))))
 obtain ⟨b1, o2, rfl⟩ := H.addr 1 rfl (by omega)
 refine oI rfl rfl (oL rfl (H.jd 1 rfl c (by omega) (by omega)) (sp (.int .i64 (s.qf[c.toNat]!)) (zjn (xC (qM ?_)))))
 refine xQ (fun m' ρ w3 => ∃ (junk : Env) (y : Int) (n : Nat), ρ = upd (upd (upd (upd junk 0 (pp bs os)) 1 (pp bt ot)) 6 (.int .i64 0)) 7 (.int .i64 y) ∧ (-1 ≤ y ∧ y ≤ (s.qf.length : Int) - 1) ∧ (y < n) ∧ (xe s t c = climb s.qf t.qh n y) ∧ m' = (y + 1).toNat ∧ St w w3 [] [atF bs os [.int .i64 s.qJ, .slice (aa b1 o2) s.qf.length qm, .slice qC s.qg.length qA], sF false qP (aa b1 o2) qm s.qf, sF false xu qC qA s.qg, atF bt ot [.slice qN t.qh.length qL, .slice xh t.ql.length qZ, .slice qG t.qj.length qF], sF false xE qN qL t.qh, sF false zf xh qZ t.ql, sF false xw qG qF t.qj]) (((s.qf[c.toNat]!) + 1).toNat) ⟨_, s.qf[c.toNat]!, s.qf.length, uE4, (by omega), (by omega), (by rfl), rfl, H⟩ ?_
 clear H
 rintro m' ρ w4 ⟨junk, y, n, rfl, i0, i1, i2, rfl, H⟩
 have up := fun h => p0.step (c := y) h i0.2
 refine zcc (sps [.int .i64 y, .bool (decide ((y : Int) ≥ 0)), .bool (decide ((y : Int) ≥ 0))] ?_)
 cases h5 : (decide ((y : Int) ≥ 0))
 ·skip
  replace h5 := of_decide_eq_false h5
  refine xJ [18, 19, 20, 21, 22, 23, 24, 25] (sp (.bool false) (zjn (xn false rfl (fun h => absurd h (by decide)) (fun _ => zx4 (zcr (sps [.int .i64 y, .int .i64 y] (zjr (ret1 (.int .i64 y) rfl rfl ⟨_, rfl, ?_, H.base⟩))))))))
  rw [i2, climb_end (by first | omega | simp_all)]
 replace h5 := of_decide_eq_true h5
 refine qH 17 rfl rfl (sp (pp bt ot) (qH 17 rfl rfl (sp (pp bt ot) (qH 17 rfl rfl (oF rfl (qH 17 rfl rfl (oL rfl (H.xB 3 rfl 0 rfl) (qH 17 rfl rfl (sp (.int .i64 y) (qH 17 rfl rfl ?_))))))))))
 obtain ⟨b6, o7, rfl⟩ := H.addr 4 rfl (by omega)
 refine oI rfl rfl (qH 17 rfl rfl (oL rfl (H.Xc 4 rfl y (by omega) (by omega)) (qH 17 rfl rfl (sps [.bool (!(t.qh[y.toNat]!)), .bool (!(t.qh[y.toNat]!))] (zjn (xn (!(t.qh[y.toNat]!)) rfl (fun h8 => ?_) (fun h8 => ?_)))))))
 ·skip
  replace h8 := qW h8
  refine qK (t_n (qM (xH (sps [pp bs os, pp bs os] (oF rfl (oL rfl (H.xB 0 rfl 1 rfl) (sp (.int .i64 y) (oI rfl rfl (oL rfl (H.jd 1 rfl y (by omega) (by omega)) (sp (.int .i64 (s.qf[y.toNat]!)) (xG (b_n ?_))))))))))))
  have up1 := up (by omega)
  refine qR (m' := ((s.qf[y.toNat]!) + 1).toNat) (by omega) ⟨_, (s.qf[y.toNat]!), n - 1, uE4, ?_, ?_, ?_, rfl, H⟩
  · omega
  · omega
  · exact i2.trans (climb_go (by omega) (by omega) ‹_›)
 replace h8 := qQ h8
 refine zx4 (zcr (sps [.int .i64 y, .int .i64 y] (zjr (ret1 (.int .i64 y) rfl rfl ⟨_, rfl, ?_, H.base⟩))))
 rw [i2, climb_end (by first | omega | simp_all)]

theorem l02Ok_ok (w : World) (s : qy) (hs : zK w bs os [.int .i64 s.qJ, .slice qo s.qf.length qm, .slice qC s.qg.length qA]) (qU : qB.rep w qP [.slice qo s.qf.length qm] s.qf) (xx : qB.rep w xu [.slice qC s.qg.length qA] s.qg) : Calls Tryz.prog 98 #[pp bs os] w (Ret (fun v w' => v = .bool (dec (jG s))) w) := by
 refine en Tryz.func98 Tryz.ntmps98 ?_
 have H := (((St.start w).arg xx).arg qU).XX hs
 have zJ := qx qU
 have vW := qx xx
 clear hs qU xx
 have p1 := fun h : jg s => h.2.1
 refine zcr (sp (.bool false) (zjcc (sp (pp bs os) (sw (oq (l02Frame_ok _ s (qw (H.get 0 rfl) 0 3) (H.get 1 rfl).1 (H.get 2 rfl).1) H fun w1 H => sps [.bool (!(dec (jg s))), .bool (!(dec (jg s)))] ?_)))))
 cases h3 : (!(dec (jg s)))
 ·skip
  replace h3 := qQ h3
  replace h3 := yU h3
  refine qH 8 rfl rfl (sp (pp bs os) (qH 8 rfl rfl (sp (pp bs os) (qH 8 rfl rfl (oF rfl (qH 8 rfl rfl (oL rfl (H.xB 0 rfl 2 rfl) (qH 8 rfl rfl (oN rfl (qH 8 rfl rfl (sps [.bool (decide ((s.qg.length : Int) > 16)), .bool (decide ((s.qg.length : Int) > 16))] (zjn (cD rfl (fun h4 => ?_) (fun h4 => ?_))))))))))))))
  ·skip
   refine zcr (sp (.bool false) (zjr (t_r (ret1 (.bool false) rfl rfl ⟨_, rfl, ?_, H.base⟩))))
   rw [qY (fun h => by obtain ⟨h1, h2, h3⟩ := h; first | contradiction | omega | (obtain ⟨q1, q2⟩ := h3 k (by omega); first | contradiction | (have := V5 (k := k + 1) q; omega)))]
  have p2 := p1 (by assumption)
  refine qK (t_n (zcr (sps [pp bs os, pp bs os] (oF rfl (oL rfl (H.xB 0 rfl 1 rfl) (oN rfl (sw (o_make1 H Tryz.underlying22 ti2 rfl s.qf.length rfl rfl (by omega) (by omega) fun b5 w6 H => ?_))))))))
  replace H : St _ _ [.box b5 (List.replicate s.qf.length (.int .i64 0)) 2] _ := H
  refine sp (.slice (aa b5 0) s.qf.length s.qf.length) (zjcc (sp (.int .i64 0) (zjn (qM ?_))))
  rw [ints_zero, counts_zero] at H
  refine xQ (fun m' ρ w7 => ∃ (junk : Env) (k : Nat), ρ = upd (upd (upd junk 0 (pp bs os)) 3 (.slice (aa b5 0) s.qf.length s.qf.length)) 4 (.int .i64 k) ∧ (k ≤ s.qg.length) ∧ (RulesTo s k) ∧ m' = s.qg.length - k ∧ St w w7 [.box b5 ((counts s k).map (Value.int .i64)) 2] [atF bs os [.int .i64 s.qJ, .slice qo s.qf.length qm, .slice qC s.qg.length qA], sF false qP qo qm s.qf, sF false xu qC qA s.qg]) (s.qg.length - 0) ⟨_, 0, uE3, (by omega), (by exact fun j hj => by omega), rfl, H⟩ ?_
  clear H
  rintro m' ρ w8 ⟨junk, k, rfl, i0, i1, rfl, H⟩
  refine zcc (sps [.int .i64 k, pp bs os, pp bs os] (oF rfl (oL rfl (H.xB 0 rfl 2 rfl) (oN rfl (sp (.bool (decide ((k : Int) < s.qg.length))) (zjn (cD rfl (fun h9 => ?_) (fun h9 => ?_))))))))
  ·skip
   refine qK (t_n (xC (qM (zcc (sps [pp bs os, pp bs os, pp bs os] (oF rfl (oL rfl (H.xB 0 rfl 2 rfl) (sp (.int .i64 k) ?_))))))))
   obtain ⟨b10, o11, rfl⟩ := H.addr 2 rfl (by omega)
   obtain ⟨ae12Need, ce12Need, Fe12Need, ae12Have, ce12Have, Fe12Have, ae12Lack, ce12Lack, Fe12Lack, ae12Here, ce12Here, Fe12Here, ae12Out, ce12Out, Fe12Out, ae12Into, ce12Into, Fe12Into, H⟩ := H.jy 2 rfl k k (by omega) (by omega) (by omega)
   refine oI rfl rfl (sw (oq (l02Rule_ok _ s (s.qg[k]!) (qw (H.get 7 rfl) 0 3) (H.get 8 rfl).1 (H.get 9 rfl).1 (qw (H.get 6 rfl) 0 9) (H.get 0 rfl).1 (H.get 1 rfl).1 (H.get 2 rfl).1 (H.get 3 rfl).1 (H.get 4 rfl).1 (H.get 5 rfl).1 (by assumption)) H fun w13 H => sp (.bool (!(dec (RuleOk s (s.qg[k]!))))) (zjn (cQ rfl (fun h15 => ?_) (fun h15 => ?_)))))
   ·skip
    refine zcr (sp (.bool false) (zjr (t_r (zr5 (ret1 (.bool false) rfl rfl ⟨_, rfl, ?_, H.base⟩)))))
    rw [qY (fun h => by obtain ⟨h1, h2, h3⟩ := h; first | contradiction | omega | (obtain ⟨q1, q2⟩ := h3 k (by omega); first | contradiction | (have := V5 (k := k + 1) q; omega)))]
   have q := (h15).1
   refine qK (t_n (zcr (sps [.slice (aa b5 0) s.qf.length s.qf.length, pp bs os, pp bs os] (oF rfl (oL rfl (H.xB 7 rfl 2 rfl) (sp (.int .i64 k) (oI rfl rfl (oF rfl (oL rfl (H.xB 6 rfl 0 rfl) (oI rfl rfl (oL rfl (H.cell 0 rfl (ints_get (by rw [counts_len]; omega))) (sw (xX ((counts s k)[((s.qg[k]!).qp : Int).toNat]!) 1 rfl rfl (by (first | omega | (rw [V5 q]; have := ofCell_bd s.qg (s.qg[k]!).qp k; omega))) (oI rfl rfl ?_))))))))))))))
   refine sw (yA H 0 rfl (.int .i64 (((counts s k)[((s.qg[k]!).qp : Int).toNat]!) + 1)) Tryz.sizeOf2 rfl rfl rfl (ints_lt (by rw [counts_len]; omega)) fun w16 H => ?_)
   rw [ints_set] at H
   rw [counts_succ q] at H
   replace H : St _ _ [.box b5 ((counts s (k + 1)).map (Value.int .i64)) 2] _ := H
   refine zjc (sps [.slice (aa b5 0) s.qf.length s.qf.length, pp bs os, pp bs os] (oF rfl (oL rfl (H.xB 7 rfl 2 rfl) (sp (.int .i64 k) (oI rfl rfl (oF rfl (oL rfl (H.xB 6 rfl 0 rfl) (oI rfl rfl (oL rfl (H.cell 0 rfl (ints_get (by rw [counts_len]; omega))) (sp (.bool (decide (((counts s (k + 1))[((s.qg[k]!).qp : Int).toNat]! : Int) > 8))) (zjn (cD rfl (fun h17 => ?_) (fun h17 => ?_)))))))))))))
   ·skip
    refine zcr (sp (.bool false) (zjr (zr5 (ret1 (.bool false) rfl rfl ⟨_, rfl, ?_, H.base⟩))))
    rw [qY (fun h => by obtain ⟨h1, h2, h3⟩ := h; first | contradiction | omega | (obtain ⟨q1, q2⟩ := h3 k (by omega); first | contradiction | (have := V5 (k := k + 1) q; omega)))]
   refine qK (b_n (t_n (xH (sp (.int .i64 k) (sw (xX k 1 rfl rfl (by (first | omega | (rw [V5 q]; have := ofCell_bd s.qg (s.qg[k]!).qp k; omega))) (sp (.int .i64 (k + 1)) (xG (qR (m' := s.qg.length - (k + 1)) (by omega) ⟨_, k + 1, uE3, ?_, ?_, rfl, H.sel _ (.refl _) _ (by simp)⟩)))))))))
   · omega
   · exact i1.succ ‹_› (by have := V5 (k := k + 1) q; omega)
  refine zx4 (zcr (sp (.bool true) (zjr (ret1 (.bool true) rfl rfl ⟨_, rfl, ?_, H.base⟩))))
  obtain rfl : k = s.qg.length := by omega
  rw [jF ⟨by assumption, by omega, i1⟩]
 replace h3 := qW h3
 replace h3 := zA h3
 refine xJ [9, 10, 11, 12, 13, 14] (sp (.bool true) (zjn (xn true rfl (fun _ => zcr (sp (.bool false) (zjr (t_r (ret1 (.bool false) rfl rfl ⟨_, rfl, ?_, H.base⟩))))) (fun h => absurd h (by decide)))))
 rw [qY (fun h => by obtain ⟨h1, h2, h3⟩ := h; first | contradiction | omega | (obtain ⟨q1, q2⟩ := h3 k (by omega); first | contradiction | (have := V5 (k := k + 1) q; omega)))]
theorem cloneB_ok (w : World) (l : List Bool) (hl : qB.rep w Fl [.slice al l.length cl] l) (p0 : l.length ≤ 1000000) : Calls Tryz.prog 115 #[.slice al l.length cl] w (Ret (fun v w' => ∃ (ra : Option Addr) (rn : Nat) (rc : Nat), v = .slice ra rn rc ∧ Fresh w.heap.size [] ∧ St w w' [rr ra rn rc 4 1 (l.map (Value.bool))] []) w) := by
 refine en Tryz.func115 Tryz.ntmps115 ?_
 have H := (St.start w).arg hl
 have nhl := qx hl
 clear hl
 have N := Fresh.nil w.heap.size
 refine zcr (sp (.slice none 0 0) (zjcc (sp (.slice al l.length cl) (sw (o_eqnil Tryz.underlying26 al l.length cl rfl (zjn (xn (al.isNone) rfl (fun h1 => ?_) (fun h1 => ?_))))))))
 ·skip
  refine zcr (sp (.slice none 0 0) (zjr (t_r ?_)))
  replace H := H.nilRowB 4
  refine ret1 (.slice none 0 0) rfl rfl ⟨_, rfl, ?_, H.base⟩
  obtain rfl := H.nilOf 0 rfl ‹_›
  exact ⟨none, 0, 0, rfl, N, H.pick [0] []⟩
 refine qK (t_n (zcr (sw (vI H Tryz.underlying26 ti4 fun b2 w3 H => sp (.slice al l.length cl) ?_))))
 replace H := H.boxRowB 0 [] 0
 refine sw (o_appendFR H 0 rfl 0 rfl Tryz.underlying26 ti4 rfl (by decide) rfl rfl (by unfold maxLen; omega) (by omega) fun a4 c5 w6 us7 G8 H hG9 => ?_)
 obtain ⟨_, rfl⟩ := reps_bools (H.get 0 rfl).1
 replace H := H.sub _ fun f hf => List.mem_cons_of_mem _ hf
 rw [catB] at H
 refine sp (.slice a4 (0 + l.length) c5) (zjr (ret1 (.slice a4 (0 + l.length) c5) rfl rfl ⟨_, rfl, (⟨a4, 0 + l.length, c5, rfl, N, H.pick [0] []⟩), H.base⟩))

theorem l02Own_ok (w : World) (t : qE) (ht : zK w bt ot [.slice qN t.qh.length qL, .slice xh t.ql.length qZ, .slice qG t.qj.length qF]) (xK : qB.rep w xE [.slice qN t.qh.length qL] t.qh) (zn : qB.rep w zf [.slice xh t.ql.length qZ] t.ql) (xA : qB.rep w xw [.slice qG t.qj.length qF] t.qj) (p0 : t.qh.length ≤ 1000000) (p1 : t.qj.length ≤ 1000000) (p2 : t.ql.length ≤ 1000000) (p3 : ∀ k, k < t.ql.length → (t.ql[k]!).length ≤ 1000000) : Calls Tryz.prog 76 #[pp bt ot] w (Ret (fun v w' => ∃ (raAlive : Option Addr) (rnAlive : Nat) (rcAlive : Nat) (raBags : Option Addr) (rnBags : Nat) (rcBags : Nat) (rxBags : List Value) (rFBags : List Nat) (raAround : Option Addr) (rnAround : Nat) (rcAround : Nat), v = .agg #[.slice raAlive rnAlive rcAlive, .slice raBags rnBags rcBags, .slice raAround rnAround rcAround] ∧ Fresh w.heap.size [rFBags] ∧ St w w' [rr raAlive rnAlive rcAlive 4 1 (t.qh.map (Value.bool)), rr raBags rnBags rcBags 22 1 rxBags, rr raAround rnAround rcAround 2 1 (t.qj.map (Value.int .i64))] [xN true rFBags rxBags t.ql]) w) := by
 refine en Tryz.func76 Tryz.ntmps76 ?_
 have H := ((((St.start w).arg xA).arg zn).arg xK).XX ht
 have yJ := qx xK
 have QD := qx zn
 have jB := qx xA
 clear ht xK zn xA
 have N := Fresh.nil w.heap.size
 refine zcr (sw (xM H ti38 [.slice none 0 0, .slice none 0 0, .slice none 0 0] fun b1 w2 H => zjn (xC ?_)))
 refine c_cut (fun ρ w8 => ∃ (junk : Env) (b3 : Nat) (a4 : Option Addr) (c5 : Nat) (a6 : Option Addr) (c7 : Nat), ρ = upd (upd (upd junk 0 (pp bt ot)) 2 (pp b1 0)) 3 (pp b3 0) ∧ Fresh w.heap.size [] ∧ St w w8 [.box b3 [.slice a4 (0 + t.qh.length) c5, .slice none 0 0, .slice a6 t.qj.length c7] 38, rr a6 t.qj.length c7 2 1 (t.qj.map (Value.int .i64)), rr a4 (0 + t.qh.length) c5 4 1 ((([] : List Bool) ++ t.qh).map (Value.bool)), .box b1 [.slice none 0 0, .slice none 0 0, .slice none 0 0] 38] [atF bt ot [.slice qN t.qh.length qL, .slice xh t.ql.length qZ, .slice qG t.qj.length qF], sF false xE qN qL t.qh, sF false zf xh qZ t.ql, sF false xw qG qF t.qj]) ?_ ?_
 ·skip
  refine vH rfl H fun H => rtp 1 (pp bt ot) H ?_
  refine rtp 2 (pp bt ot) H ?_
  refine tF 3 rfl rfl H ?_
  refine tL 4 rfl rfl (fun _ h => h.xB 0 rfl 0 rfl) H ?_
  refine rtp 6 (pp bt ot) H ?_
  refine rtp 7 (pp bt ot) H ?_
  refine tF 8 rfl rfl H ?_
  refine tL 9 rfl rfl (fun _ h => h.xB 0 rfl 2 rfl) H ?_
  refine vT [0, 12] (by kernel_rfl) (by simp) (yx rfl ?_ (yx rfl ?_ vU))
  ·skip
   refine vI H Tryz.underlying26 ti4 fun b10 w11 H => ⟨H.pick [1] [0, 1, 2, 3], (vT [5, 12] (by kernel_rfl) (by simp) (yx rfl ?_ (yx rfl ?_ vU)))⟩
   ·skip
    replace H := H.boxRowB 0 [] 0
    refine o_appendFR H 0 rfl 1 rfl Tryz.underlying26 ti4 rfl (by decide) rfl rfl (by unfold maxLen; omega) (by omega) fun a12 c13 w14 us15 G16 H hG17 => ?_
    obtain ⟨_, rfl⟩ := reps_bools (H.get 0 rfl).1
    replace H := H.sub _ fun f hf => List.mem_cons_of_mem _ hf
    rw [catB] at H
    refine ⟨H.pick [1] [0, 1, 2, 3], (vT [10, 12] (by kernel_rfl) (by simp) (yx rfl ?_ (yx rfl ?_ vU)))⟩
    ·skip
     have sz18 := H.base.size
     refine oc (Xm _ t.qj (H.get 3 rfl).1 (by first | assumption | omega)) ?_
     rintro v23 w21 r23 x22
     replace H := H.xW x22 r23
     obtain ⟨a24, c25, rfl, hc26, hm27⟩ := H.vN 0 rfl
     refine ⟨H.pick [2] [0, 1, 2, 3], (vT [11, 12] (by kernel_rfl) (by simp) (yx rfl ?_ (yx rfl ?_ vU)))⟩
     ·skip
      refine jD [.slice a12 (0 + t.qh.length) c13, .slice none 0 0, .slice a24 t.qj.length c25] [(0, .slice a12 (0 + t.qh.length) c13), (2, .slice a24 t.qj.length c25)] (⟨H.pick [2] [0, 1, 2, 3], (ro 12 rfl (xM H ti38 [.slice none 0 0, .slice none 0 0, .slice none 0 0] fun b28 w29 H => ⟨H.pick [3] [0, 1, 2, 3], (ro 13 rfl (zF H 0 [.slice a12 (0 + t.qh.length) c13, .slice none 0 0, .slice a24 t.qj.length c25] Tryz.sizeOf38 fun w30 H => ⟨H.pick [3] [0, 1, 2, 3], (xy (by kernel_rfl) ((meet ⟨_, b28, a12, c13, a24, c25, uE3, N, H⟩)))⟩))⟩))⟩)
     refine xM H ti38 [.slice none 0 0, .slice none 0 0, .slice none 0 0] fun b31 w32 H => ⟨H.pick [3] [0, 1, 2, 3], (ro 11 rfl (jD [.slice a12 (0 + t.qh.length) c13, .slice none 0 0, .slice a24 t.qj.length c25] [(0, .slice a12 (0 + t.qh.length) c13), (2, .slice a24 t.qj.length c25)] (⟨H.pick [3] [0, 1, 2, 3], (ro 13 rfl (zF H 0 [.slice a12 (0 + t.qh.length) c13, .slice none 0 0, .slice a24 t.qj.length c25] Tryz.sizeOf38 fun w33 H => ⟨H.pick [3] [0, 1, 2, 3], (xy (by kernel_rfl) ((meet ⟨_, b31, a12, c13, a24, c25, uE3, N, H⟩)))⟩))⟩)))⟩
    refine xM H ti38 [.slice none 0 0, .slice none 0 0, .slice none 0 0] fun b34 w35 H => ⟨H.pick [2] [0, 1, 2, 3], (ro 10 rfl ?_)⟩
    have sz36 := H.base.size
    refine oc (Xm _ t.qj (H.get 3 rfl).1 (by first | assumption | omega)) ?_
    rintro v41 w39 r41 x40
    replace H := H.xW x40 r41
    obtain ⟨a42, c43, rfl, hc44, hm45⟩ := H.vN 0 rfl
    refine ⟨H.pick [3] [0, 1, 2, 3], (ro 11 rfl (jD [.slice a12 (0 + t.qh.length) c13, .slice none 0 0, .slice a42 t.qj.length c43] [(0, .slice a12 (0 + t.qh.length) c13), (2, .slice a42 t.qj.length c43)] (⟨H.pick [3] [0, 1, 2, 3], (ro 13 rfl (zF H 1 [.slice a12 (0 + t.qh.length) c13, .slice none 0 0, .slice a42 t.qj.length c43] Tryz.sizeOf38 fun w46 H => ⟨H.pick [3] [0, 1, 2, 3], (xy (by kernel_rfl) ((meet ⟨_, b34, a12, c13, a42, c43, uE3, N, H.pick [1, 0, 2, 3] [0, 1, 2, 3]⟩)))⟩))⟩)))⟩
   refine xM H ti38 [.slice none 0 0, .slice none 0 0, .slice none 0 0] fun b47 w48 H => ⟨H.pick [2] [0, 1, 2, 3], (ro 5 rfl ?_)⟩
   replace H := H.boxRowB 1 [] 0
   refine o_appendFR H 1 rfl 1 rfl Tryz.underlying26 ti4 rfl (by decide) rfl rfl (by unfold maxLen; omega) (by omega) fun a49 c50 w51 us52 G53 H hG54 => ?_
   obtain ⟨_, rfl⟩ := reps_bools (H.get 0 rfl).1
   replace H := H.sub _ fun f hf => List.mem_cons_of_mem _ hf
   rw [catB] at H
   refine ⟨H.pick [2] [0, 1, 2, 3], (ro 10 rfl ?_)⟩
   have sz55 := H.base.size
   refine oc (Xm _ t.qj (H.get 3 rfl).1 (by first | assumption | omega)) ?_
   rintro v60 w58 r60 x59
   replace H := H.xW x59 r60
   obtain ⟨a61, c62, rfl, hc63, hm64⟩ := H.vN 0 rfl
   refine ⟨H.pick [3] [0, 1, 2, 3], (ro 11 rfl (jD [.slice a49 (0 + t.qh.length) c50, .slice none 0 0, .slice a61 t.qj.length c62] [(0, .slice a49 (0 + t.qh.length) c50), (2, .slice a61 t.qj.length c62)] (⟨H.pick [3] [0, 1, 2, 3], (ro 13 rfl (zF H 1 [.slice a49 (0 + t.qh.length) c50, .slice none 0 0, .slice a61 t.qj.length c62] Tryz.sizeOf38 fun w65 H => ⟨H.pick [3] [0, 1, 2, 3], (xy (by kernel_rfl) ((meet ⟨_, b47, a49, c50, a61, c62, uE3, N, H.pick [1, 0, 2, 3] [0, 1, 2, 3]⟩)))⟩))⟩)))⟩
  refine xM H ti38 [.slice none 0 0, .slice none 0 0, .slice none 0 0] fun b66 w67 H => ⟨H.pick [1] [0, 1, 2, 3], (ro 0 rfl (vI H Tryz.underlying26 ti4 fun b68 w69 H => ⟨H.pick [2] [0, 1, 2, 3], (ro 5 rfl ?_)⟩))⟩
  replace H := H.boxRowB 0 [] 0
  refine o_appendFR H 0 rfl 1 rfl Tryz.underlying26 ti4 rfl (by decide) rfl rfl (by unfold maxLen; omega) (by omega) fun a70 c71 w72 us73 G74 H hG75 => ?_
  obtain ⟨_, rfl⟩ := reps_bools (H.get 0 rfl).1
  replace H := H.sub _ fun f hf => List.mem_cons_of_mem _ hf
  rw [catB] at H
  refine ⟨H.pick [2] [0, 1, 2, 3], (ro 10 rfl ?_)⟩
  have sz76 := H.base.size
  refine oc (Xm _ t.qj (H.get 3 rfl).1 (by first | assumption | omega)) ?_
  rintro v81 w79 r81 x80
  replace H := H.xW x80 r81
  obtain ⟨a82, c83, rfl, hc84, hm85⟩ := H.vN 0 rfl
  refine ⟨H.pick [3] [0, 1, 2, 3], (ro 11 rfl (jD [.slice a70 (0 + t.qh.length) c71, .slice none 0 0, .slice a82 t.qj.length c83] [(0, .slice a70 (0 + t.qh.length) c71), (2, .slice a82 t.qj.length c83)] (⟨H.pick [3] [0, 1, 2, 3], (ro 13 rfl (zF H 2 [.slice a70 (0 + t.qh.length) c71, .slice none 0 0, .slice a82 t.qj.length c83] Tryz.sizeOf38 fun w86 H => ⟨H.pick [3] [0, 1, 2, 3], (xy (by kernel_rfl) ((meet ⟨_, b66, a70, c71, a82, c83, uE3, N, H.pick [2, 0, 1, 3] [0, 1, 2, 3]⟩)))⟩))⟩)))⟩
 clear H N
 rintro ρ w87 ⟨junk, b3, a4, c5, a6, c7, rfl, N, H⟩
 refine t_n (zcc (sp (.int .i64 0) (zjn (qM ?_))))
 replace H := H.nilRow 22 1
 replace H := H.vw (α := List Int)
 refine xQ (fun m' ρ w88 => ∃ (junk : Env) (c : Nat) (jk : Option Addr) (zD : Nat) (ji : Nat) (out_Bags : List (List Int)) (zi : List Value) (xF : List Nat), ρ = upd (upd (upd (upd junk 0 (pp bt ot)) 2 (pp b1 0)) 3 (pp b3 0)) 4 (.int .i64 c) ∧ out_Bags = t.ql.take c ∧ ((c : Int) ≤ t.ql.length) ∧ m' = (t.ql.length - (c : Int)).toNat ∧ Fresh w.heap.size [xF] ∧ St w w88 [rr jk zD ji 22 1 zi, .box b3 [.slice a4 (0 + t.qh.length) c5, .slice jk zD ji, .slice a6 t.qj.length c7] 38, rr a6 t.qj.length c7 2 1 (t.qj.map (Value.int .i64)), rr a4 (0 + t.qh.length) c5 4 1 ((([] : List Bool) ++ t.qh).map (Value.bool)), .box b1 [.slice none 0 0, .slice none 0 0, .slice none 0 0] 38] [xN true xF zi out_Bags, atF bt ot [.slice qN t.qh.length qL, .slice xh t.ql.length qZ, .slice qG t.qj.length qF], sF false xE qN qL t.qh, sF false zf xh qZ t.ql, sF false xw qG qF t.qj]) ((t.ql.length - (0 : Int)).toNat) ⟨_, 0, none, 0, 0, ([] : List (List Int)), [], [], uE4, (by rfl), (by omega), rfl, N.emp, H⟩ ?_
 clear H N
 rintro m' ρ w89 ⟨junk, c, jk, zD, ji, out_Bags, zi, xF, rfl, rfl, i0, rfl, N, H⟩
 have VT := H.xP (α := List Int) 0 rfl 0 rfl (by decide)
 have p4 := p3 c
 rw [List.length_take_of_le (by omega)] at VT
 refine zcc (sps [.int .i64 c, pp bt ot, pp bt ot] (oF rfl (oL rfl (H.xB 1 rfl 1 rfl) (oN rfl (sp (.bool (decide ((c : Int) < t.ql.length))) (zjn (cD rfl (fun h90 => ?_) (fun h90 => ?_))))))))
 ·skip
  refine qK (t_n (xC (qM ?_)))
  obtain ⟨b91, o92, rfl⟩ := H.addr 3 rfl (by omega)
  refine c_cut (fun ρ w102 => ∃ (junk : Env) (a94 : Option Addr) (c95 : Nat) (a96 : Option Addr) (c97 : Nat) (G98 : List Nat) (F99 : List Nat) (a100 : Option Addr) (c101 : Nat), ρ = upd (upd (upd (upd junk 0 (pp bt ot)) 2 (pp b1 0)) 3 (pp b3 0)) 4 (.int .i64 c) ∧ Fresh w.heap.size [(xF ++ G98)] ∧ St w w102 [rr a94 (zD + 1) c95 22 1 (zi ++ [.slice a96 ((t.ql[c]!).length) c97]), .box b3 [.slice a4 (0 + t.qh.length) c5, .slice a94 (zD + 1) c95, .slice a6 t.qj.length c7] 38, rr a6 t.qj.length c7 2 1 (t.qj.map (Value.int .i64)), rr a4 (0 + t.qh.length) c5 4 1 ((([] : List Bool) ++ t.qh).map (Value.bool)), .box b1 [.slice none 0 0, .slice none 0 0, .slice none 0 0] 38] [xN true (xF ++ G98) (zi ++ [.slice a96 ((t.ql[c]!).length) c97]) ((t.ql.take c) ++ [(t.ql[c]!)]), sF true G98 a96 c97 (t.ql[c]!), sF false F99 a100 c101 (t.ql[c]!), atF b91 (o92 + (c : Int).toNat * 1) [.slice a100 ((t.ql[c]!).length) c101], atF bt ot [.slice qN t.qh.length qL, .slice (aa b91 o92) t.ql.length qZ, .slice qG t.qj.length qF], sF false xE qN qL t.qh, sF false zf (aa b91 o92) qZ t.ql, sF false xw qG qF t.qj]) ?_ ?_
  ·skip
   refine yO rfl H [2, 3, 4] fun H => ?_
   have S := H.jZ [2, 3, 4] [0, 1, 2, 3, 4]
   refine tF 0 rfl rfl S ?_
   refine rtp 2 (pp bt ot) S ?_
   refine rtp 3 (pp bt ot) S ?_
   refine tF 4 rfl rfl S ?_
   refine tL 5 rfl rfl (fun _ h => h.xB 1 rfl 1 rfl) S ?_
   refine rtp 6 (.int .i64 c) S ?_
   obtain ⟨ae104, ce104, Fe104, H⟩ := H.zU 3 rfl c c (by omega) (by omega) (by omega)
   refine tI 7 rfl rfl rfl (H.pick [2, 3, 4] [2, 3, 4, 5, 6]) ?_
   refine vT [1, 8] (by kernel_rfl) (by simp) (yx rfl ?_ (yx rfl ?_ vU))
   ·skip
    refine zl (.slice jk zD ji) Tryz.isAgg27 rfl (H.cell 1 rfl rfl) (⟨H.pick [2, 3, 4] [2, 3, 4, 5, 6], (ro 8 rfl (zl (.slice ae104 ((t.ql[c]!).length) ce104) Tryz.isAgg22 rfl (H.xB 1 rfl 0 rfl) (⟨H.pick [2, 3, 4] [2, 3, 4, 5, 6], (ro 9 rfl ?_)⟩)))⟩)
    have sz105 := H.base.size
    have lt106 := H.ltN (L := [xF]) [2]
    refine oc (Xm _ (t.ql[c]!) (H.get 0 rfl).1 (by first | assumption | omega)) ?_
    rintro v110 w108 r110 x109
    replace H := H.xW x109 r110
    obtain ⟨a111, c112, rfl, hc113, hm114⟩ := H.vN 0 rfl
    refine ⟨H.pick [3, 4, 5] [2, 3, 4, 5, 6], (ro 10 rfl (zM H Tryz.underlying27 ti22 [.slice a111 ((t.ql[c]!).length) c112] fun b115 w116 H => ⟨H.pick [4, 5, 6] [2, 3, 4, 5, 6], (ro 11 rfl ?_)⟩))⟩
    obtain ⟨G120, N, hn121, H⟩ := H.vG 1 rfl N (H.yT [2])
    refine zV H 2 rfl 0 rfl Tryz.underlying27 ti22 rfl (by decide) rfl rfl rfl (by simp [Value.oneCell', Value.cells]) (by unfold maxLen; omega) (by omega) fun a117 c118 w119 H => ?_
    replace H := H.yl 3 rfl 0 rfl
    replace N : Fresh w.heap.size [(xF ++ G120)] := (N.pick [1, 0]).join
    refine ⟨H.pick [4, 5, 6] [4, 5, 6, 7, 8], (tF 12 rfl rfl (H.pick [4, 5, 6] [4, 5, 6, 7, 8]) ?_)⟩
    refine ro 13 rfl (zk H 3 [.slice a4 (0 + t.qh.length) c5, .slice a117 (zD + 1) c118, .slice a6 t.qj.length c7] Tryz.sizeOf27 fun w122 H => ⟨H.pick [4, 5, 6] [4, 5, 6, 7, 8], (xy (by kernel_rfl) ((meet ⟨_, a117, c118, a111, c112, G120, Fe104, ae104, ce104, uE4, N, H.pick [2, 3, 4, 5, 6] [0, 1, 2, 3, 5, 6, 7, 8]⟩)))⟩)
   refine zl (.slice ae104 ((t.ql[c]!).length) ce104) Tryz.isAgg22 rfl (H.xB 1 rfl 0 rfl) (⟨H.pick [2, 3, 4] [2, 3, 4, 5, 6], (vT [1, 9] (by kernel_rfl) (by simp) (yx rfl ?_ (yx rfl ?_ vU)))⟩)
   ·skip
    refine zl (.slice jk zD ji) Tryz.isAgg27 rfl (H.cell 1 rfl rfl) (⟨H.pick [2, 3, 4] [2, 3, 4, 5, 6], (ro 9 rfl ?_)⟩)
    have sz123 := H.base.size
    have lt124 := H.ltN (L := [xF]) [2]
    refine oc (Xm _ (t.ql[c]!) (H.get 0 rfl).1 (by first | assumption | omega)) ?_
    rintro v128 w126 r128 x127
    replace H := H.xW x127 r128
    obtain ⟨a129, c130, rfl, hc131, hm132⟩ := H.vN 0 rfl
    refine ⟨H.pick [3, 4, 5] [2, 3, 4, 5, 6], (ro 10 rfl (zM H Tryz.underlying27 ti22 [.slice a129 ((t.ql[c]!).length) c130] fun b133 w134 H => ⟨H.pick [4, 5, 6] [2, 3, 4, 5, 6], (ro 11 rfl ?_)⟩))⟩
    obtain ⟨G138, N, hn139, H⟩ := H.vG 1 rfl N (H.yT [2])
    refine zV H 2 rfl 0 rfl Tryz.underlying27 ti22 rfl (by decide) rfl rfl rfl (by simp [Value.oneCell', Value.cells]) (by unfold maxLen; omega) (by omega) fun a135 c136 w137 H => ?_
    replace H := H.yl 3 rfl 0 rfl
    replace N : Fresh w.heap.size [(xF ++ G138)] := (N.pick [1, 0]).join
    refine ⟨H.pick [4, 5, 6] [4, 5, 6, 7, 8], (tF 12 rfl rfl (H.pick [4, 5, 6] [4, 5, 6, 7, 8]) ?_)⟩
    refine ro 13 rfl (zk H 3 [.slice a4 (0 + t.qh.length) c5, .slice a135 (zD + 1) c136, .slice a6 t.qj.length c7] Tryz.sizeOf27 fun w140 H => ⟨H.pick [4, 5, 6] [4, 5, 6, 7, 8], (xy (by kernel_rfl) ((meet ⟨_, a135, c136, a129, c130, G138, Fe104, ae104, ce104, uE4, N, H.pick [2, 3, 4, 5, 6] [0, 1, 2, 3, 5, 6, 7, 8]⟩)))⟩)
   have sz141 := H.base.size
   have lt142 := H.ltN (L := [xF]) [2]
   refine oc (Xm _ (t.ql[c]!) (H.get 0 rfl).1 (by first | assumption | omega)) ?_
   rintro v146 w144 r146 x145
   replace H := H.xW x145 r146
   obtain ⟨a147, c148, rfl, hc149, hm150⟩ := H.vN 0 rfl
   refine ⟨H.pick [3, 4, 5] [2, 3, 4, 5, 6], (vT [1, 10] (by kernel_rfl) (by simp) (yx rfl ?_ (yx rfl ?_ vU)))⟩
   ·skip
    refine zl (.slice jk zD ji) Tryz.isAgg27 rfl (H.cell 2 rfl rfl) (⟨H.pick [3, 4, 5] [2, 3, 4, 5, 6], (ro 10 rfl (zM H Tryz.underlying27 ti22 [.slice a147 ((t.ql[c]!).length) c148] fun b151 w152 H => ⟨H.pick [4, 5, 6] [2, 3, 4, 5, 6], (ro 11 rfl ?_)⟩))⟩)
    obtain ⟨G156, N, hn157, H⟩ := H.vG 1 rfl N (H.yT [2])
    refine zV H 2 rfl 0 rfl Tryz.underlying27 ti22 rfl (by decide) rfl rfl rfl (by simp [Value.oneCell', Value.cells]) (by unfold maxLen; omega) (by omega) fun a153 c154 w155 H => ?_
    replace H := H.yl 3 rfl 0 rfl
    replace N : Fresh w.heap.size [(xF ++ G156)] := (N.pick [1, 0]).join
    refine ⟨H.pick [4, 5, 6] [4, 5, 6, 7, 8], (tF 12 rfl rfl (H.pick [4, 5, 6] [4, 5, 6, 7, 8]) ?_)⟩
    refine ro 13 rfl (zk H 3 [.slice a4 (0 + t.qh.length) c5, .slice a153 (zD + 1) c154, .slice a6 t.qj.length c7] Tryz.sizeOf27 fun w158 H => ⟨H.pick [4, 5, 6] [4, 5, 6, 7, 8], (xy (by kernel_rfl) ((meet ⟨_, a153, c154, a147, c148, G156, Fe104, ae104, ce104, uE4, N, H.pick [2, 3, 4, 5, 6] [0, 1, 2, 3, 5, 6, 7, 8]⟩)))⟩)
   refine zM H Tryz.underlying27 ti22 [.slice a147 ((t.ql[c]!).length) c148] fun b159 w160 H => ⟨H.pick [4, 5, 6] [2, 3, 4, 5, 6], (ro 1 rfl (zl (.slice jk zD ji) Tryz.isAgg27 rfl (H.cell 3 rfl rfl) (⟨H.pick [4, 5, 6] [2, 3, 4, 5, 6], (ro 11 rfl ?_)⟩)))⟩
   obtain ⟨G164, N, hn165, H⟩ := H.vG 1 rfl N (H.yT [2])
   refine zV H 2 rfl 0 rfl Tryz.underlying27 ti22 rfl (by decide) rfl rfl rfl (by simp [Value.oneCell', Value.cells]) (by unfold maxLen; omega) (by omega) fun a161 c162 w163 H => ?_
   replace H := H.yl 3 rfl 0 rfl
   replace N : Fresh w.heap.size [(xF ++ G164)] := (N.pick [1, 0]).join
   refine ⟨H.pick [4, 5, 6] [4, 5, 6, 7, 8], (tF 12 rfl rfl (H.pick [4, 5, 6] [4, 5, 6, 7, 8]) ?_)⟩
   refine ro 13 rfl (zk H 3 [.slice a4 (0 + t.qh.length) c5, .slice a161 (zD + 1) c162, .slice a6 t.qj.length c7] Tryz.sizeOf27 fun w166 H => ⟨H.pick [4, 5, 6] [4, 5, 6, 7, 8], (xy (by kernel_rfl) ((meet ⟨_, a161, c162, a147, c148, G164, Fe104, ae104, ce104, uE4, N, H.pick [2, 3, 4, 5, 6] [0, 1, 2, 3, 5, 6, 7, 8]⟩)))⟩)
  clear H N
  rintro ρ w167 ⟨junk, a94, c95, a96, c97, G98, F99, a100, c101, rfl, N, H⟩
  refine b_n (t_n (xH (sp (.int .i64 c) (sw (xX c 1 rfl rfl (by omega) (sp (.int .i64 (c + 1)) (xG (qR (m' := (t.ql.length - ((c + 1) : Int)).toNat) (by omega) ⟨_, c + 1, a94, zD + 1, c95, ((t.ql.take c) ++ [(t.ql[c]!)]), zi ++ [.slice a96 ((t.ql[c]!).length) c97], (xF ++ G98), uE4, ?_, ?_, rfl, N, H.pick [0, 1, 2, 3, 4] [0, 4, 5, 6, 7]⟩))))))))
  · exact take_snoc (by omega)
  · omega
 refine zx4 (zcr (sw (xU [.slice a4 (0 + t.qh.length) c5, .slice jk zD ji, .slice a6 t.qj.length c7] Tryz.isAgg38 Tryz.sizeOf38 rfl (qw (H.cells 1 rfl) 0 3) (sw (zF H 4 [.slice a4 (0 + t.qh.length) c5, .slice jk zD ji, .slice a6 t.qj.length c7] Tryz.sizeOf38 fun w168 H => zjr (retC H 4 rfl rfl Tryz.isAgg38 Tryz.sizeOf38 rfl ⟨_, rfl, ?_, H.base⟩))))))
 obtain rfl : c = t.ql.length := by omega
 rw [List.take_length] at H
 exact ⟨a4, 0 + t.qh.length, c5, jk, zD, ji, zi, xF, a6, t.qj.length, c7, rfl, N, H.pick [3, 0, 2] [0]⟩
end
end Go.Proofs.YtgjnaocffdhnbaaGreat
