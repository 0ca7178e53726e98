/- Plain laws of maximal choices, part two: the program's way. No program here. -/
import Derived.Test.YtgjnaocffdhnbaaGreatPG
import Derived.Test.YtgjnaocffdhnbaaGreatJ
namespace Go.Proofs.YtgjnaocffdhnbaaGreat
set_option linter.unusedVariables false
set_option linter.unusedSimpArgs false
open Go.Proofs.YtgjnaocffdhnbaaGreat.Tot (tot)
open Go.Proofs.YtgjnaocffdhnbaaGreat.Mark (cnt mrk mkd mkd_mark cnt_mark)

/-- The applicable rules among the first q, cell by cell. -/
noncomputable def ownL (e : TypeId) (s : qK) (t : xu) (n q : Nat) : List (OwnI e) := (List.range n).map fun (c : Nat) => ⟨((appls s t).take q).filter fun x => decide ((s.qh[x.toNat]!).qw = (c : Int))⟩
theorem ownL_len (e : TypeId) (s : qK) (t : xu) (n q : Nat) : (ownL e s t n q).length = n := by simp [ownL]
theorem ownL_get {e : TypeId} {s : qK} {t : xu} {n q c : Nat} (h : c < n) : (ownL e s t n q)[c]! = ⟨((appls s t).take q).filter fun x => decide ((s.qh[x.toNat]!).qw = (c : Int))⟩ := by
  rw [getElem!_pos (ownL e s t n q) c (by rw [ownL_len]; exact h)]; simp [ownL]
theorem ownL_zero (e : TypeId) (s : qK) (t : xu) (n : Nat) : List.replicate n (⟨[]⟩ : OwnI e) = ownL e s t n 0 := by
  refine List.ext_getElem (by simp [ownL]) fun i h1 h2 => by simp [ownL]
theorem ownL_set {e : TypeId} {s : qK} {t : xu} {n q c : Nat} (hq : q < (appls s t).length) (hc : (s.qh[((appls s t)[q]!).toNat]!).qw.toNat = c) (h0 : 0 ≤ (s.qh[((appls s t)[q]!).toNat]!).qw) (hn : c < n)
    {l : List (OwnI e)} (hl : l = (ownL e s t n q).set c ⟨((ownL e s t n q)[c]!).l ++ [(appls s t)[q]!]⟩) : l = ownL e s t n (q + 1) := by
  subst hl
  refine List.ext_getElem (by simp [ownL]) fun i h1 h2 => ?_
  have hi : i < n := by simpa [ownL] using h1
  rw [← getElem!_pos _ i h1, ← getElem!_pos _ i h2, getset (by rw [ownL_len]; exact hn), ownL_get (q := q + 1) hi]
  rw [← take_snoc hq, List.filter_append]
  by_cases e' : i = c
  · subst e'
    rw [if_pos rfl, ownL_get hi, List.filter_cons_of_pos (a := (appls s t)[q]!) (decide_eq_true (by omega)), List.filter_nil]
  · rw [if_neg e', ownL_get hi]
    rw [List.filter_cons_of_neg (a := (appls s t)[q]!) (fun h => by have := of_decide_eq_true h; omega), List.filter_nil, List.append_nil]
theorem ownL_le {e : TypeId} {s : qK} {t : xu} {n q c : Nat} (h : c < n) : ((ownL e s t n q)[c]!).l.length ≤ (appls s t).length := by
  rw [ownL_get h]
  exact Nat.le_trans (List.length_filter_le _ _) (by rw [List.length_take]; omega)
noncomputable def cellsR (s : qK) (t : xu) (n : Nat) : List (List Int) := (List.range n).map (xP s t)
theorem cellsR_len (s : qK) (t : xu) (n : Nat) : (cellsR s t n).length = n := by simp [cellsR]
theorem cellsR_get {s : qK} {t : xu} {n c : Nat} (h : c < n) : (cellsR s t n)[c]! = xP s t c := by
  rw [getElem!_pos (cellsR s t n) c (by rw [cellsR_len]; exact h)]; simp [cellsR]
theorem ownL_end {e : TypeId} {s : qK} {t : xu} {n q : Nat} (h : (appls s t).length ≤ q) : (ownL e s t n q).map OwnI.l = cellsR s t n := by
  unfold ownL cellsR
  rw [List.take_of_length_le h, List.map_map]
  rfl
/-- A rule is among those of its cell. -/
theorem own_bad {s : qK} {t : xu} (hs : yw s) {q : Nat} (hq : q < (appls s t).length) (h1 : Qz (t.qy[(s.qh[((appls s t)[q]!).toNat]!).qw.toNat]!) > 16) : ¬ GoodP s t s.qf.length := by
  have hm : (appls s t)[q]! ∈ appls s t := by rw [getElem!_pos _ q hq]; exact List.getElem_mem hq
  obtain ⟨a, b, d⟩ := mem_applL.1 hm
  have hc := (hs.rule b).1
  have hcl := (hs.rule b).cell
  refine bad_sum (c := (s.qh[((appls s t)[q]!).toNat]!).qw.toNat) hcl (fun h0 => ?_) h1
  have : (appls s t)[q]! ∈ xP s t (s.qh[((appls s t)[q]!).toNat]!).qw.toNat := by
    unfold xP cellT
    exact List.mem_filter.2 ⟨hm, decide_eq_true (Int.toNat_of_nonneg hc.1).symm⟩
  rw [List.eq_nil_of_length_eq_zero h0] at this
  simp at this
/-- In each cell with an applicable rule: the rules and the packings. -/
noncomputable def jZ (s : qK) (t : xu) (k : Nat) : List inCellD := (liveTo s t k).map fun c => ⟨xP s t c, (cellP s t c).1⟩
theorem cells_len (s : qK) (t : xu) (k : Nat) : (jZ s t k).length = (qQ s t k).length := by simp [jZ, qQ]
theorem cells_yes {s : qK} {t : xu} {k : Nat} (h : ¬ (xP s t k).length = 0) : jZ s t k ++ [⟨xP s t k, (cellP s t k).1⟩] = jZ s t (k + 1) := by simp [jZ, live_yes h]
theorem cells_no {s : qK} {t : xu} {k : Nat} (h : (xP s t k).length = 0) : jZ s t k = jZ s t (k + 1) := by simp [jZ, live_no h]
theorem cells_at {s : qK} {t : xu} {k i : Nat} (h : i < (jZ s t k).length) : ((jZ s t k)[i]!).frules = (qQ s t k)[i]! ∧ ((jZ s t k)[i]!).fpackings = (qZ s t k)[i]! := by
  have h1 : i < (qQ s t k).length := by rw [← cells_len]; exact h
  have h2 : i < (qZ s t k).length := by rw [packsL_le]; exact h1
  rw [getElem!_pos _ i h, getElem!_pos _ i h1, getElem!_pos _ i h2]
  simp [jZ, qQ, qZ]
/-- What comes out of the middle of the product is no greater than the whole. -/
theorem prod_stop {all : List (List (List Int))} {n i k : Nat} (h : ∀ j, j < n → all[j]! ≠ []) (hi : i < n) {G : List (List Int)} {r : List Int} (hG : G.length = yA all i) (hk : k ≤ G.length) (h1 : (nextK G r (all[i]!) k).length > 300) : yA all n > 300 := by
  rw [nextK_len hk] at h1
  have h2 := prod_mono h (show i + 1 ≤ n from hi) (Nat.le_refl _)
  rw [yA, ← hG] at h2
  have h3 := Nat.mul_le_mul_right (all[i]!).length hk
  omega
theorem appls_inH {s : qK} {t : xu} {q : Nat} (hq : q < (appls s t).length) : 0 ≤ (appls s t)[q]! ∧ ((appls s t)[q]!).toNat < s.qh.length ∧ Appl s t ((appls s t)[q]!).toNat := by
  have hm : (appls s t)[q]! ∈ appls s t := by rw [getElem!_pos _ q hq]; exact List.getElem_mem hq
  exact mem_applL.1 hm
/-! ### The program's packings -/
theorem bagAny_okH {l : List Int} : zg (l.length : Int) l ↔ QN l := ⟨fun h => h.1, fun h => ⟨h, rfl⟩⟩
theorem sumTo_ge {l : List Int} (h : ∀ k, k < l.length → 0 ≤ l[k]!) : ∀ n, n ≤ l.length → 0 ≤ sumTo l n ∧ ∀ j, j < n → l[j]! ≤ sumTo l n
  | 0, _ => ⟨by simp [sumTo], fun j hj => by omega⟩
  | n + 1, hn => by
    obtain ⟨h1, h2⟩ := sumTo_ge h n (by omega)
    have h3 := h n (by omega)
    rw [sumTo]
    refine ⟨by omega, fun j hj => ?_⟩
    by_cases e : j = n
    · subst e; omega
    · have := h2 j (by omega); omega
theorem Xk.bags {parts : List (List Int)} {rest : List Int} (h : Xk parts rest) (h1 : 1 ≤ parts.length) :
    QN rest ∧ parts.length ≤ 8 ∧ ∀ i, i < parts.length → QN (parts[i]!) ∧ (parts[i]!).length = rest.length ∧ Qz (parts[i]!) ≠ 0 := by
  obtain ⟨K, hK, hP, hR, hn⟩ := h
  have bag : ∀ i, i < parts.length → QN (parts[i]!) ∧ (parts[i]!).length = rest.length ∧ Qz (parts[i]!) ≠ 0 := fun i hi => by
    obtain ⟨hl, hb, j, hj, hp⟩ := hP i hi
    refine ⟨⟨fun k hk => hb k (by omega), by omega, by omega⟩, by have := hR.1; omega, ?_⟩
    have := (sumTo_ge (l := parts[i]!) (fun k hk => (hb k (by omega)).1) _ (Nat.le_refl _)).2 j (by omega)
    unfold Qz; omega
  obtain ⟨hl, _, j, hj, _⟩ := hP 0 (by omega)
  exact ⟨⟨fun k hk => hR.2 k (by have := hR.1; omega), by have := hR.1; omega, by have := hR.1; omega⟩, hn, bag⟩
theorem pack_begin {cs cn : List Int} {i : Nat} {n : Int} (hc : i < cn.length) (h2 : cn.take i = cs.take i) : (cn.set i n).take (i + 1) = cs.take i ++ [n] := by
  rw [List.take_add_one, List.take_set_of_le (Nat.le_refl _), h2, List.getElem?_set_self hc]; rfl
theorem pack_keep {cs cn c2 : List Int} {i : Nat} {n : Int} (h : c2.take (i + 1) = (cn.set i n).take (i + 1)) (h2 : cn.take i = cs.take i) : c2.take i = cs.take i := by
  have := congrArg (List.take i) h
  rwa [List.take_take, List.take_take, Nat.min_eq_left (by omega), List.take_set_of_le (Nat.le_refl _), h2] at this
theorem pack_stepI {parts : List (List Int)} {rest cs cn : List Int} {out : List (List Int)} {f i n : Nat} (hf : i + f = parts.length) (hp : i < parts.length) (hc : cn.length = parts.length) (h2 : cn.take i = cs.take i)
    (h : (gath out (begins (cs.take i) (zL parts (f - 1) i rest n))).length ≤ 2000) :
    gath (gath out (begins (cs.take i) (zL parts (f - 1) i rest n))) (begins ((cn.set i (n : Int)).take (i + 1)) (packs parts (parts.length - (i + 1)) (i + 1) (jH rest (parts[i]!) (-(n : Int))))) = gath out (begins (cs.take i) (zL parts (f - 1) i rest (n + 1))) := by
  rw [pack_begin (by omega) h2, ← gath_step h, show parts.length - (i + 1) = f - 1 by omega]
theorem pack_startI {parts : List (List Int)} {rest cs : List Int} {out : List (List Int)} {f i : Nat} (h : out.length ≤ 2000) : out = gath out (begins (cs.take i) (zL parts f i rest 0)) := by
  rw [packsTo_zero]; exact (gath_nil (by omega)).symm
theorem pack_fullI {parts : List (List Int)} {rest cs : List Int} {out : List (List Int)} {i : Nat} (hl : i = parts.length) (hc : cs.length = parts.length) (h : FullOk parts rest) (ho : out.length ≤ 2000) :
    gath out (begins (cs.take i) (packs parts (parts.length - i) i rest)) = out ++ [cs] := by
  rw [show parts.length - i = 0 by omega, packs_full h, begins_one, gath_one ho, List.take_of_length_le (by omega)]
theorem pack_noneI {parts : List (List Int)} {rest cs : List Int} {out : List (List Int)} {i : Nat} (hl : i = parts.length) (h : ¬ FullOk parts rest) (ho : out.length ≤ 2000) :
    gath out (begins (cs.take i) (packs parts (parts.length - i) i rest)) = out := by
  rw [show parts.length - i = 0 by omega, packs_none h]; exact gath_nil (by omega)
theorem pack_endI {parts : List (List Int)} {rest cs : List Int} {out : List (List Int)} {f i n : Nat} (hf : i + f = parts.length) (hp : i < parts.length) (hn : (n : Int) ≤ zI (parts[i]!) rest + 1)
    (h0 : 0 ≤ zI (parts[i]!) rest) (h : ¬ (n : Int) ≤ zI (parts[i]!) rest ∨ ¬ (gath out (begins (cs.take i) (zL parts (f - 1) i rest n))).length ≤ 2000) :
    gath out (begins (cs.take i) (packs parts (parts.length - i) i rest)) = gath out (begins (cs.take i) (zL parts (f - 1) i rest n)) := by
  obtain ⟨f, rfl⟩ : ∃ g, f = g + 1 := ⟨f - 1, by omega⟩
  rw [show parts.length - i = f + 1 by omega]
  rw [show f + 1 - 1 = f from rfl] at h ⊢
  exact (gath_end (by omega) (by rcases h with h | h; (left; omega); (right; omega))).symm
theorem all_bI {b cs : List Int} {parts : List (List Int)} (h : ¬ Qz b > 16) (h1 : (gath ([] : List (List Int)) (begins (cs.take 0) (packs parts (parts.length - 0) 0 b))).length > 2000) : xY b parts = ([], 3) := by
  rw [show cs.take 0 = [] from rfl, begins_nil] at h1
  have h2 : (packs parts parts.length 0 b).length > 2000 := gath_all.1 h1
  rw [xY, if_neg h, if_pos h2]
theorem all_0I {b cs : List Int} {parts : List (List Int)} (h : ¬ Qz b > 16) (h1 : ¬ (gath ([] : List (List Int)) (begins (cs.take 0) (packs parts (parts.length - 0) 0 b))).length > 2000) : xY b parts = (gath ([] : List (List Int)) (begins (cs.take 0) (packs parts (parts.length - 0) 0 b)), 0) := by
  rw [show cs.take 0 = [] from rfl, begins_nil] at h1 ⊢
  have h2 : ¬ (packs parts parts.length 0 b).length > 2000 := fun h => h1 (gath_all.2 h)
  rw [xY, if_neg h, if_neg h2, show parts.length - 0 = parts.length from rfl, gath_few h2]
end Go.Proofs.YtgjnaocffdhnbaaGreat
