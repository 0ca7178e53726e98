/- Plain laws of runs by given choices. No program here. -/
import Derived.Test.YtkmlihdacnfhdaaGreatP9
namespace Go.Proofs.YtkmlihdacnfhdaaGreat
open Go.Proofs.YtkmlihdacnfhdaaGreat.Tot (tot)
open Go.Proofs.YtkmlihdacnfhdaaGreat.Mark (cnt mrk mkd mkd_mark cnt_mark)

theorem most_of {s : qX} {t : qU} {P : Nat → Prop} (h : ∀ q, q < (appls s t).length → P ((appls s t)[q]!).toNat) : ∀ i, i < s.qg.length → Appl s t i → P i := by
  intro i hi ha
  obtain ⟨q, hq, e⟩ := List.mem_iff_getElem.1 ((mem_appls hi).2 ha)
  have := h q hq
  rwa [getElem!_pos _ q hq, e] at this
theorem appls_in {s : qX} {t : qU} {q : Nat} (hq : q < (appls s t).length) : 0 ≤ (appls s t)[q]! ∧ ((appls s t)[q]!).toNat < s.qg.length ∧ Appl s t ((appls s t)[q]!).toNat := by
  have h : (appls s t)[q]! ∈ appls s t := by rw [getElem!_pos _ q hq]; exact List.getElem_mem hq
  exact mem_applL.1 h
def MostTo (s : qX) (t : qU) (counts : List Int) (k : Nat) : Prop := ∀ i, i < k → Appl s t i → within (s.qg[i]!).qR ((zi s t counts counts.length)[(s.qg[i]!).qy.toNat]!) = false
theorem MostTo.succ {s : qX} {t : qU} {counts : List Int} {k : Nat} (h : MostTo s t counts k) (h1 : Appl s t k → within (s.qg[k]!).qR ((zi s t counts counts.length)[(s.qg[k]!).qy.toNat]!) = false) : MostTo s t counts (k + 1) := fun j hj => by
  by_cases e : j = k
  · subst e; exact h1
  · exact h j (by omega)
def MostL (s : qX) (t : qU) (counts : List Int) (k : Nat) : Prop := ∀ q, q < k → within (s.qg[((appls s t)[q]!).toNat]!).qR ((zi s t counts counts.length)[(s.qg[((appls s t)[q]!).toNat]!).qy.toNat]!) = false
theorem MostL.succ {s : qX} {t : qU} {counts : List Int} {k : Nat} (h : MostL s t counts k) (h1 : within (s.qg[((appls s t)[k]!).toNat]!).qR ((zi s t counts counts.length)[(s.qg[((appls s t)[k]!).toNat]!).qy.toNat]!) = false) : MostL s t counts (k + 1) := fun j hj => by
  by_cases e : j = k
  · subst e; exact h1
  · exact h j (by omega)
theorem MostL.most {s : qX} {t : qU} {counts : List Int} (h : MostL s t counts (appls s t).length) (hc : IsCh s t counts) : Xy s t counts :=
  ⟨hc, most_of (P := fun i => within (s.qg[i]!).qR ((zi s t counts counts.length)[(s.qg[i]!).qy.toNat]!) = false) h⟩
open Classical in
noncomputable def Xo (s : qX) (ch : List (List Int)) : Nat → qU → qU × Int
  | 0, u => (u, 0)
  | f + 1, u => if Halted s u ∨ ¬ Xy s u (ch[ch.length - (f + 1)]!) then (default, 4) else if (ve s u (ch[ch.length - (f + 1)]!)).2 ≠ 0 then (default, (ve s u (ch[ch.length - (f + 1)]!)).2) else Xo s ch f (ve s u (ch[ch.length - (f + 1)]!)).1
theorem choose_end {s : qX} {ch : List (List Int)} {f : Nat} {u : qU} (h : f = 0) : Xo s ch f u = (u, 0) := by subst h; rfl
theorem choose_4 {s : qX} {ch : List (List Int)} {f k : Nat} {u : qU} (hf : f = ch.length - k) (hk : k < ch.length) (h : Halted s u ∨ ¬ Xy s u (ch[k]!)) : Xo s ch f u = (default, 4) := by
  obtain ⟨g, rfl⟩ : ∃ g, f = g + 1 := ⟨f - 1, by omega⟩
  rw [Xo, if_pos (by rwa [show ch.length - (g + 1) = k by omega])]
theorem choose_bad {s : qX} {ch : List (List Int)} {f k : Nat} {u : qU} (hf : f = ch.length - k) (hk : k < ch.length) (h : ¬ Halted s u) (h1 : Xy s u (ch[k]!)) (h2 : (ve s u (ch[k]!)).2 ≠ 0) : Xo s ch f u = (default, (ve s u (ch[k]!)).2) := by
  obtain ⟨g, rfl⟩ : ∃ g, f = g + 1 := ⟨f - 1, by omega⟩
  have e : ch.length - (g + 1) = k := by omega
  rw [Xo, e, if_neg (fun x => x.elim h fun y => y h1), if_pos h2]
theorem choose_go {s : qX} {ch : List (List Int)} {f g k : Nat} {u : qU} (hf : f = ch.length - k) (hk : k < ch.length) (hg : g = ch.length - (k + 1)) (h : ¬ Halted s u) (h1 : Xy s u (ch[k]!)) (h2 : (ve s u (ch[k]!)).2 = 0) : Xo s ch f u = Xo s ch g (ve s u (ch[k]!)).1 := by
  obtain rfl : f = g + 1 := by omega
  have e : ch.length - (g + 1) = k := by omega
  rw [Xo, e, if_neg (fun x => x.elim h fun y => y h1), if_neg (fun x => x h2)]
def AllCnt (s : qX) (ch : List (List Int)) (k : Nat) : Prop := ∀ j, j < k → CntOk s (ch[j]!)
theorem AllCnt.succ {s : qX} {ch : List (List Int)} {k : Nat} (h : AllCnt s ch k) (h1 : CntOk s (ch[k]!)) : AllCnt s ch (k + 1) := fun j hj => by
  by_cases e : j = k
  · subst e; exact h1
  · exact h j (by omega)
open Classical in
noncomputable def qG (s : qX) (t : qU) (ch : List (List Int)) : qU × Int :=
  if ¬ (yI s ∧ zu s t) then (default, 1) else if 300 < ch.length ∨ ¬ AllCnt s ch ch.length then (default, 2) else Xo s ch ch.length t
theorem ch_1 {s : qX} {t : qU} {ch : List (List Int)} (h : ¬ (yI s ∧ zu s t)) : qG s t ch = (default, 1) := by rw [qG, if_pos h]
theorem ch_2 {s : qX} {t : qU} {ch : List (List Int)} (h : yI s ∧ zu s t) (h1 : 300 < ch.length ∨ ¬ AllCnt s ch ch.length) : qG s t ch = (default, 2) := by rw [qG, if_neg (by simpa using h), if_pos h1]
theorem ch_0 {s : qX} {t : qU} {ch : List (List Int)} (h : yI s ∧ zu s t) (h1 : ¬ 300 < ch.length) (h2 : AllCnt s ch ch.length) : qG s t ch = Xo s ch ch.length t := by rw [qG, if_neg (by simpa using h), if_neg (fun x => x.elim h1 fun y => y h2)]
theorem few_choose {s : qX} {ch : List (List Int)} (hs : yE s) : ∀ (f : Nat) (u : qU), zu s u → FewState (Xo s ch f u).1
  | 0, u, h => few_state hs h
  | f + 1, u, h => by
    rw [Xo]
    split
    · exact few_default
    · split
      · exact few_default
      · next h2 => exact few_choose hs f _ (stepBy_ok (by simpa using h2))
theorem few_ch (s : qX) (t : qU) (ch : List (List Int)) : FewState (qG s t ch).1 := by
  rw [qG]
  split
  · exact few_default
  · next h =>
    split
    · exact few_default
    · have h : yI s ∧ zu s t := by simpa using h
      exact few_choose h.1.1 _ _ h.2
end Go.Proofs.YtkmlihdacnfhdaaGreat
