/- Plain laws of the states behind steps. No program here. -/
import Derived.Test.YtkmlihdacnfhdaaGreatP9
namespace Go.Proofs.YtkmlihdacnfhdaaGreat
open Go.Proofs.YtkmlihdacnfhdaaGreat.Tot (tot)
open Go.Proofs.YtkmlihdacnfhdaaGreat.Mark (cnt mrk mkd mkd_mark cnt_mark)

theorem state_eq {a b : qP} (h1 : a.qh = b.qh) (h2 : a.qx = b.qx) (h3 : a.ql = b.ql) : a = b := by
  cases a; cases b; simp only at h1 h2 h3; subst h1 h2 h3; rfl
open Classical in
/-- The states behind the first k of some choices, each once. -/
noncomputable def ja (s : qU) (t : qP) (cs : List (List Int)) : Nat → List qP
  | 0 => []
  | k + 1 => if (xU s t (cs[k]!)).1 ∈ ja s t cs k then ja s t cs k else ja s t cs k ++ [(xU s t (cs[k]!)).1]
theorem nextTo_in {s : qU} {t : qP} {cs : List (List Int)} {k : Nat} (h : (xU s t (cs[k]!)).1 ∈ ja s t cs k) : ja s t cs k = ja s t cs (k + 1) := by rw [ja, if_pos h]
theorem nextTo_new {s : qU} {t : qP} {cs : List (List Int)} {k : Nat} (h : ¬ (xU s t (cs[k]!)).1 ∈ ja s t cs k) : ja s t cs k ++ [(xU s t (cs[k]!)).1] = ja s t cs (k + 1) := by rw [ja, if_neg h]
theorem nextTo_len {s : qU} {t : qP} {cs : List (List Int)} : ∀ k, (ja s t cs k).length ≤ k
  | 0 => by simp [ja]
  | k + 1 => by
    have := nextTo_len (s := s) (t := t) (cs := cs) k
    rw [ja]
    split
    · omega
    · simp; omega
theorem nextTo_few {s : qU} {t : qP} {cs : List (List Int)} (hs : jH s) : ∀ k u, u ∈ ja s t cs k → FewState u
  | 0, u, h => by simp [ja] at h
  | k + 1, u, h => by
    rw [ja] at h
    split at h
    · exact nextTo_few hs k u h
    · rcases List.mem_append.1 h with h | h
      · exact nextTo_few hs k u h
      · obtain rfl := List.mem_singleton.1 h; exact few_stepBy hs
def CodeBad (s : qU) (t : qP) (cs : List (List Int)) (k : Nat) : Prop := (xU s t (cs[k]!)).2 ≠ 0
def NoBad (s : qU) (t : qP) (cs : List (List Int)) (k : Nat) : Prop := ∀ j, j < k → ¬ CodeBad s t cs j
theorem NoBad.succ {s : qU} {t : qP} {cs : List (List Int)} {k : Nat} (h : NoBad s t cs k) (h1 : (xU s t (cs[k]!)).2 = 0) : NoBad s t cs (k + 1) := fun j hj => by
  by_cases e : j = k
  · subst e; exact fun x => x h1
  · exact h j (by omega)
open Classical in
noncomputable def Qn (s : qU) (t : qP) (cs : List (List Int)) : List qP × Int :=
  if NoBad s t cs cs.length then (ja s t cs cs.length, 0) else ([], (xU s t (cs[vH (CodeBad s t cs) cs.length]!)).2)
theorem next_ok {s : qU} {t : qP} {cs : List (List Int)} (h : NoBad s t cs cs.length) : Qn s t cs = (ja s t cs cs.length, 0) := by rw [Qn, if_pos h]
theorem next_bad {s : qU} {t : qP} {cs : List (List Int)} {k : Nat} (h : NoBad s t cs k) (hk : k < cs.length) (h1 : (xU s t (cs[k]!)).2 ≠ 0) : Qn s t cs = ([], (xU s t (cs[k]!)).2) := by
  rw [Qn, if_neg (fun x => x k hk h1), stop_first h hk h1]
theorem find_mem {l : List qP} {u : qP} : firstIdx (fun k => decide (l[k]! = u)) l.length < 0 ↔ ¬ u ∈ l := by
  have h := anyTo_first (fun k => decide (l[k]! = u)) l.length
  constructor
  · intro h1 hm
    obtain ⟨k, hk, e⟩ := List.mem_iff_getElem.1 hm
    have : anyTo (fun k => decide (l[k]! = u)) l.length = true := anyTo_iff.2 ⟨k, hk, by rw [getElem!_pos l k hk]; simpa using e⟩
    rw [this] at h
    have := of_decide_eq_true h
    omega
  · intro hm
    apply Classical.byContradiction
    intro h1
    rw [decide_eq_true (by omega)] at h
    obtain ⟨k, hk, e⟩ := anyTo_iff.1 h.symm
    rw [getElem!_pos l k hk] at e
    exact hm ((of_decide_eq_true e) ▸ List.getElem_mem hk)
theorem mem_at {l : List qP} {u : qP} {k : Nat} (hk : k < l.length) (h : l[k]! = u) : u ∈ l := by
  rw [getElem!_pos l k hk] at h; rw [← h]; exact List.getElem_mem hk
def NotIn (l : List qP) (u : qP) (k : Nat) : Prop := ∀ j, j < k → l[j]! ≠ u
theorem NotIn.succ {l : List qP} {u : qP} {k : Nat} (h : NotIn l u k) (h1 : l[k]! ≠ u) : NotIn l u (k + 1) := fun j hj => by
  by_cases e : j = k
  · subst e; exact h1
  · exact h j (by omega)
theorem NotIn.out {l : List qP} {u : qP} (h : NotIn l u l.length) : ¬ u ∈ l := fun hm => by
  obtain ⟨k, hk, e⟩ := List.mem_iff_getElem.1 hm
  exact h k hk (by rw [getElem!_pos l k hk]; exact e)
/-- Single rules as choices. -/
def xW (s : qU) (l : List Int) : List (List Int) := l.map fun i => single s i.toNat
theorem XG (s : qU) (l : List Int) : (xW s l).length = l.length := by simp [xW]
theorem singles_get {s : qU} {l : List Int} {k : Nat} (h : k < l.length) : (xW s l)[k]! = single s (l[k]!).toNat := by
  rw [getElem!_pos _ k (by rw [XG]; exact h), getElem!_pos l k h]; simp [xW]
theorem singles_snoc (s : qU) (l : List Int) (x : Int) : xW s l ++ [single s x.toNat] = xW s (l ++ [x]) := by simp [xW]
theorem singles_yes {s : qU} {t : qP} {k : Nat} (h : Appl s t k) : xW s (XI s t k) ++ [single s (k : Int).toNat] = xW s (XI s t (k + 1)) := by rw [singles_snoc, applL_yes h]
theorem singles_take {s : qU} {l : List Int} {k : Nat} (h : k < l.length) : xW s (l.take k) ++ [single s (l[k]!).toNat] = xW s (l.take (k + 1)) := by rw [singles_snoc, take_snoc h]
theorem appls_single {s : qU} {t : qP} {k : Nat} (h : k < (appls s t).length) : 0 ≤ (appls s t)[k]! ∧ ((appls s t)[k]!).toNat < s.qg.length ∧ Appl s t ((appls s t)[k]!).toNat := by
  have h : (appls s t)[k]! ∈ appls s t := by rw [getElem!_pos _ k h]; exact List.getElem_mem h
  exact mem_applL.1 h
theorem singles_cnt {s : qU} {t : qP} {k : Nat} (h : k < (xW s (appls s t)).length) : CntOk s ((xW s (appls s t))[k]!) := by
  rw [XG] at h
  rw [singles_get h]
  exact single_cnt (appls_single h).2.1
theorem singles_isCh {s : qU} {t : qP} (hs : Qb s) (ht : zM s t) {k : Nat} (h : k < (xW s (appls s t)).length) : IsCh s t ((xW s (appls s t))[k]!) := by
  rw [XG] at h
  rw [singles_get h]
  exact (single_isCh hs ht (appls_single h).2.1).2 (appls_single h).2.2
open Classical in
noncomputable def zt (s : qU) (t : qP) : List qP × Int := if ¬ (Qb s ∧ zM s t) then ([], 1) else Qn s t (xW s (appls s t))
theorem ns_1 {s : qU} {t : qP} (h : ¬ (Qb s ∧ zM s t)) : zt s t = ([], 1) := by rw [zt, if_pos h]
theorem ns_0 {s : qU} {t : qP} (h : Qb s ∧ zM s t) : zt s t = Qn s t (xW s (appls s t)) := by rw [zt, if_neg (by simpa using h)]
theorem cnt_StateD' (x : qP) (h : FewState x) : cnt x ≤ 62 := by
  have := jY x
  have := h.1; have := h.2.1; have := h.2.2
  omega
theorem few_ns (s : qU) (t : qP) : cnt (zt s t).1 ≤ 992 := by
  by_cases h : Qb s ∧ zM s t
  · rw [ns_0 h, Qn]
    split
    · have hl := nextTo_len (s := s) (t := t) (cs := xW s (appls s t)) (xW s (appls s t)).length
      have h16 : (xW s (appls s t)).length ≤ 16 := by rw [XG]; have := applL_le s t s.qg.length; have := h.1.2.1; unfold appls; omega
      have := cntTo_one (ja s t (xW s (appls s t)) (xW s (appls s t)).length) 62 (fun k hk => cnt_StateD' _ (nextTo_few h.1.1 _ _ (by rw [getElem!_pos _ k hk]; exact List.getElem_mem hk))) _ (Nat.le_refl _)
      show cnt (ja s t (xW s (appls s t)) (xW s (appls s t)).length) ≤ 992
      rw [XQ]
      omega
    · exact Nat.zero_le _
  · rw [ns_1 h]; exact Nat.zero_le _
end Go.Proofs.YtkmlihdacnfhdaaGreat
