/- Plain laws of steps, part four: what the program does otherwise than the reference; runs. No program here. -/
import Derived.Test.YtkmlihdacnfhdaaP6
namespace Go.Proofs.Ytkmlihdacnfhdaa
open Go.Proofs.Ytkmlihdacnfhdaa.Tot (tot)

def minus (k : Nat) : List Int := (List.range 6).map fun j => if j < k then -1 else 0
theorem minus_len (k : Nat) : (minus k).length = 6 := by simp [minus]
theorem minus_get {k j : Nat} (h : j < 6) : (minus k)[j]! = if j < k then -1 else 0 := by
  rw [getElem!_pos (minus k) j (by rw [minus_len]; exact h)]; simp [minus]
theorem minus_set {k : Nat} (h : k < 6) : (minus k).set k (-1) = minus (k + 1) := by
  refine ext_get (by simp [minus_len]) fun p hp => ?_
  rw [List.length_set, minus_len] at hp
  rw [getset (by rw [minus_len]; exact h), minus_get hp, minus_get hp]
  by_cases e : p = k
  · rw [if_pos e, if_pos (by omega)]
  · rw [if_neg e]
    by_cases h1 : p < k
    · rw [if_pos h1, if_pos (by omega)]
    · rw [if_neg h1, if_neg (by omega)]
theorem minus_six {k : Nat} (h : k = 6) (s : qV) (t : qQ) : minus k = bests s t (-1) 6 0 := by
  subst h
  rw [← bests_zero]; rfl
theorem appl_yes {s : qV} {t : qQ} {i k n : Nat} {z : Int} (hk : k = s.qg.length) (hi : i < s.qg.length) (hz : z ≤ (s.qg[i]!).zk) (hc : (s.qg[i]!).qy.toNat < n) (h1 : (s.qg[i]!).zk = (bests s t z n k)[(s.qg[i]!).qy.toNat]!) (h2 : EnOk s t (s.qg[i]!)) : Appl s t i := by
  rw [bests_get hc, hk] at h1
  exact (appl_iff hi hz).2 ⟨h2, h1⟩
theorem appl_no {s : qV} {t : qQ} {i k n : Nat} {z : Int} (hk : k = s.qg.length) (hi : i < s.qg.length) (hz : z ≤ (s.qg[i]!).zk) (hc : (s.qg[i]!).qy.toNat < n) (h1 : (s.qg[i]!).zk ≠ (bests s t z n k)[(s.qg[i]!).qy.toNat]!) : ¬ Appl s t i := fun h => by
  rw [bests_get hc, hk] at h1
  exact h1 ((appl_iff hi hz).1 h).2
theorem appls_halt {s : qV} {t : qQ} : (appls s t).length = 0 ↔ Halted s t := by
  constructor
  · intro h j hj ha
    have : (j : Int) ∈ appls s t := mem_applL.2 ⟨Int.natCast_nonneg j, by simpa using hj, by simpa using ha⟩
    rw [List.length_eq_zero_iff.1 h] at this; cases this
  · intro h
    rw [List.length_eq_zero_iff]
    apply List.eq_nil_iff_forall_not_mem.2
    intro x hx
    obtain ⟨h0, h1, h2⟩ := mem_applL.1 hx
    exact h _ h1 h2
theorem outPl_in {s : qV} {t : qQ} {r : QK} (hs : yA s) (h : 0 ≤ xe s t r.qy) : outPl s t r = (xe s t r.qy).toNat := by
  refine outPl_up fun e => ?_
  rw [e, parentNow_root hs] at h; omega
theorem outPl_out {s : qV} {t : qQ} {r : QK} (hs : yA s) (h0 : t.qh[0]! = true) (hc : CellIn s r.qy) (h : ¬ 0 ≤ xe s t r.qy) : outPl s t r = s.qf.length := by
  refine outPl_root ?_
  rcases Int.lt_or_eq_of_le hc.1 with h1 | h1
  · exact absurd (Vw hs h0 h1 hc.2).1 h
  · exact h1.symm
theorem parentNow_lt {s : qV} {t : qQ} (hs : yA s) (h0 : t.qh[0]! = true) {c : Int} (hc : CellIn s c) : xe s t c ≤ (s.qf.length : Int) - 1 := by
  rcases Int.lt_or_eq_of_le hc.1 with h1 | h1
  · have := Vw hs h0 h1 hc.2; have := hc.2; omega
  · rw [← h1, parentNow_root hs]; have := hs.2.1; omega
theorem stepBy_ok {s : qV} {t : qQ} {counts : List Int} (h : (zf s t counts).2 = 0) : zJ s (zf s t counts).1 := by
  by_cases hc : IsCh s t counts
  · rw [stepBy_yes hc] at h ⊢
    unfold stepRes at h ⊢
    by_cases ho : zJ s (qZ s counts (stepped s t counts) (jg s - 1))
    · rw [told_yes ho]; exact ho
    · rw [told_no ho] at h; cases h
  · rw [stepBy_no hc] at h; cases h
theorem appls_at' {s : qV} {t : qQ} {q m : Nat} (hm : (applL s t m).length = q) (hn : m ≤ s.qg.length) (hq : q < (appls s t).length) :
    0 ≤ (appls s t)[q]! ∧ m ≤ ((appls s t)[q]!).toNat ∧ ((appls s t)[q]!).toNat < s.qg.length ∧ Appl s t ((appls s t)[q]!).toNat ∧ (∀ j, m ≤ j → j < ((appls s t)[q]!).toNat → ¬ Appl s t j) ∧ (applL s t (((appls s t)[q]!).toNat + 1)).length = q + 1 := by
  obtain ⟨i, h1, h2, h3, h4, h5, h6⟩ := appls_at hm hn hq
  rw [h1]
  exact ⟨Int.natCast_nonneg i, h2, h3, h4, h5, h6⟩
theorem firstR_step {s : qV} {t : qQ} {m j : Nat} (h1 : m ≤ j) (hj : j < s.qg.length) (ha : Appl s t j) (h4 : ∀ i, m ≤ i → i < j → ¬ Appl s t i) {x : Int} (hx : x = yR (s.qg[j]!).qR ((zX s t m)[(s.qg[j]!).qy.toNat]!)) :
    (zX s t m).set (s.qg[j]!).qy.toNat (yj ((zX s t m)[(s.qg[j]!).qy.toNat]!) (s.qg[j]!).qR (-x)) = zX s t (j + 1) := by
  rw [hx, ← firstR_same h1 h4, firstR_yes ha]
theorem firstC_step {s : qV} {t : qQ} {m j : Nat} (h1 : m ≤ j) (ha : Appl s t j) (h4 : ∀ i, m ≤ i → i < j → ¬ Appl s t i) : yR (s.qg[j]!).qR ((zX s t m)[(s.qg[j]!).qy.toNat]!) = firstC s t j := by
  rw [Xz ha, firstR_same h1 h4]
theorem meltsL_1 {s : qV} {counts : List Int} {n k : Nat} (h0 : 0 ≤ (s.qg[k]!).qy) (h : (s.qg[k]!).qy.toNat < n) (h1 : (yO s counts n k)[(s.qg[k]!).qy.toNat]! = true) : (yO s counts n k).set (s.qg[k]!).qy.toNat true = yO s counts n (k + 1) :=
  meltsL_set h0 h ⟨fun _ => .inl h1, fun _ => rfl⟩
theorem meltsL_2 {s : qV} {counts : List Int} {n k : Nat} (h0 : 0 ≤ (s.qg[k]!).qy) (h : (s.qg[k]!).qy.toNat < n) (h1 : (yO s counts n k)[(s.qg[k]!).qy.toNat]! = false) (h2 : ¬ counts[k]! > 0) : (yO s counts n k).set (s.qg[k]!).qy.toNat false = yO s counts n (k + 1) :=
  meltsL_set h0 h ⟨fun h => (by cases h), fun h => h.elim (fun h => (ft h h1).elim) fun h => (h2 h.1).elim⟩
theorem meltsL_3 {s : qV} {counts : List Int} {n k : Nat} (h0 : 0 ≤ (s.qg[k]!).qy) (h : (s.qg[k]!).qy.toNat < n) (h1 : (yO s counts n k)[(s.qg[k]!).qy.toNat]! = false) (h2 : counts[k]! > 0) : (yO s counts n k).set (s.qg[k]!).qy.toNat (s.qg[k]!).xQ = yO s counts n (k + 1) :=
  meltsL_set h0 h ⟨fun h => .inr ⟨h2, h⟩, fun h => h.elim (fun h => (ft h h1).elim) fun h => h.2⟩
theorem meltDown_yesL {s : qV} {counts : List Int} {u : qQ} {j i n : Nat} {c : Int} (h : (yO s counts n i)[c.toNat]! = true) (hn : c.toNat < n) (h0 : 0 ≤ c) (hi : i = s.qg.length) (hc : c = (jg s : Int) - 1 - j) : qZ s counts u (j + 1) = melted s (qZ s counts u j) c := by
  rw [meltsL_get hn, show ((c.toNat : Nat) : Int) = c by omega] at h
  exact QF h hi hc
theorem meltDown_noL {s : qV} {counts : List Int} {u : qQ} {j i n : Nat} {c : Int} (h : (yO s counts n i)[c.toNat]! = false) (hn : c.toNat < n) (h0 : 0 ≤ c) (hi : i = s.qg.length) (hc : c = (jg s : Int) - 1 - j) : qZ s counts u (j + 1) = qZ s counts u j := by
  rw [meltsL_get hn, show ((c.toNat : Nat) : Int) = c by omega] at h
  exact meltDown_no' h hi hc
theorem Qp {n K : Nat} {f : Nat → Nat → Int} {B : Int} {b : List (List Int)} {al : List Bool} (h : Ent (n + 1) K f B b) (hK : K ≤ 8) (hn : n ≤ 6) (ha : al.length = n) :
    (⟨al, b.take n, b[n]!⟩ : qQ).qh.length ≤ 1000000 ∧ (⟨al, b.take n, b[n]!⟩ : qQ).ql.length ≤ 1000000 ∧ (⟨al, b.take n, b[n]!⟩ : qQ).qp.length ≤ 1000000 ∧
      ∀ j, j < (⟨al, b.take n, b[n]!⟩ : qQ).qp.length → ((⟨al, b.take n, b[n]!⟩ : qQ).qp[j]!).length ≤ 1000000 := by
  have hl : (b.take n).length = n := by rw [List.length_take, h.sh.1]; omega
  have hr := h.sh.2 n (by omega)
  refine ⟨?_, ?_, ?_, fun j hj => ?_⟩
  · show al.length ≤ 1000000; omega
  · show (b[n]!).length ≤ 1000000; omega
  · show (b.take n).length ≤ 1000000; omega
  · have hj : j < (b.take n).length := hj
    show ((b.take n)[j]!).length ≤ 1000000
    rw [getElem!_pos (b.take n) j hj, List.getElem_take, ← getElem!_pos b j (by rw [h.sh.1]; omega)]
    have := (h.sh.2 j (by omega)).1; omega

/-! ### Runs by first choices -/
open Classical in
noncomputable def runGo (s : qV) : Nat → Int → qQ → qQ × Int × Int
  | 0, made, u => (u, made, 0)
  | f + 1, made, u => if Halted s u then (u, made, 0) else if (zf s u (xY s u)).2 ≠ 0 then (default, 0, (zf s u (xY s u)).2) else runGo s f (made + 1) (zf s u (xY s u)).1
theorem runGo_halt {s : qV} {f : Nat} {made : Int} {u : qQ} (h : Halted s u) : runGo s f made u = (u, made, 0) := by
  cases f with
  | zero => rfl
  | succ f => rw [runGo, if_pos h]
theorem runGo_end {s : qV} {f : Nat} {made : Int} {u : qQ} (h : f = 0) : runGo s f made u = (u, made, 0) := by subst h; rfl
theorem runGo_bad {s : qV} {f : Nat} {made : Int} {u : qQ} (hf : 0 < f) (h : ¬ Halted s u) (h1 : (zf s u (xY s u)).2 ≠ 0) : runGo s f made u = (default, 0, (zf s u (xY s u)).2) := by
  obtain ⟨g, rfl⟩ : ∃ g, f = g + 1 := ⟨f - 1, by omega⟩
  rw [runGo, if_neg h, if_pos h1]
theorem runGo_go {s : qV} {f g : Nat} {made : Int} {u : qQ} (hf : f = g + 1) (h : ¬ Halted s u) (h1 : (zf s u (xY s u)).2 = 0) : runGo s f made u = runGo s g (made + 1) (zf s u (xY s u)).1 := by
  subst hf
  rw [runGo, if_neg h, if_neg (by simp [h1])]
open Classical in
noncomputable def qx (s : qV) (t : qQ) (steps : Int) : qQ × Int × Int :=
  if ¬ (yP s ∧ zJ s t) then (default, 0, 1) else if ¬ (0 ≤ steps ∧ steps ≤ 200) then (default, 0, 2) else runGo s steps.toNat 0 t
theorem run_1 {s : qV} {t : qQ} {steps : Int} (h : ¬ (yP s ∧ zJ s t)) : qx s t steps = (default, 0, 1) := by rw [qx, if_pos h]
theorem run_2 {s : qV} {t : qQ} {steps : Int} (h : yP s ∧ zJ s t) (h1 : ¬ (0 ≤ steps ∧ steps ≤ 200)) : qx s t steps = (default, 0, 2) := by rw [qx, if_neg (by simpa using h), if_pos h1]
theorem run_0 {s : qV} {t : qQ} {steps : Int} (h : yP s ∧ zJ s t) (h1 : 0 ≤ steps ∧ steps ≤ 200) : qx s t steps = runGo s steps.toNat 0 t := by rw [qx, if_neg (by simpa using h), if_neg (by simpa using h1)]
end Go.Proofs.Ytkmlihdacnfhdaa
