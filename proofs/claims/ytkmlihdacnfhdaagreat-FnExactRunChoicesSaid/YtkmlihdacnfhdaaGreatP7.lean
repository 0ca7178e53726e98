/- Plain laws of steps, part four: what the program does otherwise than the reference; runs. No program here. -/
import Derived.Test.YtkmlihdacnfhdaaGreatP6
namespace Go.Proofs.YtkmlihdacnfhdaaGreat
open Go.Proofs.YtkmlihdacnfhdaaGreat.Tot (tot)

def minus (k : Nat) : List Int := (List.range 6).map fun j => if j < k then -1 else 0
theorem minus_len (k : Nat) : (minus k).length = 6 := by simp [minus]
theorem minus_get {k j : Nat} (h : j < 6) : (minus k)[j]! = if j < k then -1 else 0 := by
  rw [getElem!_pos (minus k) j (by rw [minus_len]; exact h)]; simp [minus]
theorem minus_set {k : Nat} (h : k < 6) : (minus k).set k (-1) = minus (k + 1) := by
  refine ext_get (by simp [minus_len]) fun p hp => ?_
  rw [List.length_set, minus_len] at hp
  rw [getset (by rw [minus_len]; exact h), minus_get hp, minus_get hp]
  by_cases e : p = k
  · rw [if_pos e, if_pos (by omega)]
  · rw [if_neg e]
    by_cases h1 : p < k
    · rw [if_pos h1, if_pos (by omega)]
    · rw [if_neg h1, if_neg (by omega)]
theorem minus_six {k : Nat} (h : k = 6) (s : qX) (t : qU) : minus k = bests s t (-1) 6 0 := by
  subst h
  rw [← bests_zero]; rfl
theorem appl_yes {s : qX} {t : qU} {i k n : Nat} {z : Int} (hk : k = s.qg.length) (hi : i < s.qg.length) (hz : z ≤ (s.qg[i]!).zh) (hc : (s.qg[i]!).qy.toNat < n) (h1 : (s.qg[i]!).zh = (bests s t z n k)[(s.qg[i]!).qy.toNat]!) (h2 : EnOk s t (s.qg[i]!)) : Appl s t i := by
  rw [bests_get hc, hk] at h1
  exact (appl_iff hi hz).2 ⟨h2, h1⟩
theorem appl_no {s : qX} {t : qU} {i k n : Nat} {z : Int} (hk : k = s.qg.length) (hi : i < s.qg.length) (hz : z ≤ (s.qg[i]!).zh) (hc : (s.qg[i]!).qy.toNat < n) (h1 : (s.qg[i]!).zh ≠ (bests s t z n k)[(s.qg[i]!).qy.toNat]!) : ¬ Appl s t i := fun h => by
  rw [bests_get hc, hk] at h1
  exact h1 ((appl_iff hi hz).1 h).2
theorem appls_halt {s : qX} {t : qU} : (appls s t).length = 0 ↔ Halted s t := by
  constructor
  · intro h j hj ha
    have : (j : Int) ∈ appls s t := mem_applL.2 ⟨Int.natCast_nonneg j, by simpa using hj, by simpa using ha⟩
    rw [List.length_eq_zero_iff.1 h] at this; cases this
  · intro h
    rw [List.length_eq_zero_iff]
    apply List.eq_nil_iff_forall_not_mem.2
    intro x hx
    obtain ⟨h0, h1, h2⟩ := mem_applL.1 hx
    exact h _ h1 h2
theorem outPl_in {s : qX} {t : qU} {r : QG} (hs : yE s) (h : 0 ≤ xf s t r.qy) : outPl s t r = (xf s t r.qy).toNat := by
  refine outPl_up fun e => ?_
  rw [e, parentNow_root hs] at h; omega
theorem outPl_out {s : qX} {t : qU} {r : QG} (hs : yE s) (h0 : t.qh[0]! = true) (hc : CellIn s r.qy) (h : ¬ 0 ≤ xf s t r.qy) : outPl s t r = s.qf.length := by
  refine outPl_root ?_
  rcases Int.lt_or_eq_of_le hc.1 with h1 | h1
  · exact absurd (Vw hs h0 h1 hc.2).1 h
  · exact h1.symm
theorem parentNow_lt {s : qX} {t : qU} (hs : yE s) (h0 : t.qh[0]! = true) {c : Int} (hc : CellIn s c) : xf s t c ≤ (s.qf.length : Int) - 1 := by
  rcases Int.lt_or_eq_of_le hc.1 with h1 | h1
  · have := Vw hs h0 h1 hc.2; have := hc.2; omega
  · rw [← h1, parentNow_root hs]; have := hs.2.1; omega
theorem stepBy_ok {s : qX} {t : qU} {counts : List Int} (h : (ve s t counts).2 = 0) : zu s (ve s t counts).1 := by
  by_cases hc : IsCh s t counts
  · rw [stepBy_yes hc] at h ⊢
    unfold stepRes at h ⊢
    by_cases ho : zu s (xe s counts (stepped s t counts) (jr s - 1))
    · rw [told_yes ho]; exact ho
    · rw [told_no ho] at h; cases h
  · rw [stepBy_no hc] at h; cases h
theorem meltsL_1 {s : qX} {counts : List Int} {n k : Nat} (h0 : 0 ≤ (s.qg[k]!).qy) (h : (s.qg[k]!).qy.toNat < n) (h1 : (yQ s counts n k)[(s.qg[k]!).qy.toNat]! = true) : (yQ s counts n k).set (s.qg[k]!).qy.toNat true = yQ s counts n (k + 1) :=
  meltsL_set h0 h ⟨fun _ => .inl h1, fun _ => rfl⟩
theorem meltsL_2 {s : qX} {counts : List Int} {n k : Nat} (h0 : 0 ≤ (s.qg[k]!).qy) (h : (s.qg[k]!).qy.toNat < n) (h1 : (yQ s counts n k)[(s.qg[k]!).qy.toNat]! = false) (h2 : ¬ counts[k]! > 0) : (yQ s counts n k).set (s.qg[k]!).qy.toNat false = yQ s counts n (k + 1) :=
  meltsL_set h0 h ⟨fun h => (by cases h), fun h => h.elim (fun h => (ft h h1).elim) fun h => (h2 h.1).elim⟩
theorem meltsL_3 {s : qX} {counts : List Int} {n k : Nat} (h0 : 0 ≤ (s.qg[k]!).qy) (h : (s.qg[k]!).qy.toNat < n) (h1 : (yQ s counts n k)[(s.qg[k]!).qy.toNat]! = false) (h2 : counts[k]! > 0) : (yQ s counts n k).set (s.qg[k]!).qy.toNat (s.qg[k]!).xQ = yQ s counts n (k + 1) :=
  meltsL_set h0 h ⟨fun h => .inr ⟨h2, h⟩, fun h => h.elim (fun h => (ft h h1).elim) fun h => h.2⟩
theorem meltDown_yesL {s : qX} {counts : List Int} {u : qU} {j i n : Nat} {c : Int} (h : (yQ s counts n i)[c.toNat]! = true) (hn : c.toNat < n) (h0 : 0 ≤ c) (hi : i = s.qg.length) (hc : c = (jr s : Int) - 1 - j) : xe s counts u (j + 1) = melted s (xe s counts u j) c := by
  rw [meltsL_get hn, show ((c.toNat : Nat) : Int) = c by omega] at h
  exact QC h hi hc
theorem meltDown_noL {s : qX} {counts : List Int} {u : qU} {j i n : Nat} {c : Int} (h : (yQ s counts n i)[c.toNat]! = false) (hn : c.toNat < n) (h0 : 0 ≤ c) (hi : i = s.qg.length) (hc : c = (jr s : Int) - 1 - j) : xe s counts u (j + 1) = xe s counts u j := by
  rw [meltsL_get hn, show ((c.toNat : Nat) : Int) = c by omega] at h
  exact meltDown_no' h hi hc
theorem Qn {n K : Nat} {f : Nat → Nat → Int} {B : Int} {b : List (List Int)} {al : List Bool} (h : Ent (n + 1) K f B b) (hK : K ≤ 8) (hn : n ≤ 6) (ha : al.length = n) :
    (⟨al, b.take n, b[n]!⟩ : qU).qh.length ≤ 1000000 ∧ (⟨al, b.take n, b[n]!⟩ : qU).ql.length ≤ 1000000 ∧ (⟨al, b.take n, b[n]!⟩ : qU).qp.length ≤ 1000000 ∧
      ∀ j, j < (⟨al, b.take n, b[n]!⟩ : qU).qp.length → ((⟨al, b.take n, b[n]!⟩ : qU).qp[j]!).length ≤ 1000000 := by
  have hl : (b.take n).length = n := by rw [List.length_take, h.sh.1]; omega
  have hr := h.sh.2 n (by omega)
  refine ⟨?_, ?_, ?_, fun j hj => ?_⟩
  · show al.length ≤ 1000000; omega
  · show (b[n]!).length ≤ 1000000; omega
  · show (b.take n).length ≤ 1000000; omega
  · have hj : j < (b.take n).length := hj
    show ((b.take n)[j]!).length ≤ 1000000
    rw [getElem!_pos (b.take n) j hj, List.getElem_take, ← getElem!_pos b j (by rw [h.sh.1]; omega)]
    have := (h.sh.2 j (by omega)).1; omega

/-! ### Runs by first choices -/
end Go.Proofs.YtkmlihdacnfhdaaGreat
