/- Plain laws of packings. No program here. -/
import Derived.Test.YtgjnaocffdhnbaaGreatP5
namespace Go.Proofs.YtgjnaocffdhnbaaGreat
set_option linter.unusedVariables false
set_option linter.unusedSimpArgs false
open Go.Proofs.YtgjnaocffdhnbaaGreat.Tot (tot)
open Go.Proofs.YtgjnaocffdhnbaaGreat.Mark (cnt mrk mkd mkd_mark cnt_mark)

def FullOk (parts : List (List Int)) (rest : List Int) : Prop := ∀ i, i < parts.length → within (parts[i]!) rest = false
def FullTo (parts : List (List Int)) (rest : List Int) (k : Nat) : Prop := ∀ i, i < k → within (parts[i]!) rest = false
theorem FullTo.succ {parts : List (List Int)} {rest : List Int} {k : Nat} (h : FullTo parts rest k) (h1 : within (parts[k]!) rest = false) : FullTo parts rest (k + 1) := fun j hj => by
  by_cases e : j = k
  · subst e; exact h1
  · exact h j (by omega)
open Classical in
/-- All packings of a rest by the parts from one on; f: how many parts are left. -/
noncomputable def packs (parts : List (List Int)) : Nat → Nat → List Int → List (List Int)
  | 0, _, rest => if FullOk parts rest then [[]] else []
  | f + 1, k, rest => (List.range ((zI (parts[k]!) rest).toNat + 1)).flatMap fun (n : Nat) => (packs parts f (k + 1) (jH rest (parts[k]!) (-(n : Int)))).map ((n : Int) :: ·)
/-- The packings by the parts from k on that begin with numbers below m at the part k. -/
noncomputable def zL (parts : List (List Int)) (f k : Nat) (rest : List Int) (m : Nat) : List (List Int) :=
  (List.range m).flatMap fun (n : Nat) => (packs parts f (k + 1) (jH rest (parts[k]!) (-(n : Int)))).map ((n : Int) :: ·)
theorem packs_succ (parts : List (List Int)) (f k : Nat) (rest : List Int) : packs parts (f + 1) k rest = zL parts f k rest ((zI (parts[k]!) rest).toNat + 1) := rfl
theorem packsTo_zero (parts : List (List Int)) (f k : Nat) (rest : List Int) : zL parts f k rest 0 = [] := rfl
theorem packsTo_succ (parts : List (List Int)) (f k : Nat) (rest : List Int) (m : Nat) :
    zL parts f k rest (m + 1) = zL parts f k rest m ++ (packs parts f (k + 1) (jH rest (parts[k]!) (-(m : Int)))).map ((m : Int) :: ·) := by
  simp [zL, List.range_succ]
theorem packs_full {parts : List (List Int)} {k : Nat} {rest : List Int} (h : FullOk parts rest) : packs parts 0 k rest = [[]] := by rw [packs, if_pos h]
theorem packs_none {parts : List (List Int)} {k : Nat} {rest : List Int} (h : ¬ FullOk parts rest) : packs parts 0 k rest = [] := by rw [packs, if_neg h]
/-- What is gathered: no more than 2001 lists. -/
def gath (out more : List (List Int)) : List (List Int) := (out ++ more).take 2001
theorem gath_nil {out : List (List Int)} (h : out.length ≤ 2001) : gath out [] = out := by unfold gath; rw [List.append_nil]; exact List.take_of_length_le h
theorem gath_one {out : List (List Int)} {x : List Int} (h : out.length ≤ 2000) : gath out [x] = out ++ [x] := by
  unfold gath; rw [List.take_of_length_le]; simp; omega
theorem gath_len (out more : List (List Int)) : (gath out more).length ≤ 2001 := by simp [gath]; omega
/-- There is room: nothing has been cut. -/
theorem gath_room {out more : List (List Int)} (h : (gath out more).length ≤ 2000) : gath out more = out ++ more := by
  unfold gath at *
  rw [List.length_take] at h
  exact List.take_of_length_le (by omega)
theorem gath_cat {out a b : List (List Int)} (h : (gath out a).length ≤ 2000) : gath (gath out a) b = gath out (a ++ b) := by
  rw [gath_room h]; simp [gath]
/-- There is no room: more changes nothing. -/
theorem gath_stop {out a b : List (List Int)} (h : ¬ (gath out a).length ≤ 2000) : gath out a = gath out (a ++ b) := by
  unfold gath at *
  rw [List.length_take] at h
  rw [← List.append_assoc]
  exact (List.take_append_of_le_length (l₁ := out ++ a) (l₂ := b) (by omega)).symm
/-- What begins with the same numbers. -/
def begins (b : List Int) (l : List (List Int)) : List (List Int) := l.map (b ++ ·)
theorem begins_cat (b : List Int) (l m : List (List Int)) : begins b (l ++ m) = begins b l ++ begins b m := by simp [begins]
theorem begins_cons (b : List Int) (n : Int) (l : List (List Int)) : begins b (l.map (n :: ·)) = begins (b ++ [n]) l := by simp [begins]
theorem begins_nil (l : List (List Int)) : begins [] l = l := by simp [begins]
theorem begins_one (b : List Int) : begins b [[]] = [b] := by simp [begins]
/-- One number more at a part. -/
theorem gath_step {parts : List (List Int)} {f k m : Nat} {rest b : List Int} {out : List (List Int)} (h : (gath out (begins b (zL parts f k rest m))).length ≤ 2000) :
    gath (gath out (begins b (zL parts f k rest m))) (begins (b ++ [(m : Int)]) (packs parts f (k + 1) (jH rest (parts[k]!) (-(m : Int))))) = gath out (begins b (zL parts f k rest (m + 1))) := by
  rw [gath_cat h, packsTo_succ, begins_cat, begins_cons]
/-- The parts' loop ends for want of room, or since all numbers are through. -/
theorem packsTo_more {parts : List (List Int)} {f k : Nat} {rest : List Int} : ∀ {m M : Nat}, m ≤ M → ∃ more, zL parts f k rest M = zL parts f k rest m ++ more
  | m, 0, h => ⟨[], by obtain rfl : m = 0 := by omega
                       simp⟩
  | m, M + 1, h => by
    by_cases e : m = M + 1
    · subst e; exact ⟨[], by simp⟩
    · obtain ⟨more, hm⟩ := packsTo_more (parts := parts) (f := f) (k := k) (rest := rest) (show m ≤ M by omega)
      exact ⟨_, by rw [packsTo_succ, hm, List.append_assoc]⟩
theorem gath_end {parts : List (List Int)} {f k m : Nat} {rest b : List Int} {out : List (List Int)} (hm : m ≤ (zI (parts[k]!) rest).toNat + 1) (h : m = (zI (parts[k]!) rest).toNat + 1 ∨ ¬ (gath out (begins b (zL parts f k rest m))).length ≤ 2000) :
    gath out (begins b (zL parts f k rest m)) = gath out (begins b (packs parts (f + 1) k rest)) := by
  rw [packs_succ]
  rcases h with h | h
  · rw [h]
  · obtain ⟨more, e⟩ := packsTo_more (parts := parts) (f := f) (k := k) (rest := rest) hm
    rw [e, begins_cat]
    exact gath_stop h
open Classical in
/-- All packings of a bag, with a code. -/
noncomputable def xY (b : List Int) (parts : List (List Int)) : List (List Int) × Int :=
  if Qz b > 16 then ([], 3) else if (packs parts parts.length 0 b).length > 2000 then ([], 3) else (packs parts parts.length 0 b, 0)
theorem gath_all {l : List (List Int)} : (gath [] l).length > 2000 ↔ l.length > 2000 := by unfold gath; rw [List.nil_append, List.length_take]; omega
theorem gath_few {l : List (List Int)} (h : ¬ l.length > 2000) : gath [] l = l := by unfold gath; rw [List.nil_append]; exact List.take_of_length_le (by omega)
/-- Each packing has as many numbers as there are parts. -/
theorem packs_len {parts : List (List Int)} : ∀ {f k : Nat} {rest x : List Int}, x ∈ packs parts f k rest → x.length = f
  | 0, k, rest, x, h => by
    rw [packs] at h
    split at h
    · obtain rfl := List.mem_singleton.1 h; rfl
    · simp at h
  | f + 1, k, rest, x, h => by
    rw [packs, List.mem_flatMap] at h
    obtain ⟨n, _, h⟩ := h
    obtain ⟨y, hy, rfl⟩ := List.mem_map.1 h
    rw [List.length_cons, packs_len hy]
end Go.Proofs.YtgjnaocffdhnbaaGreat
