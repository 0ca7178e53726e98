/- Go values in memory read as plain Lean data: the words, and how they last. No program here. -/
import Derived.WalkKit
namespace Go.Proofs.YtfekhnffbngoaaaDoor
set_option linter.unusedVariables false
set_option linter.unusedSimpArgs false
open Go.RowKit

theorem hid {p : Prop} (h : p) : Hid p := h

/-- Block b of w holds the values vs from place off on. -/
def CellsAt (w : World) (b off : Nat) (vs : List Value) : Prop := ∀ i v, vs[i]? = some v → w.cell? ⟨b, off + i, none⟩ = some v

/-- A type of plain data, the number of its cells, and how cells read as such a datum: F are the blocks that are looked into, in order. -/
class GoRep (α : Type) where
  size : Nat
  rep : World → List Nat → List Value → α → Prop
  len : ∀ {w F cs x}, rep w F cs x → cs.length = size
  stay : ∀ {w w' F cs x}, rep w F cs x → (∀ b ∈ F, w'.heap[b]? = w.heap[b]?) → rep w' F cs x
  lt : ∀ {w F cs x}, rep w F cs x → ∀ b ∈ F, b < w.heap.size
  one : ∀ {w F cs x}, rep w F cs x → ∀ u ∈ cs, u.oneCell' = true

section
variable {α : Type} [GoRep α]
open GoRep

/-- The values of all elements of a list, one behind the other. -/
def reps (w : World) : List Nat → List Value → List α → Prop
  | F, vs, [] => F = [] ∧ vs = []
  | F, vs, x :: l => ∃ F1 F2 c1 c2, F = F1 ++ F2 ∧ vs = c1 ++ c2 ∧ rep w F1 c1 x ∧ reps w F2 c2 l

theorem reps_len {w : World} : ∀ {F : List Nat} {vs : List Value} {l : List α}, reps w F vs l → vs.length = l.length * size α
  | _, _, [], ⟨_, h⟩ => by simp [h]
  | _, _, x :: l, ⟨_, _, _, _, _, hv, h1, h2⟩ => by
    rw [hv, List.length_append, GoRep.len h1, reps_len h2, List.length_cons, Nat.add_mul, Nat.one_mul, Nat.add_comm]

theorem reps_stay {w w' : World} : ∀ {F : List Nat} {vs : List Value} {l : List α}, reps w F vs l → (∀ b ∈ F, w'.heap[b]? = w.heap[b]?) → reps w' F vs l
  | _, _, [], h, _ => h
  | _, _, x :: l, ⟨F1, F2, c1, c2, hF, hv, h1, h2⟩, hs => by
    subst hF
    exact ⟨F1, F2, c1, c2, rfl, hv, GoRep.stay h1 (fun b hb => hs b (List.mem_append_left _ hb)), reps_stay h2 (fun b hb => hs b (List.mem_append_right _ hb))⟩

theorem reps_lt {w : World} : ∀ {F : List Nat} {vs : List Value} {l : List α}, reps w F vs l → ∀ b ∈ F, b < w.heap.size
  | _, _, [], ⟨hF, _⟩, b, hb => by simp [hF] at hb
  | _, _, x :: l, ⟨F1, F2, c1, c2, hF, hv, h1, h2⟩, b, hb => by
    subst hF
    rcases List.mem_append.1 hb with h | h
    · exact GoRep.lt h1 b h
    · exact reps_lt h2 b h

theorem reps_cells {w : World} : ∀ {F : List Nat} {vs : List Value} {l : List α}, reps w F vs l → ∀ u ∈ vs, u.oneCell' = true
  | _, _, [], ⟨_, hv⟩, u, hu => by simp [hv] at hu
  | _, _, x :: l, ⟨F1, F2, c1, c2, hF, hv, h1, h2⟩, u, hu => by
    rw [hv] at hu
    rcases List.mem_append.1 hu with h | h
    · exact GoRep.one h1 u h
    · exact reps_cells h2 u h

theorem reps_append {w : World} : ∀ {F G : List Nat} {vs us : List Value} {l m : List α}, reps w F vs l → reps w G us m → reps w (F ++ G) (vs ++ us) (l ++ m)
  | _, _, _, _, [], _, ⟨hF, hv⟩, h => by simpa [hF, hv] using h
  | _, G, _, us, x :: l, m, ⟨F1, F2, c1, c2, hF, hv, h1, h2⟩, h =>
    ⟨F1, F2 ++ G, c1, c2 ++ us, by rw [hF, List.append_assoc], by rw [hv, List.append_assoc], h1, reps_append h2 h⟩

theorem reps_split {w : World} : ∀ {F : List Nat} {vs : List Value} (l : List α) {m : List α}, reps w F vs (l ++ m) →
    ∃ F1 F2 v1 v2, F = F1 ++ F2 ∧ vs = v1 ++ v2 ∧ reps w F1 v1 l ∧ reps w F2 v2 m
  | F, vs, [], m, h => ⟨[], F, [], vs, rfl, rfl, ⟨rfl, rfl⟩, h⟩
  | _, _, x :: l, m, ⟨F1, F2, c1, c2, hF, hv, h1, h2⟩ => by
    obtain ⟨G1, G2, v1, v2, hG, hw, k1, k2⟩ := reps_split l h2
    exact ⟨F1 ++ G1, G2, c1 ++ v1, v2, by rw [hF, hG, List.append_assoc], by rw [hv, hw, List.append_assoc], ⟨F1, G1, c1, v1, rfl, rfl, h1, k1⟩, k2⟩

theorem reps_one {w : World} {F : List Nat} {cs : List Value} {x : α} (h : rep w F cs x) : reps w F cs [x] :=
  ⟨F, [], cs, [], by simp, by simp, h, rfl, rfl⟩

/-- Element k of a list: its blocks, its cells, and where they lie. -/
theorem reps_get {w : World} {F : List Nat} {vs : List Value} {l : List α} (h : reps w F vs l) (k : Nat) (hk : k < l.length) :
    ∃ F1 Fk F2 v1 cs v2, F = F1 ++ Fk ++ F2 ∧ vs = v1 ++ cs ++ v2 ∧ v1.length = k * size α ∧ cs.length = size α ∧ rep w Fk cs l[k] ∧ reps w F1 v1 (l.take k) ∧ reps w F2 v2 (l.drop (k + 1)) := by
  have e : l = l.take k ++ (l[k] :: l.drop (k + 1)) := by rw [← List.drop_eq_getElem_cons hk, List.take_append_drop]
  rw [e] at h
  obtain ⟨F1, F2, v1, v2, hF, hv, h1, Fk, F3, cs, v3, hF', hv', h2, h3⟩ := reps_split _ h
  refine ⟨F1, Fk, F3, v1, cs, v3, by rw [hF, hF', List.append_assoc], by rw [hv, hv', List.append_assoc], ?_, GoRep.len h2, h2, h1, h3⟩
  rw [reps_len h1, List.length_take_of_le (by omega)]

theorem cells_mid {w : World} {b off : Nat} {v1 cs v2 : List Value} (h : CellsAt w b off (v1 ++ cs ++ v2)) : CellsAt w b (off + v1.length) cs := by
  intro i v hv
  have hi : i < cs.length := by
    rcases Nat.lt_or_ge i cs.length with h | h
    · exact h
    · simp [h] at hv
  have := h (v1.length + i) v (by rw [List.append_assoc, List.getElem?_append_right (by omega), Nat.add_sub_cancel_left, List.getElem?_append_left hi, hv])
  rwa [← Nat.add_assoc] at this

theorem cellsAt_stay {w w' : World} {b off : Nat} {vs : List Value} (h : CellsAt w b off vs) (hb : w'.heap[b]? = w.heap[b]?) : CellsAt w' b off vs :=
  fun i v hv => (World.cell?_of_block (a := ⟨b, off + i, none⟩) hb).trans (h i v hv)

/-- A slice that reads as a list. -/
def RepSlice (w : World) (F : List Nat) (cs : List Value) (l : List α) : Prop :=
  ∃ a cap, cs = [.slice a l.length cap] ∧ (l.length ≤ 9223372036854775807 ∧ l.length ≤ cap) ∧ ((l = [] ∧ F = []) ∨ ∃ b off F' vs, a = some ⟨b, off, none⟩ ∧ F = b :: F' ∧ b < w.heap.size ∧ reps w F' vs l ∧ CellsAt w b off vs)

instance : GoRep (List α) where
  size := 1
  rep := RepSlice
  len := by rintro w F cs x ⟨a, cap, rfl, _, _⟩; rfl
  one := by rintro w F cs x ⟨a, cap, rfl, _, _⟩ u hu; simp only [List.mem_singleton] at hu; subst hu; rfl
  stay := by
    rintro w w' F cs x ⟨a, cap, hc, hl, h⟩ hs
    refine ⟨a, cap, hc, hl, ?_⟩
    rcases h with h | ⟨b, off, F', vs, ha, hF, hb, hr, hcells⟩
    · exact Or.inl h
    · subst hF
      have hbb := hs b (List.mem_cons_self ..)
      refine Or.inr ⟨b, off, F', vs, ha, rfl, ?_, reps_stay hr (fun c hc => hs c (List.mem_cons_of_mem _ hc)), cellsAt_stay hcells hbb⟩
      rcases Nat.lt_or_ge b w'.heap.size with h | h
      · exact h
      · rw [Array.getElem?_eq_none h] at hbb
        have := Array.getElem?_eq_some_iff.2 ⟨hb, rfl⟩
        rw [this] at hbb
        cases hbb
  lt := by
    rintro w F cs x ⟨a, cap, hc, hl, h⟩ c hcF
    rcases h with ⟨_, h⟩ | ⟨b, off, F', vs, ha, hF, hb, hr, hcells⟩
    · simp [h] at hcF
    · subst hF
      rcases List.mem_cons.1 hcF with rfl | h
      · exact hb
      · exact reps_lt hr c h
end

instance : GoRep Int where
  size := 1
  rep := fun _ F cs x => F = [] ∧ cs = [.int .i64 x]
  len := by rintro w F cs x ⟨_, rfl⟩; rfl
  one := by rintro w F cs x ⟨_, rfl⟩ u hu; simp only [List.mem_singleton] at hu; subst hu; rfl
  stay := by rintro w w' F cs x h _; exact h
  lt := by rintro w F cs x ⟨rfl, _⟩ b hb; simp at hb

instance : GoRep Bool where
  size := 1
  rep := fun _ F cs x => F = [] ∧ cs = [.bool x]
  len := by rintro w F cs x ⟨_, rfl⟩; rfl
  one := by rintro w F cs x ⟨_, rfl⟩ u hu; simp only [List.mem_singleton] at hu; subst hu; rfl
  stay := by rintro w w' F cs x h _; exact h
  lt := by rintro w F cs x ⟨rfl, _⟩ b hb; simp at hb

/-- What reads as a list of numbers. -/
theorem reps_ints {w : World} : ∀ {F : List Nat} {vs : List Value} {l : List Int}, reps w F vs l → F = [] ∧ vs = l.map (Value.int .i64)
  | _, _, [], ⟨hF, hv⟩ => ⟨hF, hv⟩
  | _, _, x :: l, ⟨F1, F2, c1, c2, hF, hv, h1, h2⟩ => by
    obtain ⟨e1, e2⟩ := reps_ints h2
    obtain ⟨k1, k2⟩ : F1 = [] ∧ c1 = [.int .i64 x] := h1
    subst e1 e2 k1 k2
    exact ⟨hF, hv⟩

theorem reps_of_ints (w : World) : ∀ (l : List Int), reps w [] (l.map (Value.int .i64)) l
  | [] => ⟨rfl, rfl⟩
  | x :: l => ⟨[], [], [.int .i64 x], l.map (Value.int .i64), rfl, rfl, ⟨rfl, rfl⟩, reps_of_ints w l⟩

/-- A value that reads as x. -/
theorem rep_len {α : Type} [GoRep α] {w : World} {F : List Nat} {a : Option Addr} {m c : Nat} {l : List α} (h : GoRep.rep w F [.slice a m c] l) : l.length ≤ 9223372036854775807 ∧ l.length ≤ c := by
  obtain ⟨a', c', hc, h, _⟩ := h
  simp only [List.cons.injEq, Value.slice.injEq, and_true] at hc
  obtain ⟨_, _, rfl⟩ := hc
  exact h
abbrev Is {α : Type} [GoRep α] (w : World) (F : List Nat) (v : Value) (x : α) : Prop := GoRep.rep w F [v] x

/-- A slice of numbers, opened: its cells. -/
theorem open_ints {w : World} {F : List Nat} {v : Value} {l : List Int} (h : Is w F v l) :
    ∃ a cap, v = .slice a l.length cap ∧ (l.length ≤ 9223372036854775807 ∧ l.length ≤ cap) ∧ ((l = [] ∧ F = []) ∨ ∃ b off, a = some ⟨b, off, none⟩ ∧ F = [b] ∧ b < w.heap.size ∧ ∀ k (hk : k < l.length), w.cell? ⟨b, off + k, none⟩ = some (.int .i64 l[k])) := by
  obtain ⟨a, cap, hc, hl, h⟩ := h
  simp only [List.cons.injEq, and_true] at hc
  refine ⟨a, cap, hc, hl, ?_⟩
  rcases h with h | ⟨b, off, F', vs, ha, hF, hb, hr, hcells⟩
  · exact Or.inl h
  · obtain ⟨rfl, rfl⟩ := reps_ints hr
    exact Or.inr ⟨b, off, ha, hF, hb, fun k hk => hcells k _ (by simp [hk])⟩

/-- What the call has not touched: all that was there is as it was. -/
abbrev Ext (w w' : World) : Prop := Below w.heap.size w w'

theorem Ext.trans' {a b c : World} (h : Ext a b) (k : Ext b c) : Ext a c := h.trans (k.mono h.size)

theorem stay_ext {α : Type} [GoRep α] {w w' : World} {F : List Nat} {cs : List Value} {x : α} (h : GoRep.rep w F cs x) (e : Ext w w') : GoRep.rep w' F cs x :=
  GoRep.stay h (fun b hb => e.block b (GoRep.lt h b hb))
end Go.Proofs.YtfekhnffbngoaaaDoor
