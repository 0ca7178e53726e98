/- Writes into memory that came in, or that a call has made: what stays. No program here. -/
import Derived.Test.YtfekhnffbngoaaaDoorA
import Derived.Test.YtfekhnffbngoaaaDoorP0
namespace Go.Proofs.YtfekhnffbngoaaaDoor
set_option linter.unusedVariables false
set_option linter.unusedSimpArgs false
open Go.Proofs.YtfekhnffbngoaaaDoor.Tot (tot)
open Go.RowKit

/-- The world is as it was, but for the blocks F and for new ones. -/
structure Chg (F : List Nat) (w w' : World) : Prop where
  os : w'.os = w.os
  tape : w'.tape = w.tape
  output : w'.output = w.output
  size : w.heap.size ≤ w'.heap.size
  block : ∀ k, k < w.heap.size → k ∉ F → w'.heap[k]? = w.heap[k]?

theorem Chg.refl (F : List Nat) (w : World) : Chg F w w := ⟨rfl, rfl, rfl, Nat.le_refl _, fun _ _ _ => rfl⟩
theorem Chg.mono {F G : List Nat} {w w' : World} (h : Chg F w w') (hs : ∀ b ∈ F, b ∈ G) : Chg G w w' := ⟨h.os, h.tape, h.output, h.size, fun k hk hn => h.block k hk fun hb => hn (hs k hb)⟩
theorem Chg.trans {F : List Nat} {a b c : World} (h : Chg F a b) (k : Chg F b c) : Chg F a c :=
  ⟨k.os.trans h.os, k.tape.trans h.tape, k.output.trans h.output, Nat.le_trans h.size k.size, fun i hi hn => (k.block i (Nat.lt_of_lt_of_le hi h.size) hn).trans (h.block i hi hn)⟩
theorem Chg.ofExt {F : List Nat} {w w' : World} (h : Ext w w') : Chg F w w' := ⟨h.os, h.tape, h.output, h.size, fun k hk _ => h.block k hk⟩
theorem Chg.toExt {F : List Nat} {W w w' : World} (h : Chg F w w') (e : Ext W w) (hF : ∀ b ∈ F, W.heap.size ≤ b) : Ext W w' :=
  ⟨h.os.trans e.os, h.tape.trans e.tape, h.output.trans e.output, Nat.le_trans e.size h.size, fun k hk =>
    (h.block k (Nat.lt_of_lt_of_le hk e.size) fun hb => absurd (hF k hb) (by omega)).trans (e.block k hk)⟩

theorem Chg.rebase {F : List Nat} {W w w' : World} (h : Ext W w) (e : Chg F w w') : ∃ W', Chg F W W' ∧ W'.heap.size = W.heap.size ∧ Ext W' w' := by
  refine ⟨{ W with heap := W.heap.mapIdx fun i o => if i ∈ F then (w'.heap[i]?).getD o else o }, ⟨rfl, rfl, rfl, by simp, fun k hk hn => ?_⟩, by simp, ⟨e.os.trans h.os, e.tape.trans h.tape, e.output.trans h.output, ?_, fun k hk => ?_⟩⟩
  · simp [hk, hn]
  · simpa using Nat.le_trans h.size e.size
  · have hk' : k < W.heap.size := by simpa using hk
    by_cases hF : k ∈ F
    · have h2 : k < w'.heap.size := Nat.lt_of_lt_of_le hk' (Nat.le_trans h.size e.size)
      simp [hk', hF, h2]
    · have h1 := (e.block k (Nat.lt_of_lt_of_le hk' h.size) hF).trans (h.block k hk')
      rw [h1]
      simp [hk', hF]

section
variable {W w w' : World} {ps : List Prv} {Γ : List Fact}

/-- Blocks turn that are not of the call's own; these facts look at others. -/
theorem St.chg {F : List Nat} (H : St W w ps Γ) (e : Chg F w w') (hF : ∀ b ∈ F, ∀ i, blkAt ps i ≠ some b) (Δ : List Fact) (hΔ : ∀ f ∈ Δ, f ∈ Γ ∧ ∀ b ∈ f.F, b ∉ F) :
    ∃ W', Chg F W W' ∧ St W' w' ps Δ := by
  obtain ⟨W', h1, h2, h3⟩ := Chg.rebase H.base e
  refine ⟨W', h1, h3, fun p hp => ?_, H.dist, fun f hf => ?_⟩
  · rw [h2]
    refine (H.has p hp).stay fun b hb => e.block b ((H.has p hp).lt hb).2 fun hbF => ?_
    obtain ⟨i, hi⟩ := List.getElem?_of_mem hp
    exact hF b hbF i (by simp [blkAt, hi, hb])
  · obtain ⟨hΓ, hd⟩ := hΔ f hf
    exact ⟨f.stay w w' (H.facts f hΓ).1 fun b hb => e.block b ((H.facts f hΓ).2 b hb).1 (hd b hb),
      fun b hb => ⟨Nat.lt_of_lt_of_le ((H.facts f hΓ).2 b hb).1 e.size, ((H.facts f hΓ).2 b hb).2⟩⟩
/-- The same, of blocks that were not there at the start. -/
theorem St.chgNew {F : List Nat} (H : St W w ps Γ) (e : Chg F w w') (hF : ∀ b ∈ F, ∀ i, blkAt ps i ≠ some b) (hN : ∀ b ∈ F, W.heap.size ≤ b) (Δ : List Fact) (hΔ : ∀ f ∈ Δ, f ∈ Γ ∧ ∀ b ∈ f.F, b ∉ F) :
    St W w' ps Δ := by
  refine ⟨e.toExt H.base hN, fun p hp => ?_, H.dist, fun f hf => ?_⟩
  · refine (H.has p hp).stay fun b hb => e.block b ((H.has p hp).lt hb).2 fun hbF => ?_
    obtain ⟨i, hi⟩ := List.getElem?_of_mem hp
    exact hF b hbF i (by simp [blkAt, hi, hb])
  · obtain ⟨hΓ, hd⟩ := hΔ f hf
    exact ⟨f.stay w w' (H.facts f hΓ).1 fun b hb => e.block b ((H.facts f hΓ).2 b hb).1 (hd b hb),
      fun b hb => ⟨Nat.lt_of_lt_of_le ((H.facts f hΓ).2 b hb).1 e.size, ((H.facts f hΓ).2 b hb).2⟩⟩

theorem flat_disj {L : List (List Nat)} (h : L.flatten.Nodup) {i j : Nat} (hij : i ≠ j) {A B : List Nat} (hi : L[i]? = some A) (hj : L[j]? = some B) : ∀ b ∈ A, b ∉ B := by
  have hp := (List.pairwise_flatten.1 h).2
  rw [List.pairwise_iff_getElem] at hp
  obtain ⟨hi', rfl⟩ := List.getElem?_eq_some_iff.1 hi
  obtain ⟨hj', rfl⟩ := List.getElem?_eq_some_iff.1 hj
  intro b hb hb'
  rcases Nat.lt_or_ge i j with h1 | h1
  · exact hp i j hi' hj' h1 b hb b hb' rfl
  · exact hp j i hj' hi' (by omega) b hb' b hb rfl

/-- One of facts that share no block turns. -/
theorem St.chgAt (H : St W w ps Γ) (N : (Γ.map Fact.F).flatten.Nodup) (i : Nat) {f : Fact} (hf : Γ[i]? = some f) (f' : Fact) (hF : f'.F = f.F) (e : Chg f.F w w') (h' : f'.φ w') :
    ∃ W', Chg f.F W W' ∧ St W' w' ps (Γ.set i f') := by
  have hmem := List.mem_of_getElem? hf
  obtain ⟨W', h1, h2⟩ := H.chg e (fun b hb => ((H.facts f hmem).2 b hb).2) (Γ.eraseIdx i) (fun g hg => by
    obtain ⟨j, hj, hgj⟩ := List.mem_eraseIdx_iff_getElem?.1 hg
    exact ⟨List.mem_of_getElem? hgj, flat_disj N hj (by simp [hgj]) (by simp [hf])⟩)
  have h3 := h2.add f' h' (fun b hb => by
    rw [hF] at hb
    exact ⟨Nat.lt_of_lt_of_le ((H.facts f hmem).2 b hb).1 e.size, ((H.facts f hmem).2 b hb).2⟩)
  refine ⟨W', h1, h3.sub _ fun g hg => ?_⟩
  obtain ⟨j, hj⟩ := List.getElem?_of_mem hg
  by_cases hij : i = j
  · subst hij
    have hlt : i < Γ.length := (List.getElem?_eq_some_iff.1 hf).1
    rw [List.getElem?_set_self hlt] at hj
    simp only [Option.some.injEq] at hj
    subst hj
    exact List.mem_cons_self ..
  · rw [List.getElem?_set_ne hij] at hj
    exact List.mem_cons_of_mem _ (List.mem_eraseIdx_iff_getElem?.2 ⟨j, fun h => hij h.symm, hj⟩)
end

/-! ### A slice without one of its elements -/
section
variable {α : Type} [GoRep α]
def holeF (b o : Nat) (xs1 cs xs2 : List Value) (F1 F2 : List Nat) (l1 l2 : List α) : Fact :=
  ⟨b :: (F1 ++ F2), fun w => CellsAt w b o (xs1 ++ cs ++ xs2) ∧ reps w F1 xs1 l1 ∧ reps w F2 xs2 l2 ∧ FreeAll w (b :: (F1 ++ F2)),
    fun _ _ h hs => ⟨cellsAt_stay h.1 (hs b (by simp)), reps_stay h.2.1 (fun b hb => hs b (by simp [hb])), reps_stay h.2.2.1 (fun b hb => hs b (by simp [hb])), h.2.2.2.stay hs⟩⟩

theorem reps_at [Inhabited α] {w : World} : ∀ {F : List Nat} {vs : List Value} {l : List α} (_ : reps w F vs l) (k : Nat) (_ : k < l.length),
    ∃ F1 Fk F2 v1 ck v2, F = F1 ++ Fk ++ F2 ∧ vs = v1 ++ ck ++ v2 ∧ reps w F1 v1 (l.take k) ∧ GoRep.rep w Fk ck (l[k]!) ∧ reps w F2 v2 (l.drop (k + 1))
  | _, _, [], _, k, hk => by simp at hk
  | _, _, x :: l, ⟨F1, F2, c1, c2, hF, hv, h1, h2⟩, 0, _ => ⟨[], F1, F2, [], c1, c2, by simpa using hF, by simpa using hv, ⟨rfl, rfl⟩, by simpa using h1, by simpa using h2⟩
  | _, _, x :: l, ⟨F1, F2, c1, c2, hF, hv, h1, h2⟩, k + 1, hk => by
    obtain ⟨G1, Gk, G2, v1, ck, v2, e1, e2, r1, r2, r3⟩ := reps_at h2 k (by simpa using hk)
    subst hF hv e1 e2
    exact ⟨F1 ++ G1, Gk, G2, c1 ++ v1, ck, v2, by simp, by simp, ⟨F1, G1, c1, v1, rfl, rfl, h1, r1⟩, by simpa using r2, by simpa using r3⟩

variable {W w : World} {ps : List Prv} {Γ : List Fact}
theorem St.openAt [Inhabited α] {F : List Nat} {b o m c : Nat} {l : List α} (H : St W w ps (isF true F (.slice (some ⟨b, o, none⟩) m c) l :: Γ)) (k : Nat) (hk : k < l.length) :
    ∃ cs xs1 xs2 F1 Fk F2, F = b :: (F1 ++ Fk ++ F2) ∧ xs1.length = k * GoRep.size α ∧ GoRep.rep w Fk cs (l[k]!) ∧ FreeAll w Fk ∧ (∀ x ∈ Fk, x < w.heap.size ∧ ∀ i, blkAt ps i ≠ some x) ∧
      St W w ps (holeF b o xs1 cs xs2 F1 F2 (l.take k) (l.drop (k + 1)) :: Γ) := by
  obtain ⟨⟨a, cap, hc, _, hrest⟩, hfr⟩ := H.get 0 rfl
  rcases hrest with ⟨rfl, _⟩ | ⟨b', off, F', vs, ha, hFF, hb, hr, hcells⟩
  · simp at hk
  simp only [List.cons.injEq, Value.slice.injEq, and_true] at hc
  obtain ⟨hab, _, _⟩ := hc
  rw [ha] at hab
  simp only [Option.some.injEq, Addr.mk.injEq, and_true] at hab
  obtain ⟨rfl, rfl⟩ := hab
  obtain ⟨F1, Fk, F2, v1, ck, v2, e1, e2, r1, r2, r3⟩ := reps_at hr k hk
  subst hFF e1 e2
  have hall := (H.facts _ (List.mem_cons_self ..)).2
  refine ⟨ck, v1, v2, F1, Fk, F2, rfl, ?_, r2, (hfr rfl).sub (by intro x hx; simp [hx]), fun x hx => hall x (by simp [isF, hx]), ?_⟩
  · have := reps_len r1
    rw [this, List.length_take, Nat.min_eq_left (by omega)]
  · refine (H.sub Γ (fun f hf => List.mem_cons_of_mem _ hf)).add _ ⟨hcells, r1, r3, (hfr rfl).sub ?_⟩ fun x hx => hall x ?_
    · intro x hx
      simp only [List.mem_cons, List.mem_append] at hx ⊢
      rcases hx with h | h | h <;> simp [h]
    · simp only [holeF, isF, List.mem_cons, List.mem_append] at hx ⊢
      rcases hx with h | h | h <;> simp [h]

theorem St.closeAt {b o m c : Nat} {xs1 cs xs2 : List Value} {F1 Fk F2 : List Nat} {l1 l2 : List α} {y : α} (H : St W w ps (holeF b o xs1 cs xs2 F1 F2 l1 l2 :: Γ))
    (hr : GoRep.rep w Fk cs y) (hfr : FreeAll w Fk) (hlt : ∀ x ∈ Fk, x < w.heap.size ∧ ∀ i, blkAt ps i ≠ some x) (l : List α) (hl : l1 ++ [y] ++ l2 = l) (hm : l.length = m) (hx : l.length ≤ 9223372036854775807 ∧ l.length ≤ c) :
    St W w ps [isF true (b :: (F1 ++ Fk ++ F2)) (.slice (some ⟨b, o, none⟩) m c) l] := by
  obtain ⟨h1, h2, h3, h4⟩ := H.get 0 rfl
  have hall := (H.facts _ (List.mem_cons_self ..)).2
  subst hl hm
  refine (H.sub [] (by simp)).add _ ⟨⟨some ⟨b, o, none⟩, c, rfl, hx, Or.inr ⟨b, o, F1 ++ Fk ++ F2, xs1 ++ cs ++ xs2, rfl, rfl, (hall b (by simp [holeF])).1, reps_append (reps_append h2 (reps_one hr)) h3, h1⟩⟩, fun _ => ?_⟩ ?_
  · intro x hx
    simp only [List.mem_cons, List.mem_append] at hx
    rcases hx with h | (h | h) | h
    · exact h4 x (by simp [h])
    · exact h4 x (by simp [h])
    · exact hfr x h
    · exact h4 x (by simp [h])
  · intro x hx
    simp only [isF, List.mem_cons, List.mem_append] at hx
    rcases hx with h | (h | h) | h
    · exact hall x (by simp [holeF, h])
    · exact hall x (by simp [holeF, h])
    · exact hlt x h
    · exact hall x (by simp [holeF, h])

theorem St.holeCell {b o : Nat} {xs1 cs xs2 : List Value} {F1 F2 : List Nat} {l1 l2 : List α} (H : St W w ps (holeF b o xs1 cs xs2 F1 F2 l1 l2 :: Γ)) (p j : Nat) (hp : xs1.length = p) {v : Value} (hv : cs[j]? = some v) :
    w.cell? ⟨b, o + p + j, none⟩ = some v := by
  subst hp
  have h := (H.get 0 rfl).1
  rw [Nat.add_assoc]
  refine h (xs1.length + j) v ?_
  rw [List.append_assoc, List.getElem?_append_right (by omega), Nat.add_sub_cancel_left]
  obtain ⟨hj, _⟩ := List.getElem?_eq_some_iff.1 hv
  rw [List.getElem?_append_left hj, hv]

theorem cell_setRow {w : World} {b : Nat} {c0 : Array Value} {t : TypeId} (h : w.heap[b]? = some (.cells c0 t (0, 0))) (c1 : Array Value) (i : Nat) : (w.setRow b c1).cell? ⟨b, i, none⟩ = c1[i]? := by
  simp [World.cell?, World.setRow, Array.getElem?_modify, h]
theorem cell_row {w : World} {b : Nat} {c0 : Array Value} {t : TypeId} (h : w.heap[b]? = some (.cells c0 t (0, 0))) (i : Nat) : w.cell? ⟨b, i, none⟩ = c0[i]? := by
  simp [World.cell?, h]

variable {P : Program} {Q : Exit → Act → World → Prop} {n : Nat} {ρ : Env} {d : Nat} {ty : TypeId} {pos : String} {af : Array Edge} {K : Env → World → Prop}

theorem o_storeHole {t : TypeId} {x y : Operand} {b o : Nat} {xs1 cs xs2 : List Value} {F1 F2 : List Nat} {l1 l2 : List α} (H : St W w ps (holeF b o xs1 cs xs2 F1 F2 l1 l2 :: Γ))
    (N : ((holeF b o xs1 cs xs2 F1 F2 l1 l2 :: Γ).map Fact.F).flatten.Nodup) (p j : Nat) (hp : xs1.length = p) (v : Value)
    (hs : ∀ w, (Go.sizeOf t).run P w = .ok 1 w) (hx : ev n ρ x = .pointer (some ⟨b, o + p + j, none⟩)) (hy : ev n ρ y = v) (h1 : v.oneCell' = true) (hj : j < cs.length)
    (k : ∀ w' W', Chg (b :: (F1 ++ F2)) W W' → St W' w' ps (holeF b o xs1 (cs.set j v) xs2 F1 F2 l1 l2 :: Γ) → K ρ w') :
    OW P Q ⟨none, .store t x y, ty, pos, af, none⟩ n ρ w K := by
  have hc : v.cells = #[v] := by cases v <;> first | rfl | (simp [Value.oneCell'] at h1)
  obtain ⟨g1, g2, g3, g4⟩ := H.get 0 rfl
  obtain ⟨c0, tb, hb⟩ := g4 b (by simp)
  have hcell : c0[o + p + j]? = some (cs[j]'hj) := by
    rw [← cell_row hb]
    exact H.holeCell p j hp (by simp [hj])
  have ho : o + p + j < c0.size := by
    rcases Nat.lt_or_ge (o + p + j) c0.size with h | h
    · exact h
    · rw [Array.getElem?_eq_none h] at hcell; cases hcell
  have hr := run_storeCells_at P b (o + p + j) tb v.cells.toList 0 c0 w hb (by simp [hc]; omega) (by simp [hc, h1])
  have hrow : ∃ c1 : Array Value, (∀ i, c1[i]? = if i = o + p + j then some v else c0[i]?) ∧ (execOp (ev n ρ) ⟨none, .store t x y, ty, pos, af, none⟩).run P w = .ok .skip (w.setRow b c1) := by
    refine ⟨(c0.toList.set (o + p + j) v).toArray, fun i => ?_, ?_⟩
    · simp only [List.getElem?_toArray, List.getElem?_set, Array.length_toList]
      by_cases h : o + p + j = i
      · subst h; simp [ho]
      · rw [if_neg h, if_neg (fun h' => h h'.symm), Array.getElem?_toList]
    · simp only [hc, Nat.add_zero, List.length_cons, List.length_nil, Nat.zero_add] at hr
      rw [show c0.toList.take (o + p + j) ++ [v] ++ c0.toList.drop (o + p + j + 1) = c0.toList.set (o + p + j) v by rw [List.set_eq_take_append_cons_drop, if_pos (by simpa using ho)]; simp] at hr
      simp [execOp, hx, hy, Instr.storeAt, Instr.sureAddr, storeVar, hs, hc, hr]
  obtain ⟨c1, hc1, hrun⟩ := hrow
  have e : Chg (b :: (F1 ++ F2)) w (w.setRow b c1) := by
    refine ⟨rfl, rfl, rfl, by simp [World.setRow], fun i _ hi => ?_⟩
    have : b ≠ i := fun h => hi (by simp [h])
    simp [World.setRow, Array.getElem?_modify, this]
  have hnd : b ∉ F1 ++ F2 := by
    have := (List.pairwise_flatten.1 N).1 (b :: (F1 ++ F2)) (by simp [holeF])
    exact (List.nodup_cons.1 this).1
  have hstay : ∀ i ∈ F1 ++ F2, (w.setRow b c1).heap[i]? = w.heap[i]? := fun i hi => by
    have : b ≠ i := fun h => hnd (h ▸ hi)
    simp [World.setRow, Array.getElem?_modify, this]
  have hA : CellsAt (w.setRow b c1) b o (xs1 ++ cs.set j v ++ xs2) := by
    intro i u hu
    rw [cell_setRow hb, hc1]
    subst hp
    by_cases hi : i = xs1.length + j
    · subst hi
      rw [if_pos (by omega)]
      rw [List.append_assoc, List.getElem?_append_right (by omega), Nat.add_sub_cancel_left, List.getElem?_append_left (by simpa using hj), List.getElem?_set_self hj] at hu
      exact hu
    · rw [if_neg (by omega), ← cell_row hb]
      refine g1 i u ?_
      rw [← hu]
      rcases Nat.lt_or_ge i xs1.length with h2 | h2
      · rw [List.append_assoc, List.append_assoc, List.getElem?_append_left h2, List.getElem?_append_left h2]
      · rw [List.append_assoc, List.append_assoc, List.getElem?_append_right h2, List.getElem?_append_right h2]
        rcases Nat.lt_or_ge (i - xs1.length) cs.length with h3 | h3
        · rw [List.getElem?_append_left h3, List.getElem?_append_left (by simpa using h3), List.getElem?_set_ne (by omega)]
        · rw [List.getElem?_append_right h3, List.getElem?_append_right (by simpa using h3), List.length_set]
  have hB : FreeAll (w.setRow b c1) (b :: (F1 ++ F2)) := by
    intro i hi
    by_cases hbi : b = i
    · subst hbi
      exact ⟨c1, tb, by simp [World.setRow, Array.getElem?_modify, hb]⟩
    · obtain ⟨c2, t2, h2⟩ := g4 i hi
      exact ⟨c2, t2, by simp [World.setRow, Array.getElem?_modify, hbi, h2]⟩
  obtain ⟨W', hW, H'⟩ := H.chgAt N 0 rfl (holeF b o xs1 (cs.set j v) xs2 F1 F2 l1 l2) rfl e ⟨hA, reps_stay g2 (fun i hi => hstay i (by simp [hi])), reps_stay g3 (fun i hi => hstay i (by simp [hi])), hB⟩
  exact o_unit hrun (k _ _ hW H')
end

/-! ### Calls that write -/
def RetM (R : Value → World → Prop) (F : List Nat) (w : World) (e : Ending) (w' : World) : Prop := ∃ v, e = .returned v ∧ R v w' ∧ Chg F w w'
section
variable {P : Program} {Q : Exit → Act → World → Prop} {n : Nat} {ρ : Env} {w : World} {d : Nat} {ty : TypeId} {pos : String} {af : Array Edge} {K : Env → World → Prop}
theorem o_callM {x : Operand} {xs : Array Operand} {ts : Array TypeId} {f : FuncId} {fst caps : Array Value} {R : Value → World → Prop} {F : List Nat} (args : Array Value) (hv : ev n ρ x = .func (.func f) fst caps)
    (hargs : fst.toList ++ xs.toList.map (ev n ρ) ++ caps.toList = args.toList) (hf : ∀ args w, (callFunc f args).run P w = .ok (.enter f args) w)
    (hc : Calls P f args w (RetM R F w)) (k : ∀ v w', R v w' → Chg F w w' → K (upd ρ d v) w') :
    OW P Q ⟨some d, .call ⟨.value x, xs, ts⟩, ty, pos, af, none⟩ n ρ w K := by
  have hr : (execOp (ev n ρ) ⟨some d, .call ⟨.value x, xs, ts⟩, ty, pos, af, none⟩).run P w = .ok (.enter f args) w := by
    have e : fst ++ xs.map (ev n ρ) ++ caps = args := by apply Array.toList_inj.1; rw [← hargs]; simp
    simp [execOp, resolve, Deferred.ofValue, hv, invoke, hf, e]
  unfold OW
  intro K' hK
  unfold Oper.wp
  rw [mk_eval, hr]
  refine hc.mono fun e w' ⟨v, he, hR, hE⟩ => ?_
  subst he
  show K' ((mk n ρ).put (some d) v) w'
  rw [mk_put]
  exact hK _ _ (k v w' hR hE)
theorem o_rem {x y : Operand} {t u : TypeId} (a b : Int) (hx : ev n ρ x = .int .i64 a) (hy : ev n ρ y = .int .i64 b) (h0 : 0 ≤ a) (h1 : 0 < b) (h2 : a ≤ 9223372036854775807) (k : K (upd ρ d (.int .i64 (a % b))) w) :
    OW P Q ⟨some d, .binOp .rem t x y u, ty, pos, af, none⟩ n ρ w K :=
  o_val _ (by
    have e : a.tmod b = a % b := Int.tmod_eq_emod_of_nonneg h0
    simp [execOp, hx, hy, eqGuard, binOp, Op.intDiv, show b ≠ 0 by omega, e]) k
end

/-! ### Numbers that count what is marked -/
class Mark (α : Type) where
  cnt : α → Nat
  mrk : α → Int → α
  mkd : α → Int → Prop
  mkd_mark : ∀ x k, mkd (mrk x k) k
  cnt_mark : ∀ x k, cnt (mrk x k) = cnt x
open Go.Proofs.YtfekhnffbngoaaaDoor.Mark (cnt mrk mkd mkd_mark cnt_mark)
instance : Mark Int := ⟨fun _ => 1, fun _ k => k, fun x k => x = k, fun _ _ => rfl, fun _ _ => rfl⟩
instance : Mark Bool := ⟨fun _ => 1, fun _ k => k % 3 == 0, fun x k => x = (k % 3 == 0), fun _ _ => rfl, fun _ _ => rfl⟩
section
variable {α : Type} [Mark α] [Inhabited α]
def cntTo (l : List α) : Nat → Nat
  | 0 => 0
  | i + 1 => cntTo l i + cnt (l[i]!)
theorem cntTo_succ (l : List α) (i : Nat) : cntTo l (i + 1) = cntTo l i + cnt (l[i]!) := rfl
def markTo (l : List α) (k : Int) (i : Nat) : List α := (List.range i).map (fun j => mrk (l[j]!) (k + (cntTo l j : Nat))) ++ l.drop i
theorem markTo_len (l : List α) (k : Int) {i : Nat} (h : i ≤ l.length) : (markTo l k i).length = l.length := by simp [markTo]; omega
theorem markTo_zero (l : List α) (k : Int) : markTo l k 0 = l := by simp [markTo]
theorem markTo_get (l : List α) (k : Int) {i : Nat} (h : i < l.length) : (markTo l k i)[i]! = l[i]! := by
  rw [getElem!_pos _ i (by rw [markTo_len l k (by omega)]; exact h), getElem!_pos l i h]
  simp [markTo, List.getElem_append]
theorem markTo_step (l : List α) (k : Int) {i : Nat} (h : i < l.length) : (markTo l k i).take i ++ [mrk (l[i]!) (k + (cntTo l i : Nat))] ++ (markTo l k i).drop (i + 1) = markTo l k (i + 1) := by
  have h1 : (markTo l k i).take i = (List.range i).map (fun j => mrk (l[j]!) (k + (cntTo l j : Nat))) := by
    rw [markTo, List.take_append_of_le_length (by simp), List.take_of_length_le (by simp)]
  have h2 : (markTo l k i).drop (i + 1) = l.drop (i + 1) := by
    rw [markTo, List.drop_append, List.drop_of_length_le (by simp)]
    simp
  rw [h1, h2, markTo, List.range_succ]
  simp
def markL (l : List α) (k : Int) : List α := markTo l k l.length
theorem markL_get (l : List α) (k : Int) {i : Nat} (h : i < l.length) : (markL l k)[i]! = mrk (l[i]!) (k + (cntTo l i : Nat)) := by
  rw [getElem!_pos _ i (by rw [markL, markTo_len l k (Nat.le_refl _)]; exact h)]
  simp [markL, markTo, List.getElem_append, h]
theorem cntTo_markL (l : List α) (k : Int) : ∀ i, i ≤ l.length → cntTo (markL l k) i = cntTo l i
  | 0, _ => rfl
  | i + 1, h => by rw [cntTo_succ, cntTo_succ, cntTo_markL l k i (by omega), markL_get l k (by omega), cnt_mark]
instance : Mark (List α) where
  cnt l := cntTo l l.length
  mrk := markL
  mkd l k := ∀ i, i < l.length → mkd (l[i]!) (k + (cntTo l i : Nat))
  mkd_mark l k i hi := by
    have hi' : i < l.length := by simpa [markL, markTo] using hi
    rw [markL_get l k hi', cntTo_markL l k i (by omega)]
    exact mkd_mark _ _
  cnt_mark l k := by
    show cntTo (markL l k) (markL l k).length = cntTo l l.length
    rw [show (markL l k).length = l.length from markTo_len l k (Nat.le_refl _), cntTo_markL l k _ (Nat.le_refl _)]
theorem cntTo_mono {l : List α} : ∀ {k m : Nat}, k ≤ m → cntTo l k ≤ cntTo l m
  | k, 0, h => by obtain rfl : k = 0 := by omega
                  exact Nat.le_refl _
  | k, m + 1, h => by
    by_cases e : k = m + 1
    · subst e; exact Nat.le_refl _
    · exact Nat.le_trans (cntTo_mono (by omega : k ≤ m)) (Nat.le_add_right _ _)
theorem cnt_list (l : List α) : cnt l = cntTo l l.length := rfl
theorem cnt_get {l : List α} {k : Nat} (h : k < l.length) : cntTo l k + cnt (l[k]!) ≤ cnt l := by
  have h1 : cntTo l (k + 1) ≤ cntTo l l.length := cntTo_mono h
  rw [cntTo_succ] at h1
  exact h1
theorem mark_len (l : List α) (k : Int) : (mrk l k).length = l.length := markTo_len l k (Nat.le_refl _)
end
theorem nodup_hole {b : Nat} {F1 G F2 : List Nat} (h : (b :: (F1 ++ G ++ F2)).Nodup) : (b :: (F1 ++ F2) ++ G).Nodup := by
  refine (List.Perm.nodup_iff ?_).1 h
  refine List.Perm.cons b ?_
  show (F1 ++ G ++ F2).Perm (F1 ++ F2 ++ G)
  rw [List.append_assoc, List.append_assoc]
  exact List.Perm.append_left F1 List.perm_append_comm
theorem hole_sub (b : Nat) (F1 G F2 : List Nat) : ∀ z ∈ b :: (F1 ++ F2), z ∈ b :: (F1 ++ G ++ F2) := by
  intro z hz
  simp only [List.mem_cons, List.mem_append] at hz ⊢
  rcases hz with h | h | h <;> simp [h]
theorem flat_nodup {L : List (List Nat)} (h : L.flatten.Nodup) (i : Nat) {A : List Nat} (hi : L[i]? = some A) : A.Nodup := (List.pairwise_flatten.1 h).1 A (List.mem_of_getElem? hi)
theorem St.ltOwn {W w : World} {ps : List Prv} {Γ : List Fact} (H : St W w ps Γ) (i : Nat) {f : Fact} (hf : Γ[i]? = some f) : ∀ x ∈ f.F, x < w.heap.size ∧ ∀ i, blkAt ps i ≠ some x := (H.facts f (List.mem_of_getElem? hf)).2
/-- Numbers in a block of the call's own. -/
theorem ints_get {l : List Int} {iv : Int} (h : iv.toNat < l.length) : (l.map (Value.int .i64))[0 + iv.toNat * 1]? = some (.int .i64 (l[iv.toNat]!)) := by
  rw [Nat.zero_add, Nat.mul_one, List.getElem?_map, List.getElem?_eq_getElem h, getElem!_pos l _ h]; rfl
theorem ints_set {l : List Int} {iv v : Int} : (l.map (Value.int .i64)).set (0 + iv.toNat * 1) (.int .i64 v) = (l.set iv.toNat v).map (Value.int .i64) := by
  rw [Nat.zero_add, Nat.mul_one, List.map_set]
theorem ints_lt {l : List Int} {iv : Int} (h : iv.toNat < l.length) : 0 + iv.toNat * 1 < (l.map (Value.int .i64)).length := by simpa using h
theorem ints_zero (n : Nat) : List.replicate n (Value.int .i64 0) = (List.replicate n (0 : Int)).map (Value.int .i64) := by simp
/-! ### The tail of a slice -/
section
variable {P : Program} {Q : Exit → Act → World → Prop} {n : Nat} {ρ : Env} {W w : World} {d : Nat} {ty : TypeId} {pos : String} {af : Array Edge} {K : Env → World → Prop} {ps : List Prv} {Γ : List Fact}
theorem o_tail {α : Type} [GoRep α] {x : Operand} {t e : TypeId} {z : Value} {by' : Nat} {fr : Bool} {F : List Nat} {a : Option Addr} {m c : Nat} {l : List α} (H : St W w ps Γ) (i : Nat) (hf : Γ[i]? = some (isF fr F (.slice a m c) l)) (kk : Nat)
    (hu : P.underlying t = some (.slice e)) (he : TI P e z (GoRep.size α) by') (hx : ev n ρ x = .slice a m c) (hk : kk ≤ l.length)
    (k : ∀ a' G, (∀ b ∈ G, b ∈ F) → St W w ps (isF fr G (.slice a' (l.drop kk).length (c - kk)) (l.drop kk) :: Γ) → K (upd ρ d (.slice a' (l.drop kk).length (c - kk))) w) :
    OW P Q ⟨some d, .slice t x (some (.const (.int .i64 (kk : Int)))) none none, ty, pos, af, none⟩ n ρ w K := by
  obtain ⟨⟨a0, c0, hc, ⟨hl, hcap⟩, h⟩, hfr⟩ := H.get i hf
  simp only [List.cons.injEq, Value.slice.injEq, and_true] at hc
  obtain ⟨rfl, rfl, rfl⟩ := hc
  have hev : ev n ρ (.const (.int .i64 (kk : Int))) = .int .i64 (kk : Int) := rfl
  have hrun : (execOp (ev n ρ) ⟨some d, .slice t x (some (.const (.int .i64 (kk : Int)))) none none, ty, pos, af, none⟩).run P w =
      .ok (.value (.slice (if c = kk then a else a.map (·.add (kk * GoRep.size α))) (l.length - kk) (c - kk))) w := by
    simp [execOp, hx, hev, Instr.sliceAt, Instr.slice, Instr.sliceBounds, Instr.sliceBound, asIntOf, run_underlying hu, he.sizeOf, hk]
  have hlen : (l.drop kk).length = l.length - kk := List.length_drop
  rcases h with ⟨h0, hF⟩ | ⟨b, off, F', vs, ha, hF, hb, hr, hcells⟩
  · refine o_val _ hrun ?_
    rw [← hlen]
    refine k _ [] (by simp) (H.add _ ⟨⟨_, _, rfl, ⟨by omega, by omega⟩, Or.inl ⟨by simp [h0], rfl⟩⟩, fun _ => FreeAll.nil _⟩ (by simp [isF]))
  · subst ha
    rw [← List.take_append_drop kk l] at hr
    obtain ⟨F1, F2, v1, v2, e1, e2, r1, r2⟩ := reps_split _ hr
    have hv1 : v1.length = kk * GoRep.size α := by rw [reps_len r1, List.length_take, Nat.min_eq_left hk]
    have hsub : ∀ z ∈ b :: F2, z ∈ F := by
      intro z hz
      rw [hF, e1]
      simp only [List.mem_cons, List.mem_append] at hz ⊢
      rcases hz with h | h <;> simp [h]
    refine o_val _ hrun ?_
    rw [← hlen]
    by_cases hck : c = kk
    · have hnil : l.drop kk = [] := List.drop_eq_nil_of_le (by omega)
      refine k _ [] (by simp) (H.add _ ⟨⟨_, _, rfl, ⟨by omega, by omega⟩, Or.inl ⟨hnil, rfl⟩⟩, fun _ => FreeAll.nil _⟩ (by simp [isF]))
    · rw [if_neg hck]
      refine k _ (b :: F2) hsub (H.add_sub i hf _ ⟨⟨_, _, rfl, ⟨by omega, by omega⟩, Or.inr ⟨b, off + kk * GoRep.size α, F2, v2, by simp [Addr.add_mid], rfl, hb, r2, ?_⟩⟩, fun e => (hfr e).sub hsub⟩ hsub)
      intro j v hv
      rw [Nat.add_assoc]
      refine hcells (kk * GoRep.size α + j) v ?_
      rw [e2, List.getElem?_append_right (by omega), hv1, Nat.add_sub_cancel_left]
      exact hv
end
end Go.Proofs.YtfekhnffbngoaaaDoor
