/- The state of a walk: what the call owns, what it may read, and what has become of the world. No program here. -/
import Derived.Test.YtfekhnffbngoaaaDoorW
namespace Go.Proofs.YtfekhnffbngoaaaDoor
set_option linter.unusedVariables false
set_option linter.unusedSimpArgs false
open Go.RowKit

/-- What the call owns: a block of its own, whole; or a slice that it has appended to. -/
inductive Prv where
  | box (b : Nat) (cs : List Value) (t : TypeId)
  | row (v : Value) (e : TypeId) (size n : Nat) (xs : List Value)

def Prv.blk : Prv → Option Nat
  | .box b _ _ => some b
  | .row v _ _ _ _ => v.ownBlock

def Prv.ok (base : Nat) (w : World) : Prv → Prop
  | .box b cs t => base ≤ b ∧ w.heap[b]? = some (.cells cs.toArray t (0, 0))
  | .row v e size n xs => w.ownsRow base e size v n xs

theorem Prv.ok.lt {base : Nat} {w : World} {p : Prv} (h : p.ok base w) {b : Nat} (hb : p.blk = some b) : base ≤ b ∧ b < w.heap.size := by
  cases p with
  | box b' cs t =>
    simp only [Prv.blk, Option.some.injEq] at hb
    subst hb
    exact ⟨h.1, (Array.getElem?_eq_some_iff.1 h.2).1⟩
  | row v e size n xs => exact World.ownsRow.lt h b hb

theorem Prv.ok.stay {base : Nat} {w w' : World} {p : Prv} (h : p.ok base w) (hs : ∀ b, p.blk = some b → w'.heap[b]? = w.heap[b]?) : p.ok base w' := by
  cases p with
  | box b cs t => exact ⟨h.1, (hs b rfl).trans h.2⟩
  | row v e size n xs =>
    refine ⟨h.1, ?_⟩
    rcases h.2 with hn | ⟨g, cap, cur, rfl, hb, hg, rest⟩
    · exact Or.inl hn
    · exact Or.inr ⟨g, cap, cur, rfl, hb, (hs g rfl).trans hg, rest⟩

/-- A fact on memory: the blocks that it looks at, and that it lasts while these stay. -/
structure Fact where
  F : List Nat
  φ : World → Prop
  stay : ∀ w w', φ w → (∀ b ∈ F, w'.heap[b]? = w.heap[b]?) → φ w'

def blkAt (ps : List Prv) (i : Nat) : Option Nat := (ps[i]?).bind Prv.blk

structure St (W0 w : World) (ps : List Prv) (Γ : List Fact) : Prop where
  base : Ext W0 w
  has : ∀ p ∈ ps, p.ok W0.heap.size w
  dist : ∀ i j b, blkAt ps i = some b → blkAt ps j = some b → i = j
  facts : ∀ f ∈ Γ, f.φ w ∧ ∀ b ∈ f.F, b < w.heap.size ∧ ∀ i, blkAt ps i ≠ some b

section
variable {W0 w : World} {ps : List Prv} {Γ : List Fact}

theorem St.start (w : World) : St w w [] [] :=
  ⟨Below.refl _ _, by simp, by intro i j b h; simp [blkAt] at h, by simp⟩

theorem blkAt_has (H : St W0 w ps Γ) {i b : Nat} (h : blkAt ps i = some b) : W0.heap.size ≤ b ∧ b < w.heap.size := by
  unfold blkAt at h
  cases hp : ps[i]? with
  | none => simp [hp] at h
  | some p =>
    simp only [hp, Option.bind_some] at h
    exact (H.has p (List.mem_of_getElem? hp)).lt h

theorem St.get (H : St W0 w ps Γ) (i : Nat) {f : Fact} (h : Γ[i]? = some f) : f.φ w := (H.facts f (List.mem_of_getElem? h)).1

/-- One fact more. -/
theorem St.add (H : St W0 w ps Γ) (f : Fact) (h : f.φ w) (hF : ∀ b ∈ f.F, b < w.heap.size ∧ ∀ i, blkAt ps i ≠ some b) : St W0 w ps (f :: Γ) :=
  ⟨H.base, H.has, H.dist, fun g hg => by
    rcases List.mem_cons.1 hg with rfl | hg
    · exact ⟨h, hF⟩
    · exact H.facts g hg⟩

/-- A fact more, on blocks that facts at hand look at. -/
theorem St.add_sub (H : St W0 w ps Γ) (i : Nat) {g : Fact} (hg : Γ[i]? = some g) (f : Fact) (h : f.φ w) (hF : ∀ b ∈ f.F, b ∈ g.F) : St W0 w ps (f :: Γ) :=
  H.add f h fun b hb => (H.facts g (List.mem_of_getElem? hg)).2 b (hF b hb)

/-- Fewer facts. -/
theorem St.sub (H : St W0 w ps Γ) (Δ : List Fact) (h : ∀ f ∈ Δ, f ∈ Γ) : St W0 w ps Δ := ⟨H.base, H.has, H.dist, fun f hf => H.facts f (h f hf)⟩

/-- The world turns, but for at most one thing of the call's own, which is then p'. -/
theorem St.change (H : St W0 w ps Γ) {w' : World} (i : Nat) {p p' : Prv} (hp : ps[i]? = some p)
    (hos : w'.os = w.os) (ht : w'.tape = w.tape) (ho : w'.output = w.output) (hz : w.heap.size ≤ w'.heap.size)
    (hs : ∀ b, b < w.heap.size → p.blk ≠ some b → w'.heap[b]? = w.heap[b]?) (hok : p'.ok W0.heap.size w')
    (hb : p'.blk = p.blk ∨ p'.blk = none ∨ ∃ b, p'.blk = some b ∧ w.heap.size ≤ b) : St W0 w' (ps.set i p') Γ := by
  have hi : i < ps.length := by
    rcases Nat.lt_or_ge i ps.length with h | h
    · exact h
    · simp [h] at hp
  have hbi : blkAt ps i = p.blk := by simp [blkAt, hp]
  have hset : ∀ j, blkAt (ps.set i p') j = if j = i then p'.blk else blkAt ps j := by
    intro j
    unfold blkAt
    by_cases hj : j = i
    · subst hj; simp [hi]
    · rw [List.getElem?_set_ne (Ne.symm hj), if_neg hj]
  have hnew : ∀ j b, j ≠ i → blkAt ps j = some b → p'.blk ≠ some b := by
    intro j b hj hjb he
    rcases hb with h | h | ⟨c, h, hc⟩
    · rw [h, ← hbi] at he; exact hj (H.dist j i b hjb he)
    · rw [h] at he; cases he
    · rw [h] at he
      simp only [Option.some.injEq] at he
      subst he
      have := (blkAt_has H hjb).2
      omega
  refine ⟨⟨hos.trans H.base.os, ht.trans H.base.tape, ho.trans H.base.output, Nat.le_trans H.base.size hz, fun k hk => ?_⟩, ?_, ?_, ?_⟩
  · refine (hs k (Nat.lt_of_lt_of_le hk H.base.size) fun he => ?_).trans (H.base.block k hk)
    rw [← hbi] at he
    have := (blkAt_has H he).1
    omega
  · intro q hq
    obtain ⟨j, hj⟩ := List.getElem?_of_mem hq
    by_cases hji : j = i
    · subst hji
      rw [List.getElem?_set_self hi] at hj
      simp only [Option.some.injEq] at hj
      subst hj
      exact hok
    · rw [List.getElem?_set_ne (Ne.symm hji)] at hj
      have hq' := H.has q (List.mem_of_getElem? hj)
      refine hq'.stay fun b hqb => hs b (hq'.lt hqb).2 fun he => ?_
      rw [← hbi] at he
      exact hji (H.dist j i b (by simp [blkAt, hj, hqb]) he)
  · intro j k b hj hk
    rw [hset] at hj hk
    by_cases h1 : j = i <;> by_cases h2 : k = i
    · rw [h1, h2]
    · rw [if_pos h1] at hj; rw [if_neg h2] at hk; exact absurd hj (hnew k b h2 hk)
    · rw [if_neg h1] at hj; rw [if_pos h2] at hk; exact absurd hk (hnew j b h1 hj)
    · rw [if_neg h1] at hj; rw [if_neg h2] at hk; exact H.dist j k b hj hk
  · intro f hf
    obtain ⟨h1, h2⟩ := H.facts f hf
    refine ⟨f.stay w w' h1 fun b hbF => hs b (h2 b hbF).1 fun he => ?_, fun b hbF => ⟨Nat.lt_of_lt_of_le (h2 b hbF).1 hz, fun j he => ?_⟩⟩
    · rw [← hbi] at he; exact (h2 b hbF).2 i he
    · rw [hset] at he
      by_cases hj : j = i
      · rw [if_pos hj] at he
        rcases hb with h | h | ⟨c, h, hc⟩
        · rw [h, ← hbi] at he; exact (h2 b hbF).2 i he
        · rw [h] at he; cases he
        · rw [h] at he
          simp only [Option.some.injEq] at he
          subst he
          have := (h2 c hbF).1
          omega
      · rw [if_neg hj] at he; exact (h2 b hbF).2 j he

/-- The world grows, nothing turns. -/
theorem St.ext (H : St W0 w ps Γ) {w' : World} (e : Ext w w') : St W0 w' ps Γ :=
  ⟨Ext.trans' H.base e, fun p hp => (H.has p hp).stay fun b hb => e.block b ((H.has p hp).lt hb).2, H.dist,
    fun f hf => ⟨f.stay w w' (H.facts f hf).1 fun b hb => e.block b ((H.facts f hf).2 b hb).1,
      fun b hb => ⟨Nat.lt_of_lt_of_le ((H.facts f hf).2 b hb).1 e.size, ((H.facts f hf).2 b hb).2⟩⟩⟩

/-- One thing more of the call's own: a block that was not there. -/
theorem St.own (H : St W0 w ps Γ) {w' : World} (e : Ext w w') (p : Prv) (hp : p.ok W0.heap.size w') (hb : ∀ b, p.blk = some b → w.heap.size ≤ b) : St W0 w' (p :: ps) Γ := by
  have H' := H.ext e
  refine ⟨H'.base, fun q hq => ?_, ?_, fun f hf => ⟨(H'.facts f hf).1, fun b hbF => ⟨((H'.facts f hf).2 b hbF).1, fun i => ?_⟩⟩⟩
  · rcases List.mem_cons.1 hq with rfl | hq
    · exact hp
    · exact H'.has q hq
  · intro i j b hi hj
    cases i with
    | zero =>
      cases j with
      | zero => rfl
      | succ j =>
        have h1 := hb b (by simpa [blkAt] using hi)
        have h2 := (blkAt_has H (i := j) (b := b) (by simpa [blkAt] using hj)).2
        omega
    | succ i =>
      cases j with
      | zero =>
        have h1 := hb b (by simpa [blkAt] using hj)
        have h2 := (blkAt_has H (i := i) (b := b) (by simpa [blkAt] using hi)).2
        omega
      | succ j => rw [H.dist i j b (by simpa [blkAt] using hi) (by simpa [blkAt] using hj)]
  · cases i with
    | zero =>
      intro he
      have h1 := hb b (by simpa [blkAt] using he)
      have h2 := ((H.facts f hf).2 b hbF).1
      omega
    | succ i => simpa [blkAt] using ((H'.facts f hf).2 b hbF).2 i

theorem ext_alloc (w : World) (o : Obj) : Ext w (w.alloc o) := (Below.refl _ _).alloc (Nat.le_refl _) o
theorem ext_drew (w : World) : Ext w w.drew := (Below.refl _ _).drew

theorem St.alloc (H : St W0 w ps Γ) (cs : Array Value) (t : TypeId) : St W0 (w.alloc (.cells cs t)) (.box w.heap.size cs.toList t :: ps) Γ :=
  H.own (ext_alloc _ _) _ ⟨H.base.size, by simpa using heap_alloc_new w (.cells cs t)⟩ (by intro b hb; simp only [Prv.blk, Option.some.injEq] at hb; omega)

theorem heap_setCell_same {w : World} {b off : Nat} {cs : Array Value} {t : TypeId} {fr : Nat × Nat} (h : w.heap[b]? = some (.cells cs t fr)) (v : Value) :
    (w.setCell ⟨b, off, none⟩ v).heap[b]? = some (.cells (cs.setIfInBounds off v) t fr) := by
  simp [World.setCell, Array.getElem?_modify, h]

theorem St.set (H : St W0 w ps Γ) (i : Nat) {b : Nat} {cs : List Value} {t : TypeId} (hp : ps[i]? = some (.box b cs t)) (off : Nat) (v : Value) :
    St W0 (w.setCell ⟨b, off, none⟩ v) (ps.set i (.box b (cs.set off v) t)) Γ := by
  have hb := H.has _ (List.mem_of_getElem? hp)
  refine H.change i hp rfl rfl rfl (by simp [World.setCell]) (fun c _ hc => Below.heap_setCell _ _ _ _ ?_) ⟨hb.1, ?_⟩ (Or.inl rfl)
  · intro e; exact hc (by simp [Prv.blk, e])
  · rw [heap_setCell_same hb.2]
    simp
end
end Go.Proofs.YtfekhnffbngoaaaDoor
