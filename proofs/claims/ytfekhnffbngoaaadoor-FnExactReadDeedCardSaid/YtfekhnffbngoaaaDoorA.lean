/- One lemma an operation: slices of the call's own; regions whose order is drawn. No program here. -/
import Derived.Test.YtfekhnffbngoaaaDoorM
import Derived.Laws.MakeOwn
import Derived.Great.FillDense
import Derived.Maps.AppendAt
import Derived.Lib.SliceRun
namespace Go.Proofs.YtfekhnffbngoaaaDoor
set_option linter.unusedVariables false
set_option linter.unusedSimpArgs false
open Go.RowKit

section
variable {P : Program} {Q : Exit → Act → World → Prop} {n : Nat} {ρ : Env} {W0 w : World} {ps : List Prv} {Γ : List Fact}
  {d : Nat} {ty : TypeId} {pos : String} {af : Array Edge} {K : Env → World → Prop}

theorem madeCells_one (z : Value) (n : Nat) : (madeCells #[z] n).toList = List.replicate n z := by
  apply List.ext_getElem
  · simp [madeCells]
  · intro i h1 h2
    simp [madeCells, Nat.mod_one]

theorem o_make1 {t e : TypeId} {x y : Operand} {z : Value} {by' : Nat} (H : St W0 w ps Γ) (hu : P.underlying t = some (.slice e)) (he : TI P e z 1 by') (hz : z.cells = #[z]) (nn : Nat)
    (hx : ev n ρ x = .int .i64 nn) (hy : ev n ρ y = .int .i64 nn) (hb : by' * nn ≤ 281474976710656) (hm : nn ≤ 9223372036854775807)
    (k : ∀ b w', St W0 w' (.box b (List.replicate nn z) e :: ps) Γ → K (upd ρ d (.slice (some ⟨b, 0, none⟩) nn nn)) w') :
    OW P Q ⟨some d, .makeSlice t x y, ty, pos, af, none⟩ n ρ w K := by
  obtain ⟨i, hi, h1, h2, h3⟩ := info_parts he
  have hr := run_make (P := P) (w := w) t e i z hu hi h1 .i64 .i64 nn nn (by omega) (by omega) (by rw [h3]; omega) (by omega)
  refine o_val (w' := w.alloc (.cells (madeCells z.cells ((nn : Int).toNat * i.size)) e)) _ (by simp [execOp, hx, hy, hr]) (k w.heap.size _ ?_)
  have := H.alloc (madeCells z.cells ((nn : Int).toNat * i.size)) e
  rw [hz, h2] at this
  rw [hz, h2]
  simpa [madeCells_one] using this

theorem madeCells_rep (z : Array Value) (sz : Nat) (hz : z.size = sz) (h0 : 0 < sz) (n : Nat) : (madeCells z (n * sz)).toList = (List.replicate n z.toList).flatten := by
  simp only [madeCells, Array.toList_map, Array.toList_range, hz]
  induction n with
  | zero => simp
  | succ n ih =>
    rw [Nat.add_mul, Nat.one_mul, List.range_add, List.map_append, ih, List.replicate_succ', List.flatten_append]
    congr 1
    simp only [List.map_map, List.flatten_cons, List.flatten_nil, List.append_nil]
    apply List.ext_getElem
    · simp [hz]
    · intro i h1 h2
      simp only [List.length_map, List.length_range] at h1
      have : (n * sz + i) % sz = i := by rw [Nat.mul_comm, Nat.mul_add_mod]; exact Nat.mod_eq_of_lt h1
      simp [this, hz, h1]

theorem o_makeN {t e : TypeId} {x y : Operand} {z : Value} {sz by' : Nat} (H : St W0 w ps Γ) (hu : P.underlying t = some (.slice e)) (he : TI P e z sz by') (hz : z.cells.size = sz) (h0 : 0 < sz) (nn : Nat)
    (hx : ev n ρ x = .int .i64 nn) (hy : ev n ρ y = .int .i64 nn) (hb : by' * nn ≤ 281474976710656) (hm : nn ≤ 9223372036854775807)
    (k : ∀ b w', St W0 w' (.box b (List.replicate nn z.cells.toList).flatten e :: ps) Γ → K (upd ρ d (.slice (some ⟨b, 0, none⟩) nn nn)) w') :
    OW P Q ⟨some d, .makeSlice t x y, ty, pos, af, none⟩ n ρ w K := by
  obtain ⟨i, hi, h1, h2, h3⟩ := info_parts he
  have hr := run_make (P := P) (w := w) t e i z hu hi h1 .i64 .i64 nn nn (by omega) (by omega) (by rw [h3]; omega) (by omega)
  refine o_val (w' := w.alloc (.cells (madeCells z.cells ((nn : Int).toNat * i.size)) e)) _ (by simp [execOp, hx, hy, hr]) (k w.heap.size _ ?_)
  have := H.alloc (madeCells z.cells ((nn : Int).toNat * i.size)) e
  rw [h2] at this ⊢
  simpa [madeCells_rep z.cells sz hz h0] using this

/-- A slice that is filled, place by place. -/
theorem fill_set {xs : List Value} {z v : Value} {n k off : Nat} (hx : xs.length = k) (ho : off = k) (hk : k < n) : (xs ++ List.replicate (n - k) z).set off v = (xs ++ [v]) ++ List.replicate (n - (k + 1)) z := by
  subst ho hx
  rw [List.set_append_right _ _ (Nat.le_refl _), Nat.sub_self, show n - xs.length = (n - (xs.length + 1)) + 1 by omega, List.replicate_succ, List.set_cons_zero]
  simp
theorem fill_put {xs zs vs : List Value} {n k s off : Nat} (hx : xs.length = k * s) (ho : off = k * s) (hz : zs.length = s) (hv : vs.length = s) (hk : k < n) :
    (xs ++ (List.replicate (n - k) zs).flatten).take off ++ vs ++ (xs ++ (List.replicate (n - k) zs).flatten).drop (off + s) = (xs ++ vs) ++ (List.replicate (n - (k + 1)) zs).flatten := by
  subst ho
  rw [← hx, List.take_left, List.drop_append, List.drop_of_length_le (by omega), List.nil_append, show n - k = (n - (k + 1)) + 1 by omega, List.replicate_succ, List.flatten_cons,
    show xs.length + s - xs.length = zs.length by omega, List.drop_left]
theorem fill_room {n k s : Nat} (hk : k < n) : k * s + s ≤ k * s + ((List.replicate (n - k) (List.replicate s ())).flatten).length := by
  rw [show n - k = (n - (k + 1)) + 1 by omega, List.replicate_succ, List.flatten_cons, List.length_append]
  simp
theorem fill_end1 {xs : List Value} {z : Value} {n k : Nat} (h : n ≤ k) : xs ++ List.replicate (n - k) z = xs := by
  rw [Nat.sub_eq_zero_of_le h]; simp
theorem fill_endN {xs zs : List Value} {n k : Nat} (h : n ≤ k) : xs ++ (List.replicate (n - k) zs).flatten = xs := by
  rw [Nat.sub_eq_zero_of_le h]; simp

theorem o_build0 {t e : TypeId} (H : St W0 w ps Γ) (hu : P.underlying t = some (.slice e)) {z : Value} {sz by' : Nat} (he : TI P e z sz by')
    (k : ∀ b w', St W0 w' (.box b [] e :: ps) Γ → K (upd ρ d (.slice (some ⟨b, 0, none⟩) 0 0)) w') :
    OW P Q ⟨some d, .buildSlice t 0 #[], ty, pos, af, none⟩ n ρ w K :=
  o_val (w' := w.alloc (.cells #[] e)) _ (by simp [execOp, Instr.buildSlice, run_underlying hu, he.sizeOf, Instr.fill, newRow, Array.range_zero']) (k _ _ (H.alloc _ _))

/-- A slice with one element, written out. -/
theorem o_build1 {t e : TypeId} {x : Operand} (H : St W0 w ps Γ) (hu : P.underlying t = some (.slice e)) {z : Value} {sz by' : Nat} (he : TI P e z sz by') (h0 : 0 < sz) (hs : sz ≤ 16777216) (v : Value)
    (hx : ev n ρ x = v) (hv : v.cells.size = sz) (k : ∀ b w', St W0 w' (.box b v.cells.toList e :: ps) Γ → K (upd ρ d (.slice (some ⟨b, 0, none⟩) 1 1)) w') :
    OW P Q ⟨some d, .buildSlice t 1 #[(0, x)], ty, pos, af, none⟩ n ρ w K := by
  obtain ⟨i, hi, h1, h2, h3⟩ := info_parts he
  have hr := run_buildSlice (P := P) w t e 1 #[(0, v)] v.cells i z hu hi h1 (by rw [h2]; omega) (by rw [h2]; omega) (by
    have := Great.fill_whole h0 [v] (madeCells z.cells (1 * sz)) (by simpa using hv) (by simp [madeCells])
    rw [h2]
    simpa [madeCells] using this)
  exact o_val (w' := w.alloc (.cells v.cells e)) _ (by simp [execOp, hx, hr]) (k _ _ (H.alloc _ _))

/-- A slice with elements of one cell, written out. -/
theorem o_buildF {t e : TypeId} {m : Nat} {xs : Array (Nat × Operand)} (H : St W0 w ps Γ) (hu : P.underlying t = some (.slice e)) {z : Value} {by' : Nat} (he : TI P e z 1 by') (vs : List Value)
    (hx : xs.toList.map (fun p => (p.1, ev n ρ p.2)) = vs.zipIdx.map (fun p => (p.2, p.1))) (hv : ∀ v ∈ vs, v.cells = #[v]) (hm : vs.length = m) (h0 : 0 < m) (hs : m ≤ 16777216)
    (k : ∀ b w', St W0 w' (.box b vs e :: ps) Γ → K (upd ρ d (.slice (some ⟨b, 0, none⟩) m m)) w') :
    OW P Q ⟨some d, .buildSlice t m xs, ty, pos, af, none⟩ n ρ w K := by
  obtain ⟨i, hi, h1, h2, h3⟩ := info_parts he
  have hr := run_buildSlice (P := P) w t e m (xs.map fun p => (p.1, ev n ρ p.2)) vs.toArray i z hu hi h1 (by rw [h2]; omega) (by rw [h2]; omega) (by
    have := Great.fill_flat vs (madeCells z.cells (m * 1)) hv (by simp [madeCells, hm])
    rw [h2, Array.toList_map, hx]
    simpa [madeCells] using this)
  exact o_val (w' := w.alloc (.cells vs.toArray e)) _ (by simp [execOp, hr]) (k _ _ (H.alloc _ _))
end

/-! ### What has been appended to -/
section
variable {P : Program} {Q : Exit → Act → World → Prop} {n : Nat} {ρ : Env} {W0 w : World} {ps : List Prv} {Γ : List Fact}
  {d : Nat} {ty : TypeId} {pos : String} {af : Array Edge} {K : Env → World → Prop}

theorem St.nilRow (H : St W0 w ps Γ) (e : TypeId) (sz : Nat) : St W0 w (.row (.slice none 0 0) e sz 0 [] :: ps) Γ :=
  H.own (Below.refl _ _) _ (World.ownsRow_nil _ _ _ _) (by intro b hb; simp [Prv.blk, Value.ownBlock] at hb)

theorem St.turn (H : St W0 w ps Γ) (i : Nat) {p p' : Prv} (hp : ps[i]? = some p) (hok : p.ok W0.heap.size w → p'.ok W0.heap.size w) (hb : p'.blk = p.blk) : St W0 w (ps.set i p') Γ :=
  H.change i hp rfl rfl rfl (Nat.le_refl _) (fun _ _ _ => rfl) (hok (H.has _ (List.mem_of_getElem? hp))) (Or.inl hb)

/-- A block of its own, all of it a slice, is a slice that can be appended to. -/
theorem St.boxRow (H : St W0 w ps Γ) (i : Nat) {b : Nat} {cs : List Value} {e : TypeId} (hp : ps[i]? = some (.box b cs e)) (sz nn : Nat) (hl : cs.length = nn * sz) (hm : nn ≤ maxLen) :
    St W0 w (ps.set i (.row (.slice (some ⟨b, 0, none⟩) nn nn) e sz nn cs)) Γ :=
  H.turn i hp (fun h => ⟨hl, Or.inr ⟨b, nn, cs.toArray, rfl, h.1, h.2, Nat.le_refl _, hm, by simpa using hl, by rw [← hl]; simp⟩⟩) rfl

theorem o_append {t e : TypeId} {s x : Operand} {v z : Value} {sz by' nn m c b : Nat} {xs cs : List Value} {tb : TypeId} (H : St W0 w ps Γ) (i : Nat) (hp : ps[i]? = some (.row v e sz nn xs)) (j : Nat) (hq : ps[j]? = some (.box b cs tb))
    (hu : P.underlying t = some (.slice e)) (he : TI P e z sz by') (hzs : z.cells.size = sz) (h0 : 0 < sz) (hs : ev n ρ s = v) (hx : ev n ρ x = .slice (some ⟨b, 0, none⟩) m c) (hl : cs.length = m * sz)
    (h1 : ∀ u ∈ cs, u.oneCell' = true) (hm : nn + m ≤ maxLen) (hb : (nn + m) * by' ≤ 140737488355328)
    (k : ∀ v' w', St W0 w' (ps.set i (.row v' e sz (nn + m) (xs ++ cs))) Γ → K (upd ρ d v') w') :
    OW P Q ⟨some d, .call ⟨.builtin .append, #[s, x], #[t, t]⟩, ty, pos, af, none⟩ n ρ w K := by
  obtain ⟨i', hi, hz1, hz2, hz3⟩ := info_parts he
  have hown : w.ownsRow W0.heap.size e sz v nn xs := H.has _ (List.mem_of_getElem? hp)
  obtain ⟨v', w', hr, ho, hg, _, hbl⟩ := run_append_own_at (P := P) w W0.heap.size t ty e i' z sz by' hu hi hz1 hz2 hz3 hzs h0 v nn xs hown ⟨b, 0, none⟩ m c cs hl
    (fun k' u hk => by rw [Addr.add_mid]; simpa using H.cells j hq k' u hk) h1 hm hb H.base.size
  refine o_val v' (by simp [execOp, resolve, invoke, builtin, hs, hx, hr]) (k v' w' ?_)
  refine H.change i hp hg.os hg.tape hg.output hg.size (fun c hc hne => hg.block c hc (fun e' => hne e'.symm)) ho ?_
  rcases hbl with h | h
  · exact Or.inl h
  · exact Or.inr (Or.inr ⟨_, h, Nat.le_refl _⟩)
end

section
variable {P : Program} {Q : Exit → Act → World → Prop} {n : Nat} {ρ : Env} {W0 w : World} {ps : List Prv} {Γ : List Fact}
  {d : Nat} {ty : TypeId} {pos : String} {af : Array Edge} {K : Env → World → Prop}

theorem run_append_none {t ty e : TypeId} {i : TypeInfo} (hu : P.underlying t = some (.slice e)) (hi : P.info? e = some i) {b : Option Addr} {n c c' : Nat} (hn : n ≤ c) :
    (Builtin.append_ #[t, t] ty #[.slice b n c, .slice none 0 c']).run P w = .ok (.slice b n c) w := by
  cases b <;> simp [Builtin.append_, run_underlying hu, sizeOf, typeInfo, hi, Builtin.lenOf, Builtin.firstCells, hn, loadCells, loadCellsFrom, storeCells]

/-- 'append(s, list...)': the list is one that may be read. -/
theorem o_appendF {α : Type} [GoRep α] {t e : TypeId} {s x : Operand} {v z : Value} {by' nn m c : Nat} {a : Option Addr} {xs : List Value} {fr : Bool} {F : List Nat} {l : List α} (H : St W0 w ps Γ) (i : Nat) (hp : ps[i]? = some (.row v e (GoRep.size α) nn xs))
    (j : Nat) (hf : Γ[j]? = some (isF fr F (.slice a m c) l)) (hu : P.underlying t = some (.slice e)) (he : TI P e z (GoRep.size α) by') (hzs : z.cells.size = GoRep.size α) (h0 : 0 < GoRep.size α) (hs : ev n ρ s = v)
    (hx : ev n ρ x = .slice a m c) (hm : nn + m ≤ maxLen) (hb : (nn + m) * by' ≤ 140737488355328)
    (k : ∀ v' w' vs G, St W0 w' (ps.set i (.row v' e (GoRep.size α) (nn + m) (xs ++ vs))) (repsF fr G vs l :: Γ) → (∀ b ∈ G, b ∈ F) → K (upd ρ d v') w') :
    OW P Q ⟨some d, .call ⟨.builtin .append, #[s, x], #[t, t]⟩, ty, pos, af, none⟩ n ρ w K := by
  obtain ⟨i', hi, hz1, hz2, hz3⟩ := info_parts he
  have hown : w.ownsRow W0.heap.size e (GoRep.size α) v nn xs := H.has _ (List.mem_of_getElem? hp)
  obtain ⟨⟨a', cap, hc, hl, h⟩, hfr⟩ := H.get j hf
  simp only [List.cons.injEq, Value.slice.injEq, and_true] at hc
  obtain ⟨rfl, rfl, rfl⟩ := hc
  have hfF := (H.facts _ (List.mem_of_getElem? hf)).2
  rcases a with _ | ⟨b, off, sp⟩
  · -- nothing to append
    rcases h with ⟨rfl, rfl⟩ | ⟨b, off, F', vs, ha, _⟩
    · have hv : ∃ b0 c0, v = .slice b0 nn c0 ∧ nn ≤ c0 := by
        rcases hown.2 with ⟨rfl, rfl⟩ | ⟨g, cap', cur, rfl, _, _, hnc, _⟩
        · exact ⟨none, 0, rfl, Nat.le_refl _⟩
        · exact ⟨_, _, rfl, hnc⟩
      obtain ⟨b0, c0, rfl, hnc⟩ := hv
      refine o_val (.slice b0 nn c0) (by simp [execOp, resolve, invoke, builtin, hs, hx, run_append_none hu hi hnc]) (k _ w [] [] ?_ (by simp))
      simp only [List.append_nil, List.length_nil, Nat.add_zero]
      have : ps.set i (.row (.slice b0 nn c0) e (GoRep.size α) nn xs) = ps := by
        apply List.ext_getElem?
        intro j'
        by_cases hj : i = j'
        · subst hj
          rw [hp]
          have hi' : i < ps.length := (List.getElem?_eq_some_iff.1 hp).1
          rw [List.getElem?_set_self hi']
        · rw [List.getElem?_set_ne hj]
      rw [this]
      exact H.add _ ⟨⟨rfl, rfl⟩, fun _ => FreeAll.nil _⟩ (by simp [repsF])
    · cases ha
  · rcases h with ⟨rfl, rfl⟩ | ⟨b', off', F', vs, ha, hF, hbl, hr, hcells⟩
    · obtain ⟨v', w', hr, ho, hg, _, hbl⟩ := run_append_own_at (P := P) w W0.heap.size t ty e i' z _ by' hu hi hz1 hz2 hz3 hzs h0 v nn xs hown ⟨b, off, sp⟩ 0 c [] (by simp) (by simp) (by simp) hm hb H.base.size
      refine o_val v' (by simp [execOp, resolve, invoke, builtin, hs, hx, hr]) (k v' w' [] [] ?_ (by simp))
      have H' := H.change (p' := .row v' e (GoRep.size α) (nn + 0) (xs ++ [])) i hp hg.os hg.tape hg.output hg.size (fun c hc hne => hg.block c hc (fun e' => hne e'.symm)) ho (by
        rcases hbl with h | h
        · exact Or.inl h
        · exact Or.inr (Or.inr ⟨_, h, Nat.le_refl _⟩))
      exact H'.add _ ⟨⟨rfl, rfl⟩, fun _ => FreeAll.nil _⟩ (by simp [repsF])
    · simp only [Option.some.injEq, Addr.mk.injEq] at ha
      obtain ⟨rfl, rfl, rfl⟩ := ha
      obtain ⟨v', w', hrun, ho, hg, _, hbl'⟩ := run_append_own_at (P := P) w W0.heap.size t ty e i' z _ by' hu hi hz1 hz2 hz3 hzs h0 v nn xs hown ⟨b, off, none⟩ l.length c vs (reps_len hr)
        (fun k' u hk => by rw [Addr.add_mid]; exact hcells k' u hk) (reps_cells hr) hm hb H.base.size
      refine o_val v' (by simp [execOp, resolve, invoke, builtin, hs, hx, hrun]) (k v' w' vs F' ?_ (by rw [hF]; exact fun b hb => List.mem_cons_of_mem _ hb))
      have H0 : St W0 w ps (repsF fr F' vs l :: Γ) := H.add _ ⟨hr, fun e => (hfr e).sub (by rw [hF]; exact fun b hb => List.mem_cons_of_mem _ hb)⟩ fun b hb => hfF b (by show b ∈ F; rw [hF]; exact List.mem_cons_of_mem _ hb)
      exact H0.change i hp hg.os hg.tape hg.output hg.size (fun c hc hne => hg.block c hc (fun e' => hne e'.symm)) ho (by
        rcases hbl' with h | h
        · exact Or.inl h
        · exact Or.inr (Or.inr ⟨_, h, Nat.le_refl _⟩))

theorem o_appendInts {t e : TypeId} {s x : Operand} {v z : Value} {by' nn m c : Nat} {a : Option Addr} {xs : List Value} {fr : Bool} {F : List Nat} {l : List Int} (H : St W0 w ps Γ) (i : Nat) (hp : ps[i]? = some (.row v e 1 nn xs))
    (j : Nat) (hf : Γ[j]? = some (isF fr F (.slice a m c) l)) (hu : P.underlying t = some (.slice e)) (he : TI P e z 1 by') (hzs : z.cells.size = 1) (hs : ev n ρ s = v)
    (hx : ev n ρ x = .slice a m c) (hm : nn + m ≤ maxLen) (hb : (nn + m) * by' ≤ 140737488355328)
    (k : ∀ v' w', St W0 w' (ps.set i (.row v' e 1 (nn + m) (xs ++ l.map (Value.int .i64)))) Γ → K (upd ρ d v') w') :
    OW P Q ⟨some d, .call ⟨.builtin .append, #[s, x], #[t, t]⟩, ty, pos, af, none⟩ n ρ w K :=
  o_appendF (α := Int) H i hp j hf hu he hzs (by decide) hs hx hm hb fun v' w' vs G H' _ => by
    obtain ⟨_, rfl⟩ := reps_ints (H'.get 0 rfl).1
    exact k v' w' (H'.sub _ fun f hf => List.mem_cons_of_mem _ hf)

theorem run_eqB {P : Program} {t : TypeId} (hu : P.underlying t = some .bool) (a b : Bool) (w : World) : (Op.equal t (.bool a) (.bool b)).run P w = .ok (a == b) w := by
  have h : ∀ d : Nat, (Op.equalIn (d + 1) t (.bool a) (.bool b)).run P w = .ok (a == b) w := fun d => by simp [Op.equalIn, run_underlying hu]
  simp [Op.equal, Op.maxDepth, h 9999]
theorem o_eqB {x y : Operand} {t u : TypeId} (hu : P.underlying t = some .bool) (a b : Bool) (hx : ev n ρ x = .bool a) (hy : ev n ρ y = .bool b) (k : K (upd ρ d (.bool (a == b))) w) :
    OW P Q ⟨some d, .binOp .eql t x y u, ty, pos, af, none⟩ n ρ w K :=
  o_val _ (by simp [execOp, hx, hy, eqGuard, binOp, run_eqB hu]) k
theorem o_neB {x y : Operand} {t u : TypeId} (hu : P.underlying t = some .bool) (a b : Bool) (hx : ev n ρ x = .bool a) (hy : ev n ρ y = .bool b) (k : K (upd ρ d (.bool (a != b))) w) :
    OW P Q ⟨some d, .binOp .neq t x y u, ty, pos, af, none⟩ n ρ w K :=
  o_val _ (by simp [execOp, hx, hy, eqGuard, binOp, run_eqB hu, bne]) k
/-- 's == nil' -/
theorem o_eqnil {x : Operand} {t u e : TypeId} (hu : P.underlying t = some (.slice e)) (a : Option Addr) (m c : Nat) (hx : ev n ρ x = .slice a m c) (k : K (upd ρ d (.bool a.isNone)) w) :
    OW P Q ⟨some d, .binOp .eql t x (.const (.slice none 0 0)) u, ty, pos, af, none⟩ n ρ w K :=
  o_val _ (by
    have hc : ev n ρ (.const (.slice none 0 0)) = .slice none 0 0 := rfl
    simp [execOp, hx, hc, eqGuard, Lib.run_eql_slice_nil w t e a m c 0 0 hu]) k
end

section
variable {W0 w : World} {ps : List Prv} {Γ : List Fact}

/-- What a row reads as, at this moment. -/
theorem St.rowRep {α : Type} [GoRep α] (H : St W0 w ps Γ) (i : Nat) {v : Value} {e : TypeId} {nn : Nat} {xs : List Value} (hp : ps[i]? = some (.row v e (GoRep.size α) nn xs)) {F : List Nat} {l : List α}
    (h : reps w F xs l) (hn : nn = l.length) (hF : ∀ b ∈ F, W0.heap.size ≤ b) :
    ∃ a c G, v = .slice a l.length c ∧ GoRep.rep w G [v] l ∧ ∀ b ∈ G, W0.heap.size ≤ b := by
  subst hn
  obtain ⟨hl, ho⟩ := (H.has _ (List.mem_of_getElem? hp) : w.ownsRow W0.heap.size e (GoRep.size α) v l.length xs)
  rcases ho with ⟨rfl, h0⟩ | ⟨g, cap, cur, rfl, hb, hg, hnc, hcm, hcs, htake⟩
  · have : l = [] := List.eq_nil_of_length_eq_zero h0
    subst this
    exact ⟨none, 0, [], rfl, ⟨none, 0, rfl, by simp, Or.inl ⟨rfl, rfl⟩⟩, by simp⟩
  · refine ⟨_, cap, (if l = [] then [] else g :: F), rfl, ⟨some ⟨g, 0, none⟩, cap, rfl, by unfold maxLen at hcm; omega, ?_⟩, ?_⟩
    · by_cases h0 : l = []
      · exact Or.inl ⟨h0, by simp [h0]⟩
      · refine Or.inr ⟨g, 0, F, xs, rfl, by simp [h0], (Array.getElem?_eq_some_iff.1 hg).1, h, ?_⟩
        intro j u hj
        rw [Nat.zero_add, World.cell?, hg]
        rw [← htake, List.getElem?_take] at hj
        split at hj
        · simpa using hj
        · cases hj
    · intro b hbm
      split at hbm
      · simp at hbm
      · rcases List.mem_cons.1 hbm with rfl | hbm
        · exact hb
        · exact hF b hbm

/-- What a row of numbers reads as. -/
theorem St.rowInts (H : St W0 w ps Γ) (i : Nat) {v : Value} {e : TypeId} {nn : Nat} {l : List Int} (hp : ps[i]? = some (.row v e 1 nn (l.map (Value.int .i64)))) (hn : nn = l.length) :
    ∃ a c G, v = .slice a l.length c ∧ GoRep.rep w G [v] l ∧ ∀ b ∈ G, W0.heap.size ≤ b :=
  H.rowRep (α := Int) i hp (reps_of_ints w l) hn (by simp)

theorem St.newInts (H : St W0 w ps Γ) (i : Nat) {v : Value} {e : TypeId} {nn : Nat} {l : List Int} (hp : ps[i]? = some (.row v e 1 nn (l.map (Value.int .i64)))) (hn : nn = l.length) : OwnNew W0 w e v l := by
  subst hn
  exact ⟨_, [], H.has _ (List.mem_of_getElem? hp), reps_of_ints w l, by simp, by simp, by simp, FreeAll.nil _⟩

theorem St.newBools (H : St W0 w ps Γ) (i : Nat) {v : Value} {e : TypeId} {nn : Nat} {l : List Bool} (hp : ps[i]? = some (.row v e 1 nn (l.map Value.bool))) (hn : nn = l.length) : OwnNew W0 w e v l := by
  subst hn
  refine ⟨_, [], H.has _ (List.mem_of_getElem? hp), ?_, by simp, by simp, by simp, FreeAll.nil _⟩
  clear hp
  induction l with
  | nil => exact ⟨rfl, rfl⟩
  | cons x l ih => exact ⟨[], [], [.bool x], l.map Value.bool, rfl, rfl, ⟨rfl, rfl⟩, ih⟩

theorem St.newRow {α : Type} [GoRep α] (H : St W0 w ps Γ) (i : Nat) {v : Value} {e : TypeId} {nn : Nat} {xs : List Value} (hp : ps[i]? = some (.row v e (GoRep.size α) nn xs)) (j : Nat) {F : List Nat} {l : List α}
    (hf : Γ[j]? = some (repsF true F xs l)) (hn : nn = l.length) (hF : ∀ b ∈ F, W0.heap.size ≤ b) (hd : F.Nodup) : OwnNew W0 w e v l := by
  subst hn
  refine ⟨_, F, H.has _ (List.mem_of_getElem? hp), (H.get j hf).1, hF, fun b hb he => ((H.facts _ (List.mem_of_getElem? hf)).2 b hb).2 i ?_, hd, (H.get j hf).2 rfl⟩
  simpa [blkAt, hp, Prv.blk] using he

/-- Where a slice with an element lies. -/
theorem St.addr {α : Type} [GoRep α] (H : St W0 w ps Γ) (i : Nat) {fr : Bool} {F : List Nat} {a : Option Addr} {m c : Nat} {l : List α} (hf : Γ[i]? = some (isF fr F (.slice a m c) l)) (hl : 0 < l.length) : ∃ b o, a = some ⟨b, o, none⟩ := by
  obtain ⟨⟨a', cap, hc, _, h⟩, _⟩ := H.get i hf
  simp only [List.cons.injEq, Value.slice.injEq, and_true] at hc
  obtain ⟨rfl, rfl, rfl⟩ := hc
  rcases h with ⟨rfl, _⟩ | ⟨b, off, F', vs, rfl, _⟩
  · simp at hl
  · exact ⟨b, off, rfl⟩

/-- The cells of an element. -/
theorem St.elem {α : Type} [GoRep α] [Inhabited α] (H : St W0 w ps Γ) (i : Nat) {fr : Bool} {F : List Nat} {b o m c : Nat} {l : List α} (hf : Γ[i]? = some (isF fr F (.slice (some ⟨b, o, none⟩) m c) l)) (iv : Int) (h0 : 0 ≤ iv) (h1 : iv < l.length) :
    ∃ cs Fk, CellsAt w b (o + iv.toNat * GoRep.size α) cs ∧ GoRep.rep w Fk cs (l[iv.toNat]!) ∧ ∀ x ∈ b :: Fk, x ∈ F := by
  obtain ⟨⟨a', cap, hc, hl, h⟩, _⟩ := H.get i hf
  simp only [List.cons.injEq, Value.slice.injEq, and_true] at hc
  obtain ⟨rfl, rfl, rfl⟩ := hc
  have hk : iv.toNat < l.length := by omega
  rcases h with ⟨rfl, _⟩ | ⟨b', off, F', vs, ha, hF, hb, hr, hcells⟩
  · simp at hk
  · simp only [Option.some.injEq, Addr.mk.injEq, and_true] at ha
    obtain ⟨rfl, rfl⟩ := ha
    obtain ⟨F1, Fk, F2, v1, cs, v2, hFF, hvs, hv1, hcs, hrep, _, _⟩ := reps_get hr _ hk
    refine ⟨cs, Fk, ?_, by rw [getElem!_pos l iv.toNat hk]; exact hrep, ?_⟩
    · rw [hvs] at hcells
      rw [← hv1]
      exact cells_mid hcells
    · intro x hx
      rw [hF, hFF]
      rcases List.mem_cons.1 hx with rfl | hx
      · exact List.mem_cons_self ..
      · exact List.mem_cons_of_mem _ (List.mem_append_left _ (List.mem_append_right _ hx))

theorem St.elemInt (H : St W0 w ps Γ) (i : Nat) {fr : Bool} {F : List Nat} {b o m c : Nat} {l : List Int} (hf : Γ[i]? = some (isF fr F (.slice (some ⟨b, o, none⟩) m c) l)) (iv : Int) (h0 : 0 ≤ iv) (h1 : iv < l.length) :
    w.cell? ⟨b, o + iv.toNat * 1, none⟩ = some (.int .i64 (l[iv.toNat]!)) := by
  obtain ⟨cs, Fk, h2, h3, _⟩ := H.elem i hf iv h0 h1
  obtain ⟨_, rfl⟩ : Fk = [] ∧ cs = [.int .i64 (l[iv.toNat]!)] := h3
  exact h2 0 _ rfl
theorem St.elemBool (H : St W0 w ps Γ) (i : Nat) {fr : Bool} {F : List Nat} {b o m c : Nat} {l : List Bool} (hf : Γ[i]? = some (isF fr F (.slice (some ⟨b, o, none⟩) m c) l)) (iv : Int) (h0 : 0 ≤ iv) (h1 : iv < l.length) :
    w.cell? ⟨b, o + iv.toNat * 1, none⟩ = some (.bool (l[iv.toNat]!)) := by
  obtain ⟨cs, Fk, h2, h3, _⟩ := H.elem i hf iv h0 h1
  obtain ⟨_, rfl⟩ : Fk = [] ∧ cs = [.bool (l[iv.toNat]!)] := h3
  exact h2 0 _ rfl

/-- Some of what the call owns, some of the facts. -/
theorem St.sel (H : St W0 w ps Γ) (ps' : List Prv) (hps : ps'.Sublist ps) (Γ' : List Fact) (hΓ : ∀ f ∈ Γ', f ∈ Γ) : St W0 w ps' Γ' := by
  have hpair : ps.Pairwise fun p q => ∀ b, p.blk = some b → q.blk ≠ some b := by
    rw [List.pairwise_iff_getElem]
    intro i j hi hj hij b h1 h2
    have := H.dist i j b (by simp [blkAt, hi, h1]) (by simp [blkAt, hj, h2])
    omega
  have hpair' := hpair.sublist hps
  refine ⟨H.base, fun p hp => H.has p (hps.subset hp), ?_, fun f hf => ⟨(H.facts f (hΓ f hf)).1, fun b hb => ⟨((H.facts f (hΓ f hf)).2 b hb).1, fun i hi => ?_⟩⟩⟩
  · intro i j b hi hj
    unfold blkAt at hi hj
    rw [List.pairwise_iff_getElem] at hpair'
    cases h1 : ps'[i]? with
    | none => simp [h1] at hi
    | some p =>
      cases h2 : ps'[j]? with
      | none => simp [h2] at hj
      | some q =>
        obtain ⟨hi', e1⟩ := List.getElem?_eq_some_iff.1 h1
        obtain ⟨hj', e2⟩ := List.getElem?_eq_some_iff.1 h2
        simp only [h1, Option.bind_some] at hi
        simp only [h2, Option.bind_some] at hj
        rcases Nat.lt_trichotomy i j with h | h | h
        · exact absurd (by rw [e2]; exact hj) (hpair' i j hi' hj' h b (by rw [e1]; exact hi))
        · exact h
        · exact absurd (by rw [e1]; exact hi) (hpair' j i hj' hi' h b (by rw [e2]; exact hj))
  · unfold blkAt at hi
    cases h1 : ps'[i]? with
    | none => simp [h1] at hi
    | some p =>
      simp only [h1, Option.bind_some] at hi
      obtain ⟨j, hj⟩ := List.getElem?_of_mem (hps.subset (List.mem_of_getElem? h1))
      exact ((H.facts f (hΓ f hf)).2 b hb).2 j (by simp [blkAt, hj, hi])
end

section
variable {W0 w w' : World} {ps : List Prv} {Γ : List Fact}

theorem OwnNew.isNew {α : Type} [GoRep α] {w0 w : World} {e : TypeId} {v : Value} {l : List α} (h : OwnNew w0 w e v l) : IsNew w0 w v l := by
  obtain ⟨xs, F, ho, hr, hF, hd, hnd, hfr⟩ := h
  obtain ⟨hl, ho'⟩ := ho
  rcases ho' with ⟨rfl, h0⟩ | ⟨g, cap, cur, rfl, hb, hg, hnc, hcm, hcs, htake⟩
  · have : l = [] := List.eq_nil_of_length_eq_zero h0
    subst this
    exact ⟨none, 0, [], rfl, ⟨none, 0, rfl, by simp, Or.inl ⟨rfl, rfl⟩⟩, by simp, by simp, FreeAll.nil _⟩
  · refine ⟨_, cap, (if l = [] then [] else g :: F), rfl, ⟨some ⟨g, 0, none⟩, cap, rfl, by unfold maxLen at hcm; omega, ?_⟩, ?_, ?_, ?_⟩
    · by_cases h0 : l = []
      · exact Or.inl ⟨h0, by simp [h0]⟩
      · refine Or.inr ⟨g, 0, F, xs, rfl, by simp [h0], (Array.getElem?_eq_some_iff.1 hg).1, hr, ?_⟩
        intro j u hj
        rw [Nat.zero_add, World.cell?, hg]
        rw [← htake, List.getElem?_take] at hj
        split at hj
        · simpa using hj
        · cases hj
    · intro b hbm
      split at hbm
      · simp at hbm
      · rcases List.mem_cons.1 hbm with rfl | hbm
        · exact hb
        · exact hF b hbm
    · split
      · simp
      · exact List.nodup_cons.2 ⟨fun hg' => hd g hg' rfl, hnd⟩
    · split
      · exact FreeAll.nil _
      · intro b hb'
        rcases List.mem_cons.1 hb' with rfl | hb'
        · exact ⟨_, _, hg⟩
        · exact hfr b hb'

/-- What a call has handed back, to be read. -/
theorem St.add_is {α : Type} [GoRep α] (H : St W0 w ps Γ) (e : Ext w w') {v : Value} {l : List α} (h : IsNew w w' v l) :
    ∃ a c F, v = .slice a l.length c ∧ ((∀ b ∈ F, w.heap.size ≤ b) ∧ F.Nodup) ∧ St W0 w' ps (isF true F (.slice a l.length c) l :: Γ) := by
  obtain ⟨a, c, F, rfl, hr, hF, hd, hfr⟩ := h
  exact ⟨a, c, F, rfl, ⟨hF, hd⟩, H.add_new e hr hF hfr⟩

theorem ownsRow_up {w : World} {B B' : Nat} {e : TypeId} {sz n : Nat} {v : Value} {xs : List Value} (h : w.ownsRow B e sz v n xs) (hb : B' ≤ B) : w.ownsRow B' e sz v n xs := by
  refine ⟨h.1, ?_⟩
  rcases h.2 with h | ⟨g, cap, cur, h1, h2, r⟩
  · exact Or.inl h
  · exact Or.inr ⟨g, cap, cur, h1, Nat.le_trans hb h2, r⟩

/-- What a call has handed back, to be written. -/
theorem St.add_own {α : Type} [GoRep α] (H : St W0 w ps Γ) (e : Ext w w') {v : Value} {t : TypeId} {l : List α} (h : OwnNew w w' t v l) :
    ∃ xs F, ((∀ b ∈ F, w.heap.size ≤ b) ∧ F.Nodup) ∧ St W0 w' (.row v t (GoRep.size α) l.length xs :: ps) (repsF true F xs l :: Γ) := by
  obtain ⟨xs, F, ho, hr, hF, hd, hnd, hfr⟩ := h
  refine ⟨xs, F, ⟨hF, hnd⟩, (H.own e (.row v t _ l.length xs) (ownsRow_up ho H.base.size) fun b hb => (World.ownsRow.lt ho b hb).1).add _ ⟨hr, fun _ => hfr⟩ fun b hb => ⟨reps_lt hr b hb, fun i hi => ?_⟩⟩
  cases i with
  | zero => exact hd b hb (by simpa [blkAt, Prv.blk] using hi)
  | succ i =>
    have h1 := (blkAt_has H (i := i) (b := b) (by simpa [blkAt] using hi)).2
    have h2 := hF b hb
    omega
theorem St.add_ownInts (H : St W0 w ps Γ) (e : Ext w w') {v : Value} {t : TypeId} {l : List Int} (h : OwnNew w w' t v l) :
    St W0 w' (.row v t 1 l.length (l.map (Value.int .i64)) :: ps) Γ := by
  obtain ⟨xs, F, ho, hr, hF, _⟩ := h
  obtain ⟨_, rfl⟩ := reps_ints hr
  exact H.own e (.row v t _ l.length _) (ownsRow_up ho H.base.size) fun b hb => (World.ownsRow.lt ho b hb).1
end

/-- A list's members, one by one. -/
def AllOf {α : Type} (p : α → Prop) : List α → Prop
  | [] => True
  | x :: l => p x ∧ AllOf p l
theorem all_of {α : Type} {p : α → Prop} : ∀ {l : List α}, AllOf p l → ∀ x ∈ l, p x
  | [], _, x, h => by cases h
  | y :: l, h, x, hx => by
    rcases List.mem_cons.1 hx with rfl | hx
    · exact h.1
    · exact all_of h.2 x hx
theorem nodup_snoc {F G : List Nat} {n : Nat} (h : F.Nodup) (k : G.Nodup) (hF : ∀ b ∈ F, b < n) (hG : ∀ b ∈ G, n ≤ b) : (F ++ G).Nodup :=
  List.nodup_append.2 ⟨h, k, fun a ha b hb e => by have := hF a ha; have := hG b hb; omega⟩
theorem St.repsLt {α : Type} [GoRep α] {W0 w : World} {ps : List Prv} {Γ : List Fact} (H : St W0 w ps Γ) (i : Nat) {fr : Bool} {F : List Nat} {xs : List Value} {l : List α} (hf : Γ[i]? = some (repsF fr F xs l)) : ∀ b ∈ F, b < w.heap.size :=
  fun b hb => ((H.facts _ (List.mem_of_getElem? hf)).2 b hb).1
theorem all_app {F G : List Nat} {p : Nat → Prop} (h : ∀ b ∈ F, p b) (k : ∀ b ∈ G, p b) : ∀ b ∈ F ++ G, p b := fun b hb => by
  rcases List.mem_append.1 hb with h' | h'
  · exact h b h'
  · exact k b h'
theorem St.isLt {α : Type} [GoRep α] {W0 w : World} {ps : List Prv} {Γ : List Fact} (H : St W0 w ps Γ) (i : Nat) {fr : Bool} {F : List Nat} {v : Value} {l : α} (hf : Γ[i]? = some (isF fr F v l)) : ∀ b ∈ F, b < w.heap.size :=
  fun b hb => ((H.facts _ (List.mem_of_getElem? hf)).2 b hb).1
theorem fresh_snoc {F G : List Nat} {n : Nat} (h : ∀ b ∈ F, n ≤ b) (k : ∀ b ∈ G, n ≤ b) : ∀ b ∈ F ++ G, n ≤ b := fun b hb => by
  rcases List.mem_append.1 hb with h' | h'
  · exact h b h'
  · exact k b h'

section
variable {W0 w : World} {ps : List Prv} {Γ : List Fact}
theorem St.repsNil {α : Type} [GoRep α] (H : St W0 w ps Γ) : St W0 w ps (repsF true [] [] ([] : List α) :: Γ) := H.add _ ⟨⟨rfl, rfl⟩, fun _ => FreeAll.nil _⟩ (by simp [repsF])
theorem St.repsSnoc {α : Type} [GoRep α] (H : St W0 w ps Γ) (i : Nat) {fr : Bool} {F : List Nat} {xs : List Value} {l : List α} (hf : Γ[i]? = some (repsF fr F xs l)) (j : Nat) {G : List Nat} {v : Value} {x : α} (hg : Γ[j]? = some (isF fr G v x)) :
    St W0 w ps (repsF fr (F ++ G) (xs ++ [v]) (l ++ [x]) :: Γ) := by
  refine H.add _ ⟨reps_append (H.get i hf).1 (reps_one (H.get j hg).1), fun e => ((H.get i hf).2 e).app ((H.get j hg).2 e)⟩ fun b hb => ?_
  rcases List.mem_append.1 hb with h | h
  · exact (H.facts _ (List.mem_of_getElem? hf)).2 b h
  · exact (H.facts _ (List.mem_of_getElem? hg)).2 b h
end

theorem ownNew_nil {α : Type} [GoRep α] (w0 w : World) (e : TypeId) : OwnNew w0 w e (.slice none 0 0) ([] : List α) :=
  ⟨[], [], World.ownsRow_nil _ _ _ _, ⟨rfl, rfl⟩, by simp, by simp, by simp, FreeAll.nil _⟩
theorem St.nilOf {α : Type} [GoRep α] {W0 w : World} {ps : List Prv} {Γ : List Fact} (H : St W0 w ps Γ) (i : Nat) {fr : Bool} {F : List Nat} {a : Option Addr} {m c : Nat} {l : List α} (hf : Γ[i]? = some (isF fr F (.slice a m c) l)) (ha : a.isNone = true) : l = [] := by
  obtain ⟨⟨a', cap, hc, _, h⟩, _⟩ := H.get i hf
  simp only [List.cons.injEq, Value.slice.injEq, and_true] at hc
  obtain ⟨rfl, rfl, rfl⟩ := hc
  rcases h with ⟨rfl, _⟩ | ⟨b, off, F', vs, rfl, _⟩
  · rfl
  · simp at ha

/-! ### A result that lies in memory -/
section
variable {P : Program} {n : Nat} {ρ : Env} {W0 w : World} {ps : List Prv} {Γ : List Fact}
theorem retC {fn : Func} {R : Ending → World → Prop} {t T b : Nat} {cs : List Value} {tb : TypeId} (H : St W0 w ps Γ) (i : Nat) (hp : ps[i]? = some (.box b cs tb)) (hr : fn.results = #[.cell t T])
    (ha : ∀ w, (isAgg T).run P w = .ok true w) (hs : ∀ w, (Go.sizeOf T).run P w = .ok cs.length w) (hv : ev n ρ (.tmp t) = .pointer (some ⟨b, 0, none⟩)) (h : R (.returned (.agg cs.toArray)) w) : bodyPost P fn R .ret (mk n ρ) w := by
  have hl := run_loadCells_list (P := P) w ⟨b, 0, none⟩ cs (fun j v hv => by rw [Addr.add_mid]; exact H.cells i hp j v hv)
  have e := congrFun (mk_eval n ρ) (.tmp t)
  simp only [Act.eval, Array.getD_eq_getD_getElem?] at e
  rw [hv] at e
  exact bodyPost_ret (v := .agg cs.toArray) (by simp [results, hr, e, asAddr, loadVar, ha, hs, hl]) rfl h
theorem retC2 {fn : Func} {R : Ending → World → Prop} {t u T b : Nat} {cs : List Value} {tb : TypeId} (H : St W0 w ps Γ) (i : Nat) (hp : ps[i]? = some (.box b cs tb)) (x : Value) (hr : fn.results = #[.cell t T, .tmp u])
    (ha : ∀ w, (isAgg T).run P w = .ok true w) (hs : ∀ w, (Go.sizeOf T).run P w = .ok cs.length w) (hv : ev n ρ (.tmp t) = .pointer (some ⟨b, 0, none⟩)) (hx : ev n ρ (.tmp u) = x)
    (h : R (.returned (.tuple #[.agg cs.toArray, x])) w) : bodyPost P fn R .ret (mk n ρ) w := by
  have hl := run_loadCells_list (P := P) w ⟨b, 0, none⟩ cs (fun j v hv => by rw [Addr.add_mid]; exact H.cells i hp j v hv)
  have e := congrFun (mk_eval n ρ) (.tmp t)
  have e' := congrFun (mk_eval n ρ) (.tmp u)
  simp only [Act.eval, Array.getD_eq_getD_getElem?] at e e'
  rw [hv] at e
  rw [hx] at e'
  exact bodyPost_ret (v := .tuple #[.agg cs.toArray, x]) (by simp [results, hr, e, e', asAddr, loadVar, ha, hs, hl]) rfl h
end

/-! ### Regions whose order is drawn -/
section
variable {P : Program} {Q : Exit → Act → World → Prop} {n : Nat} {ρ : Env} {w : World} {S : World → Prop} {l : List Oper} {fuel : Nat} {listed : Array Bool}

/-- Whatever order is picked from here on. -/
@[irreducible] def RW (P : Program) (l : List Oper) (Q : Exit → Act → World → Prop) (S : World → Prop) (n fuel : Nat) (listed : Array Bool) (ρ : Env) (w : World) : Prop :=
  wpAnyH P .any l.toArray Q S fuel listed (mk n ρ) w

theorem c_draw {id : Nat} (S : World → Prop) (hm : P.follows .mixedOrders = true) (hS : S w.drew) (h : RW P l Q S n l.toArray.size (Array.replicate l.toArray.size false) ρ w.drew) :
    (Code.region id l.toArray true).wp P Q (mk n ρ) w :=
  wp_region_held_drew hm hS fun _ => by unfold RW at h; exact h

theorem r_take {d : Nat} {op : Op} {ty : TypeId} {pos : String} {af : Array Edge} (i : Nat) (v : Value) (hi : l.toArray[i]? = some ⟨some d, op, ty, pos, af, none⟩) (hsel : Region.noSelect l.toArray = true)
    (hfree : Region.free .any l.toArray listed i = true) (hready : (Region.ready .any l.toArray listed).contains i = true) (hQ : ∀ c a w, Q (.panic c) (a.put (some d) v) w → Q (.panic c) a w)
    (hy : ∀ w', S w' → (execOp (ev n ρ) ⟨some d, op, ty, pos, af, none⟩).run P w' = .ok (.value v) w') (hS : S w) (h : RW P l Q S n fuel (listed.setIfInBounds i true) (upd ρ d v) w) :
    RW P l Q S n (fuel + 1) listed ρ w := by
  unfold RW at h ⊢
  refine wpAnyH_take hi hsel hfree hready hQ (Or.inl ⟨rfl, fun w' hw' => by rw [mk_eval]; exact hy w' hw'⟩) hS ?_
  show wpAnyH P .any l.toArray Q S fuel _ ((mk n ρ).put (some d) v) w
  rw [mk_put]
  exact h

theorem r_takeG {d j e : Nat} {b : Bool} {op : Op} {ty : TypeId} {pos : String} {af : Array Edge} (i : Nat) (v : Value) (hi : l.toArray[i]? = some ⟨some d, op, ty, pos, af, some (j, b)⟩) (hsel : Region.noSelect l.toArray = true)
    (hfree : Region.free .any l.toArray listed i = true) (hready : (Region.ready .any l.toArray listed).contains i = true) (hQ : ∀ c a w, Q (.panic c) (a.put (some d) v) w → Q (.panic c) a w)
    (hd : dstAt l j = some e) (hv : ev n ρ (.tmp e) = .bool b)
    (hy : ∀ w', S w' → (execOp (ev n ρ) ⟨some d, op, ty, pos, af, some (j, b)⟩).run P w' = .ok (.value v) w') (hS : S w) (h : RW P l Q S n fuel (listed.setIfInBounds i true) (upd ρ d v) w) :
    RW P l Q S n (fuel + 1) listed ρ w := by
  unfold RW at h ⊢
  refine wpAnyH_take hi hsel hfree hready hQ (Or.inl ⟨by simp [Region.wanted, yielded_of ((dstAt_eq l j).trans hd) hv], fun w' hw' => by rw [mk_eval]; exact hy w' hw'⟩) hS ?_
  show wpAnyH P .any l.toArray Q S fuel _ ((mk n ρ).put (some d) v) w
  rw [mk_put]
  exact h

theorem r_skipG {d j e : Nat} {b b' : Bool} {op : Op} {ty : TypeId} {pos : String} {af : Array Edge} (i : Nat) (hi : l.toArray[i]? = some ⟨some d, op, ty, pos, af, some (j, b)⟩) (hsel : Region.noSelect l.toArray = true)
    (hfree : Region.free .any l.toArray listed i = true) (hready : (Region.ready .any l.toArray listed).contains i = true) (hQ : ∀ c a w, Q (.panic c) (a.put (some d) undef) w → Q (.panic c) a w)
    (hd : dstAt l j = some e) (hv : ev n ρ (.tmp e) = .bool b') (hb : b' = !b) (hS : S w) (h : RW P l Q S n fuel (listed.setIfInBounds i true) (upd ρ d undef) w) :
    RW P l Q S n (fuel + 1) listed ρ w := by
  subst hb
  unfold RW at h ⊢
  refine wpAnyH_take hi hsel hfree hready hQ (Or.inr ⟨by simp [Region.wanted, yielded_of ((dstAt_eq l j).trans hd) hv], rfl⟩) hS ?_
  show wpAnyH P .any l.toArray Q S fuel _ ((mk n ρ).put (some d) undef) w
  rw [mk_put]
  exact h

theorem r_skipU {d j e : Nat} {b : Bool} {op : Op} {ty : TypeId} {pos : String} {af : Array Edge} (i : Nat) (hi : l.toArray[i]? = some ⟨some d, op, ty, pos, af, some (j, b)⟩) (hsel : Region.noSelect l.toArray = true)
    (hfree : Region.free .any l.toArray listed i = true) (hready : (Region.ready .any l.toArray listed).contains i = true) (hQ : ∀ c a w, Q (.panic c) (a.put (some d) undef) w → Q (.panic c) a w)
    (hd : dstAt l j = some e) (hv : ev n ρ (.tmp e) = undef) (hS : S w) (h : RW P l Q S n fuel (listed.setIfInBounds i true) (upd ρ d undef) w) :
    RW P l Q S n (fuel + 1) listed ρ w := by
  unfold RW at h ⊢
  refine wpAnyH_take hi hsel hfree hready hQ (Or.inr ⟨by simp [Region.wanted, yielded_un ((dstAt_eq l j).trans hd) hv], rfl⟩) hS ?_
  show wpAnyH P .any l.toArray Q S fuel _ ((mk n ρ).put (some d) undef) w
  rw [mk_put]
  exact h

theorem r_done (hr : Region.ready .any l.toArray listed = []) (h : Q .normal (mk n ρ) w) : RW P l Q S n fuel listed ρ w := by
  unfold RW
  exact wpAnyH_done hr h fuel

/-- Only these operations may come up: each of them is carried out. -/
theorem r_ops (rs : List Nat) (hr : Region.ready .any l.toArray listed = rs) (hne : rs ≠ []) (h : AllReadyH P .any l.toArray Q S fuel listed (mk n ρ) w rs) : RW P l Q S n (fuel + 1) listed ρ w := by
  unfold RW
  exact wpAnyH_ready hr hne h

theorem r_op {dst : Option Nat} {op : Op} {ty : TypeId} {pos : String} {af : Array Edge} {i : Nat} {rs : List Nat} (hi : l.toArray[i]? = some ⟨dst, op, ty, pos, af, none⟩)
    (h : OW P Q ⟨dst, op, ty, pos, af, none⟩ n ρ w fun ρ w => S w ∧ RW P l Q S n fuel (listed.setIfInBounds i true) ρ w) (hs : AllReadyH P .any l.toArray Q S fuel listed (mk n ρ) w rs) :
    AllReadyH P .any l.toArray Q S fuel listed (mk n ρ) w (i :: rs) := by
  refine AllReadyH.cons hi (fun K' hK => ?_) hs
  unfold OW at h
  rw [if_pos (by rfl)]
  refine h K' fun ρ' w' ⟨h1, h2⟩ => hK.out _ _ h1 fun _ => ?_
  unfold RW at h2
  exact h2

theorem r_opG {dst : Option Nat} {op : Op} {ty : TypeId} {pos : String} {af : Array Edge} {i j e : Nat} {b : Bool} {rs : List Nat} (hi : l.toArray[i]? = some ⟨dst, op, ty, pos, af, some (j, b)⟩)
    (hd : dstAt l j = some e) (hv : ev n ρ (.tmp e) = .bool b)
    (h : OW P Q ⟨dst, op, ty, pos, af, none⟩ n ρ w fun ρ w => S w ∧ RW P l Q S n fuel (listed.setIfInBounds i true) ρ w) (hs : AllReadyH P .any l.toArray Q S fuel listed (mk n ρ) w rs) :
    AllReadyH P .any l.toArray Q S fuel listed (mk n ρ) w (i :: rs) := by
  refine AllReadyH.cons hi (fun K' hK => ?_) hs
  unfold OW at h
  rw [if_pos (by simp [Region.wanted, yielded_of ((dstAt_eq l j).trans hd) hv])]
  have := h K' fun ρ' w' ⟨h1, h2⟩ => hK.out _ _ h1 fun _ => (by unfold RW at h2; exact h2)
  exact this

/-! What an operation yields in every world of the class. -/
section
variable {d : Nat} {ty : TypeId} {pos : String} {af : Array Edge} {gd : Option (Nat × Bool)}
theorem y_pure {op : Op} {v : Value} (h : pv (ev n ρ) op = some v) : ∀ w', S w' → (execOp (ev n ρ) ⟨some d, op, ty, pos, af, gd⟩).run P w' = .ok (.value v) w' :=
  fun w' _ => pv_run (by exact h) w'
theorem y_add {x y : Operand} {t u : TypeId} (a b : Int) (hx : ev n ρ x = .int .i64 a) (hy : ev n ρ y = .int .i64 b) (h : -9223372036854775808 ≤ a + b ∧ a + b ≤ 9223372036854775807) :
    ∀ w', S w' → (execOp (ev n ρ) ⟨some d, .binOp .add t x y u, ty, pos, af, gd⟩).run P w' = .ok (.value (.int .i64 (a + b))) w' :=
  fun w' _ => by simp [execOp, hx, hy, eqGuard, binOp, Op.intArith, wrap_in h]
theorem y_sub {x y : Operand} {t u : TypeId} (a b : Int) (hx : ev n ρ x = .int .i64 a) (hy : ev n ρ y = .int .i64 b) (h : -9223372036854775808 ≤ a - b ∧ a - b ≤ 9223372036854775807) :
    ∀ w', S w' → (execOp (ev n ρ) ⟨some d, .binOp .sub t x y u, ty, pos, af, gd⟩).run P w' = .ok (.value (.int .i64 (a - b))) w' :=
  fun w' _ => by simp [execOp, hx, hy, eqGuard, binOp, Op.intArith, wrap_in h]
theorem y_mul {x y : Operand} {t u : TypeId} (a b : Int) (hx : ev n ρ x = .int .i64 a) (hy : ev n ρ y = .int .i64 b) (h : -9223372036854775808 ≤ a * b ∧ a * b ≤ 9223372036854775807) :
    ∀ w', S w' → (execOp (ev n ρ) ⟨some d, .binOp .mul t x y u, ty, pos, af, gd⟩).run P w' = .ok (.value (.int .i64 (a * b))) w' :=
  fun w' _ => by simp [execOp, hx, hy, eqGuard, binOp, Op.intArith, wrap_in h]
theorem y_eqB {x y : Operand} {t u : TypeId} (hu : P.underlying t = some .bool) (a b : Bool) (hx : ev n ρ x = .bool a) (hy : ev n ρ y = .bool b) :
    ∀ w', S w' → (execOp (ev n ρ) ⟨some d, .binOp .eql t x y u, ty, pos, af, gd⟩).run P w' = .ok (.value (.bool (a == b))) w' :=
  fun w' _ => by simp [execOp, hx, hy, eqGuard, binOp, run_eqB hu]
theorem y_neB {x y : Operand} {t u : TypeId} (hu : P.underlying t = some .bool) (a b : Bool) (hx : ev n ρ x = .bool a) (hy : ev n ρ y = .bool b) :
    ∀ w', S w' → (execOp (ev n ρ) ⟨some d, .binOp .neq t x y u, ty, pos, af, gd⟩).run P w' = .ok (.value (.bool (a != b))) w' :=
  fun w' _ => by simp [execOp, hx, hy, eqGuard, binOp, run_eqB hu, bne]
theorem y_len {x : Operand} {t e : TypeId} (hu : P.underlying t = some (.slice e)) (a : Option Addr) (m c : Nat) (hx : ev n ρ x = .slice a m c) :
    ∀ w', S w' → (execOp (ev n ρ) ⟨some d, .call ⟨.builtin .len, #[x], #[t]⟩, ty, pos, af, gd⟩).run P w' = .ok (.value (.int .i64 m)) w' :=
  fun w' _ => by simp [execOp, resolve, invoke, builtin, Builtin.len_, hx, run_underlying hu, goInt]
theorem y_field {t : TypeId} {x : Operand} {fs : Array Field} {i : Nat} {f : Field} {m : Nat} (b off j : Nat) (hu : P.underlying t = some (.struct fs)) (hf : fs[i]? = some f) (hj : f.offset = j)
    (hs : ∀ w, (Go.sizeOf f.type).run P w = .ok (m + 1) w) (hx : ev n ρ x = .pointer (some ⟨b, off, none⟩)) :
    ∀ w', S w' → (execOp (ev n ρ) ⟨some d, .fieldAddr t x i, ty, pos, af, gd⟩).run P w' = .ok (.value (.pointer (some ⟨b, off + j, none⟩))) w' :=
  fun w' _ => by subst hj; simp [execOp, hx, Instr.fieldAt, Instr.sureAddr, fieldPlace, run_underlying hu, hf, hs, Addr.add_mid]
theorem y_idxAt {x y : Operand} {t e : TypeId} (b off m c : Nat) {z : Value} {sz by' : Nat} (iv : Int) (hu : P.underlying t = some (.slice e)) (he : TI P e z sz by')
    (hx : ev n ρ x = .slice (some ⟨b, off, none⟩) m c) (hy : ev n ρ y = .int .i64 iv) (h0 : 0 ≤ iv) (h1 : iv < m) :
    ∀ w', S w' → (execOp (ev n ρ) ⟨some d, .indexAddr t x y, ty, pos, af, gd⟩).run P w' = .ok (.value (.pointer (some ⟨b, off + iv.toNat * sz, none⟩))) w' :=
  fun w' _ => by simp [execOp, hx, hy, Instr.indexAt, asIntOf, run_underlying hu, he.sizeOf, h0, h1, Addr.add_mid]
theorem y_load1 {t : TypeId} {x : Operand} {b off : Nat} {v : Value} (ha : ∀ w, (isAgg t).run P w = .ok false w) (hx : ev n ρ x = .pointer (some ⟨b, off, none⟩))
    (hc : ∀ w', S w' → w'.cell? ⟨b, off, none⟩ = some v) : ∀ w', S w' → (execOp (ev n ρ) ⟨some d, .load t x, ty, pos, af, gd⟩).run P w' = .ok (.value v) w' :=
  fun w' h => by simp [execOp, hx, run_load1 ha (hc w' h)]
theorem y_loadN {t : TypeId} {x : Operand} {b off : Nat} {cs : List Value} (ha : ∀ w, (isAgg t).run P w = .ok true w) (hs : ∀ w, (Go.sizeOf t).run P w = .ok cs.length w)
    (hx : ev n ρ x = .pointer (some ⟨b, off, none⟩)) (hc : ∀ w', S w' → CellsAt w' b off cs) : ∀ w', S w' → (execOp (ev n ρ) ⟨some d, .load t x, ty, pos, af, gd⟩).run P w' = .ok (.value (.agg cs.toArray)) w' :=
  fun w' h => by simp [execOp, hx, run_loadN ha hs (hc w' h)]
end

theorem r_nil : AllReadyH P .any l.toArray Q S fuel listed (mk n ρ) w [] := AllReadyH.nil
end
end Go.Proofs.YtfekhnffbngoaaaDoor
