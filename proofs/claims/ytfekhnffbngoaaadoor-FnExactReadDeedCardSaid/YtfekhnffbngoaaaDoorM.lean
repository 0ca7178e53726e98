/- One lemma an operation: memory and calls. No program here. -/
import Derived.Test.YtfekhnffbngoaaaDoorO
import Derived.Deep.MidRow
import Derived.Great.BuildSlice
namespace Go.Proofs.YtfekhnffbngoaaaDoor
set_option linter.unusedVariables false
set_option linter.unusedSimpArgs false
open Go.RowKit

/-- A type's row of the table: its zero value, how many cells, how many bytes. -/
def TI (P : Program) (t : TypeId) (z : Value) (size bytes : Nat) : Prop := (P.info? t).map (fun i => (i.zero, i.size, i.bytes)) = some (some z, size, bytes)

theorem TI.sizeOf {P : Program} {t : TypeId} {z : Value} {m by' : Nat} (h : TI P t z m by') (w : World) : (Go.sizeOf t).run P w = .ok m w := by
  obtain ⟨i, hi, _, h2, _⟩ := info_parts h
  simp [Go.sizeOf, typeInfo, hi, h2]
theorem TI.zero {P : Program} {t : TypeId} {z : Value} {m by' : Nat} (h : TI P t z m by') (w : World) : (zeroValue t).run P w = .ok z w := by
  obtain ⟨i, hi, h1, _, _⟩ := info_parts h
  simp [zeroValue, typeInfo, hi, h1]

/-! ### Facts on memory -/
/-- Every block of these is one of plain cells that may be written. -/
def FreeAll (w : World) (F : List Nat) : Prop := ∀ b ∈ F, ∃ cs t, w.heap[b]? = some (.cells cs t (0, 0))
theorem FreeAll.stay {w w' : World} {F : List Nat} (h : FreeAll w F) (hs : ∀ b ∈ F, w'.heap[b]? = w.heap[b]?) : FreeAll w' F := fun b hb => by rw [hs b hb]; exact h b hb
theorem FreeAll.sub {w : World} {F G : List Nat} (h : FreeAll w F) (hs : ∀ b ∈ G, b ∈ F) : FreeAll w G := fun b hb => h b (hs b hb)
theorem FreeAll.app {w : World} {F G : List Nat} (h : FreeAll w F) (k : FreeAll w G) : FreeAll w (F ++ G) := fun b hb => by
  rcases List.mem_append.1 hb with h' | h'
  · exact h b h'
  · exact k b h'
theorem FreeAll.nil (w : World) : FreeAll w [] := fun b hb => by simp at hb

section
variable {α : Type} [GoRep α]
def isF (fr : Bool) (F : List Nat) (v : Value) (x : α) : Fact := ⟨F, fun w => GoRep.rep w F [v] x ∧ (fr = true → FreeAll w F), fun _ _ h hs => ⟨GoRep.stay h.1 hs, fun e => (h.2 e).stay hs⟩⟩
def repsF (fr : Bool) (F : List Nat) (xs : List Value) (l : List α) : Fact := ⟨F, fun w => reps w F xs l ∧ (fr = true → FreeAll w F), fun _ _ h hs => ⟨reps_stay h.1 hs, fun e => (h.2 e).stay hs⟩⟩
/-- The cells from place off of block b on read as x. -/
def elF (b off : Nat) (cs : List Value) (F : List Nat) (x : α) : Fact :=
  ⟨b :: F, fun w => CellsAt w b off cs ∧ GoRep.rep w F cs x, fun _ _ h hs => ⟨cellsAt_stay h.1 (hs b (List.mem_cons_self ..)), GoRep.stay h.2 fun c hc => hs c (List.mem_cons_of_mem _ hc)⟩⟩
end
def atF (b off : Nat) (cs : List Value) : Fact := ⟨[b], fun w => CellsAt w b off cs, fun _ _ h hs => cellsAt_stay h (hs b (by simp))⟩

section
variable {P : Program} {ops : Array Oper} {Q : Exit → Act → World → Prop} {n : Nat} {ρ : Env} {W0 w : World} {rest : List Oper} {ps : List Prv} {Γ : List Fact}
  {d : Nat} {ty : TypeId} {pos : String} {af : Array Edge} {K : Env → World → Prop}

/-! ### Cells of the call's own, and of others -/
theorem St.cell (H : St W0 w ps Γ) (i : Nat) {b : Nat} {cs : List Value} {t : TypeId} (hp : ps[i]? = some (.box b cs t)) {off : Nat} {v : Value} (hv : cs[off]? = some v) : w.cell? ⟨b, off, none⟩ = some v := by
  have := (H.has _ (List.mem_of_getElem? hp)).2
  rw [World.cell?, this]
  simpa using hv
theorem St.cellF (H : St W0 w ps Γ) (i : Nat) {b off : Nat} {cs : List Value} (hf : Γ[i]? = some (atF b off cs)) (j : Nat) {v : Value} (hv : cs[j]? = some v) : w.cell? ⟨b, off + j, none⟩ = some v :=
  H.get i hf j v hv
theorem St.cells (H : St W0 w ps Γ) (i : Nat) {b : Nat} {cs : List Value} {t : TypeId} (hp : ps[i]? = some (.box b cs t)) : CellsAt w b 0 cs := by
  intro j v hv
  rw [Nat.zero_add]
  exact H.cell i hp hv

theorem cellsAt_sub {w : World} {b off : Nat} {cs : List Value} (h : CellsAt w b off cs) (j m : Nat) : CellsAt w b (off + j) ((cs.drop j).take m) := by
  intro i v hv
  rw [List.getElem?_take] at hv
  split at hv
  · rw [List.getElem?_drop] at hv
    rw [Nat.add_assoc]
    exact h (j + i) v hv
  · cases hv

theorem o_alloc {t : TypeId} {z : Value} {m by' : Nat} (H : St W0 w ps Γ) (ht : TI P t z m by')
    (k : ∀ b w', St W0 w' (.box b z.cells.toList t :: ps) Γ → K (upd ρ d (.pointer (some ⟨b, 0, none⟩))) w') :
    OW P Q ⟨some d, .alloc t, ty, pos, af, none⟩ n ρ w K :=
  o_val (w' := w.alloc (.cells z.cells t)) _ (by simp [execOp, Instr.alloc, ht.zero, newVar, newRow]) (k _ _ (H.alloc _ _))

theorem o_box {t : TypeId} {x : Operand} (H : St W0 w ps Γ) (v : Value) (hx : ev n ρ x = v)
    (k : ∀ b w', St W0 w' (.box b v.cells.toList t :: ps) Γ → K (upd ρ d (.pointer (some ⟨b, 0, none⟩))) w') :
    OW P Q ⟨some d, .box t x, ty, pos, af, none⟩ n ρ w K :=
  o_val (w' := w.alloc (.cells v.cells t)) _ (by simp [execOp, Instr.box, hx, newVar, newRow]) (k _ _ (H.alloc _ _))

theorem run_load1 {t : TypeId} {b off : Nat} {v : Value} (ha : ∀ w, (isAgg t).run P w = .ok false w) (hc : w.cell? ⟨b, off, none⟩ = some v) :
    (Instr.loadAt t (.pointer (some ⟨b, off, none⟩))).run P w = .ok v w := by
  simp [Instr.loadAt, Instr.sureAddr, loadVar, ha, hc]

theorem o_load1 {t : TypeId} {x : Operand} {b off : Nat} (v : Value) (ha : ∀ w, (isAgg t).run P w = .ok false w) (hx : ev n ρ x = .pointer (some ⟨b, off, none⟩))
    (hc : w.cell? ⟨b, off, none⟩ = some v) (k : K (upd ρ d v) w) : OW P Q ⟨some d, .load t x, ty, pos, af, none⟩ n ρ w K :=
  o_val v (by simp [execOp, hx, run_load1 ha hc]) k

theorem run_loadN {t : TypeId} {b off : Nat} {cs : List Value} (ha : ∀ w, (isAgg t).run P w = .ok true w) (hs : ∀ w, (Go.sizeOf t).run P w = .ok cs.length w)
    (hc : CellsAt w b off cs) : (Instr.loadAt t (.pointer (some ⟨b, off, none⟩))).run P w = .ok (.agg cs.toArray) w := by
  have := run_loadCells_list (P := P) w ⟨b, off, none⟩ cs (fun j v hv => by rw [Addr.add_mid]; exact hc j v hv)
  simp [Instr.loadAt, Instr.sureAddr, loadVar, ha, hs, this]

theorem o_loadN {t : TypeId} {x : Operand} {b off : Nat} (cs : List Value) (ha : ∀ w, (isAgg t).run P w = .ok true w) (hs : ∀ w, (Go.sizeOf t).run P w = .ok cs.length w)
    (hx : ev n ρ x = .pointer (some ⟨b, off, none⟩)) (hc : CellsAt w b off cs) (k : K (upd ρ d (.agg cs.toArray)) w) :
    OW P Q ⟨some d, .load t x, ty, pos, af, none⟩ n ρ w K :=
  o_val _ (by simp [execOp, hx, run_loadN ha hs hc]) k

theorem o_field {t : TypeId} {x : Operand} {fs : Array Field} {i : Nat} {f : Field} {m : Nat} (b off j : Nat) (hu : P.underlying t = some (.struct fs)) (hf : fs[i]? = some f) (hj : f.offset = j)
    (hs : ∀ w, (Go.sizeOf f.type).run P w = .ok (m + 1) w) (hx : ev n ρ x = .pointer (some ⟨b, off, none⟩)) (k : K (upd ρ d (.pointer (some ⟨b, off + j, none⟩))) w) :
    OW P Q ⟨some d, .fieldAddr t x i, ty, pos, af, none⟩ n ρ w K :=
  o_val _ (by subst hj; simp [execOp, hx, Instr.fieldAt, Instr.sureAddr, fieldPlace, run_underlying hu, hf, hs, Addr.add_mid]) k

/-! ### Stores into what the call owns -/
theorem St.setAll (H : St W0 w ps Γ) (i : Nat) {b : Nat} {cs : List Value} {t : TypeId} (hp : ps[i]? = some (.box b cs t)) (cs' : List Value) :
    St W0 (w.setRow b cs'.toArray) (ps.set i (.box b cs' t)) Γ := by
  have hb := H.has _ (List.mem_of_getElem? hp)
  refine H.change i hp rfl rfl rfl (by simp [World.setRow]) (fun c _ hc => ?_) ⟨hb.1, ?_⟩ (Or.inl rfl)
  · have hne : b ≠ c := fun e => hc (by simp [Prv.blk, e])
    simp [World.setRow, Array.getElem?_modify, hne]
  · simp [World.setRow, Array.getElem?_modify, hb.2]

theorem o_store {t : TypeId} {x y : Operand} {b off : Nat} {cs : List Value} {tb : TypeId} (H : St W0 w ps Γ) (i : Nat) (hp : ps[i]? = some (.box b cs tb)) (v : Value)
    (hs : ∀ w, (Go.sizeOf t).run P w = .ok v.cells.size w) (hx : ev n ρ x = .pointer (some ⟨b, off, none⟩)) (hy : ev n ρ y = v) (h1 : ∀ u ∈ v.cells.toList, u.oneCell' = true) (ho : off + v.cells.size ≤ cs.length)
    (k : ∀ w', St W0 w' (ps.set i (.box b (cs.take off ++ v.cells.toList ++ cs.drop (off + v.cells.size)) tb)) Γ → K ρ w') :
    OW P Q ⟨none, .store t x y, ty, pos, af, none⟩ n ρ w K := by
  have hb := (H.has _ (List.mem_of_getElem? hp)).2
  have hr := run_storeCells_at P b off tb v.cells.toList 0 cs.toArray w hb (by simpa using ho) h1
  refine o_unit (w' := w.setRow b (cs.take off ++ v.cells.toList ++ cs.drop (off + v.cells.size)).toArray) ?_ (k _ (H.setAll i hp _))
  simp only [Nat.add_zero, Array.length_toList] at hr
  simp [execOp, hx, hy, Instr.storeAt, Instr.sureAddr, storeVar, hs, hr]

theorem o_store1 {t : TypeId} {x y : Operand} {b off : Nat} {cs : List Value} {tb : TypeId} (H : St W0 w ps Γ) (i : Nat) (hp : ps[i]? = some (.box b cs tb)) (v : Value)
    (hs : ∀ w, (Go.sizeOf t).run P w = .ok 1 w) (hx : ev n ρ x = .pointer (some ⟨b, off, none⟩)) (hy : ev n ρ y = v) (h1 : v.oneCell' = true) (ho : off < cs.length)
    (k : ∀ w', St W0 w' (ps.set i (.box b (cs.set off v) tb)) Γ → K ρ w') :
    OW P Q ⟨none, .store t x y, ty, pos, af, none⟩ n ρ w K := by
  have hc : v.cells = #[v] := by cases v <;> first | rfl | (simp [Value.oneCell'] at h1)
  refine o_store H i hp v (by simpa [hc] using hs) hx hy (by simp [hc, h1]) (by simp [hc]; omega) ?_
  simp only [hc, List.size_toArray, List.length_cons, List.length_nil, Nat.zero_add]
  rw [show cs.take off ++ [v] ++ cs.drop (off + 1) = cs.set off v by rw [List.set_eq_take_append_cons_drop, if_pos ho]; simp]
  exact k

/-! ### Elements -/
variable {α : Type} [GoRep α] [Inhabited α]

theorem o_idxAt {x y : Operand} {t e : TypeId} {b off m c : Nat} {z : Value} {sz by' : Nat} (iv : Int) (hu : P.underlying t = some (.slice e)) (he : TI P e z sz by')
    (hx : ev n ρ x = .slice (some ⟨b, off, none⟩) m c) (hy : ev n ρ y = .int .i64 iv) (h0 : 0 ≤ iv) (h1 : iv < m)
    (k : K (upd ρ d (.pointer (some ⟨b, off + iv.toNat * sz, none⟩))) w) : OW P Q ⟨some d, .indexAddr t x y, ty, pos, af, none⟩ n ρ w K :=
  o_val _ (by simp [execOp, hx, hy, Instr.indexAt, asIntOf, run_underlying hu, he.sizeOf, h0, h1, Addr.add_mid]) k

/-! ### Calls -/
theorem o_call {x : Operand} {xs : Array Operand} {ts : Array TypeId} {f : FuncId} {fst caps : Array Value} {R : Value → World → Prop} (args : Array Value) (hv : ev n ρ x = .func (.func f) fst caps)
    (hargs : fst.toList ++ xs.toList.map (ev n ρ) ++ caps.toList = args.toList) (hf : ∀ args w, (callFunc f args).run P w = .ok (.enter f args) w)
    (hc : Calls P f args w fun e w' => ∃ v, e = .returned v ∧ R v w' ∧ Ext w w') (k : ∀ v w', R v w' → Ext w w' → K (upd ρ d v) w') :
    OW P Q ⟨some d, .call ⟨.value x, xs, ts⟩, ty, pos, af, none⟩ n ρ w K := by
  have hr : (execOp (ev n ρ) ⟨some d, .call ⟨.value x, xs, ts⟩, ty, pos, af, none⟩).run P w = .ok (.enter f args) w := by
    have e : fst ++ xs.map (ev n ρ) ++ caps = args := by apply Array.toList_inj.1; rw [← hargs]; simp
    simp [execOp, resolve, Deferred.ofValue, hv, invoke, hf, e]
  unfold OW
  intro K' hK
  unfold Oper.wp
  rw [mk_eval, hr]
  refine hc.mono fun e w' ⟨v, he, hR, hE⟩ => ?_
  subst he
  show K' ((mk n ρ).put (some d) v) w'
  rw [mk_put]
  exact hK _ _ (k v w' hR hE)

/-- A call of a function value that came in. -/
theorem o_callV {x : Operand} {xs : Array Operand} {ts : Array TypeId} {f : FuncId} {caps : Array Value} {R : Value → World → Prop} (as : List Value) (hv : ev n ρ x = .func (.func f) #[] caps)
    (hargs : xs.toList.map (ev n ρ) = as) (hf : ∀ args w, (callFunc f args).run P w = .ok (.enter f args) w)
    (hc : Calls P f (as ++ caps.toList).toArray w fun e w' => ∃ v, e = .returned v ∧ R v w' ∧ Ext w w') (k : ∀ v w', R v w' → Ext w w' → K (upd ρ d v) w') :
    OW P Q ⟨some d, .call ⟨.value x, xs, ts⟩, ty, pos, af, none⟩ n ρ w K :=
  o_call _ hv (by rw [← hargs]; simp) hf hc k
end

/-- What a call that makes memory alone comes to. -/
def Ret (R : Value → World → Prop) (w : World) (e : Ending) (w' : World) : Prop := ∃ v, e = .returned v ∧ R v w' ∧ Ext w w'

/-! ### What a call hands back -/
section
variable {α : Type} [GoRep α]
/-- v reads as the list l, all of it in memory that was not there at w0. -/
def IsNew (w0 w : World) (v : Value) (l : List α) : Prop := ∃ a c F, v = .slice a l.length c ∧ GoRep.rep w F [v] l ∧ (∀ b ∈ F, w0.heap.size ≤ b) ∧ F.Nodup ∧ FreeAll w F
/-- v is a slice of the call's own that reads as the list l. -/
def OwnNew (w0 w : World) (e : TypeId) (v : Value) (l : List α) : Prop :=
  ∃ xs F, w.ownsRow w0.heap.size e (GoRep.size α) v l.length xs ∧ reps w F xs l ∧ (∀ b ∈ F, w0.heap.size ≤ b) ∧ (∀ b ∈ F, v.ownBlock ≠ some b) ∧ F.Nodup ∧ FreeAll w F
end

theorem start_lt {α : Type} [GoRep α] {w : World} {F : List Nat} {v : Value} {x : α} (h : GoRep.rep w F [v] x) : ∀ b ∈ F, b < w.heap.size ∧ ∀ i, blkAt [] i ≠ some b :=
  fun b hb => ⟨GoRep.lt h b hb, fun i => by simp [blkAt]⟩
theorem start_at {w : World} {b off : Nat} {v : Value} {cs : List Value} (h : CellsAt w b off (v :: cs)) : ∀ c ∈ [b], c < w.heap.size ∧ ∀ i, blkAt [] i ≠ some c := by
  intro c hc
  simp only [List.mem_singleton] at hc
  subst hc
  exact ⟨World.block_lt_of_cell? w _ (h 0 v rfl), fun i => by simp [blkAt]⟩

theorem St.arg {α : Type} [GoRep α] {w : World} {Γ : List Fact} {F : List Nat} {v : Value} {x : α} (H : St w w [] Γ) (h : GoRep.rep w F [v] x) : St w w [] (isF false F v x :: Γ) := H.add _ ⟨h, by simp⟩ (start_lt h)
theorem St.argAt {w : World} {Γ : List Fact} {b off : Nat} {v : Value} {cs : List Value} (H : St w w [] Γ) (h : CellsAt w b off (v :: cs)) : St w w [] (atF b off (v :: cs) :: Γ) := H.add _ h (start_at h)

theorem ne_of_beq_false {α : Type} [BEq α] [LawfulBEq α] {a b : α} (h : (a == b) = false) : a ≠ b := by simpa using h
theorem eq_of_bne_false {α : Type} [BEq α] [LawfulBEq α] {a b : α} (h : (a != b) = false) : a = b := by simpa using h
theorem not_true_of {b : Bool} (h : (!b) = true) : b = false := by simpa using h
theorem not_false_of {b : Bool} (h : (!b) = false) : b = true := by simpa using h

section
variable {W0 w w' : World} {ps : List Prv} {Γ : List Fact}
theorem St.add_new {α : Type} [GoRep α] (H : St W0 w ps Γ) (e : Ext w w') {F : List Nat} {v : Value} {x : α} (h : GoRep.rep w' F [v] x) (hF : ∀ b ∈ F, w.heap.size ≤ b) (hfr : FreeAll w' F) : St W0 w' ps (isF true F v x :: Γ) :=
  (H.ext e).add _ ⟨h, fun _ => hfr⟩ fun b hb => ⟨GoRep.lt h b hb, fun i hi => by have := (blkAt_has H hi).2; have := hF b hb; omega⟩
end
end Go.Proofs.YtfekhnffbngoaaaDoor
