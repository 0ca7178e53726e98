/- Slices of the call's own, place by place; what is new and shares nothing; calls that are walked into. No program here. -/
import Derived.Test.YtfekhnffbngoaaaDoorR
import Derived.Laws.Small
import Derived.Laws.Tables
namespace Go.Proofs.YtfekhnffbngoaaaDoor
set_option linter.unusedVariables false
set_option linter.unusedSimpArgs false
open Go.Proofs.YtfekhnffbngoaaaDoor.Tot (tot)
open Go.Proofs.YtfekhnffbngoaaaDoor.Mark (cnt mrk mkd mkd_mark cnt_mark)
open Go.RowKit
set_option linter.unusedVariables false
set_option linter.unusedSimpArgs false

/-! ### Sets of blocks that are new and share nothing -/
structure Fresh (B : Nat) (L : List (List Nat)) : Prop where
  nd : ∀ F ∈ L, F.Nodup
  ge : ∀ F ∈ L, ∀ b ∈ F, B ≤ b
  dj : L.Pairwise fun F G => ∀ b ∈ F, b ∉ G

section
variable {B : Nat} {L : List (List Nat)}
theorem Fresh.nil (B : Nat) : Fresh B [] := ⟨by simp, by simp, List.Pairwise.nil⟩
theorem Fresh.pick {L' : List (List Nat)} (N : Fresh B L) (is : List Nat) (he : is.map (fun i => L[i]?) = L'.map some := by exact rfl) (hd : is.Nodup := by decide) : Fresh B L' := by
  have hmem : ∀ F ∈ L', F ∈ L := by
    intro F hF
    have : some F ∈ L'.map some := List.mem_map_of_mem hF
    rw [← he] at this
    obtain ⟨i, _, hi⟩ := List.mem_map.1 this
    exact List.mem_of_getElem? hi
  refine ⟨fun F hF => N.nd F (hmem F hF), fun F hF => N.ge F (hmem F hF), ?_⟩
  have hl : is.length = L'.length := by simpa using congrArg List.length he
  have e : ∀ k (hk : k < L'.length) (hk' : k < is.length), L[is[k]]? = some L'[k] := by
    intro k hk hk'
    have h1 : (is.map (fun i => L[i]?))[k]? = (L'.map some)[k]? := by rw [he]
    simpa [hk, hk'] using h1
  rw [List.pairwise_iff_getElem]
  intro i j hi hj hij b hb hb'
  have ei := e i hi (by omega)
  have ej := e j hj (by omega)
  have hne : is[i]'(by omega) ≠ is[j]'(by omega) := List.pairwise_iff_getElem.1 hd i j (by omega) (by omega) hij
  have hp := N.dj
  rw [List.pairwise_iff_getElem] at hp
  obtain ⟨hi2, ei2⟩ := List.getElem?_eq_some_iff.1 ei
  obtain ⟨hj2, ej2⟩ := List.getElem?_eq_some_iff.1 ej
  rcases Nat.lt_or_gt_of_ne hne with h | h
  · exact hp _ _ hi2 hj2 h b (by rw [ei2]; exact hb) (by rw [ej2]; exact hb')
  · exact hp _ _ hj2 hi2 h b (by rw [ej2]; exact hb') (by rw [ei2]; exact hb)
theorem Fresh.cons (N : Fresh B L) {G : List Nat} {T : Nat} (hg : (∀ b ∈ G, T ≤ b) ∧ G.Nodup) (hB : B ≤ T) (hl : ∀ F ∈ L, ∀ b ∈ F, b < T) : Fresh B (G :: L) :=
  ⟨fun F hF => by
    rcases List.mem_cons.1 hF with rfl | h
    · exact hg.2
    · exact N.nd F h, fun F hF b hb => by
    rcases List.mem_cons.1 hF with rfl | h
    · exact Nat.le_trans hB (hg.1 b hb)
    · exact N.ge F h b hb, List.pairwise_cons.2 ⟨fun F hF b hb hb' => by have := hl F hF b hb'; have := hg.1 b hb; omega, N.dj⟩⟩
theorem Fresh.emp (N : Fresh B L) : Fresh B ([] :: L) :=
  ⟨fun F hF => by
    rcases List.mem_cons.1 hF with rfl | h
    · exact List.nodup_nil
    · exact N.nd F h, fun F hF b hb => by
    rcases List.mem_cons.1 hF with rfl | h
    · simp at hb
    · exact N.ge F h b hb, List.pairwise_cons.2 ⟨fun F _ b hb => by simp at hb, N.dj⟩⟩
theorem Fresh.repl {F G F' : List Nat} (N : Fresh B (F :: G :: L)) (hs : (∀ b ∈ F', b ∈ F ∨ b ∈ G) ∧ (F.Nodup → G.Nodup → (∀ b ∈ F, b ∉ G) → F'.Nodup)) : Fresh B (F' :: L) := by
  have h1 := List.pairwise_cons.1 N.dj
  have h2 := List.pairwise_cons.1 h1.2
  refine ⟨fun K hK => ?_, fun K hK b hb => ?_, List.pairwise_cons.2 ⟨fun K hK b hb => ?_, h2.2⟩⟩
  · rcases List.mem_cons.1 hK with rfl | h
    · exact hs.2 (N.nd F (by simp)) (N.nd G (by simp)) (h1.1 G (by simp))
    · exact N.nd K (by simp [h])
  · rcases List.mem_cons.1 hK with rfl | h
    · rcases hs.1 b hb with h | h
      · exact N.ge F (by simp) b h
      · exact N.ge G (by simp) b h
    · exact N.ge K (by simp [h]) b hb
  · rcases hs.1 b hb with h | h
    · exact h1.1 K (by simp [hK]) b h
    · exact h2.1 K hK b h
theorem Fresh.join {F G : List Nat} (N : Fresh B (F :: G :: L)) : Fresh B ((F ++ G) :: L) :=
  N.repl ⟨fun b hb => List.mem_append.1 hb, fun h1 h2 h3 => List.nodup_append.2 ⟨h1, h2, fun a ha b hb e => h3 a ha (e ▸ hb)⟩⟩
theorem Fresh.less {F F' : List Nat} (N : Fresh B (F :: L)) (hs : ∀ b ∈ F', b ∈ F) (hn : F.Nodup → F'.Nodup) : Fresh B (F' :: L) := by
  have h1 := List.pairwise_cons.1 N.dj
  refine ⟨fun K hK => ?_, fun K hK b hb => ?_, List.pairwise_cons.2 ⟨fun K hK b hb => h1.1 K hK b (hs b hb), h1.2⟩⟩
  · rcases List.mem_cons.1 hK with rfl | h
    · exact hn (N.nd F (by simp))
    · exact N.nd K (by simp [h])
  · rcases List.mem_cons.1 hK with rfl | h
    · exact N.ge F (by simp) b (hs b hb)
    · exact N.ge K (by simp [h]) b hb
theorem Fresh.one {F : List Nat} (N : Fresh B (F :: L)) : (∀ b ∈ F, B ≤ b) ∧ F.Nodup := ⟨N.ge F (by simp), N.nd F (by simp)⟩
theorem Fresh.tail {F : List Nat} (N : Fresh B (F :: L)) : Fresh B L := ⟨fun K h => N.nd K (by simp [h]), fun K h => N.ge K (by simp [h]), (List.pairwise_cons.1 N.dj).2⟩
end

section
variable {W0 w w' : World} {ps : List Prv} {Γ : List Fact}

/-- All that these facts look at was there. -/
theorem St.ltN (H : St W0 w ps Γ) {L : List (List Nat)} (is : List Nat) (he : is.map (fun i => (Γ[i]?).map Fact.F) = L.map some := by exact rfl) : ∀ F ∈ L, ∀ b ∈ F, b < w.heap.size := by
  intro F hF b hb
  have : some F ∈ L.map some := List.mem_map_of_mem hF
  rw [← he] at this
  obtain ⟨i, _, hi⟩ := List.mem_map.1 this
  cases hg : Γ[i]? with
  | none => simp [hg] at hi
  | some f =>
    simp only [hg, Option.map_some, Option.some.injEq] at hi
    subst hi
    exact ((H.facts f (List.mem_of_getElem? hg)).2 b hb).1
/-- None of it is of the call's own blocks. -/
theorem St.awayN (H : St W0 w ps Γ) {L : List (List Nat)} (is : List Nat) (he : is.map (fun i => (Γ[i]?).map Fact.F) = L.map some := by exact rfl) : ∀ F ∈ L, ∀ b ∈ F, ∀ i, blkAt ps i ≠ some b := by
  intro F hF b hb
  have : some F ∈ L.map some := List.mem_map_of_mem hF
  rw [← he] at this
  obtain ⟨i, _, hi⟩ := List.mem_map.1 this
  cases hg : Γ[i]? with
  | none => simp [hg] at hi
  | some f =>
    simp only [hg, Option.map_some, Option.some.injEq] at hi
    subst hi
    exact ((H.facts f (List.mem_of_getElem? hg)).2 b hb).2

/-! ### Slices of the call's own -/
theorem St.rowForm (H : St W0 w ps Γ) (k : Nat) {v : Value} {e : TypeId} {sz nn : Nat} {xs : List Value} (hp : ps[k]? = some (.row v e sz nn xs)) :
    ∃ a c, v = .slice a nn c ∧ nn ≤ c ∧ nn ≤ 9223372036854775807 := by
  have h := (H.has _ (List.mem_of_getElem? hp) : w.ownsRow W0.heap.size e sz v nn xs)
  rcases h.2 with ⟨rfl, rfl⟩ | ⟨g, cap, cur, rfl, _, _, h1, h2, _⟩
  · exact ⟨none, 0, rfl, Nat.le_refl _, by omega⟩
  · exact ⟨_, cap, rfl, h1, by unfold maxLen at h2; omega⟩
theorem St.rowAddr (H : St W0 w ps Γ) (k : Nat) {a : Option Addr} {c : Nat} {e : TypeId} {sz nn : Nat} {xs : List Value} (hp : ps[k]? = some (.row (.slice a nn c) e sz nn xs)) (h0 : 0 < nn) :
    ∃ b, a = some ⟨b, 0, none⟩ := by
  have h := (H.has _ (List.mem_of_getElem? hp) : w.ownsRow W0.heap.size e sz _ nn xs)
  rcases h.2 with ⟨_, rfl⟩ | ⟨g, cap, cur, h, _⟩
  · omega
  · simp only [Value.slice.injEq] at h
    exact ⟨g, h.1⟩
theorem St.rowLen (H : St W0 w ps Γ) (k : Nat) {v : Value} {e : TypeId} {sz nn : Nat} {xs : List Value} (hp : ps[k]? = some (.row v e sz nn xs)) : xs.length = nn * sz :=
  (H.has _ (List.mem_of_getElem? hp) : w.ownsRow W0.heap.size e sz v nn xs).1
theorem St.rowGet (H : St W0 w ps Γ) (k : Nat) {b c : Nat} {e : TypeId} {sz nn : Nat} {xs : List Value} (hp : ps[k]? = some (.row (.slice (some ⟨b, 0, none⟩) nn c) e sz nn xs)) {i : Nat} {v : Value} (hv : xs[i]? = some v) :
    w.cell? ⟨b, i, none⟩ = some v := by
  have h := (H.has _ (List.mem_of_getElem? hp) : w.ownsRow W0.heap.size e sz _ nn xs)
  have := h.cells (g := b) rfl i v hv
  rwa [Addr.add_mid, Nat.zero_add] at this
theorem ints_at {l : List Int} {iv : Int} {i : Nat} (h : iv.toNat = i) (h1 : i < l.length) : (l.map (Value.int .i64))[0 + iv.toNat * 1]? = some (.int .i64 (l[i]!)) := by
  subst h
  simp [h1, getElem!_pos]
theorem bools_at {l : List Bool} {iv : Int} {i : Nat} (h : iv.toNat = i) (h1 : i < l.length) : (l.map Value.bool)[0 + iv.toNat * 1]? = some (.bool (l[i]!)) := by
  subst h
  simp [h1, getElem!_pos]
theorem St.rowInt (H : St W0 w ps Γ) (k : Nat) {b c : Nat} {e : TypeId} {nn : Nat} {l : List Int} (hp : ps[k]? = some (.row (.slice (some ⟨b, 0, none⟩) nn c) e 1 nn (l.map (Value.int .i64)))) {iv : Int} {i : Nat} (h : iv.toNat = i) (h1 : i < nn) :
    w.cell? ⟨b, 0 + iv.toNat * 1, none⟩ = some (.int .i64 (l[i]!)) := by
  have hl := H.rowLen k hp
  exact H.rowGet k hp (ints_at h (by simp at hl; omega))
theorem St.rowBool (H : St W0 w ps Γ) (k : Nat) {b c : Nat} {e : TypeId} {nn : Nat} {l : List Bool} (hp : ps[k]? = some (.row (.slice (some ⟨b, 0, none⟩) nn c) e 1 nn (l.map Value.bool))) {iv : Int} {i : Nat} (h : iv.toNat = i) (h1 : i < nn) :
    w.cell? ⟨b, 0 + iv.toNat * 1, none⟩ = some (.bool (l[i]!)) := by
  have hl := H.rowLen k hp
  exact H.rowGet k hp (bools_at h (by simp at hl; omega))

/-- An element of a slice of the call's own: its cells. -/
theorem St.rowElem {α : Type} [GoRep α] [Inhabited α] (H : St W0 w ps Γ) (k : Nat) {b c : Nat} {e : TypeId} {nn : Nat} {xs : List Value} (hp : ps[k]? = some (.row (.slice (some ⟨b, 0, none⟩) nn c) e (GoRep.size α) nn xs)) (j : Nat) {fr : Bool} {F : List Nat} {l : List α}
    (hf : Γ[j]? = some (repsF fr F xs l)) (hz : 0 < GoRep.size α) {iv : Int} {i : Nat} (h : iv.toNat = i) (h1 : i < nn) :
    ∃ cs G, CellsAt w b (0 + iv.toNat * GoRep.size α) cs ∧ GoRep.rep w G cs (l[i]!) ∧ (∀ x ∈ G, x ∈ F) ∧ (fr = true → FreeAll w G) ∧ ∃ v1 v2, xs = v1 ++ cs ++ v2 ∧ v1.length = i * GoRep.size α := by
  subst h
  obtain ⟨hr, hfr⟩ := H.get j hf
  have hl := H.rowLen k hp
  have hl2 := reps_len hr
  have hlen : iv.toNat < l.length := by
    have : nn = l.length := Nat.eq_of_mul_eq_mul_right hz (hl.symm.trans hl2)
    omega
  obtain ⟨F1, Fk, F2, v1, cs, v2, hF, hv, hv1, hcs, hrep, _, _⟩ := reps_get hr _ hlen
  refine ⟨cs, Fk, fun i v hi => ?_, by rw [getElem!_pos l _ hlen]; exact hrep, ?_, fun e => (hfr e).sub ?_, v1, v2, hv, hv1⟩
  · refine H.rowGet k hp ?_
    have hci : i < cs.length := by
      rcases Nat.lt_or_ge i cs.length with h | h
      · exact h
      · simp [h] at hi
    rw [hv, List.append_assoc, Nat.zero_add, ← hv1, List.getElem?_append_right (by omega), Nat.add_sub_cancel_left, List.getElem?_append_left hci, hi]
  · intro x hx; rw [hF]; simp [hx]
  · intro x hx; rw [hF]; simp [hx]
theorem St.rowCount {α : Type} [GoRep α] (H : St W0 w ps Γ) (k : Nat) {v : Value} {e : TypeId} {nn : Nat} {xs : List Value} (hp : ps[k]? = some (.row v e (GoRep.size α) nn xs)) (j : Nat) {fr : Bool} {F : List Nat} {l : List α}
    (hf : Γ[j]? = some (repsF fr F xs l)) (hz : 0 < GoRep.size α) : nn = l.length :=
  Nat.eq_of_mul_eq_mul_right hz ((H.rowLen k hp).symm.trans (reps_len (H.get j hf).1))
theorem St.rowElemL {α : Type} [GoRep α] (H : St W0 w ps Γ) (k : Nat) {b c : Nat} {e : TypeId} {nn : Nat} {xs : List Value} (hp : ps[k]? = some (.row (.slice (some ⟨b, 0, none⟩) nn c) e 1 nn xs)) (j : Nat) {fr : Bool} {F : List Nat} {l : List (List α)}
    (hf : Γ[j]? = some (repsF fr F xs l)) {iv : Int} (i : Nat) (h : iv.toNat = i) (h1 : i < nn) :
    ∃ (a : Option Addr) (c' : Nat) (G : List Nat), (∀ x ∈ G, x ∈ F) ∧ w.cell? ⟨b, 0 + iv.toNat * 1, none⟩ = some (.slice a (l[i]!).length c') ∧ St W0 w ps (isF fr G (.slice a (l[i]!).length c') (l[i]!) :: Γ) := by
  obtain ⟨cs, G, hc, hr, hsub, hfr, _⟩ := H.rowElem k hp j hf Nat.one_pos h h1
  obtain ⟨a, c', rfl, hx⟩ := id hr
  exact ⟨a, c', G, hsub, by simpa [GoRep.size] using hc 0 _ rfl, H.add_sub j hf _ ⟨hr, hfr⟩ hsub⟩

/-! ### Stores -/
theorem ownsRow_set {B : Nat} {e : TypeId} {sz nn b c : Nat} {xs : List Value} (h : w.ownsRow B e sz (.slice (some ⟨b, 0, none⟩) nn c) nn xs) (off : Nat) (us : List Value) (ho : off + us.length ≤ xs.length) (h1 : ∀ u ∈ us, u.oneCell' = true) {P : Program} :
    ∃ w', (storeCells ⟨b, off, none⟩ us).run P w = .ok () w' ∧ w'.os = w.os ∧ w'.tape = w.tape ∧ w'.output = w.output ∧ w'.heap.size = w.heap.size ∧ (∀ i, b ≠ i → w'.heap[i]? = w.heap[i]?) ∧
      w'.ownsRow B e sz (.slice (some ⟨b, 0, none⟩) nn c) nn (xs.take off ++ us ++ xs.drop (off + us.length)) := by
  obtain ⟨hl, h | ⟨g, cap, cur, hv, hB, hg, hn, hm, hcs, ht⟩⟩ := h
  · simp at h
  simp only [Value.slice.injEq, Option.some.injEq, Addr.mk.injEq, and_true] at hv
  obtain ⟨rfl, _, rfl⟩ := hv
  have hcl : nn * sz ≤ cur.size := by rw [hcs]; exact Nat.mul_le_mul_right _ hn
  have hlx : xs.length = nn * sz := hl
  have hle : off + us.length ≤ cur.size := by omega
  have hr := run_storeCells_at P b off e us 0 cur w hg (by omega) h1
  simp only [Nat.add_zero] at hr
  have hxs : xs.take off ++ us ++ xs.drop (off + us.length) = (cur.toList.take off ++ us ++ cur.toList.drop (off + us.length)).take (nn * sz) := by
    subst ht
    apply List.ext_getElem?
    intro i
    simp only [List.getElem?_take, List.getElem?_append, List.length_append, List.length_take, List.getElem?_drop, Array.length_toList]
    rw [Nat.min_eq_left (show off ≤ cur.size by omega), Nat.min_eq_left (show nn * sz ≤ cur.size by omega), Nat.min_eq_left (show off ≤ nn * sz by omega)]
    by_cases hi : i < nn * sz
    · by_cases h1 : i < off
      · simp [hi, h1, show i < off + us.length by omega]
      · by_cases h2 : i < off + us.length
        · simp [hi, h1, h2]
        · have : off + us.length + (i - (off + us.length)) = i := by omega
          simp [hi, h2, this]
    · have h2 : ¬ i < off + us.length := by omega
      have : off + us.length + (i - (off + us.length)) = i := by omega
      simp [hi, h2, this]
  refine ⟨w.setRow b (cur.toList.take off ++ us ++ cur.toList.drop (off + us.length)).toArray, hr, rfl, rfl, rfl, by simp [World.setRow], fun i hi => by simp [World.setRow, Array.getElem?_modify, hi], ?_, Or.inr ⟨b, c, (cur.toList.take off ++ us ++ cur.toList.drop (off + us.length)).toArray, rfl, hB, by simp [World.setRow, Array.getElem?_modify, hg], hn, hm, ?_, ?_⟩⟩
  · simp; omega
  · simp; omega
  · rw [hxs]
theorem St.rowSet (H : St W0 w ps Γ) (k : Nat) {b c : Nat} {e : TypeId} {sz nn : Nat} {xs : List Value} (hp : ps[k]? = some (.row (.slice (some ⟨b, 0, none⟩) nn c) e sz nn xs)) (off : Nat) (us : List Value) (ho : off + us.length ≤ xs.length) (h1 : ∀ u ∈ us, u.oneCell' = true) {P : Program} :
    ∃ w', (storeCells ⟨b, off, none⟩ us).run P w = .ok () w' ∧ St W0 w' (ps.set k (.row (.slice (some ⟨b, 0, none⟩) nn c) e sz nn (xs.take off ++ us ++ xs.drop (off + us.length)))) Γ := by
  have h := (H.has _ (List.mem_of_getElem? hp) : w.ownsRow W0.heap.size e sz _ nn xs)
  obtain ⟨w', hr, h1, h2, h3, h4, h5, h6⟩ := ownsRow_set h off us ho h1 (P := P)
  exact ⟨w', hr, H.change k hp h1 h2 h3 (by omega) (fun i _ hi => h5 i fun e' => hi (by simp [Prv.blk, Value.ownBlock, e'])) h6 (Or.inl rfl)⟩
end

section
variable {P : Program} {Q : Exit → Act → World → Prop} {n : Nat} {ρ : Env} {W0 w : World} {ps : List Prv} {Γ : List Fact}
  {d : Nat} {ty : TypeId} {pos : String} {af : Array Edge} {K : Env → World → Prop}
theorem o_storeRow {t : TypeId} {x y : Operand} {b c off : Nat} {e : TypeId} {sz nn : Nat} {xs : List Value} (H : St W0 w ps Γ) (k : Nat) (hp : ps[k]? = some (.row (.slice (some ⟨b, 0, none⟩) nn c) e sz nn xs)) (v : Value)
    (hs : ∀ w, (Go.sizeOf t).run P w = .ok v.cells.size w) (hx : ev n ρ x = .pointer (some ⟨b, off, none⟩)) (hy : ev n ρ y = v) (h1 : ∀ u ∈ v.cells.toList, u.oneCell' = true) (ho : off + v.cells.size ≤ xs.length)
    (kk : ∀ w', St W0 w' (ps.set k (.row (.slice (some ⟨b, 0, none⟩) nn c) e sz nn (xs.take off ++ v.cells.toList ++ xs.drop (off + v.cells.size)))) Γ → K ρ w') :
    OW P Q ⟨none, .store t x y, ty, pos, af, none⟩ n ρ w K := by
  obtain ⟨w', hr, H'⟩ := H.rowSet k hp off v.cells.toList (by simpa using ho) h1 (P := P)
  refine o_unit (w' := w') ?_ (kk _ (by simpa using H'))
  simp [execOp, hx, hy, Instr.storeAt, Instr.sureAddr, storeVar, hs, hr]
theorem o_storeRow1 {t : TypeId} {x y : Operand} {b c : Nat} {e : TypeId} {nn : Nat} {xs : List Value} (H : St W0 w ps Γ) (k : Nat) (hp : ps[k]? = some (.row (.slice (some ⟨b, 0, none⟩) nn c) e 1 nn xs)) {iv : Int} (v : Value)
    (hs : ∀ w, (Go.sizeOf t).run P w = .ok 1 w) (hx : ev n ρ x = .pointer (some ⟨b, 0 + iv.toNat * 1, none⟩)) (hy : ev n ρ y = v) (h1 : v.oneCell' = true) (h2 : iv.toNat < nn)
    (kk : ∀ w', St W0 w' (ps.set k (.row (.slice (some ⟨b, 0, none⟩) nn c) e 1 nn (xs.set iv.toNat v))) Γ → K ρ w') :
    OW P Q ⟨none, .store t x y, ty, pos, af, none⟩ n ρ w K := by
  have hc : v.cells = #[v] := by cases v <;> first | rfl | (simp [Value.oneCell'] at h1)
  have hl := H.rowLen k hp
  refine o_storeRow H k hp v (by simpa [hc] using hs) hx hy (by simp [hc, h1]) (by simp [hc]; omega) ?_
  simp only [hc, List.size_toArray, List.length_cons, List.length_nil, Nat.zero_add, Nat.mul_one]
  rw [show xs.take iv.toNat ++ [v] ++ xs.drop (iv.toNat + 1) = xs.set iv.toNat v by rw [List.set_eq_take_append_cons_drop, if_pos (by omega)]; simp]
  exact kk
theorem o_storeInt {t : TypeId} {x y : Operand} {b c : Nat} {e : TypeId} {nn : Nat} {l : List Int} (H : St W0 w ps Γ) (k : Nat) (hp : ps[k]? = some (.row (.slice (some ⟨b, 0, none⟩) nn c) e 1 nn (l.map (Value.int .i64)))) {iv : Int} {i : Nat} (u : Int)
    (hs : ∀ w, (Go.sizeOf t).run P w = .ok 1 w) (hx : ev n ρ x = .pointer (some ⟨b, 0 + iv.toNat * 1, none⟩)) (hy : ev n ρ y = .int .i64 u) (hi : iv.toNat = i) (h2 : i < nn)
    (kk : ∀ w', St W0 w' (ps.set k (.row (.slice (some ⟨b, 0, none⟩) nn c) e 1 nn ((l.set i u).map (Value.int .i64)))) Γ → K ρ w') :
    OW P Q ⟨none, .store t x y, ty, pos, af, none⟩ n ρ w K := by
  subst hi
  refine o_storeRow1 H k hp (.int .i64 u) hs hx hy rfl h2 fun w' H' => kk w' ?_
  rwa [List.map_set]
theorem o_storeBool {t : TypeId} {x y : Operand} {b c : Nat} {e : TypeId} {nn : Nat} {l : List Bool} (H : St W0 w ps Γ) (k : Nat) (hp : ps[k]? = some (.row (.slice (some ⟨b, 0, none⟩) nn c) e 1 nn (l.map Value.bool))) {iv : Int} {i : Nat} (u : Bool)
    (hs : ∀ w, (Go.sizeOf t).run P w = .ok 1 w) (hx : ev n ρ x = .pointer (some ⟨b, 0 + iv.toNat * 1, none⟩)) (hy : ev n ρ y = .bool u) (hi : iv.toNat = i) (h2 : i < nn)
    (kk : ∀ w', St W0 w' (ps.set k (.row (.slice (some ⟨b, 0, none⟩) nn c) e 1 nn ((l.set i u).map Value.bool))) Γ → K ρ w') :
    OW P Q ⟨none, .store t x y, ty, pos, af, none⟩ n ρ w K := by
  subst hi
  refine o_storeRow1 H k hp (.bool u) hs hx hy rfl h2 fun w' H' => kk w' ?_
  rwa [List.map_set]

/-- What a list of values reads as when one of them is another. -/
theorem reps_set {α : Type} [GoRep α] {w : World} {F : List Nat} {xs : List Value} {l : List α} (h : reps w F xs l) {G : List Nat} {cs : List Value} {y : α} (hy : GoRep.rep w G cs y) (k : Nat) (hk : k < l.length) :
    ∃ F', reps w F' (xs.take (k * GoRep.size α) ++ cs ++ xs.drop (k * GoRep.size α + cs.length)) (l.set k y) ∧ (∀ b ∈ F', b ∈ F ∨ b ∈ G) ∧ (F.Nodup → G.Nodup → (∀ b ∈ F, b ∉ G) → F'.Nodup) := by
  obtain ⟨F1, Fk, F2, v1, ck, v2, hF, hv, hv1, hck, _, h1, h2⟩ := reps_get h k hk
  have hcl := GoRep.len hy
  refine ⟨F1 ++ G ++ F2, ?_, fun b hb => ?_, fun n1 n2 n3 => ?_⟩
  · subst hv
    rw [← hv1, List.append_assoc v1, List.take_left, hcl, ← hck, List.drop_append, List.drop_of_length_le (by omega), List.nil_append, Nat.add_sub_cancel_left, List.drop_left, List.set_eq_take_append_cons_drop, if_pos hk, show List.take k l ++ y :: List.drop (k + 1) l = List.take k l ++ [y] ++ List.drop (k + 1) l by simp]
    exact reps_append (reps_append h1 (reps_one hy)) h2
  · simp only [List.mem_append] at hb
    rcases hb with (hb | hb) | hb
    · exact Or.inl (by rw [hF]; simp [hb])
    · exact Or.inr hb
    · exact Or.inl (by rw [hF]; simp [hb])
  · subst hF
    have n1' := List.nodup_append.1 n1
    have n1a := List.nodup_append.1 n1'.1
    refine List.nodup_append.2 ⟨List.nodup_append.2 ⟨n1a.1, n2, fun a ha b hb e => n3 a (by simp [ha]) (e ▸ hb)⟩, n1'.2.1, fun a ha b hb e => ?_⟩
    subst e
    rcases List.mem_append.1 ha with ha | ha
    · exact n1'.2.2 a (by simp [ha]) a hb rfl
    · exact n3 a (by simp [hb]) ha
theorem o_storeElem {α : Type} [GoRep α] {t : TypeId} {x y : Operand} {b c : Nat} {e : TypeId} {nn : Nat} {xs : List Value} {fr fr' : Bool} {F G : List Nat} {l : List α} {z : α} (f0 : Bool) (H : St W0 w ps Γ) (k : Nat) (hp : ps[k]? = some (.row (.slice (some ⟨b, 0, none⟩) nn c) e 1 nn xs))
    (j : Nat) (hf : Γ[j]? = some (repsF fr F xs l)) (v : Value) (m : Nat) (hg : Γ[m]? = some (isF fr' G v z)) {iv : Int} {i : Nat} (hz : GoRep.size α = 1)
    (hs : ∀ w, (Go.sizeOf t).run P w = .ok 1 w) (hx : ev n ρ x = .pointer (some ⟨b, 0 + iv.toNat * 1, none⟩)) (hy : ev n ρ y = v) (hi : iv.toNat = i) (h2 : i < nn) (h3 : f0 = true → fr = true ∧ fr' = true)
    (kk : ∀ w' xs' F', ((∀ b ∈ F', b ∈ F ∨ b ∈ G) ∧ (F.Nodup → G.Nodup → (∀ b ∈ F, b ∉ G) → F'.Nodup)) → St W0 w' (ps.set k (.row (.slice (some ⟨b, 0, none⟩) nn c) e 1 nn xs')) (repsF f0 F' xs' (l.set i z) :: Γ) → K ρ w') :
    OW P Q ⟨none, .store t x y, ty, pos, af, none⟩ n ρ w K := by
  subst hi
  have hone : v.oneCell' = true := GoRep.one (H.get m hg).1 v (by simp)
  have hn : nn = l.length := H.rowCount (α := α) k (by rw [hz]; exact hp) j hf (by omega)
  obtain ⟨F', hr, hs1, hs2⟩ := reps_set (H.get j hf).1 (H.get m hg).1 iv.toNat (by omega)
  have hl := H.rowLen k hp
  have e1 : xs.take (iv.toNat * GoRep.size α) ++ [v] ++ xs.drop (iv.toNat * GoRep.size α + [v].length) = xs.set iv.toNat v := by
    rw [hz, Nat.mul_one, List.set_eq_take_append_cons_drop, if_pos (by omega)]; simp
  rw [e1] at hr
  have H1 : St W0 w ps (repsF f0 F' (xs.set iv.toNat v) (l.set iv.toNat z) :: Γ) := by
    refine H.add _ ⟨hr, fun e b hb => ?_⟩ fun b hb => ?_
    · rcases hs1 b hb with h | h
      · exact (H.get j hf).2 (h3 e).1 b h
      · exact (H.get m hg).2 (h3 e).2 b h
    · rcases hs1 b hb with h | h
      · exact (H.facts _ (List.mem_of_getElem? hf)).2 b h
      · exact (H.facts _ (List.mem_of_getElem? hg)).2 b h
  exact o_storeRow1 H1 k hp v hs hx hy hone h2 fun w' H' => kk w' _ F' ⟨hs1, hs2⟩ H'

/-! ### Made, appended -/
theorem o_makeI {t e : TypeId} {x y : Operand} {by' : Nat} {iv : Int} (H : St W0 w ps Γ) (hu : P.underlying t = some (.slice e)) (he : TI P e (.int .i64 0) 1 by') (nn : Nat)
    (hx : ev n ρ x = .int .i64 iv) (hy : ev n ρ y = .int .i64 iv) (hn : iv = nn) (hb : by' * nn ≤ 281474976710656) (hm : nn ≤ 9223372036854775807)
    (k : ∀ b w', St W0 w' (.row (.slice (some ⟨b, 0, none⟩) nn nn) e 1 nn ((List.replicate nn (0 : Int)).map (Value.int .i64)) :: ps) Γ → K (upd ρ d (.slice (some ⟨b, 0, none⟩) nn nn)) w') :
    OW P Q ⟨some d, .makeSlice t x y, ty, pos, af, none⟩ n ρ w K := by
  subst hn
  refine o_make1 H hu he rfl nn hx hy hb hm fun b w' H' => k b w' ?_
  have := H'.boxRow 0 rfl 1 nn (by simp) (by unfold maxLen; omega)
  simpa using this
theorem o_makeB {t e : TypeId} {x y : Operand} {by' : Nat} {iv : Int} (H : St W0 w ps Γ) (hu : P.underlying t = some (.slice e)) (he : TI P e (.bool false) 1 by') (nn : Nat)
    (hx : ev n ρ x = .int .i64 iv) (hy : ev n ρ y = .int .i64 iv) (hn : iv = nn) (hb : by' * nn ≤ 281474976710656) (hm : nn ≤ 9223372036854775807)
    (k : ∀ b w', St W0 w' (.row (.slice (some ⟨b, 0, none⟩) nn nn) e 1 nn ((List.replicate nn false).map Value.bool) :: ps) Γ → K (upd ρ d (.slice (some ⟨b, 0, none⟩) nn nn)) w') :
    OW P Q ⟨some d, .makeSlice t x y, ty, pos, af, none⟩ n ρ w K := by
  subst hn
  refine o_make1 H hu he rfl nn hx hy hb hm fun b w' H' => k b w' ?_
  have := H'.boxRow 0 rfl 1 nn (by simp) (by unfold maxLen; omega)
  simpa using this
theorem reps_zeros {α : Type} [GoRep α] {w : World} {zs : List Value} {z : α} (h : GoRep.rep w [] zs z) : ∀ n, reps w [] (List.replicate n zs).flatten (List.replicate n z)
  | 0 => ⟨rfl, rfl⟩
  | n + 1 => ⟨[], [], zs, (List.replicate n zs).flatten, rfl, by simp [List.replicate_succ], h, reps_zeros h n⟩
theorem o_makeZ {α : Type} [GoRep α] {t e : TypeId} {x y : Operand} {z : Value} {by' : Nat} {iv : Int} (zx : α) (H : St W0 w ps Γ) (hu : P.underlying t = some (.slice e)) (he : TI P e z (GoRep.size α) by') (h0 : 0 < GoRep.size α) (hzx : ∀ w, GoRep.rep w [] z.cells.toList zx) (nn : Nat)
    (hx : ev n ρ x = .int .i64 iv) (hy : ev n ρ y = .int .i64 iv) (hn : iv = nn) (hb : by' * nn ≤ 281474976710656) (hm : nn ≤ 9223372036854775807)
    (k : ∀ b w' xs, St W0 w' (.row (.slice (some ⟨b, 0, none⟩) nn nn) e (GoRep.size α) nn xs :: ps) (repsF true [] xs (List.replicate nn zx) :: Γ) → K (upd ρ d (.slice (some ⟨b, 0, none⟩) nn nn)) w') :
    OW P Q ⟨some d, .makeSlice t x y, ty, pos, af, none⟩ n ρ w K := by
  subst hn
  have hcl : z.cells.size = GoRep.size α := by have := GoRep.len (hzx w); simpa using this
  refine o_makeN H hu he hcl h0 nn hx hy hb hm fun b w' H' => k b w' _ (St.add (H'.boxRow 0 rfl _ nn ?_ (by unfold maxLen; omega)) _ ⟨reps_zeros (hzx w') nn, fun _ => FreeAll.nil _⟩ (by simp [repsF]))
  simp [List.length_flatten, hcl]
end

section
variable {P : Program} {Q : Exit → Act → World → Prop} {n : Nat} {ρ : Env} {W0 w : World} {ps : List Prv} {Γ : List Fact}
  {d : Nat} {ty : TypeId} {pos : String} {af : Array Edge} {K : Env → World → Prop}
theorem set_at {p q : Prv} {i : Nat} (h : ps[i]? = some p) : (ps.set i q)[i]? = some q := by
  have := (List.getElem?_eq_some_iff.1 h).1
  simp [this]
theorem o_appendR {t e : TypeId} {s x : Operand} {v z : Value} {sz by' nn m c b : Nat} {xs cs : List Value} {tb : TypeId} (H : St W0 w ps Γ) (i : Nat) (hp : ps[i]? = some (.row v e sz nn xs)) (j : Nat) (hq : ps[j]? = some (.box b cs tb))
    (hu : P.underlying t = some (.slice e)) (he : TI P e z sz by') (hzs : z.cells.size = sz) (h0 : 0 < sz) (hs : ev n ρ s = v) (hx : ev n ρ x = .slice (some ⟨b, 0, none⟩) m c) (hl : cs.length = m * sz)
    (h1 : ∀ u ∈ cs, u.oneCell' = true) (hm : nn + m ≤ maxLen) (hb : (nn + m) * by' ≤ 140737488355328)
    (k : ∀ a c' w', St W0 w' (ps.set i (.row (.slice a (nn + m) c') e sz (nn + m) (xs ++ cs))) Γ → K (upd ρ d (.slice a (nn + m) c')) w') :
    OW P Q ⟨some d, .call ⟨.builtin .append, #[s, x], #[t, t]⟩, ty, pos, af, none⟩ n ρ w K :=
  o_append H i hp j hq hu he hzs h0 hs hx hl h1 hm hb fun v' w' H' => by
    obtain ⟨a, c', rfl, _⟩ := H'.rowForm i (set_at hp)
    exact k a c' w' H'
theorem o_appendFR {α : Type} [GoRep α] {t e : TypeId} {s x : Operand} {v z : Value} {by' nn m c : Nat} {a : Option Addr} {xs : List Value} {fr : Bool} {F : List Nat} {l : List α} (H : St W0 w ps Γ) (i : Nat) (hp : ps[i]? = some (.row v e (GoRep.size α) nn xs))
    (j : Nat) (hf : Γ[j]? = some (isF fr F (.slice a m c) l)) (hu : P.underlying t = some (.slice e)) (he : TI P e z (GoRep.size α) by') (hzs : z.cells.size = GoRep.size α) (h0 : 0 < GoRep.size α) (hs : ev n ρ s = v)
    (hx : ev n ρ x = .slice a m c) (hm : nn + m ≤ maxLen) (hb : (nn + m) * by' ≤ 140737488355328)
    (k : ∀ a' c' w' vs G, St W0 w' (ps.set i (.row (.slice a' (nn + m) c') e (GoRep.size α) (nn + m) (xs ++ vs))) (repsF fr G vs l :: Γ) → (∀ b ∈ G, b ∈ F) → K (upd ρ d (.slice a' (nn + m) c')) w') :
    OW P Q ⟨some d, .call ⟨.builtin .append, #[s, x], #[t, t]⟩, ty, pos, af, none⟩ n ρ w K :=
  o_appendF H i hp j hf hu he hzs h0 hs hx hm hb fun v' w' vs G H' hG => by
    obtain ⟨a', c', rfl, _⟩ := H'.rowForm i (set_at hp)
    exact k a' c' w' vs G H' hG
theorem o_appendIR {t e : TypeId} {s x : Operand} {v z : Value} {by' nn m c : Nat} {a : Option Addr} {xs : List Value} {fr : Bool} {F : List Nat} {l : List Int} (H : St W0 w ps Γ) (i : Nat) (hp : ps[i]? = some (.row v e 1 nn xs))
    (j : Nat) (hf : Γ[j]? = some (isF fr F (.slice a m c) l)) (hu : P.underlying t = some (.slice e)) (he : TI P e z 1 by') (hzs : z.cells.size = 1) (hs : ev n ρ s = v)
    (hx : ev n ρ x = .slice a m c) (hm : nn + m ≤ maxLen) (hb : (nn + m) * by' ≤ 140737488355328)
    (k : ∀ a' c' w', St W0 w' (ps.set i (.row (.slice a' (nn + m) c') e 1 (nn + m) (xs ++ l.map (Value.int .i64)))) Γ → K (upd ρ d (.slice a' (nn + m) c')) w') :
    OW P Q ⟨some d, .call ⟨.builtin .append, #[s, x], #[t, t]⟩, ty, pos, af, none⟩ n ρ w K :=
  o_appendInts H i hp j hf hu he hzs hs hx hm hb fun v' w' H' => by
    obtain ⟨a', c', rfl, _⟩ := H'.rowForm i (set_at hp)
    exact k a' c' w' H'

/-! ### A slice of the call's own that is only read from now on -/
theorem St.dead (H : St W0 w ps Γ) (k : Nat) {p : Prv} (hp : ps[k]? = some p) : St W0 w (ps.set k (.row (.slice none 0 0) 0 1 0 [])) Γ :=
  H.change k hp rfl rfl rfl (Nat.le_refl _) (fun _ _ _ => rfl) (World.ownsRow_nil _ _ _ _) (Or.inr (Or.inl rfl))
theorem St.freeze {α : Type} [GoRep α] (H : St W0 w ps Γ) (k : Nat) {v : Value} {e : TypeId} {nn : Nat} {xs : List Value} (hp : ps[k]? = some (.row v e (GoRep.size α) nn xs)) (fr : Bool) {F : List Nat} {l : List α}
    (hr : reps w F xs l) (hfr : fr = true → FreeAll w F) (hF : ∀ b ∈ F, b < w.heap.size ∧ ∀ i, blkAt ps i ≠ some b) (hn : nn = l.length) :
    ∃ G, (∀ b ∈ G, b ∈ F ∨ blkAt ps k = some b) ∧ (F.Nodup → G.Nodup) ∧ St W0 w (ps.set k (.row (.slice none 0 0) 0 1 0 [])) (isF fr G v l :: Γ) := by
  subst hn
  have ho := (H.has _ (List.mem_of_getElem? hp) : w.ownsRow W0.heap.size e (GoRep.size α) v l.length xs)
  have hset : ∀ (b i : Nat), blkAt (ps.set k (.row (.slice none 0 0) 0 1 0 [])) i = some b → i ≠ k ∧ blkAt ps i = some b := by
    intro b i h
    unfold blkAt at h ⊢
    by_cases hi : i = k
    · subst hi
      rw [set_at hp] at h
      simp [Prv.blk, Value.ownBlock] at h
    · rw [List.getElem?_set_ne (Ne.symm hi)] at h
      exact ⟨hi, h⟩
  rcases ho.2 with ⟨rfl, h0⟩ | ⟨g, cap, cur, rfl, hb, hg, hnc, hcm, hcs, htake⟩
  · have : l = [] := List.eq_nil_of_length_eq_zero h0
    subst this
    exact ⟨[], by simp, by simp, (H.dead k hp).add _ ⟨⟨none, 0, rfl, by simp, Or.inl ⟨rfl, rfl⟩⟩, fun _ => FreeAll.nil _⟩ (by simp [isF])⟩
  · have hbk : blkAt ps k = some g := by simp [blkAt, hp, Prv.blk, Value.ownBlock]
    have hcl : CellsAt w g 0 xs := by
      intro i u hi
      rw [Nat.zero_add, World.cell?, hg]
      rw [← htake, List.getElem?_take] at hi
      split at hi
      · simpa using hi
      · cases hi
    refine ⟨g :: F, fun b hb => ?_, fun hn => List.nodup_cons.2 ⟨fun h => (hF g h).2 k hbk, hn⟩, (H.dead k hp).add _ ⟨⟨_, cap, rfl, by unfold maxLen at hcm; omega, Or.inr ⟨g, 0, F, xs, rfl, rfl, (Array.getElem?_eq_some_iff.1 hg).1, hr, hcl⟩⟩, fun e b hb => ?_⟩ fun b hb => ?_⟩
    · rcases List.mem_cons.1 hb with rfl | h
      · exact Or.inr hbk
      · exact Or.inl h
    · rcases List.mem_cons.1 hb with rfl | h
      · exact ⟨_, _, hg⟩
      · exact hfr e b h
    · rcases List.mem_cons.1 hb with rfl | h
      · exact ⟨(Array.getElem?_eq_some_iff.1 hg).1, fun i hi => (hset b i hi).1 (H.dist i k b (hset b i hi).2 hbk)⟩
      · exact ⟨(hF b h).1, fun i hi => (hF b h).2 i (hset b i hi).2⟩
theorem reps_of_bools (w : World) : ∀ (l : List Bool), reps w [] (l.map Value.bool) l
  | [] => ⟨rfl, rfl⟩
  | x :: l => ⟨[], [], [.bool x], l.map Value.bool, rfl, rfl, ⟨rfl, rfl⟩, reps_of_bools w l⟩
/-- The blocks L are new, and so is what has been frozen. -/
theorem Fresh.ice {L : List (List Nat)} {F G : List Nat} (N : Fresh W0.heap.size (F :: L)) (H : St W0 w ps Γ) (k : Nat) (hs : ∀ b ∈ G, b ∈ F ∨ blkAt ps k = some b) (hn : F.Nodup → G.Nodup) (ha : ∀ K ∈ L, ∀ b ∈ K, ∀ i, blkAt ps i ≠ some b) : Fresh W0.heap.size (G :: L) := by
  have h1 := List.pairwise_cons.1 N.dj
  refine ⟨fun K hK => ?_, fun K hK b hb => ?_, List.pairwise_cons.2 ⟨fun K hK b hb hbK => ?_, h1.2⟩⟩
  · rcases List.mem_cons.1 hK with rfl | h
    · exact hn (N.nd F (by simp))
    · exact N.nd K (by simp [h])
  · rcases List.mem_cons.1 hK with rfl | h
    · rcases hs b hb with h | h
      · exact N.ge F (by simp) b h
      · exact (blkAt_has H h).1
    · exact N.ge K (by simp [h]) b hb
  · rcases hs b hb with h | h
    · exact h1.1 K hK b h hbK
    · exact ha K hK b hbK k h
theorem St.freezeI (H : St W0 w ps Γ) (k : Nat) {v : Value} {e : TypeId} {nn : Nat} {l : List Int} (hp : ps[k]? = some (.row v e 1 nn (l.map (Value.int .i64)))) {L : List (List Nat)} (N : Fresh W0.heap.size L) (ha : ∀ K ∈ L, ∀ b ∈ K, ∀ i, blkAt ps i ≠ some b) :
    ∃ G, Fresh W0.heap.size (G :: L) ∧ nn = l.length ∧ St W0 w (ps.set k (.row (.slice none 0 0) 0 1 0 [])) (isF true G v l :: Γ) := by
  have hn : nn = l.length := by have := H.rowLen k hp; simp at this; omega
  obtain ⟨G, h1, h2, h3⟩ := H.freeze (α := Int) k hp true (reps_of_ints w l) (fun _ => FreeAll.nil _) (by simp) hn
  exact ⟨G, N.emp.ice H k h1 h2 ha, hn, h3⟩
theorem St.freezeB (H : St W0 w ps Γ) (k : Nat) {v : Value} {e : TypeId} {nn : Nat} {l : List Bool} (hp : ps[k]? = some (.row v e 1 nn (l.map Value.bool))) {L : List (List Nat)} (N : Fresh W0.heap.size L) (ha : ∀ K ∈ L, ∀ b ∈ K, ∀ i, blkAt ps i ≠ some b) :
    ∃ G, Fresh W0.heap.size (G :: L) ∧ nn = l.length ∧ St W0 w (ps.set k (.row (.slice none 0 0) 0 1 0 [])) (isF true G v l :: Γ) := by
  have hn : nn = l.length := by have := H.rowLen k hp; simp at this; omega
  obtain ⟨G, h1, h2, h3⟩ := H.freeze (α := Bool) k hp true (reps_of_bools w l) (fun _ => FreeAll.nil _) (by simp) hn
  exact ⟨G, N.emp.ice H k h1 h2 ha, hn, h3⟩
theorem St.freezeR {α : Type} [GoRep α] (H : St W0 w ps Γ) (k : Nat) {v : Value} {e : TypeId} {nn : Nat} {xs : List Value} (hp : ps[k]? = some (.row v e (GoRep.size α) nn xs)) (j : Nat) {fr : Bool} {F : List Nat} {l : List α} (hf : Γ[j]? = some (repsF fr F xs l)) (hz : 0 < GoRep.size α) :
    ∃ G, ((∀ b ∈ G, b ∈ F ∨ blkAt ps k = some b) ∧ (F.Nodup → G.Nodup)) ∧ nn = l.length ∧ St W0 w (ps.set k (.row (.slice none 0 0) 0 1 0 [])) (isF fr G v l :: Γ) := by
  have hn := H.rowCount k hp j hf hz
  obtain ⟨G, h1, h2, h3⟩ := H.freeze (α := α) k hp fr (H.get j hf).1 (H.get j hf).2 (H.facts _ (List.mem_of_getElem? hf)).2 hn
  exact ⟨G, ⟨h1, h2⟩, hn, h3⟩

/-- What a row of the call's own reads as, now. -/
theorem St.rowIsI (H : St W0 w ps Γ) (k : Nat) {a : Option Addr} {c : Nat} {e : TypeId} {nn : Nat} {l : List Int} (hp : ps[k]? = some (.row (.slice a nn c) e 1 nn (l.map (Value.int .i64)))) : ∃ G, nn = l.length ∧ GoRep.rep w G [.slice a nn c] l := by
  have hn : nn = l.length := by have := H.rowLen k hp; simp at this; omega
  obtain ⟨a', c', G, h1, h2, _⟩ := H.rowInts k hp hn
  exact ⟨G, hn, h2⟩
theorem St.rowIsB (H : St W0 w ps Γ) (k : Nat) {a : Option Addr} {c : Nat} {e : TypeId} {nn : Nat} {l : List Bool} (hp : ps[k]? = some (.row (.slice a nn c) e 1 nn (l.map Value.bool))) : ∃ G, nn = l.length ∧ GoRep.rep w G [.slice a nn c] l := by
  have hn : nn = l.length := by have := H.rowLen k hp; simp at this; omega
  obtain ⟨a', c', G, h1, h2, _⟩ := H.rowRep (α := Bool) k hp (reps_of_bools w l) hn (by simp)
  exact ⟨G, hn, h2⟩
theorem St.rowIsR {α : Type} [GoRep α] (H : St W0 w ps Γ) (k : Nat) {a : Option Addr} {c : Nat} {e : TypeId} {nn : Nat} {xs : List Value} (hp : ps[k]? = some (.row (.slice a nn c) e (GoRep.size α) nn xs)) (j : Nat) {fr : Bool} {F : List Nat} {l : List α} (hf : Γ[j]? = some (repsF fr F xs l)) (hz : 0 < GoRep.size α) :
    ∃ G, nn = l.length ∧ GoRep.rep w G [.slice a nn c] l := by
  have hn := H.rowCount k hp j hf hz
  subst hn
  have ho := (H.has _ (List.mem_of_getElem? hp) : w.ownsRow W0.heap.size e (GoRep.size α) _ l.length xs)
  rcases ho.2 with ⟨hv, h0⟩ | ⟨g, cap, cur, hv, hb, hg, hnc, hcm, hcs, htake⟩
  · have : l = [] := List.eq_nil_of_length_eq_zero h0
    subst this
    rw [hv]
    exact ⟨[], rfl, none, 0, rfl, by simp, Or.inl ⟨rfl, rfl⟩⟩
  · rw [hv]
    refine ⟨g :: F, rfl, _, cap, rfl, by unfold maxLen at hcm; omega, Or.inr ⟨g, 0, F, xs, rfl, rfl, (Array.getElem?_eq_some_iff.1 hg).1, (H.get j hf).1, ?_⟩⟩
    intro i u hi
    rw [Nat.zero_add, World.cell?, hg]
    rw [← htake, List.getElem?_take] at hi
    split at hi
    · simpa using hi
    · cases hi

/-! ### A call that is walked into -/
theorem o_callIn {x : Operand} {xs : Array Operand} {ts : Array TypeId} {f : FuncId} {fst caps : Array Value} (args : Array Value) (hv : ev n ρ x = .func (.func f) fst caps)
    (hargs : fst.toList ++ xs.toList.map (ev n ρ) ++ caps.toList = args.toList) (hf : ∀ args w, (callFunc f args).run P w = .ok (.enter f args) w)
    (hc : Calls P f args w fun e w' => ∃ v, e = .returned v ∧ K (upd ρ d v) w') :
    OW P Q ⟨some d, .call ⟨.value x, xs, ts⟩, ty, pos, af, none⟩ n ρ w K := by
  have hr : (execOp (ev n ρ) ⟨some d, .call ⟨.value x, xs, ts⟩, ty, pos, af, none⟩).run P w = .ok (.enter f args) w := by
    have e : fst ++ xs.map (ev n ρ) ++ caps = args := by apply Array.toList_inj.1; rw [← hargs]; simp
    simp [execOp, resolve, Deferred.ofValue, hv, invoke, hf, e]
  unfold OW
  intro K' hK
  unfold Oper.wp
  rw [mk_eval, hr]
  refine hc.mono fun e w' ⟨v, he, hR⟩ => ?_
  subst he
  show K' ((mk n ρ).put (some d) v) w'
  rw [mk_put]
  exact hK _ _ hR
end
theorem args_eq {P : Program} {f : FuncId} {as bs : Array Value} {w : World} {R : Ending → World → Prop} (h : as = bs) (k : Calls P f bs w R) : Calls P f as w R := h ▸ k
section
variable {W0 w : World} {ps : List Prv} {Γ : List Fact}
theorem St.rowNI (H : St W0 w ps Γ) (k : Nat) {v : Value} {e : TypeId} {nn : Nat} {l : List Int} (hp : ps[k]? = some (.row v e 1 nn (l.map (Value.int .i64)))) : nn = l.length := by
  have := H.rowLen k hp; simp at this; omega
theorem St.rowNB (H : St W0 w ps Γ) (k : Nat) {v : Value} {e : TypeId} {nn : Nat} {l : List Bool} (hp : ps[k]? = some (.row v e 1 nn (l.map Value.bool))) : nn = l.length := by
  have := H.rowLen k hp; simp at this; omega
theorem St.isLen {α : Type} [GoRep α] (H : St W0 w ps Γ) (k : Nat) {fr : Bool} {F : List Nat} {a : Option Addr} {m c : Nat} {l : List α} (hf : Γ[k]? = some (isF fr F (.slice a m c) l)) : m = l.length := by
  obtain ⟨⟨a', c', hc, _⟩, _⟩ := H.get k hf
  simp only [List.cons.injEq, Value.slice.injEq, and_true] at hc
  exact hc.2.1
end
theorem snocI (l : List Int) (x : Int) : l.map (Value.int .i64) ++ [.int .i64 x] = (l ++ [x]).map (Value.int .i64) := by simp
theorem snocB (l : List Bool) (x : Bool) : l.map Value.bool ++ [.bool x] = (l ++ [x]).map Value.bool := by simp
theorem catI (l m : List Int) : l.map (Value.int .i64) ++ m.map (Value.int .i64) = (l ++ m).map (Value.int .i64) := by simp
theorem Fresh.split {B : Nat} {L : List (List Nat)} {F G : List Nat} (N : Fresh B ((F ++ G) :: L)) : Fresh B (F :: G :: L) := by
  have h1 := List.pairwise_cons.1 N.dj
  have h2 := List.nodup_append.1 (N.nd (F ++ G) (by simp))
  refine ⟨fun K hK => ?_, fun K hK b hb => ?_, List.pairwise_cons.2 ⟨fun K hK b hb hbK => ?_, List.pairwise_cons.2 ⟨fun K hK b hb => h1.1 K hK b (by simp [hb]), h1.2⟩⟩⟩
  · rcases List.mem_cons.1 hK with rfl | h
    · exact h2.1
    · rcases List.mem_cons.1 h with rfl | h
      · exact h2.2.1
      · exact N.nd K (by simp [h])
  · rcases List.mem_cons.1 hK with rfl | h
    · exact N.ge (K ++ G) (by simp) b (by simp [hb])
    · rcases List.mem_cons.1 h with rfl | h
      · exact N.ge (F ++ K) (by simp) b (by simp [hb])
      · exact N.ge K (by simp [h]) b hb
  · rcases List.mem_cons.1 hK with rfl | h
    · exact h2.2.2 b hb b hbK rfl
    · exact h1.1 K h b (by simp [hb]) hbK
section
variable {W0 w w' : World} {ps : List Prv} {Γ : List Fact}
theorem St.ownLt (H : St W0 w ps Γ) : ∀ i b, blkAt ps i = some b → b < w.heap.size := fun _ _ h => (blkAt_has H h).2
/-- What a call has handed back beside other things, to be read. -/
theorem St.add_is2 {α : Type} [GoRep α] (H : St W0 w' ps Γ) (hp : ∀ i b, blkAt ps i = some b → b < w.heap.size) {v : Value} {l : List α} (h : IsNew w w' v l) :
    ∃ a c F, v = .slice a l.length c ∧ ((∀ b ∈ F, w.heap.size ≤ b) ∧ F.Nodup) ∧ St W0 w' ps (isF true F (.slice a l.length c) l :: Γ) := by
  obtain ⟨a, c, F, rfl, hr, hF, hd, hfr⟩ := h
  exact ⟨a, c, F, rfl, ⟨hF, hd⟩, H.add _ ⟨hr, fun _ => hfr⟩ fun b hb => ⟨GoRep.lt hr b hb, fun i hi => by have := hp i b hi; have := hF b hb; omega⟩⟩
theorem St.addNil {α : Type} [GoRep α] (H : St W0 w ps Γ) : St W0 w ps (isF true [] (.slice none 0 0) ([] : List α) :: Γ) :=
  H.add _ ⟨⟨none, 0, rfl, by simp, Or.inl ⟨rfl, rfl⟩⟩, fun _ => FreeAll.nil _⟩ (by simp [isF])
end
section
variable {P : Program} {Q : Exit → Act → World → Prop} {n : Nat} {ρ : Env} {W0 w : World} {ps : List Prv} {Γ : List Fact}
  {d : Nat} {ty : TypeId} {pos : String} {af : Array Edge} {K : Env → World → Prop}
/-- An element of an array. -/
theorem o_idxArr {x y : Operand} {t e : TypeId} {b off m : Nat} {z : Value} {sz by' : Nat} (iv : Int) (hu : P.underlying t = some (.array m e)) (he : TI P e z sz by')
    (hx : ev n ρ x = .pointer (some ⟨b, off, none⟩)) (hy : ev n ρ y = .int .i64 iv) (h0 : 0 ≤ iv) (h1 : iv < m)
    (k : K (upd ρ d (.pointer (some ⟨b, off + iv.toNat * sz, none⟩))) w) : OW P Q ⟨some d, .indexAddr t x y, ty, pos, af, none⟩ n ρ w K :=
  o_val _ (by simp [execOp, hx, hy, Instr.indexAt, Instr.sureAddr, asIntOf, run_underlying hu, he.sizeOf, h0, h1, Addr.add_mid]) k
theorem y_idxArr {S : World → Prop} {gd : Option (Nat × Bool)} {x y : Operand} {t e : TypeId} (b off m : Nat) {z : Value} {sz by' : Nat} (iv : Int) (hu : P.underlying t = some (.array m e)) (he : TI P e z sz by')
    (hx : ev n ρ x = .pointer (some ⟨b, off, none⟩)) (hy : ev n ρ y = .int .i64 iv) (h0 : 0 ≤ iv) (h1 : iv < m) :
    ∀ w', S w' → (execOp (ev n ρ) ⟨some d, .indexAddr t x y, ty, pos, af, gd⟩).run P w' = .ok (.value (.pointer (some ⟨b, off + iv.toNat * sz, none⟩))) w' :=
  fun w' _ => by simp [execOp, hx, hy, Instr.indexAt, Instr.sureAddr, asIntOf, run_underlying hu, he.sizeOf, h0, h1, Addr.add_mid]
theorem o_storeArr {t : TypeId} {x y : Operand} {b : Nat} {tb : TypeId} {l : List Int} (H : St W0 w ps Γ) (k : Nat) (hp : ps[k]? = some (.box b (l.map (Value.int .i64)) tb)) {iv : Int} {i : Nat} (u : Int)
    (hs : ∀ w, (Go.sizeOf t).run P w = .ok 1 w) (hx : ev n ρ x = .pointer (some ⟨b, 0 + iv.toNat * 1, none⟩)) (hy : ev n ρ y = .int .i64 u) (hi : iv.toNat = i) (h2 : i < l.length)
    (kk : ∀ w', St W0 w' (ps.set k (.box b ((l.set i u).map (Value.int .i64)) tb)) Γ → K ρ w') : OW P Q ⟨none, .store t x y, ty, pos, af, none⟩ n ρ w K := by
  subst hi
  refine o_store1 H k hp (.int .i64 u) hs hx hy rfl (by simp; omega) fun w' H' => kk w' ?_
  rwa [List.map_set, show iv.toNat = 0 + iv.toNat * 1 by omega]
end
theorem Fresh.swap {B : Nat} {L : List (List Nat)} {F G : List Nat} (N : Fresh B (F :: G :: L)) : Fresh B (G :: F :: L) := by
  have h1 := List.pairwise_cons.1 N.dj
  have h2 := List.pairwise_cons.1 h1.2
  refine ⟨fun K hK => N.nd K ?_, fun K hK => N.ge K ?_, List.pairwise_cons.2 ⟨fun K hK b hb hbK => ?_, List.pairwise_cons.2 ⟨fun K hK => h1.1 K (by simp [hK]), h2.2⟩⟩⟩
  · simp only [List.mem_cons] at hK ⊢
    rcases hK with h | h | h <;> simp [h]
  · simp only [List.mem_cons] at hK ⊢
    rcases hK with h | h | h <;> simp [h]
  · rcases List.mem_cons.1 hK with rfl | h
    · exact h1.1 G (by simp) b hbK hb
    · exact h2.1 K h b hb hbK
section
variable {W0 w w' : World} {ps : List Prv} {Γ : List Fact}
/-- Some of what the call owns, some of the facts, by their places. -/
theorem St.pick (H : St W0 w ps Γ) (is js : List Nat) {ps' : List Prv} {Γ' : List Fact} (hi : is.map (fun i => ps[i]?) = ps'.map some := by exact rfl) (hj : js.map (fun i => Γ[i]?) = Γ'.map some := by exact rfl) (hd : is.Nodup := by decide) : St W0 w ps' Γ' := by
  have hl : is.length = ps'.length := by simpa using congrArg List.length hi
  have ei : ∀ k (hk : k < ps'.length) (hk' : k < is.length), ps[is[k]]? = some ps'[k] := by
    intro k hk hk'
    have h1 : (is.map (fun i => ps[i]?))[k]? = (ps'.map some)[k]? := by rw [hi]
    simpa [hk, hk'] using h1
  have hblk : ∀ k b, blkAt ps' k = some b → ∃ hk : k < is.length, blkAt ps is[k] = some b := by
    intro k b h
    unfold blkAt at h
    cases hp : ps'[k]? with
    | none => simp [hp] at h
    | some p =>
      obtain ⟨hk, e⟩ := List.getElem?_eq_some_iff.1 hp
      refine ⟨by omega, ?_⟩
      unfold blkAt
      rw [ei k hk (by omega), e]
      simpa [hp] using h
  refine ⟨H.base, fun p hp => ?_, fun i j b h1 h2 => ?_, fun f hf => ?_⟩
  · have : some p ∈ ps'.map some := List.mem_map_of_mem hp
    rw [← hi] at this
    obtain ⟨i, _, hi'⟩ := List.mem_map.1 this
    exact H.has p (List.mem_of_getElem? hi')
  · obtain ⟨hk1, e1⟩ := hblk i b h1
    obtain ⟨hk2, e2⟩ := hblk j b h2
    have e := H.dist _ _ b e1 e2
    have hp := List.pairwise_iff_getElem.1 hd
    rcases Nat.lt_trichotomy i j with h | h | h
    · exact absurd e (hp i j hk1 hk2 h)
    · exact h
    · exact absurd e.symm (hp j i hk2 hk1 h)
  · have : some f ∈ Γ'.map some := List.mem_map_of_mem hf
    rw [← hj] at this
    obtain ⟨i, _, hi'⟩ := List.mem_map.1 this
    obtain ⟨h1, h2⟩ := H.facts f (List.mem_of_getElem? hi')
    exact ⟨h1, fun b hb => ⟨(h2 b hb).1, fun k hk => by
      obtain ⟨hk', e⟩ := hblk k b hk
      exact (h2 b hb).2 _ e⟩⟩
theorem St.unfree {α : Type} [GoRep α] (H : St W0 w ps Γ) (j : Nat) {fr : Bool} {F : List Nat} {xs : List Value} {l : List α} (hf : Γ[j]? = some (repsF fr F xs l)) : St W0 w ps (repsF false F xs l :: Γ) :=
  H.add_sub j hf _ ⟨(H.get j hf).1, by simp⟩ (fun b hb => hb)
theorem St.unfreeI {α : Type} [GoRep α] (H : St W0 w ps Γ) (j : Nat) {fr : Bool} {F : List Nat} {v : Value} {l : α} (hf : Γ[j]? = some (isF fr F v l)) : St W0 w ps (isF false F v l :: Γ) :=
  H.add_sub j hf _ ⟨(H.get j hf).1, by simp⟩ (fun b hb => hb)
theorem St.repsCat {α : Type} [GoRep α] (H : St W0 w ps Γ) (f0 : Bool) (j : Nat) {fr : Bool} {F : List Nat} {xs : List Value} {l : List α} (hf : Γ[j]? = some (repsF fr F xs l)) (m : Nat) {fr' : Bool} {G : List Nat} {ys : List Value} {l' : List α} (hg : Γ[m]? = some (repsF fr' G ys l')) (h3 : f0 = true → fr = true ∧ fr' = true) :
    St W0 w ps (repsF f0 (F ++ G) (xs ++ ys) (l ++ l') :: Γ) := by
  refine H.add _ ⟨reps_append (H.get j hf).1 (H.get m hg).1, fun e => ((H.get j hf).2 (h3 e).1).app ((H.get m hg).2 (h3 e).2)⟩ fun b hb => ?_
  rcases List.mem_append.1 hb with h | h
  · exact (H.facts _ (List.mem_of_getElem? hf)).2 b h
  · exact (H.facts _ (List.mem_of_getElem? hg)).2 b h
theorem reps_bools {w : World} : ∀ {F : List Nat} {vs : List Value} {l : List Bool}, reps w F vs l → F = [] ∧ vs = l.map Value.bool
  | _, _, [], ⟨hF, hv⟩ => ⟨hF, hv⟩
  | _, _, x :: l, ⟨F1, F2, c1, c2, hF, hv, h1, h2⟩ => by
    obtain ⟨e1, e2⟩ := reps_bools h2
    obtain ⟨k1, k2⟩ : F1 = [] ∧ c1 = [.bool x] := h1
    subst e1 e2 k1 k2
    exact ⟨hF, hv⟩
theorem St.add_ownBools (H : St W0 w ps Γ) (e : Ext w w') {v : Value} {t : TypeId} {l : List Bool} (h : OwnNew w w' t v l) :
    St W0 w' (.row v t 1 l.length (l.map Value.bool) :: ps) Γ := by
  obtain ⟨xs, F, ho, hr, hF, _⟩ := h
  obtain ⟨_, rfl⟩ := reps_bools hr
  exact H.own e (.row v t _ l.length _) (ownsRow_up ho H.base.size) fun b hb => (World.ownsRow.lt ho b hb).1
end
theorem catB (l m : List Bool) : l.map Value.bool ++ m.map Value.bool = (l ++ m).map Value.bool := by simp

section
variable {P : Program} {Q : Exit → Act → World → Prop} {n : Nat} {ρ : Env} {W w : World} {d : Nat} {ty : TypeId} {pos : String} {af : Array Edge} {K : Env → World → Prop} {ps : List Prv} {Γ : List Fact} {S : World → Prop} {gd : Option (Nat × Bool)}
theorem o_build {t : TypeId} {xs : Array (Nat × Operand)} (cs : List Value) (parts : List (Nat × Value)) (k : K (upd ρ d (.agg cs.toArray)) w) (hx : xs.toList.map (fun p => (p.1, ev n ρ p.2)) = parts := by exact rfl) (h : P.built t parts = some cs.toArray := by kernel_rfl) :
    OW P Q ⟨some d, .build t xs, ty, pos, af, none⟩ n ρ w K := by
  subst hx
  refine o_val _ ?_ k
  have := run_build (P := P) w t (xs.map fun p => (p.1, ev n ρ p.2)) cs.toArray (by simpa using h)
  simp [execOp, this]
theorem neg_i64 {a : Int} (h : -9223372036854775807 ≤ a ∧ a ≤ 9223372036854775807) : IntKind.i64.wrap (-a) = -a := wrap_in (by omega)
theorem run_neg {P : Program} {w : World} {a : Int} (h : -9223372036854775807 ≤ a ∧ a ≤ 9223372036854775807) : (Op.unary .neg (.int .i64 a)).run P w = .ok (.int .i64 (-a)) w := by
  simp [Op.unary, Op.intArith, neg_i64 h]
theorem o_neg {x : Operand} {t : TypeId} (a : Int) (hx : ev n ρ x = .int .i64 a) (h : -9223372036854775807 ≤ a ∧ a ≤ 9223372036854775807) (k : K (upd ρ d (.int .i64 (-a))) w) : OW P Q ⟨some d, .unOp .neg t x, ty, pos, af, none⟩ n ρ w K :=
  o_val _ (by simp [execOp, hx, run_neg h]) k
theorem y_neg {x : Operand} {t : TypeId} (a : Int) (hx : ev n ρ x = .int .i64 a) (h : -9223372036854775807 ≤ a ∧ a ≤ 9223372036854775807) : ∀ w', S w' → (execOp (ev n ρ) ⟨some d, .unOp .neg t x, ty, pos, af, gd⟩).run P w' = .ok (.value (.int .i64 (-a))) w' :=
  fun w' _ => by simp [execOp, hx, run_neg h]
theorem o_quo {x y : Operand} {t u : TypeId} (a b : Int) (hx : ev n ρ x = .int .i64 a) (hy : ev n ρ y = .int .i64 b) (h0 : 0 ≤ a ∧ a ≤ 9223372036854775807) (h1 : 0 < b) (k : K (upd ρ d (.int .i64 (a / b))) w) :
    OW P Q ⟨some d, .binOp .quo t x y u, ty, pos, af, none⟩ n ρ w K :=
  o_val _ (by
    have e : a.tdiv b = a / b := Int.tdiv_eq_ediv_of_nonneg h0.1
    have e2 : IntKind.i64.wrap (a / b) = a / b := wrap_in ⟨by have := Int.ediv_nonneg h0.1 (Int.le_of_lt h1); omega, by have := Int.ediv_le_self b h0.1; omega⟩
    simp [execOp, hx, hy, eqGuard, binOp, Op.intDiv, show b ≠ 0 by omega, e, e2]) k
theorem y_quo {x y : Operand} {t u : TypeId} (a b : Int) (hx : ev n ρ x = .int .i64 a) (hy : ev n ρ y = .int .i64 b) (h0 : 0 ≤ a ∧ a ≤ 9223372036854775807) (h1 : 0 < b) :
    ∀ w', S w' → (execOp (ev n ρ) ⟨some d, .binOp .quo t x y u, ty, pos, af, gd⟩).run P w' = .ok (.value (.int .i64 (a / b))) w' :=
  fun w' _ => by
    have e : a.tdiv b = a / b := Int.tdiv_eq_ediv_of_nonneg h0.1
    have e2 : IntKind.i64.wrap (a / b) = a / b := wrap_in ⟨by have := Int.ediv_nonneg h0.1 (Int.le_of_lt h1); omega, by have := Int.ediv_le_self b h0.1; omega⟩
    simp [execOp, hx, hy, eqGuard, binOp, Op.intDiv, show b ≠ 0 by omega, e, e2]
theorem max_if (x y : Int) : (if y > x then y else x) = max x y := by omega
theorem min_if (x y : Int) : (if y < x then y else x) = min x y := by omega
theorem o_max {x y : Operand} {ts : Array TypeId} (a b : Int) (hx : ev n ρ x = .int .i64 a) (hy : ev n ρ y = .int .i64 b) (k : K (upd ρ d (.int .i64 (max a b))) w) : OW P Q ⟨some d, .call ⟨.builtin .max, #[x, y], ts⟩, ty, pos, af, none⟩ n ρ w K :=
  o_val _ (by rw [← max_if]; simp [execOp, resolve, invoke, builtin, hx, hy, run_max_int2]) k
theorem o_min {x y : Operand} {ts : Array TypeId} (a b : Int) (hx : ev n ρ x = .int .i64 a) (hy : ev n ρ y = .int .i64 b) (k : K (upd ρ d (.int .i64 (min a b))) w) : OW P Q ⟨some d, .call ⟨.builtin .min, #[x, y], ts⟩, ty, pos, af, none⟩ n ρ w K :=
  o_val _ (by rw [← min_if]; simp [execOp, resolve, invoke, builtin, hx, hy, run_min_int2]) k
theorem y_max {x y : Operand} {ts : Array TypeId} (a b : Int) (hx : ev n ρ x = .int .i64 a) (hy : ev n ρ y = .int .i64 b) : ∀ w', S w' → (execOp (ev n ρ) ⟨some d, .call ⟨.builtin .max, #[x, y], ts⟩, ty, pos, af, gd⟩).run P w' = .ok (.value (.int .i64 (max a b))) w' :=
  fun w' _ => by rw [← max_if]; simp [execOp, resolve, invoke, builtin, hx, hy, run_max_int2]
theorem y_min {x y : Operand} {ts : Array TypeId} (a b : Int) (hx : ev n ρ x = .int .i64 a) (hy : ev n ρ y = .int .i64 b) : ∀ w', S w' → (execOp (ev n ρ) ⟨some d, .call ⟨.builtin .min, #[x, y], ts⟩, ty, pos, af, gd⟩).run P w' = .ok (.value (.int .i64 (min a b))) w' :=
  fun w' _ => by rw [← min_if]; simp [execOp, resolve, invoke, builtin, hx, hy, run_min_int2]

theorem o_head {α : Type} [GoRep α] {x y : Operand} {t e : TypeId} {z : Value} {by' : Nat} {fr : Bool} {F : List Nat} {a : Option Addr} {m c : Nat} {l : List α} (H : St W w ps Γ) (i : Nat) (hf : Γ[i]? = some (isF fr F (.slice a m c) l)) (kk : Nat) {iv : Int}
    (hu : P.underlying t = some (.slice e)) (he : TI P e z (GoRep.size α) by') (hx : ev n ρ x = .slice a m c) (hy : ev n ρ y = .int .i64 iv) (hv : iv = kk) (hk : kk ≤ l.length)
    (k : ∀ a' G, (∀ b ∈ G, b ∈ F) → St W w ps (isF fr G (.slice a' (l.take kk).length c) (l.take kk) :: Γ) → K (upd ρ d (.slice a' (l.take kk).length c)) w) :
    OW P Q ⟨some d, .slice t x none (some y) none, ty, pos, af, none⟩ n ρ w K := by
  subst hv
  obtain ⟨⟨a0, c0, hc, ⟨hl, hcap⟩, h⟩, hfr⟩ := H.get i hf
  simp only [List.cons.injEq, Value.slice.injEq, and_true] at hc
  obtain ⟨rfl, rfl, rfl⟩ := hc
  have hrun : (execOp (ev n ρ) ⟨some d, .slice t x none (some y) none, ty, pos, af, none⟩).run P w =
      .ok (.value (.slice (if c = 0 then a else a.map (·.add 0)) kk c)) w := by
    simp [execOp, hx, hy, Instr.sliceAt, Instr.slice, Instr.sliceBounds, Instr.sliceBound, asIntOf, run_underlying hu, he.sizeOf, show kk ≤ c by omega]
  have hlen : (l.take kk).length = kk := List.length_take_of_le hk
  have hlc : (l.take kk).length ≤ 9223372036854775807 ∧ (l.take kk).length ≤ c := by rw [hlen]; omega
  refine o_val _ hrun ?_
  rcases h with ⟨h0, hF⟩ | ⟨b, off, F', vs, ha, hF, hb, hr, hcells⟩
  · have := k (if c = 0 then a else a.map (·.add 0)) [] (by simp) (H.add _ ⟨⟨_, _, rfl, hlc, Or.inl ⟨by simp [h0], rfl⟩⟩, fun _ => FreeAll.nil _⟩ (by simp [isF]))
    rwa [hlen] at this
  · subst ha
    rw [← List.take_append_drop kk l] at hr
    obtain ⟨F1, F2, v1, v2, e1, e2, r1, r2⟩ := reps_split _ hr
    have hsub : ∀ z ∈ b :: F1, z ∈ F := by
      intro z hz
      rw [hF, e1]
      simp only [List.mem_cons, List.mem_append] at hz ⊢
      rcases hz with h | h <;> simp [h]
    have hadr : (if c = 0 then some ⟨b, off, none⟩ else (some (⟨b, off, none⟩ : Addr)).map (·.add 0)) = some ⟨b, off, none⟩ := by
      split <;> simp [Addr.add_mid]
    rw [hadr]
    have := k (some ⟨b, off, none⟩) (b :: F1) hsub (H.add_sub i hf _ ⟨⟨_, _, rfl, hlc, Or.inr ⟨b, off, F1, v1, rfl, rfl, hb, r1, ?_⟩⟩, fun e => (hfr e).sub hsub⟩ hsub)
    · rwa [hlen] at this
    · intro j v hv
      refine hcells j v ?_
      obtain ⟨hj, _⟩ := List.getElem?_eq_some_iff.1 hv
      rw [e2, List.getElem?_append_left hj]
      exact hv
end
/-- The ways through some code meet again. -/
def Meet (A : Env → World → Prop) (n : Nat) : Exit → Act → World → Prop
  | .normal, a, w => ∃ ρ, a = mk n ρ ∧ A ρ w
  | _, _, _ => False
theorem c_cut {P : Program} {Q : Exit → Act → World → Prop} {n : Nat} {ρ : Env} {w : World} {x : Code} (A : Env → World → Prop) (h1 : x.wp P (Meet A n) (mk n ρ) w) (h2 : ∀ ρ w, A ρ w → Q .normal (mk n ρ) w) : x.wp P Q (mk n ρ) w := by
  refine Code.wp_mono ?_ h1
  intro e a w h
  cases e with
  | normal => obtain ⟨ρ, rfl, hA⟩ := h; exact h2 ρ w hA
  | exit _ => exact h.elim
  | goto _ => exact h.elim
  | ret => exact h.elim
  | panic _ => exact h.elim
  | outgrown => exact h.elim
theorem meet {A : Env → World → Prop} {n : Nat} {ρ : Env} {w : World} (h : A ρ w) : Meet A n .normal (mk n ρ) w := ⟨ρ, rfl, h⟩
/-- What a call hands back comes to what its caller has. -/
theorem St.merge {W0 w0 w : World} {ps ps' : List Prv} {Γ Γ' : List Fact} (H : St W0 w0 ps Γ) (K : St w0 w ps' Γ') (M : Fresh w0.heap.size (Γ'.map Fact.F)) : St W0 w (ps' ++ ps) (Γ' ++ Γ) := by
  have hge : ∀ f ∈ Γ', ∀ b ∈ f.F, w0.heap.size ≤ b := fun f hf b hb => M.ge f.F (List.mem_map_of_mem hf) b hb
  have hsplit : ∀ i b, blkAt (ps' ++ ps) i = some b → (i < ps'.length ∧ blkAt ps' i = some b ∧ w0.heap.size ≤ b) ∨ (ps'.length ≤ i ∧ blkAt ps (i - ps'.length) = some b ∧ b < w0.heap.size) := by
    intro i b h
    rcases Nat.lt_or_ge i ps'.length with hi | hi
    · have : blkAt ps' i = some b := by unfold blkAt at h ⊢; rwa [List.getElem?_append_left hi] at h
      exact Or.inl ⟨hi, this, (blkAt_has K this).1⟩
    · have : blkAt ps (i - ps'.length) = some b := by unfold blkAt at h ⊢; rwa [List.getElem?_append_right hi] at h
      exact Or.inr ⟨hi, this, (blkAt_has H this).2⟩
  refine ⟨Ext.trans' H.base K.base, fun p hp => ?_, fun i j b hi hj => ?_, fun f hf => ?_⟩
  · rcases List.mem_append.1 hp with h | h
    · have hk := K.has p h
      cases p with
      | box b cs t => exact ⟨Nat.le_trans H.base.size hk.1, hk.2⟩
      | row v e sz n xs => exact ownsRow_up hk H.base.size
    · exact (H.has p h).stay fun b hb => K.base.block b ((H.has p h).lt hb).2
  · rcases hsplit i b hi with ⟨h1, h2, h3⟩ | ⟨h1, h2, h3⟩ <;> rcases hsplit j b hj with ⟨k1, k2, k3⟩ | ⟨k1, k2, k3⟩
    · exact K.dist i j b h2 k2
    · omega
    · omega
    · have := H.dist _ _ b h2 k2; omega
  · rcases List.mem_append.1 hf with h | h
    · obtain ⟨h1, h2⟩ := K.facts f h
      exact ⟨h1, fun b hb => ⟨(h2 b hb).1, fun i hi => by
        rcases hsplit i b hi with ⟨_, k, _⟩ | ⟨_, _, k⟩
        · exact (h2 b hb).2 i k
        · have := hge f h b hb; omega⟩⟩
    · obtain ⟨h1, h2⟩ := H.facts f h
      exact ⟨f.stay w0 w h1 fun b hb => K.base.block b (h2 b hb).1, fun b hb => ⟨Nat.lt_of_lt_of_le (h2 b hb).1 K.base.size, fun i hi => by
        rcases hsplit i b hi with ⟨_, _, k⟩ | ⟨_, k, _⟩
        · have := (h2 b hb).1; omega
        · exact (h2 b hb).2 _ k⟩⟩
theorem Fresh.merge {B C : Nat} {L L' : List (List Nat)} (N : Fresh B L) (h : B ≤ C) (hl : ∀ F ∈ L, ∀ b ∈ F, b < C) (M : Fresh C L') : Fresh B (L' ++ L) := by
  refine ⟨fun F hF => ?_, fun F hF b hb => ?_, List.pairwise_append.2 ⟨M.dj, N.dj, fun F hF G hG b hb hbG => by have := M.ge F hF b hb; have := hl G hG b hbG; omega⟩⟩
  · rcases List.mem_append.1 hF with k | k
    · exact M.nd F k
    · exact N.nd F k
  · rcases List.mem_append.1 hF with k | k
    · exact Nat.le_trans h (M.ge F k b hb)
    · exact N.ge F k b hb
theorem St.pickP {W0 w : World} {ps : List Prv} {Γ : List Fact} (H : St W0 w ps Γ) (is : List Nat) {ps' : List Prv} (hi : is.map (fun i => ps[i]?) = ps'.map some := by exact rfl) (hd : is.Nodup := by decide) : St W0 w ps' Γ :=
  H.pick is (List.range Γ.length) hi (by
    apply List.ext_getElem?
    intro i
    rcases Nat.lt_or_ge i Γ.length with h | h
    · simp [h]
    · simp [h]) hd
/-- What a call hands back is a slice of its own, whose elements are those of a slice at hand. -/
theorem St.mergeIn {W0 w0 w : World} {ps ps' : List Prv} {Γ : List Fact} {f g : Fact} (H : St W0 w0 ps Γ) (K : St w0 w ps' [f]) (j : Nat) (hg : Γ[j]? = some g) (hF : ∀ b ∈ f.F, b ∈ g.F) : St W0 w (ps' ++ ps) (f :: Γ) := by
  have H1 : St W0 w (ps' ++ ps) ([] ++ Γ) := St.merge H (K.sub [] (by simp)) (Fresh.nil _)
  exact H1.add_sub j hg f (K.get 0 rfl) hF
theorem pick_some {α : Type} (l : List α) : ∀ (is : List Nat), is.all (fun i => Nat.blt i l.length) = true → is.map (fun i => l[i]?) = (is.filterMap fun i => l[i]?).map some
  | [], _ => rfl
  | i :: is, h => by
    simp only [List.all_cons, Bool.and_eq_true] at h
    have hi : i < l.length := by simpa [Nat.blt_eq] using h.1
    simp [List.getElem?_eq_getElem hi, pick_some l is h.2]
theorem St.pickC {W0 w : World} {ps : List Prv} {Γ : List Fact} (H : St W0 w ps Γ) (is js : List Nat) (hi : is.all (fun i => Nat.blt i ps.length) = true := by exact rfl) (hj : js.all (fun i => Nat.blt i Γ.length) = true := by exact rfl) (hd : is.Nodup := by decide) :
    St W0 w (is.filterMap fun i => ps[i]?) (js.filterMap fun i => Γ[i]?) := H.pick is js (pick_some ps is hi) (pick_some Γ js hj) hd
theorem c_drawK {P : Program} {Q : Exit → Act → World → Prop} {n : Nat} {ρ : Env} {W0 w : World} {ps : List Prv} {Γ : List Fact} {l : List Oper} {id : Nat} (hm : P.follows .mixedOrders = true) (H : St W0 w ps Γ) (is : List Nat)
    (k : St W0 w.drew ps Γ → RW P l Q (fun w => St W0 w (is.filterMap fun i => ps[i]?) Γ) n l.toArray.size (Array.replicate l.toArray.size false) ρ w.drew)
    (hi : is.all (fun i => Nat.blt i ps.length) = true := by exact rfl) (hd : is.Nodup := by decide) : (Code.region id l.toArray true).wp P Q (mk n ρ) w := by
  have H' := H.ext (ext_drew _)
  refine c_draw (fun w => St W0 w (is.filterMap fun i => ps[i]?) Γ) hm ?_ (k H')
  exact H'.pick is (List.range Γ.length) (pick_some ps is hi) (by
    apply List.ext_getElem?
    intro i
    rcases Nat.lt_or_ge i Γ.length with h | h
    · simp [h]
    · simp [h]) hd
theorem St.repsCons {α : Type} [GoRep α] {W0 w : World} {ps : List Prv} {Γ : List Fact} (H : St W0 w ps Γ) (f0 : Bool) (j : Nat) {fr : Bool} {F : List Nat} {v : Value} {x : α} (hf : Γ[j]? = some (isF fr F v x)) (m : Nat) {fr' : Bool} {G : List Nat} {ys : List Value} {l : List α} (hg : Γ[m]? = some (repsF fr' G ys l)) (h3 : f0 = true → fr = true ∧ fr' = true) :
    St W0 w ps (repsF f0 (F ++ G) (v :: ys) (x :: l) :: Γ) := by
  refine H.add _ ⟨⟨F, G, [v], ys, rfl, rfl, (H.get j hf).1, (H.get m hg).1⟩, fun e => ((H.get j hf).2 (h3 e).1).app ((H.get m hg).2 (h3 e).2)⟩ fun b hb => ?_
  rcases List.mem_append.1 hb with h | h
  · exact (H.facts _ (List.mem_of_getElem? hf)).2 b h
  · exact (H.facts _ (List.mem_of_getElem? hg)).2 b h
/-- A call has written into blocks that the call itself has made, and into no others. -/
theorem St.chgFacts {W w w' : World} {ps : List Prv} {Γ : List Fact} (H : St W w ps Γ) {Fs L A : List (List Nat)} (N : Fresh W.heap.size (Fs ++ L)) (hA : ∀ F ∈ A, ∀ b ∈ F, b < W.heap.size) (e : Chg Fs.flatten w w')
    (is : List Nat) (new : List Fact) (hnew : ∀ f ∈ new, f.φ w') (js ks : List Nat) {Δ : List Fact}
    (hi : is.map (fun i => (Γ[i]?).map Fact.F) = Fs.map some := by exact rfl) (hn : new.map Fact.F = Fs := by exact rfl)
    (hj : js.map (fun i => Γ[i]?) = Δ.map some := by exact rfl) (hk : ks.map (fun i => (L ++ A)[i]?) = (Δ.map Fact.F).map some := by exact rfl) : St W w' ps (new ++ Δ) := by
  have hlt := H.ltN is hi
  have haw := H.awayN is hi
  have hN1 := (List.pairwise_append.1 N.dj).2.2
  have hfl : ∀ b ∈ Fs.flatten, ∃ F ∈ Fs, b ∈ F := fun b hb => List.mem_flatten.1 hb
  have hΔ : ∀ f ∈ Δ, f ∈ Γ ∧ ∀ b ∈ f.F, b ∉ Fs.flatten := by
    intro f hf
    constructor
    · have : some f ∈ Δ.map some := List.mem_map_of_mem hf
      rw [← hj] at this
      obtain ⟨i, _, hi'⟩ := List.mem_map.1 this
      exact List.mem_of_getElem? hi'
    · intro b hb hbF
      obtain ⟨G, hG, hbG⟩ := hfl b hbF
      have : some f.F ∈ (Δ.map Fact.F).map some := List.mem_map_of_mem (List.mem_map_of_mem hf)
      rw [← hk] at this
      obtain ⟨i, _, hi'⟩ := List.mem_map.1 this
      rcases List.mem_append.1 (List.mem_of_getElem? hi') with h | h
      · exact hN1 G hG f.F h b hbG hb
      · have h1 := hA f.F h b hb
        have h2 := N.ge G (List.mem_append_left _ hG) b hbG
        omega
  have H1 : St W w' ps Δ := H.chgNew e (fun b hb i => by obtain ⟨F, hF, hbF⟩ := hfl b hb; exact haw F hF b hbF i)
    (fun b hb => by obtain ⟨F, hF, hbF⟩ := hfl b hb; exact N.ge F (List.mem_append_left _ hF) b hbF) Δ hΔ
  refine ⟨H1.base, H1.has, H1.dist, fun f hf => ?_⟩
  rcases List.mem_append.1 hf with h | h
  · have hFm : f.F ∈ Fs := by rw [← hn]; exact List.mem_map_of_mem h
    exact ⟨hnew f h, fun b hb => ⟨Nat.lt_of_lt_of_le (hlt f.F hFm b hb) e.size, haw f.F hFm b hb⟩⟩
  · exact H1.facts f h
/-! ### The same steps, told more shortly -/
section
variable {P : Program} {Q : Exit → Act → World → Prop} {n : Nat} {ρ : Env} {W0 w : World} {ps : List Prv} {Γ : List Fact}
  {d : Nat} {ty : TypeId} {pos : String} {af : Array Edge} {K : Env → World → Prop}
theorem o_boxC {t : TypeId} {x : Operand} {v : Value} (H : St W0 w ps Γ) (cs : List Value) (k : ∀ b w', St W0 w' (.box b cs t :: ps) Γ → K (upd ρ d (.pointer (some ⟨b, 0, none⟩))) w')
    (hx : ev n ρ x = v := by exact rfl) (hc : v.cells.toList = cs := by exact rfl) : OW P Q ⟨some d, .box t x, ty, pos, af, none⟩ n ρ w K := by
  subst hc
  exact o_box H v hx k
theorem o_allocC {t : TypeId} {z : Value} {m by' : Nat} (H : St W0 w ps Γ) (ht : TI P t z m by') (cs : List Value) (k : ∀ b w', St W0 w' (.box b cs t :: ps) Γ → K (upd ρ d (.pointer (some ⟨b, 0, none⟩))) w')
    (hc : z.cells.toList = cs := by exact rfl) : OW P Q ⟨some d, .alloc t, ty, pos, af, none⟩ n ρ w K := by
  subst hc
  exact o_alloc H ht k
theorem o_storeC {t : TypeId} {x y : Operand} {b off m : Nat} {v : Value} {cs : List Value} {tb : TypeId} (H : St W0 w ps Γ) (i : Nat) (cs' : List Value) (hs : ∀ w, (Go.sizeOf t).run P w = .ok m w)
    (k : ∀ w', St W0 w' (ps.set i (.box b cs' tb)) Γ → K ρ w') (hx : ev n ρ x = .pointer (some ⟨b, off, none⟩) := by exact rfl) (hy : ev n ρ y = v := by exact rfl) (hm : v.cells.size = m := by exact rfl) (hp : ps[i]? = some (.box b cs tb) := by exact rfl)
    (h1 : cs'.all Value.oneCell' = true := by exact rfl) (ho : off + v.cells.size ≤ cs.length := by exact Nat.le_of_ble_eq_true rfl)
    (hc : cs.take off ++ v.cells.toList ++ cs.drop (off + v.cells.size) = cs' := by exact rfl) : OW P Q ⟨none, .store t x y, ty, pos, af, none⟩ n ρ w K := by
  subst hc hm
  exact o_store H i hp v hs hx hy (fun u hu => List.all_eq_true.1 h1 u (by simp at hu ⊢; simp [hu])) ho k
theorem o_store1C {t : TypeId} {x y : Operand} {b off : Nat} {v : Value} {cs : List Value} {tb : TypeId} (H : St W0 w ps Γ) (i : Nat) (cs' : List Value) (hs : ∀ w, (Go.sizeOf t).run P w = .ok 1 w)
    (k : ∀ w', St W0 w' (ps.set i (.box b cs' tb)) Γ → K ρ w') (hx : ev n ρ x = .pointer (some ⟨b, off, none⟩) := by exact rfl) (hy : ev n ρ y = v := by exact rfl) (hp : ps[i]? = some (.box b cs tb) := by exact rfl)
    (h1 : v.oneCell' = true := by exact rfl) (ho : off < cs.length := by exact Nat.le_of_ble_eq_true rfl) (hc : cs.set off v = cs' := by exact rfl) : OW P Q ⟨none, .store t x y, ty, pos, af, none⟩ n ρ w K := by
  subst hc
  exact o_store1 H i hp v hs hx hy h1 ho k
theorem o_build1C {t e : TypeId} {x : Operand} {v : Value} (H : St W0 w ps Γ) (hu : P.underlying t = some (.slice e)) {z : Value} {sz by' : Nat} (he : TI P e z sz by') (cs : List Value)
    (k : ∀ b w', St W0 w' (.box b cs e :: ps) Γ → K (upd ρ d (.slice (some ⟨b, 0, none⟩) 1 1)) w') (hx : ev n ρ x = v := by exact rfl) (h0 : 0 < sz := by decide) (hs : sz ≤ 16777216 := by decide) (hv : v.cells.size = sz := by exact rfl) (hc : v.cells.toList = cs := by exact rfl) :
    OW P Q ⟨some d, .buildSlice t 1 #[(0, x)], ty, pos, af, none⟩ n ρ w K := by
  subst hc
  exact o_build1 H hu he h0 hs v hx hv k
end
section
variable {W0 w : World} {ps : List Prv} {Γ : List Fact}
theorem St.nilRowI (H : St W0 w ps Γ) (e : TypeId) : St W0 w (.row (.slice none 0 0) e 1 0 (([] : List Int).map (Value.int .i64)) :: ps) Γ := H.nilRow e 1
theorem St.nilRowB (H : St W0 w ps Γ) (e : TypeId) : St W0 w (.row (.slice none 0 0) e 1 0 (([] : List Bool).map Value.bool) :: ps) Γ := H.nilRow e 1
theorem St.boxRowI (H : St W0 w ps Γ) (i : Nat) (l : List Int) (nn : Nat) {b : Nat} {e : TypeId} (hp : ps[i]? = some (.box b (l.map (Value.int .i64)) e) := by exact rfl) (hl : l.length = nn := by exact rfl) (hm : nn ≤ maxLen := by decide) :
    St W0 w (ps.set i (.row (.slice (some ⟨b, 0, none⟩) nn nn) e 1 nn (l.map (Value.int .i64)))) Γ := H.boxRow i hp 1 nn (by simp [hl]) hm
theorem St.boxRowB (H : St W0 w ps Γ) (i : Nat) (l : List Bool) (nn : Nat) {b : Nat} {e : TypeId} (hp : ps[i]? = some (.box b (l.map Value.bool) e) := by exact rfl) (hl : l.length = nn := by exact rfl) (hm : nn ≤ maxLen := by decide) :
    St W0 w (ps.set i (.row (.slice (some ⟨b, 0, none⟩) nn nn) e 1 nn (l.map Value.bool))) Γ := H.boxRow i hp 1 nn (by simp [hl]) hm
def eraseAll : List Nat → List Prv → List Prv
  | [], ps => ps
  | i :: is, ps => eraseAll is (ps.eraseIdx i)
theorem St.erases : ∀ (is : List Nat) {ps : List Prv}, St W0 w ps Γ → St W0 w (eraseAll is ps) Γ
  | [], _, H => H
  | i :: is, ps, H => St.erases is (H.sel _ (List.eraseIdx_sublist ps i) _ fun f h => h)
end
end Go.Proofs.YtfekhnffbngoaaaDoor
