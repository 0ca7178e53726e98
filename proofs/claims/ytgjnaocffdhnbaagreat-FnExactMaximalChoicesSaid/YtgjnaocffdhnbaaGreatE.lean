/- Arguments of a law read as plain data; closing a law. No program here. -/
import Derived.Test.YtgjnaocffdhnbaaGreatRows
import Derived.Test.YtgjnaocffdhnbaaGreatQ
import Derived.ProofKit
import Derived.OpenShut
import Derived.Carry
import Derived.BigQuiet
import Derived.Lib.SmallJoins
namespace Go.Proofs.YtgjnaocffdhnbaaGreat
set_option linter.unusedVariables false
set_option linter.unusedSimpArgs false
open Go.Proofs.YtgjnaocffdhnbaaGreat.Tot (tot)
open Go.Proofs.YtgjnaocffdhnbaaGreat.Mark (cnt mrk mkd mkd_mark cnt_mark)
open Go.ChangeShapes Go.WideShapes Go.ChangeAt Go.RowKit Go.Joins
set_option linter.unusedVariables false
set_option linter.unusedSimpArgs false

/-- Values of type t read as data of α. -/
def Reads (P : Program) (t : TypeId) (α : Type) [qE α] : Prop :=
  ∀ {H : Type} {enc : TypeId × Value → H} {w : World} {spare : Nat → Bool} {held : Bool} {fuel : Nat} {cs : List Value} {x : DataW H × List MemPlace},
    DataW.trod enc P w 0 spare held fuel t cs = some x → ∃ F, ∃ y : α, qE.rep w F cs y

theorem yT {P : Program} {t : TypeId} (hu : P.underlying t = some (.int .i64)) : Reads P t Int := fun h => by
  obtain ⟨n, rfl, _⟩ := DataW.trod_int hu h
  exact ⟨[], n, rfl, rfl⟩
theorem reads_bool {P : Program} {t : TypeId} (hu : P.underlying t = some .bool) : Reads P t Bool := fun h => by
  obtain ⟨b, rfl, _⟩ := DataW.trod_bool hu h
  exact ⟨[], b, rfl, rfl⟩

theorem cell_spot {w : World} {a : Addr} {v : Value} (h : w.cell? a = some v) : a.spot = none := by
  unfold World.cell? at h
  split at h
  · split at h
    · cases h
    · rename_i hs; simpa using hs
  · cases h

theorem jG {α : Type} [qE α] {P : Program} {t e : TypeId} (hu : P.underlying t = some (.slice e)) (hc : P.cellsOf e = qE.size α) (hz : 0 < qE.size α) (he : Reads P e α) : Reads P t (List α) := by
  intro H enc w spare held fuel cs x h
  rcases DataW.trod_slice hu h with ⟨rfl, _⟩ | ⟨a, len, cap, elems, rest, n, _, rfl, _, _, hlc, hcm, hel, hget, _⟩
  · exact ⟨[], [], none, 0, rfl, by simp, Or.inl ⟨rfl, rfl⟩⟩
  · have hm : cap ≤ 9223372036854775807 := by unfold maxLen at hcm; omega
    rcases Nat.eq_zero_or_pos len with h0 | h0
    · subst h0
      exact ⟨[], [], some a, cap, rfl, by simp, Or.inl ⟨rfl, rfl⟩⟩
    · have hone : ∀ i, i < len → ∃ ci Fi, ∃ y : α, w.cells? 0 (a.add (i * qE.size α)) (qE.size α) = some ci ∧ qE.rep w Fi ci y := by
        intro i hi
        have hg := hget i hi
        rw [hc] at hg
        have hs : elems[i]? = some (elems[i]'(by omega)) := List.getElem?_eq_getElem (by omega)
        rw [hs] at hg
        obtain ⟨ci, h1, h2⟩ := Option.bind_eq_some_iff.1 hg
        obtain ⟨Fi, y, hr⟩ := he h2
        exact ⟨ci, Fi, y, h1, hr⟩
      have hsp : a.spot = none := by
        obtain ⟨ci, Fi, y, h1, _⟩ := hone 0 h0
        obtain ⟨_, hl, hcell⟩ := World.cells?_some h1
        have := hcell 0 hz
        rw [List.getElem?_eq_getElem (show 0 < ci.length by omega)] at this
        have := cell_spot this
        simpa [Addr.add] using this
      obtain ⟨b, off, sp⟩ := a
      simp only at hsp
      subst hsp
      have hadd : ∀ i j : Nat, ((⟨b, off, none⟩ : Addr).add (i * qE.size α)).add j = ⟨b, off + i * qE.size α + j, none⟩ := fun i j => by simp [Addr.add_mid]
      have hall : ∀ m, m ≤ len → ∃ F vs, ∃ l : List α, l.length = m ∧ reps w F vs l ∧ zT w b off vs := by
        intro m
        induction m with
        | zero => exact fun _ => ⟨[], [], [], rfl, ⟨rfl, rfl⟩, fun i v hv => by simp at hv⟩
        | succ m ih =>
          intro hm'
          obtain ⟨F, vs, l, hl, hr, hcl⟩ := ih (by omega)
          obtain ⟨ci, Fi, y, h1, h2⟩ := hone m (by omega)
          obtain ⟨_, hcl2, hcell⟩ := World.cells?_some h1
          refine ⟨F ++ Fi, vs ++ ci, l ++ [y], by simp [hl], yl hr (reps_one h2), fun i v hv => ?_⟩
          have hvl := Xp hr
          rw [hl] at hvl
          rcases Nat.lt_or_ge i vs.length with hi | hi
          · rw [List.getElem?_append_left hi] at hv
            exact hcl i v hv
          · rw [List.getElem?_append_right hi] at hv
            have hi2 : i - vs.length < ci.length := by
              rcases Nat.lt_or_ge (i - vs.length) ci.length with h | h
              · exact h
              · simp [h] at hv
            have := hcell (i - vs.length) (by omega)
            rw [hadd, hv] at this
            rw [← this]
            congr 1
            rw [show off + i = off + m * qE.size α + (i - vs.length) by omega]
      obtain ⟨F, vs, l, hl, hr, hcl⟩ := hall len (Nat.le_refl _)
      have hb : b < w.heap.size := by
        have h1 : 0 < vs.length := by rw [Xp hr, hl]; exact Nat.mul_pos h0 hz
        exact World.block_lt_of_cell? w _ (hcl 0 _ (List.getElem?_eq_getElem h1))
      subst hl
      exact ⟨b :: F, l, some ⟨b, off, none⟩, cap, rfl, ⟨by omega, hlc⟩, Or.inr ⟨b, off, F, vs, rfl, rfl, hb, hr, hcl⟩⟩

theorem zY {n : Nat} {cs : List Value} (h : cs.length = n + 1) : ∃ c cs', cs = c :: cs' ∧ cs'.length = n := by
  cases cs with
  | nil => simp at h
  | cons c cs => exact ⟨c, cs, rfl, by simpa using h⟩
/-- A field of one cell. -/
theorem vk {P : Program} {H : Type} {enc : TypeId × Value → H} {w : World} {spare : Nat → Bool} {held : Bool} {fuel : Nat} {t : TypeId} {fs : Array Field} {cs : List Value} {x : DataW H × List MemPlace} (hu : P.underlying t = some (.struct fs))
    (h : DataW.trod enc P w 0 spare held fuel t cs = some x) (i off : Nat) {f : Field} (hf : fs[i]? = some f) (ho : f.offset = off) {α : Type} [qE α] (hr : Reads P f.type α) (h1 : qE.size α = 1) (hc : P.cellsOf f.type = 1) :
    ∃ F, ∃ y : α, ∃ v, cs[off]? = some v ∧ qE.rep w F [v] y := by
  obtain ⟨xs, n, _, _, hl, hxl, hall⟩ := DataW.trod_struct hu h
  have hi : i < xs.length := by
    rw [hxl]
    exact (Array.getElem?_eq_some_iff.1 hf).1
  have hg := hall i f hf
  rw [List.getElem?_eq_getElem hi, hc, ho] at hg
  obtain ⟨F, y, hy⟩ := hr hg
  have hlen := qE.len hy
  rw [h1] at hlen
  obtain ⟨v, cs', e, hl'⟩ := zY hlen
  obtain rfl := List.eq_nil_of_length_eq_zero hl'
  rw [e] at hy
  refine ⟨F, y, v, ?_, hy⟩
  have : (List.take 1 (List.drop off cs))[0]? = some v := by rw [e]; rfl
  simpa using this
theorem arg_struct {P : Program} {α : Type} [qE α] {H : Type} {enc : TypeId × Value → H} {w : World} {spare : Nat → Bool} {held : Bool} {b0 : Nat} {t : TypeId} {fs : Array Field} {v : Value} {d : DataW H} {p : List MemPlace} (hu : P.underlying t = some (.struct fs)) (hr : Reads P t α)
    (hv : Value.okWide P w .any b0 t v) (h : DataW.Trod enc P w 0 spare held t v d p) : ∃ (cs : List Value) (F : List Nat) (x : α), v = .agg cs.toArray ∧ qE.rep w F cs x := by
  obtain ⟨cs, rfl, _⟩ := okWide_struct hu hv
  obtain ⟨fuel, hf⟩ := h
  obtain ⟨F, x, hx⟩ := hr hf
  exact ⟨cs.toList, F, x, by simp, hx⟩
theorem slice_is {α : Type} [qE α] {w : World} {F : List Nat} {v : Value} {l : List α} (h : qE.rep w F [v] l) : ∃ a c, v = .slice a l.length c ∧ qE.rep w F [.slice a l.length c] l := by
  obtain ⟨a, c, hc, _⟩ := id h
  simp only [List.cons.injEq, and_true] at hc
  exact ⟨a, c, hc, hc ▸ h⟩
section
variable {H : Type} {enc : TypeId × Value → H} {P : Program}

theorem trodAll_below (hl : laidOutB P = true) {W W' : World} (hb : Below W.heap.size W W') :
    ∀ (ts : List TypeId) (vs : List Value) (ds : List (DataW H)) (ps : List MemPlace), (∀ t ∈ ts, P.readableRec t = true ∧ t < P.types.size) →
      DataW.TrodAll enc P W 0 (fun _ => true) true ts vs ds ps → (∀ x ∈ ps, x.block < W.heap.size) →
      DataW.TrodAll enc P W' 0 (fun b => decide (b < W.heap.size)) true ts vs ds ps
  | [], vs, ds, ps, _, h, _ => by
    obtain ⟨rfl, rfl, rfl⟩ := trodAll_nil h
    exact trodAll_mk0
  | t :: ts, vs, ds, ps, hr, h, hp => by
    obtain ⟨v, vs', d, ds', p, q, rfl, rfl, rfl, h0, h1⟩ := trodAll_cons h
    have ht := hr t (List.mem_cons_self ..)
    exact trodAll_cons_mk (Below.trod hl ht.1 ht.2 h0 hb (fun x hx => hp x (List.mem_append_left _ hx)))
      (trodAll_below hl hb ts vs' ds' q (fun t' ht' => hr t' (List.mem_cons_of_mem _ ht')) h1 (fun x hx => hp x (List.mem_append_right _ hx)))

theorem post_law {f : Func} {s : ChangeSpec} {W W' : World} {args : Array Value} {tb : TypeId} {ds gs : List (DataW H)} {before : List MemPlace}
    (hW : DataW.Whole enc P f.params.toList s.vars false W args.toList ds gs before) (hv : s.vars = [])
    (hs : s.fn H (ds ++ []) = { results := [.lit (.bool true)], args := ds }) (hr : f.resultTypes = #[tb]) (hu : P.underlying tb = some .bool)
    (hl : laidOutB P = true) (hts : ∀ t ∈ f.params.toList, P.readableRec t = true ∧ t < P.types.size) (hb : Below W.heap.size W W') :
    s.post enc P f false true false false W args (.bool true) W' := by
  have hW' := hW
  obtain ⟨p, q, hA, hV, rfl, hz, hn⟩ := hW
  rw [hv] at hV
  obtain ⟨rfl, rfl⟩ := trodVars_none hV
  have hlt : ∀ x ∈ p ++ [], x.block < W.heap.size := fun x hx => hW'.lt x hx
  refine ⟨ds, [], p ++ [], [], p, [], hW', ?_, ?_, ?_, World.keptBut_mono (fun x hx => ⟨hx, Or.inr (Or.inl (by simpa using hx))⟩) (hb.frame (· ∈ p ++ [])), fun h => by cases h⟩
  · rw [hs, hr]
    simp only [Value.resultList]
    exact trodAll_mk1 (shut_bool hu true)
  · rw [hs]
    exact trodAll_below hl hb _ _ _ _ hts hA (fun x hx => hlt x (by simpa using hx))
  · rw [hv, hs]
    exact rfl
end
end Go.Proofs.YtgjnaocffdhnbaaGreat
