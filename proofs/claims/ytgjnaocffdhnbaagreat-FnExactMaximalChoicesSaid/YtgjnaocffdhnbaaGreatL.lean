/- Slices of the call's own are sorted by the library's function. No program here. -/
import Derived.Test.YtgjnaocffdhnbaaGreatK
import Derived.Shelf.SlSortCmp.Whole1
import Derived.Ground.SlsfProg
namespace Go.Proofs.YtgjnaocffdhnbaaGreat
set_option linter.unusedVariables false
set_option linter.unusedSimpArgs false
open Go.Proofs.YtgjnaocffdhnbaaGreat.Tot (tot)
open Go.Proofs.YtgjnaocffdhnbaaGreat.Mark (cnt mrk mkd mkd_mark cnt_mark)
open Go.RowKit Go.Shelf Go.Lib Go.Sort

/-- What slices.Compare says of two lists of numbers. -/
def cmpL : List Int → List Int → Int
  | [], [] => 0
  | [], _ :: _ => -1
  | _ :: _, [] => 1
  | x :: a, y :: b => if x < y then -1 else if y < x then 1 else cmpL a b
theorem cmpL_refl : ∀ a, cmpL a a = 0
  | [] => rfl
  | x :: a => by rw [cmpL, if_neg (Int.lt_irrefl x), if_neg (Int.lt_irrefl x), cmpL_refl a]
theorem cmpL_trans : ∀ {a b c : List Int}, cmpL a b < 0 → cmpL b c < 0 → cmpL a c < 0
  | [], [], _, h, _ => by simp [cmpL] at h
  | [], _ :: _, [], _, h => by simp [cmpL] at h
  | [], _ :: _, _ :: _, _, _ => by simp [cmpL]
  | _ :: _, [], _, h, _ => by simp [cmpL] at h
  | _ :: _, _ :: _, [], _, h => by simp [cmpL] at h
  | x :: a, y :: b, z :: c, h1, h2 => by
    rw [cmpL] at h1 h2 ⊢
    by_cases e1 : x < y
    · by_cases e2 : y < z
      · rw [if_pos (by omega)]; omega
      · rw [if_neg e2] at h2
        by_cases e3 : z < y
        · rw [if_pos e3] at h2; omega
        · rw [if_pos (by omega)]; omega
    · rw [if_neg e1] at h1
      by_cases e2 : y < x
      · rw [if_pos e2] at h1; omega
      · rw [if_neg e2] at h1
        by_cases e3 : y < z
        · rw [if_pos (by omega)]; omega
        · rw [if_neg e3] at h2
          by_cases e4 : z < y
          · rw [if_pos e4] at h2; omega
          · rw [if_neg e4] at h2
            rw [if_neg (by omega), if_neg (by omega)]
            exact cmpL_trans h1 h2
theorem cmpL_ntrans : ∀ {a b c : List Int}, ¬ cmpL a b < 0 → ¬ cmpL b c < 0 → ¬ cmpL a c < 0
  | [], [], [], _, _ => by simp [cmpL]
  | _ :: _, _, [], _, _ => by simp [cmpL]
  | [], _ :: _, _, h, _ => by simp [cmpL] at h
  | _, [], _ :: _, _, h => by simp [cmpL] at h
  | x :: a, y :: b, z :: c, h1, h2 => by
    rw [cmpL] at h1 h2 ⊢
    by_cases e1 : x < y
    · rw [if_pos e1] at h1; omega
    · rw [if_neg e1] at h1
      by_cases e2 : y < z
      · rw [if_pos e2] at h2; omega
      · rw [if_neg e2] at h2
        rw [if_neg (by omega)]
        by_cases e3 : z < x
        · rw [if_pos e3]; omega
        · rw [if_neg e3]
          have ey : ¬ y < x := by omega
          have ez : ¬ z < y := by omega
          rw [if_neg ey] at h1
          rw [if_neg ez] at h2
          exact cmpL_ntrans h1 h2
theorem drop_cons {l : List Int} {i : Nat} (h : i < l.length) : l.drop i = l[i]! :: l.drop (i + 1) := by
  rw [getElem!_pos l i h]; exact (List.drop_eq_getElem_cons h)
theorem cmp_a {a b : List Int} {i : Nat} (h : i < a.length) (h1 : b.length ≤ i) : cmpL (a.drop i) (b.drop i) = 1 := by rw [drop_cons h, List.drop_eq_nil_of_le h1, cmpL]
theorem cmp_b {a b : List Int} {i : Nat} (h : a.length ≤ i) (h1 : i < b.length) : cmpL (a.drop i) (b.drop i) = -1 := by rw [drop_cons h1, List.drop_eq_nil_of_le h, cmpL]
theorem cmp_c {a b : List Int} {i : Nat} (h : a.length ≤ i) (h1 : b.length ≤ i) : cmpL (a.drop i) (b.drop i) = 0 := by rw [List.drop_eq_nil_of_le h, List.drop_eq_nil_of_le h1, cmpL]
theorem cmp_d {a b : List Int} {i : Nat} (h : i < a.length) (h1 : i < b.length) (h2 : a[i]! < b[i]!) : cmpL (a.drop i) (b.drop i) = -1 := by rw [drop_cons h, drop_cons h1, cmpL, if_pos h2]
theorem cmp_e {a b : List Int} {i : Nat} (h : i < a.length) (h1 : i < b.length) (h2 : a[i]! > b[i]!) : cmpL (a.drop i) (b.drop i) = 1 := by rw [drop_cons h, drop_cons h1, cmpL, if_neg (by omega), if_pos h2]
theorem cmp_f {a b : List Int} {i : Nat} (h : i < a.length) (h1 : i < b.length) (h2 : ¬ a[i]! < b[i]!) (h3 : ¬ a[i]! > b[i]!) : cmpL (a.drop i) (b.drop i) = cmpL (a.drop (i + 1)) (b.drop (i + 1)) := by rw [drop_cons h, drop_cons h1, cmpL, if_neg h2, if_neg h3]
theorem cmpL_ahead : ∀ {a b : List Int}, a.length = b.length → (cmpL a b < 0 ↔ ahead a b)
  | [], [], _ => ⟨fun h => by simp [cmpL] at h, fun ⟨i, h, _⟩ => by simp at h⟩
  | x :: a, [], h => by simp at h
  | [], y :: b, h => by simp at h
  | x :: a, y :: b, h => by
    have ih := cmpL_ahead (a := a) (b := b) (by simpa using h)
    rw [cmpL]
    constructor
    · intro h1
      by_cases e : x < y
      · exact ⟨0, by simp, fun j hj => by omega, by simpa using e⟩
      · rw [if_neg e] at h1
        by_cases e2 : y < x
        · rw [if_pos e2] at h1; omega
        · rw [if_neg e2] at h1
          obtain ⟨i, h2, h3, h4⟩ := ih.1 h1
          refine ⟨i + 1, by simp; omega, fun j hj => ?_, by simpa using h4⟩
          cases j with
          | zero => simp; omega
          | succ j => simpa using h3 j (by omega)
    · rintro ⟨i, h2, h3, h4⟩
      cases i with
      | zero => rw [if_pos (by simpa using h4)]; omega
      | succ i =>
        have h0 := h3 0 (by omega)
        simp only [List.getElem!_cons_zero] at h0
        rw [if_neg (by omega), if_neg (by omega)]
        exact ih.2 ⟨i, by simpa using h2, fun j hj => by simpa using h3 (j + 1) (by omega), by simpa using h4⟩

section
variable {W0 w : World} {ps : List Prv} {Γ : List Fact}
theorem sw_block {α : Type} [Inhabited α] {enc : α → Value} {blk m : Nat} {d : Array α} {os : Array Obj} {k : Nat} (hk : k < w.heap.size) (hne : k ≠ blk) : (sortWorld enc w blk 0 m d os).heap[k]? = w.heap[k]? := by
  unfold sortWorld putRow mapBlock grow
  show ((Sort.ahead w m).heap.modify blk _ ++ os)[k]? = _
  have hs : ((Sort.ahead w m).heap.modify blk (onCells (putCells enc 0 d))).size = w.heap.size := by rw [Array.size_modify]; rfl
  rw [Array.getElem?_append_left (by rw [hs]; exact hk), Array.getElem?_modify, if_neg (Ne.symm hne)]
  rfl
theorem sw_row {α : Type} [Inhabited α] {enc : α → Value} {blk m : Nat} {d : Array α} {os : Array Obj} {cur : Array Value} {e : TypeId} (h : w.heap[blk]? = some (.cells cur e (0, 0))) : (sortWorld enc w blk 0 m d os).heap[blk]? = some (.cells (putCells enc 0 d cur) e (0, 0)) := by
  have hk : blk < w.heap.size := (Array.getElem?_eq_some_iff.1 h).1
  unfold sortWorld putRow mapBlock grow
  show ((Sort.ahead w m).heap.modify blk _ ++ os)[blk]? = _
  have hs : ((Sort.ahead w m).heap.modify blk (onCells (putCells enc 0 d))).size = w.heap.size := by rw [Array.size_modify]; rfl
  rw [Array.getElem?_append_left (by rw [hs]; exact hk), Array.getElem?_modify, if_pos rfl]
  show (w.heap[blk]?).map _ = _
  rw [h]
  rfl
/-- A slice of the call's own whose elements are slices of numbers is sorted. -/
theorem sortRow {P : Program} {ρ : Ren} (L : SlLaysF.n6 P ρ) {g : Nat} (eg : ∀ args w, (callFunc g args).run P w = .ok (.enter g args) w)
    (cmp : ∀ (W : World) (x y : List Int) (a : Option Addr) (c : Nat) (F : List Nat) (a' : Option Addr) (c' : Nat) (F' : List Nat), qE.rep W F [.slice a x.length c] x → qE.rep W F' [.slice a' y.length c'] y →
      Calls P g #[.slice a x.length c, .slice a' y.length c'] W fun e w' => e = .returned (.int .i64 (cmpL x y)) ∧ w' = W)
    (H : St W0 w ps Γ) (k : Nat) {b c : Nat} {e : TypeId} {nn : Nat} {xs : List Value} (hp : ps[k]? = some (.row (.slice (some ⟨b, 0, none⟩) nn c) e 1 nn xs)) (j : Nat) {fr : Bool} {F : List Nat} {l : List (List Int)} (hf : Γ[j]? = some (zn fr F xs l)) (h0 : 0 < l.length) (hsz : l.length < 4611686018427387904) :
    Calls P (ρ.f 6) #[.slice (some ⟨b, 0, none⟩) nn c, .func (.func g) #[] #[]] w fun e' w' => ∃ v, e' = .returned v ∧ ∃ xs' F' l', v = .tuple #[] ∧ F'.Perm F ∧ l.Perm l' ∧ (∀ i j, i < j → j < l'.length → ¬ cmpL (l'[j]!) (l'[i]!) < 0) ∧
      St W0 w' (ps.set k (.row (.slice (some ⟨b, 0, none⟩) nn c) e 1 nn xs')) (zn fr F' xs' l' :: Γ) := by
  have ho := (H.has _ (List.mem_of_getElem? hp) : w.ownsRow W0.heap.size e 1 _ nn xs)
  obtain ⟨hr, hfr⟩ := H.get j hf
  have hxl : xs.length = l.length := by have := Xp hr; simpa [qE.size] using this
  have hnn : nn = l.length := by have := ho.1; omega
  subst hnn
  obtain ⟨hl, h | ⟨g', cap, cur, hv, hB, hg, hn, hm, hcs, ht⟩⟩ := ho
  · simp at h
  simp only [Value.slice.injEq, Option.some.injEq, Addr.mk.injEq, and_true] at hv
  obtain ⟨rfl, _, rfl⟩ := hv
  have hF := (H.facts _ (List.mem_of_getElem? hf)).2
  have hbF : ∀ x ∈ F, x ≠ b := fun x hx e' => (hF x hx).2 k (by simp [zW, hp, Prv.blk, Value.ownBlock, e'])
  let enc : Nat → Value := fun i => xs[i % l.length]!
  let cf : Nat → Nat → Int := fun i j => cmpL (l[i % l.length]!) (l[j % l.length]!)
  have hmod : ∀ i, i % l.length < l.length := fun i => Nat.mod_lt _ h0
  have hrep : ∀ i, ∃ a c' G, (∀ x ∈ G, x ∈ F) ∧ enc i = .slice a (l[i % l.length]!).length c' ∧ qE.rep w G [.slice a (l[i % l.length]!).length c'] (l[i % l.length]!) := fun i => by
    obtain ⟨F1, Fk, F2, v1, cs, v2, hFe, hxe, hl1, hl2, hu, _, _⟩ := reps_get hr (i % l.length) (hmod i)
    obtain ⟨a, c', rfl, hx⟩ := id hu
    have hl1' : v1.length = i % l.length := by rw [hl1]; exact Nat.mul_one _
    refine ⟨a, c', Fk, fun x hx => by rw [hFe]; simp [hx], ?_, ?_⟩
    · show xs[i % l.length]! = _
      rw [getElem!_pos l _ (hmod i), getElem!_pos xs _ (by rw [hxl]; exact hmod i)]
      have : xs[i % l.length]? = some (.slice a (l[i % l.length]'(hmod i)).length c') := by
        refine (congrArg (fun z : List Value => z[i % l.length]?) hxe).trans ?_
        show (v1 ++ [_] ++ v2)[i % l.length]? = _
        rw [List.append_assoc, List.getElem?_append_right (by omega)]
        simp [hl1']
      exact (List.getElem?_eq_some_iff.1 this).2
    · rw [getElem!_pos l _ (hmod i)]; exact hu
  have hO : OneCell enc := fun i => by obtain ⟨a, c', G, _, he, _⟩ := hrep i; show Value.oneCell' (enc i) = true; rw [he]; rfl
  have hS : SWO (ltOf cf) := by
    refine ⟨fun x => ?_, fun x y z h1 h2 => ?_, fun x y z h1 h2 => ?_⟩ <;> unfold ltOf at *
    · show decide (cmpL _ _ < 0) = false
      rw [cmpL_refl]; rfl
    · exact decide_eq_true (cmpL_trans (of_decide_eq_true h1) (of_decide_eq_true h2))
    · exact decide_eq_false (cmpL_ntrans (of_decide_eq_false h1) (of_decide_eq_false h2))
  let d : Array Nat := Array.range l.length
  have hds : d.size = l.length := Array.size_range
  have hdi : ∀ i, i < l.length → d[i]! = i := fun i hi => by rw [getElem!_pos d i (by rw [hds]; exact hi)]; exact Array.getElem_range _
  have hcx : ∀ i, i < l.length → cur[i]? = some (enc i) := fun i hi => by
    have h1 : xs[i]? = some (enc i) := by
      show xs[i]? = some (xs[i % l.length]!)
      rw [Nat.mod_eq_of_lt hi, getElem!_pos xs i (by omega)]
      exact List.getElem?_eq_getElem (by omega)
    rw [← ht, List.getElem?_take, if_pos (by omega)] at h1
    simpa using h1
  have hH : Holds enc w b 0 d := fun i hi => by
    have hi' : i < l.length := by rw [hds] at hi; exact hi
    rw [hdi i hi', Nat.zero_add]
    constructor
    · rw [World.cell?, hg]; exact hcx i hi'
    · rw [World.frozen?, hg]; simp
  have hcmp : CmpLays1 P g #[] enc cf b 0 d.size w := fun m os dk hs x y => by
    obtain ⟨a, c1, G, hG, he, hx⟩ := hrep x
    obtain ⟨a2, c2, G2, hG2, he2, hy⟩ := hrep y
    have st : ∀ z ∈ F, (sortWorld enc w b 0 m dk os).heap[z]? = w.heap[z]? := fun z hz => sw_block (hF z hz).1 (hbF z hz)
    rw [he, he2]
    refine (cmp _ _ _ a c1 G a2 c2 G2 (qE.stay hx fun z hz => st z (hG z hz)) (qE.stay hy fun z hz => st z (hG2 z hz))).mono fun e' w' h => ⟨h.1, 0, #[], ?_⟩
    rw [grow_empty]; exact h.2
  have hblk : b < w.heap.size := (Array.getElem?_eq_some_iff.1 hg).1
  have hc := Any.slices_SortFunc L enc hO cf hS g #[] b 0 c d w eg hcmp hH hblk (by rw [hds]; exact hsz)
  rw [hds] at hc
  refine hc.mono fun e' w' ⟨he, d', n, os, hpm, hso, hw⟩ => ⟨_, he, ?_⟩
  have hd' : d'.size = l.length := hpm.1.trans hds
  have hperm : d'.toList.Perm (List.range l.length) := by
    have := hpm.2.2
    rw [Array.extract_eq_self_of_le (by omega), Array.extract_eq_self_of_le (by omega)] at this
    simpa [d] using this
  have hlt : ∀ x ∈ d'.toList, x < l.length := fun x hx => List.mem_range.1 (hperm.subset hx)
  -- the pairs
  have hz : (xs.zip l).Perm (d'.toList.map fun i => (xs[i]!, l[i]!)) := by
    have e1 : xs.zip l = (List.range l.length).map fun i => (xs[i]!, l[i]!) := by
      refine List.ext_getElem (by simp [hxl]) fun i h1 h2 => ?_
      have hi : i < l.length := by simpa using h2
      rw [List.getElem_zip, List.getElem_map, List.getElem_range, getElem!_pos xs i (by omega), getElem!_pos l i hi]
    rw [e1]
    exact (hperm.map _).symm
  have hr' : reps w F ((xs.zip l).map Prod.fst) ((xs.zip l).map Prod.snd) := by rw [zip_fst hxl, zip_snd hxl]; exact hr
  obtain ⟨F', hF', hr2⟩ := reps_perm rfl hz hr'
  rw [List.map_map, List.map_map] at hr2
  refine ⟨d'.toList.map fun i => xs[i]!, F', d'.toList.map fun i => l[i]!, rfl, hF', ?_, ?_, ?_⟩
  · have := hz.map Prod.snd
    rw [zip_snd hxl, List.map_map] at this
    exact this
  · intro i j hij hj
    rw [List.length_map, Array.length_toList, hd'] at hj
    have hge : ∀ q, q < l.length → (d'.toList.map fun i => l[i]!)[q]! = l[d'[q]! % l.length]! := fun q hq => by
      rw [getElem!_pos _ q (by simp [hd', hq]), List.getElem_map, Array.getElem_toList]
      have : d'[q]! = d'[q] := getElem!_pos d' q (by omega)
      rw [this, Nat.mod_eq_of_lt (hlt _ (by simp))]
    rw [hge i (by omega), hge j hj]
    exact of_decide_eq_false (hso i j (Nat.zero_le _) hij hj)
  · subst hw
    have hcells : ∀ q, q < l.length → (putCells enc 0 d' cur)[q]? = some (xs[d'[q]!]!) := fun q hq => by
      unfold putCells
      rw [Array.getElem?_mapIdx]
      have hcq := hcx q hq
      rw [hcq]
      simp only [Option.map_some, Nat.zero_le, true_and, Nat.zero_add, hd', if_pos hq, Nat.sub_zero]
      show some (xs[d'[q]! % l.length]!) = _
      have : d'[q]! = d'[q] := getElem!_pos d' q (by omega)
      rw [this, Nat.mod_eq_of_lt (hlt _ (by simp))]
    have hown : (sortWorld enc w b 0 n d' os).ownsRow W0.heap.size e 1 (.slice (some ⟨b, 0, none⟩) l.length c) l.length (d'.toList.map fun i => xs[i]!) := by
      refine ⟨by simp [hd'], Or.inr ⟨b, c, putCells enc 0 d' cur, rfl, hB, sw_row hg, hn, hm, by unfold putCells; rw [Array.size_mapIdx]; exact hcs, ?_⟩⟩
      rw [Nat.mul_one]
      refine List.ext_getElem? fun q => ?_
      rw [List.getElem?_take]
      split
      · next hq =>
        rw [Array.getElem?_toList, hcells q hq, List.getElem?_map, Array.getElem?_toList]
        have : d'[q]! = d'[q] := getElem!_pos d' q (by omega)
        rw [this, Array.getElem?_eq_getElem (by omega)]
        rfl
      · next hq => rw [List.getElem?_eq_none (by simp; omega)]
    have hsize : w.heap.size ≤ (sortWorld enc w b 0 n d' os).heap.size := by
      unfold sortWorld putRow mapBlock grow
      show _ ≤ ((Sort.ahead w n).heap.modify b _ ++ os).size
      rw [Array.size_append, Array.size_modify]
      exact Nat.le_add_right _ _
    have H1 := H.change k hp (w' := sortWorld enc w b 0 n d' os) (p' := .row (.slice (some ⟨b, 0, none⟩) l.length c) e 1 l.length (d'.toList.map fun i => xs[i]!)) rfl rfl rfl hsize (fun i hi hne => sw_block hi (fun e2 => hne (by subst e2; rfl))) hown (Or.inl rfl)
    refine H1.add _ ⟨?_, fun e2 x hx => ?_⟩ fun x hx => ?_
    · exact reps_stay hr2 fun z hz => sw_block (hF z (hF'.subset hz)).1 (hbF z (hF'.subset hz))
    · have h2 := hfr e2 x (hF'.subset hx)
      obtain ⟨o1, o2, ho⟩ := h2
      exact ⟨o1, o2, (sw_block (hF x (hF'.subset hx)).1 (hbF x (hF'.subset hx))).trans ho⟩
    · refine ⟨Nat.lt_of_lt_of_le (hF x (hF'.subset hx)).1 hsize, fun i hi => ?_⟩
      have h3 := (hF x (hF'.subset hx)).2
      by_cases e3 : i = k
      · subst e3
        have : (ps.set i (Prv.row (.slice (some ⟨b, 0, none⟩) l.length c) e 1 l.length (d'.toList.map fun i => xs[i]!)))[i]? = some (Prv.row (.slice (some ⟨b, 0, none⟩) l.length c) e 1 l.length (d'.toList.map fun i => xs[i]!)) := set_at hp
        simp only [zW, this, Option.bind_some, Prv.blk, Value.ownBlock, Option.some.injEq] at hi
        exact hbF x (hF'.subset hx) hi.symm
      · have : zW (ps.set k (Prv.row (.slice (some ⟨b, 0, none⟩) l.length c) e 1 l.length (d'.toList.map fun i => xs[i]!))) i = zW ps i := by unfold zW; rw [List.getElem?_set_ne (Ne.symm e3)]
        rw [this] at hi
        exact h3 i hi
end
end Go.Proofs.YtgjnaocffdhnbaaGreat
