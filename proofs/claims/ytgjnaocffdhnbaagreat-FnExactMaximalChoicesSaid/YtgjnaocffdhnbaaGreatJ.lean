/- A slice of the call's own whose elements are slices of its own: one of them is taken out, turned, and laid back. Two elements change places. No program here. -/
import Derived.Test.YtgjnaocffdhnbaaGreatQ
namespace Go.Proofs.YtgjnaocffdhnbaaGreat
set_option linter.unusedVariables false
set_option linter.unusedSimpArgs false
open Go.Proofs.YtgjnaocffdhnbaaGreat.Tot (tot)
open Go.Proofs.YtgjnaocffdhnbaaGreat.Mark (cnt mrk mkd mkd_mark cnt_mark)
open Go.RowKit

/-- Numbers in a slice that is the call's own, from its block's start on. -/
structure OwnI (e : TypeId) where
  l : List Int
instance (e : TypeId) : Inhabited (OwnI e) := ⟨⟨[]⟩⟩
def OwnAt (e : TypeId) (w : World) (F : List Nat) (v : Value) (l : List Int) : Prop :=
  (v = .slice none 0 0 ∧ l = [] ∧ F = []) ∨ ∃ g cap cur, v = .slice (some ⟨g, 0, none⟩) l.length cap ∧ F = [g] ∧ w.heap[g]? = some (.cells cur e (0, 0)) ∧ l.length ≤ cap ∧ cap ≤ maxLen ∧ cur.size = cap ∧ cur.toList.take l.length = l.map (Value.int .i64)
theorem OwnAt.slice {e : TypeId} {w : World} {F : List Nat} {v : Value} {l : List Int} (h : OwnAt e w F v l) : ∃ a c, v = .slice a l.length c := by
  rcases h with ⟨rfl, rfl, _⟩ | ⟨g, cap, cur, rfl, _⟩
  · exact ⟨none, 0, rfl⟩
  · exact ⟨_, _, rfl⟩
instance (e : TypeId) : qE (OwnI e) where
  size := 1
  rep := fun w F cs x => ∃ v, cs = [v] ∧ OwnAt e w F v x.l
  len := by rintro w F cs x ⟨v, rfl, _⟩; rfl
  one := by
    rintro w F cs x ⟨v, rfl, h⟩ u hu
    simp only [List.mem_singleton] at hu
    subst hu
    obtain ⟨a, c, rfl⟩ := h.slice
    rfl
  lt := by
    rintro w F cs x ⟨v, rfl, h⟩ b hb
    rcases h with ⟨_, _, rfl⟩ | ⟨g, cap, cur, _, rfl, hg, _⟩
    · simp at hb
    · obtain rfl := List.mem_singleton.1 hb
      exact (Array.getElem?_eq_some_iff.1 hg).1
  stay := by
    rintro w w' F cs x ⟨v, rfl, h⟩ hs
    refine ⟨v, rfl, ?_⟩
    rcases h with h | ⟨g, cap, cur, h1, rfl, hg, h2⟩
    · exact Or.inl h
    · exact Or.inr ⟨g, cap, cur, h1, rfl, (hs g (by simp)).trans hg, h2⟩

theorem OwnAt.rep {e : TypeId} {w : World} {F : List Nat} {v : Value} {l : List Int} (h : OwnAt e w F v l) : qE.rep w F [v] l := by
  rcases h with ⟨rfl, rfl, rfl⟩ | ⟨g, cap, cur, rfl, rfl, hg, h1, h2, h3, h4⟩
  · exact ⟨none, 0, rfl, by simp, Or.inl ⟨rfl, rfl⟩⟩
  · refine ⟨_, cap, rfl, by unfold maxLen at h2; omega, Or.inr ⟨g, 0, [], _, rfl, rfl, (Array.getElem?_eq_some_iff.1 hg).1, reps_of_ints w l, ?_⟩⟩
    intro i u hi
    rw [Nat.zero_add, World.cell?, hg]
    rw [← h4, List.getElem?_take] at hi
    split at hi
    · simpa using hi
    · cases hi
theorem reps_ofOwn {e : TypeId} {w : World} : ∀ {F : List Nat} {xs : List Value} {l : List (OwnI e)}, reps w F xs l → reps w F xs (l.map OwnI.l)
  | _, _, [], h => h
  | _, _, x :: l, ⟨F1, F2, c1, c2, hF, hv, ⟨v, hc, h1⟩, h2⟩ => ⟨F1, F2, c1, c2, hF, hv, hc ▸ h1.rep, reps_ofOwn h2⟩

section
variable {W0 w : World} {ps : List Prv} {Γ : List Fact}
/-- The elements are read as lists from here on. -/
theorem St.ofOwn {e : TypeId} (H : St W0 w ps Γ) (j : Nat) {fr : Bool} {F : List Nat} {xs : List Value} {l : List (OwnI e)} (hf : Γ[j]? = some (zn fr F xs l)) : St W0 w ps (zn fr F xs (l.map OwnI.l) :: Γ) :=
  H.yL j hf _ ⟨reps_ofOwn (H.get j hf).1, (H.get j hf).2⟩ fun _ h => h
theorem St.rowCountO {e e2 : TypeId} (H : St W0 w ps Γ) (k : Nat) {v : Value} {nn : Nat} {xs : List Value} (hp : ps[k]? = some (.row v e2 1 nn xs)) (j : Nat) {fr : Bool} {F : List Nat} {l : List (OwnI e)} (hf : Γ[j]? = some (zn fr F xs l)) : nn = l.length :=
  H.zK (α := OwnI e) k hp j hf (show 0 < qE.size (OwnI e) from Nat.one_pos)

/-- Element c is taken out: a row of the call's own for as long as it is turned. -/
theorem St.openI {e e2 : TypeId} (H : St W0 w ps Γ) (k : Nat) {b c' : Nat} {nn : Nat} {xs : List Value} (hp : ps[k]? = some (.row (.slice (some ⟨b, 0, none⟩) nn c') e2 1 nn xs)) (j : Nat) {F : List Nat} {l : List (OwnI e)} (hf : Γ[j]? = some (zn true F xs l))
    {L : List (List Nat)} (N : Fresh W0.heap.size (F :: L)) {iv : Int} (c : Nat) (hi : iv.toNat = c) (hc : c < nn) (Γ' : List Fact) (hΓ : ∀ f ∈ Γ', f ∈ Γ ∧ ∀ x ∈ f.F, x ∉ F) :
    ∃ a m F', w.cell? ⟨b, 0 + iv.toNat * 1, none⟩ = some (.slice a (l[c]!).l.length m) ∧ Fresh W0.heap.size (F' :: L) ∧
      St W0 w (.row (.slice a (l[c]!).l.length m) e 1 (l[c]!).l.length ((l[c]!).l.map (Value.int .i64)) :: ps) (zn true F' (xs.set c (.slice none 0 0)) (l.set c ⟨[]⟩) :: Γ') := by
  subst hi
  have hn : nn = l.length := H.rowCountO k hp j hf
  have hlen := H.rowLen k hp
  have hF := (H.facts _ (List.mem_of_getElem? hf)).2
  obtain ⟨F1, Fk, F2, v1, cs, v2, hFe, hxe, hl1, hl2, ⟨u, rfl, hu⟩, hr1, hr2⟩ := reps_get (H.get j hf).1 iv.toNat (by omega)
  have hl1' : v1.length = iv.toNat := by rw [hl1]; exact Nat.mul_one _
  obtain ⟨a, m, rfl⟩ := hu.slice
  have el : l[iv.toNat]! = l[iv.toNat] := getElem!_pos l _ (by omega)
  have hxc : xs[iv.toNat]? = some (.slice a (l[iv.toNat]).l.length m) := by
    refine (congrArg (fun z : List Value => z[iv.toNat]?) hxe).trans ?_
    show (v1 ++ [_] ++ v2)[iv.toNat]? = _
    rw [List.append_assoc, List.getElem?_append_right (by omega)]
    simp [hl1']
  have hset : xs.set iv.toNat (.slice none 0 0) = v1 ++ [.slice none 0 0] ++ v2 := by
    rw [hxe, List.append_assoc, List.set_append_right _ _ (by omega)]
    simp [hl1']
  have hlset : l.set iv.toNat (⟨[]⟩ : OwnI e) = l.take iv.toNat ++ ((⟨[]⟩ : OwnI e) :: l.drop (iv.toNat + 1)) := by
    rw [List.set_eq_take_append_cons_drop, if_pos (by omega)]
  have hreps : reps w (F1 ++ F2) (xs.set iv.toNat (.slice none 0 0)) (l.set iv.toNat ⟨[]⟩) := by
    rw [hset, hlset, List.append_assoc]
    exact yl hr1 ⟨[], F2, [.slice none 0 0], v2, rfl, rfl, ⟨_, rfl, Or.inl ⟨rfl, rfl, rfl⟩⟩, hr2⟩
  have hndF : F.Nodup := N.nd F (by simp)
  have hsub : ∀ x ∈ F1 ++ F2, x ∈ F := by
    intro x hx
    rw [hFe]
    simp only [List.mem_append] at hx ⊢
    rcases hx with h | h
    · exact Or.inl (Or.inl h)
    · exact Or.inr h
  have hkF : ∀ x ∈ Fk, x ∈ F := fun x hx => by rw [hFe]; simp [hx]
  have hdis : ∀ x ∈ Fk, x ∉ F1 ++ F2 := by
    intro x hx hx'
    rw [hFe] at hndF
    have h1 := List.nodup_append.1 hndF
    have h2 := List.nodup_append.1 h1.1
    rcases List.mem_append.1 hx' with h | h
    · exact h2.2.2 x h x hx rfl
    · exact h1.2.2 x (List.mem_append_right _ hx) x h rfl
  refine ⟨a, m, F1 ++ F2, ?_, N.less hsub (fun _ => ?_), ?_⟩
  · rw [el]
    have := H.rowGet k hp hxc
    rw [Nat.zero_add, Nat.mul_one]
    exact this
  · rw [hFe] at hndF
    have h1 := List.nodup_append.1 hndF
    have h2 := List.nodup_append.1 h1.1
    exact List.nodup_append.2 ⟨h2.1, h1.2.1, fun x hx y hy => h1.2.2 x (List.mem_append_left _ hx) y hy⟩
  · rw [el]
    have hbk : ∀ x, (Value.slice a (l[iv.toNat]).l.length m).ownBlock = some x → Fk = [x] := by
      intro x hx
      rcases hu with ⟨h, _, _⟩ | ⟨g, cap, cur, h, hg, _⟩
      · injection h with h1; subst h1; simp [Value.ownBlock] at hx
      · injection h with h1; subst h1
        simp only [Value.ownBlock, Option.some.injEq] at hx
        rw [hg, hx]
    have hzero : zW (.row (.slice a (l[iv.toNat]).l.length m) e 1 (l[iv.toNat]).l.length ((l[iv.toNat]).l.map (Value.int .i64)) :: ps) 0 = (Value.slice a (l[iv.toNat]).l.length m).ownBlock := rfl
    refine ⟨H.base, fun p hp' => ?_, fun i i' x h1 h2 => ?_, fun f hf' => ?_⟩
    · rcases List.mem_cons.1 hp' with rfl | h
      · refine ⟨by simp, ?_⟩
        rcases hu with ⟨h, hl, _⟩ | ⟨g, cap, cur, h, hg, hh, h1, h2, h3, h4⟩
        · exact Or.inl ⟨h, by rw [hl]; rfl⟩
        · exact Or.inr ⟨g, cap, cur, h, N.ge F (by simp) g (hkF g (by simp [hg])), hh, h1, h2, by omega, by rw [Nat.mul_one]; exact h4⟩
      · exact H.has p h
    · cases i with
      | zero =>
        cases i' with
        | zero => rfl
        | succ i' =>
          rw [hzero] at h1
          have := hbk x h1
          exact absurd h2 ((hF x (hkF x (by simp [this]))).2 i')
      | succ i =>
        cases i' with
        | zero =>
          rw [hzero] at h2
          have := hbk x h2
          exact absurd h1 ((hF x (hkF x (by simp [this]))).2 i)
        | succ i' => rw [H.dist i i' x h1 h2]
    · have key : ∀ x, x < w.heap.size → (∀ i, zW ps i ≠ some x) → x ∉ Fk → ∀ i, zW (.row (.slice a (l[iv.toNat]).l.length m) e 1 (l[iv.toNat]).l.length ((l[iv.toNat]).l.map (Value.int .i64)) :: ps) i ≠ some x := by
        intro x _ h2 h3 i
        cases i with
        | zero => intro h; rw [hzero] at h; exact h3 (by simp [hbk x h])
        | succ i => exact h2 i
      rcases List.mem_cons.1 hf' with rfl | h
      · refine ⟨⟨hreps, fun _ x hx => (H.get j hf).2 rfl x (hsub x hx)⟩, fun x hx => ⟨(hF x (hsub x hx)).1, key x (hF x (hsub x hx)).1 (hF x (hsub x hx)).2 fun h => hdis x h hx⟩⟩
      · obtain ⟨h1, h2⟩ := hΓ f h
        have h3 := H.facts f h1
        exact ⟨h3.1, fun x hx => ⟨(h3.2 x hx).1, key x (h3.2 x hx).1 (h3.2 x hx).2 fun h => h2 x hx (hkF x h)⟩⟩
end

section
variable {P : Program} {Q : Exit → Act → World → Prop} {n : Nat} {ρ : Env} {W0 w : World} {ps : List Prv} {Γ : List Fact}
  {d : Nat} {ty : TypeId} {pos : String} {af : Array Edge} {K : Env → World → Prop}
/-- The element that was taken out is laid back. -/
theorem o_closeI {t e e2 : TypeId} {x y : Operand} {b c' : Nat} {nn : Nat} {xs : List Value} (H : St W0 w ps Γ) (k : Nat) (hp : ps[k]? = some (.row (.slice (some ⟨b, 0, none⟩) nn c') e2 1 nn xs)) (i : Nat) (hik : i ≠ k) {v : Value} {m : Nat} {z : List Int}
    (hq : ps[i]? = some (.row v e 1 m (z.map (Value.int .i64)))) (j : Nat) {F : List Nat} {l : List (OwnI e)} {c : Nat} (hf : Γ[j]? = some (zn true F (xs.set c (.slice none 0 0)) l)) {L : List (List Nat)} (N : Fresh W0.heap.size (F :: L))
    (ha : ∀ K ∈ L, ∀ b ∈ K, ∀ i, zW ps i ≠ some b)
    {iv : Int} (hs : ∀ w, (Go.sizeOf t).run P w = .ok 1 w) (hx : ev n ρ x = .pointer (some ⟨b, 0 + iv.toNat * 1, none⟩)) (hy : ev n ρ y = v) (hi : iv.toNat = c) (h2 : c < nn)
    (kk : ∀ w' F', Fresh W0.heap.size (F' :: L) → St W0 w' ((ps.set i (.row (.slice none 0 0) 0 1 0 [])).set k (.row (.slice (some ⟨b, 0, none⟩) nn c') e2 1 nn (xs.set c v))) (zn true F' (xs.set c v) (l.set c ⟨z⟩) :: Γ) → K ρ w') :
    OW P Q ⟨none, .store t x y, ty, pos, af, none⟩ n ρ w K := by
  subst hi
  have hxl := H.rowLen k hp
  have hll : (xs.set iv.toNat (.slice none 0 0)).length = l.length * 1 := Xp (H.get j hf).1
  rw [List.length_set] at hll
  have hF := (H.facts _ (List.mem_of_getElem? hf)).2
  have ho := (H.has _ (List.mem_of_getElem? hq) : w.ownsRow W0.heap.size e 1 v m (z.map (Value.int .i64)))
  have hm : m = z.length := by have := ho.1; simp at this; omega
  subst hm
  obtain ⟨G, hG, hGb, hGf⟩ : ∃ G, OwnAt e w G v z ∧ (∀ x ∈ G, zW ps i = some x) ∧ zl w G := by
    rcases ho.2 with ⟨rfl, h0⟩ | ⟨g, cap, cur, rfl, hb, hg, hnc, hcm, hcs, htake⟩
    · exact ⟨[], Or.inl ⟨rfl, List.eq_nil_of_length_eq_zero h0, rfl⟩, by simp, zl.nil _⟩
    · refine ⟨[g], Or.inr ⟨g, cap, cur, rfl, rfl, hg, hnc, hcm, by omega, by rw [Nat.mul_one] at htake; exact htake⟩, fun x hx => ?_, fun x hx => ?_⟩
      · obtain rfl := List.mem_singleton.1 hx
        simp [zW, hq, Prv.blk, Value.ownBlock]
      · obtain rfl := List.mem_singleton.1 hx
        exact ⟨_, _, hg⟩
  have hgn : G.Nodup := by
    rcases hG with ⟨_, _, rfl⟩ | ⟨g, cap, cur, _, rfl, _⟩ <;> simp
  have hset : ∀ (b' i' : Nat), zW (ps.set i (.row (.slice none 0 0) 0 1 0 [])) i' = some b' → i' ≠ i ∧ zW ps i' = some b' := by
    intro b' i' h
    unfold zW at h ⊢
    by_cases hi : i' = i
    · subst hi
      rw [set_at hq] at h
      simp [Prv.blk, Value.ownBlock] at h
    · rw [List.getElem?_set_ne (Ne.symm hi)] at h
      exact ⟨hi, h⟩
  obtain ⟨F', hr, hs1, hs2⟩ := reps_set (H.get j hf).1 (show qE.rep w G [v] (⟨z⟩ : OwnI e) from ⟨v, rfl, hG⟩) iv.toNat (by omega)
  have e1 : (xs.set iv.toNat (.slice none 0 0)).take (iv.toNat * qE.size (OwnI e)) ++ [v] ++ (xs.set iv.toNat (.slice none 0 0)).drop (iv.toNat * qE.size (OwnI e) + [v].length) = xs.set iv.toNat v := by
    show (xs.set iv.toNat (.slice none 0 0)).take (iv.toNat * 1) ++ [v] ++ (xs.set iv.toNat (.slice none 0 0)).drop (iv.toNat * 1 + 1) = xs.set iv.toNat v
    rw [Nat.mul_one, List.take_set_of_le (Nat.le_refl _), List.drop_set_of_lt (by omega), List.set_eq_take_append_cons_drop, if_pos (by omega)]
    simp
  rw [e1] at hr
  have hGF : ∀ x ∈ G, x ∉ F := fun x hx h => (hF x h).2 i (hGb x hx)
  have hGL : ∀ K ∈ L, ∀ x ∈ K, x ∉ G := fun K hK x hx h => ha K hK x hx i (hGb x h)
  have N1 : Fresh W0.heap.size (F' :: L) := by
    have hge : ∀ x ∈ G, W0.heap.size ≤ x := fun x hx => (vK H (hGb x hx)).1
    refine ⟨fun K hK => ?_, fun K hK x hx => ?_, ?_⟩
    · rcases List.mem_cons.1 hK with rfl | h
      · exact hs2 (N.nd F (by simp)) hgn fun x hx h => hGF x h hx
      · exact N.nd K (List.mem_cons_of_mem _ h)
    · rcases List.mem_cons.1 hK with rfl | h
      · rcases hs1 x hx with h | h
        · exact N.ge F (by simp) x h
        · exact hge x h
      · exact N.ge K (List.mem_cons_of_mem _ h) x hx
    · have hd := List.pairwise_cons.1 N.dj
      refine List.pairwise_cons.2 ⟨fun K hK x hx => ?_, hd.2⟩
      rcases hs1 x hx with h | h
      · exact hd.1 K hK x h
      · exact fun hxK => hGL K hK x hxK h
  have H1 : St W0 w (ps.set i (.row (.slice none 0 0) 0 1 0 [])) (zn true F' (xs.set iv.toNat v) (l.set iv.toNat ⟨z⟩) :: Γ) := by
    refine (H.dead i hq).add _ ⟨hr, fun _ x hx => ?_⟩ fun x hx => ?_
    · rcases hs1 x hx with h | h
      · exact (H.get j hf).2 rfl x h
      · exact hGf x h
    · rcases hs1 x hx with h | h
      · exact ⟨(hF x h).1, fun i' hi' => (hF x h).2 i' (hset x i' hi').2⟩
      · exact ⟨(vK H (hGb x h)).2, fun i' hi' => (hset x i' hi').1 (H.dist i' i x (hset x i' hi').2 (hGb x h))⟩
  have hp1 : (ps.set i (.row (.slice none 0 0) 0 1 0 []))[k]? = some (.row (.slice (some ⟨b, 0, none⟩) nn c') e2 1 nn xs) := by rw [List.getElem?_set_ne hik]; exact hp
  obtain ⟨a, cc, hv⟩ := hG.slice
  exact o_storeRow1 H1 k hp1 v hs hx hy (by rw [hv]; rfl) h2 fun w' H' => kk w' F' N1 H'
end
theorem keepA {B : Nat} {Γ Γ' : List Fact} {LA L : List (List Nat)} {F : List Nat} (A : ∀ G ∈ LA, ∀ b ∈ G, b < B) (N : Fresh B (F :: L)) (js : List Nat) (he : js.map (fun j => Γ[j]?) = Γ'.map some) (hF : Γ'.map Fact.F = LA) : ∀ f ∈ Γ', f ∈ Γ ∧ ∀ x ∈ f.F, x ∉ F := fun f hf => by
  constructor
  · have h1 : some f ∈ js.map (fun j => Γ[j]?) := by rw [he]; exact List.mem_map_of_mem hf
    obtain ⟨j, _, h2⟩ := List.mem_map.1 h1
    exact List.mem_of_getElem? h2
  · intro x hx hxF
    have h1 := A f.F (by rw [← hF]; exact List.mem_map_of_mem hf) x hx
    have h2 := N.ge F (by simp) x hxF
    omega
end Go.Proofs.YtgjnaocffdhnbaaGreat
