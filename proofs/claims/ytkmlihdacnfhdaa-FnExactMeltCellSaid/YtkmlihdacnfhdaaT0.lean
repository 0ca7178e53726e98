/- Walks, printed by program (wip/tools/gv.py): what each function comes to, for all arguments. -/
import Derived.Test.YtkmlihdacnfhdaaA
import Derived.Test.YtkmlihdacnfhdaaP0
namespace Go.Proofs.Ytkmlihdacnfhdaa
open Go.Proofs.Ytkmlihdacnfhdaa.Tot (tot)
open Go.RowKit
set_option linter.unusedVariables false
set_option linter.unusedSimpArgs false
set_option maxRecDepth 100000
set_option maxHeartbeats 4000000


theorem slice_form {α : Type} [GoRep α] {w : World} {F : List Nat} {v : Value} {l : List α} (h : GoRep.rep w F [v] l) : ∃ a c, v = .slice a l.length c := by
  obtain ⟨a, c, hc, _⟩ := h
  simp only [List.cons.injEq, and_true] at hc
  exact ⟨a, c, hc⟩

theorem one_of {α : Type} [GoRep α] {w : World} {F : List Nat} {v : Value} {x : α} (h : GoRep.rep w F [v] x) : v.oneCell' = true := GoRep.one h v (List.mem_singleton.2 rfl)

theorem St.elemList {α : Type} [GoRep α] {W0 w : World} {ps : List Prv} {Γ : List Fact} (H : St W0 w ps Γ) (i : Nat) {fr : Bool} {F : List Nat} {b o m c : Nat} {l : List (List α)} (hf : Γ[i]? = some (isF fr F (.slice (some ⟨b, o, none⟩) m c) l)) (iv : Int) (k : Nat) (hk : iv.toNat = k) (h0 : 0 ≤ iv) (h1 : iv < l.length) :
    ∃ (a' : Option Addr) (c' : Nat) (Fk : List Nat), St W0 w ps (isF fr Fk (.slice a' (l[k]!).length c') (l[k]!) :: atF b (o + iv.toNat * 1) [.slice a' (l[k]!).length c'] :: Γ) := by
  obtain ⟨cs, Fk, hc, hr, hsub⟩ := H.elem i hf iv h0 h1
  have hfr : fr = true → FreeAll w Fk := fun e => ((H.get i hf).2 e).sub fun x hx => hsub x (List.mem_cons_of_mem _ hx)
  rw [hk] at hr
  obtain ⟨a', c', rfl, _⟩ := id hr
  exact ⟨a', c', Fk, (H.add_sub i hf (atF b (o + iv.toNat * 1) _) hc (fun x hx => hsub x (by simp only [atF, List.mem_singleton] at hx; subst hx; exact List.mem_cons_self ..))).add_sub (i + 1) hf (isF fr Fk _ _) ⟨hr, hfr⟩ (fun x hx => hsub x (List.mem_cons_of_mem _ hx))⟩

structure IntoD where
  fCell : Int
  fBag : List Int
  deriving DecidableEq
instance : Inhabited IntoD := ⟨⟨0, []⟩⟩
instance : Tot IntoD := ⟨fun x => tot x.fBag⟩
theorem tot_IntoD (x : IntoD) : tot x = tot x.fBag := rfl

instance : GoRep IntoD where
  size := 2
  rep := fun w F cs x => ∃ (vBag : Value) (FBag : List Nat), cs = [.int .i64 x.fCell, vBag] ∧ F = FBag ∧ GoRep.rep w FBag [vBag] x.fBag
  len := by rintro w F cs x ⟨vBag, FBag, rfl, _, hBag⟩; rfl
  one := by
    rintro w F cs x ⟨vBag, FBag, rfl, rfl, hBag⟩ u hu
    simp only [List.mem_cons, List.not_mem_nil, or_false] at hu
    rcases hu with rfl | rfl <;> first | rfl | exact one_of (by assumption)
  stay := by
    rintro w w' F cs x ⟨vBag, FBag, rfl, rfl, hBag⟩ hs
    exact ⟨_, _, rfl, rfl, GoRep.stay hBag fun b hb => hs b (by simp [hb])⟩
  lt := by
    rintro w F cs x ⟨vBag, FBag, rfl, rfl, hBag⟩ b hb
    exact GoRep.lt hBag b hb

theorem St.elem_IntoD {W0 w : World} {ps : List Prv} {Γ : List Fact} (H : St W0 w ps Γ) (i : Nat) {fr : Bool} {F : List Nat} {b o m c : Nat} {l : List IntoD} (hf : Γ[i]? = some (isF fr F (.slice (some ⟨b, o, none⟩) m c) l)) (iv : Int) (k : Nat) (hk : iv.toNat = k) (h0 : 0 ≤ iv) (h1 : iv < l.length) :
    ∃ (aBag : Option Addr) (cBag : Nat) (FBag : List Nat), St W0 w ps (isF fr FBag (.slice aBag (l[k]!).fBag.length cBag) (l[k]!).fBag :: atF b (o + iv.toNat * 2) [.int .i64 (l[k]!).fCell, .slice aBag (l[k]!).fBag.length cBag] :: Γ) := by
  obtain ⟨cs, Fk, hc, hr, hsub⟩ := H.elem i hf iv h0 h1
  have hfr : fr = true → FreeAll w Fk := fun e => ((H.get i hf).2 e).sub fun x hx => hsub x (List.mem_cons_of_mem _ hx)
  rw [hk] at hr
  obtain ⟨vBag, FBag, rfl, hFF, hBag⟩ := hr
  obtain ⟨aBag, cBag, rfl⟩ := slice_form hBag
  exact ⟨_, _, _, ((H.add_sub i hf (atF b (o + iv.toNat * 2) [.int .i64 (l[k]!).fCell, .slice aBag (l[k]!).fBag.length cBag]) hc (fun x hx => hsub x (by simp only [atF, List.mem_singleton] at hx; subst hx; exact List.mem_cons_self ..))).add_sub (i + 1) hf (isF fr FBag _ (l[k]!).fBag) ⟨hBag, fun e => (hfr e).sub (by rw [hFF]; intro x hx; simp [hx])⟩ (fun x hx => hsub x (List.mem_cons_of_mem _ (hFF.symm ▸ (by have hx : x ∈ FBag := hx; simp [hx])))))⟩

def New_IntoD (w0 w : World) (v : Value) (x : IntoD) : Prop :=
  ∃ (aBag : Option Addr) (cBag : Nat) (FBag : List Nat), v = .agg #[.int .i64 x.fCell, .slice aBag x.fBag.length cBag] ∧ GoRep.rep w FBag [.slice aBag x.fBag.length cBag] x.fBag ∧ (∀ b ∈ (FBag), w0.heap.size ≤ b) ∧ (FBag).Nodup ∧ FreeAll w (FBag)
theorem St.add_IntoD {W0 w w' : World} {ps : List Prv} {Γ : List Fact} (H : St W0 w ps Γ) (e : Ext w w') {v : Value} {x : IntoD} (h : New_IntoD w w' v x) :
    ∃ (aBag : Option Addr) (cBag : Nat) (FBag : List Nat), v = .agg #[.int .i64 x.fCell, .slice aBag x.fBag.length cBag] ∧ ((∀ b ∈ (FBag), w.heap.size ≤ b) ∧ (FBag).Nodup) ∧ St W0 w' ps (isF true FBag (.slice aBag x.fBag.length cBag) x.fBag :: Γ) := by
  obtain ⟨aBag, cBag, FBag, rfl, hBag, hF, hd, hfr⟩ := h
  refine ⟨_, _, _, rfl, ⟨hF, hd⟩, ?_⟩
  exact ((H.ext e).add (isF true FBag _ x.fBag) ⟨hBag, fun _ => hfr.sub (by intro b hb; simp [hb])⟩ (fun b hb => ⟨GoRep.lt hBag b hb, fun i hi => by have h1 := (blkAt_has H hi).2; have h2 := hF b (by have hb : b ∈ FBag := hb; simp [hb]); omega⟩))

theorem St.snoc_IntoD {W0 w : World} {ps : List Prv} {Γ : List Fact} (H : St W0 w ps Γ) (i : Nat) {fr : Bool} {F : List Nat} {xs : List Value} {l : List IntoD} (hf : Γ[i]? = some (repsF fr F xs l)) (xCell : Int) (iBag : Nat) {GBag : List Nat} {vBag : Value} {xBag : List Int} (hBag : Γ[iBag]? = some (isF fr GBag vBag xBag)) :
    St W0 w ps (repsF fr (F ++ (GBag)) (xs ++ [.int .i64 xCell, vBag]) (l ++ [⟨xCell, xBag⟩]) :: Γ) := by
  have hr : GoRep.rep w (GBag) [.int .i64 xCell, vBag] (⟨xCell, xBag⟩ : IntoD) := ⟨vBag, GBag, rfl, rfl, (H.get iBag hBag).1⟩
  refine H.add _ ⟨reps_append (H.get i hf).1 (reps_one hr), fun e => ((H.get i hf).2 e).app (((H.get iBag hBag).2 e))⟩ fun b hb => ?_
  rcases List.mem_append.1 hb with h | h
  · exact (H.facts _ (List.mem_of_getElem? hf)).2 b h
  · exact (H.facts _ (List.mem_of_getElem? hBag)).2 b h

structure RuleD where
  fCell : Int
  fRank : Int
  fNeed : List Int
  fHave : List Int
  fLack : List Int
  fHere : List Int
  fOut : List Int
  fInto : List IntoD
  fMelts : Bool
  deriving DecidableEq
instance : Inhabited RuleD := ⟨⟨0, 0, [], [], [], [], [], [], false⟩⟩
instance : Tot RuleD := ⟨fun x => tot x.fNeed + tot x.fHave + tot x.fLack + tot x.fHere + tot x.fOut + tot x.fInto⟩
theorem tot_RuleD (x : RuleD) : tot x = tot x.fNeed + tot x.fHave + tot x.fLack + tot x.fHere + tot x.fOut + tot x.fInto := rfl

instance : GoRep RuleD where
  size := 9
  rep := fun w F cs x => ∃ (vNeed vHave vLack vHere vOut vInto : Value) (FNeed FHave FLack FHere FOut FInto : List Nat), cs = [.int .i64 x.fCell, .int .i64 x.fRank, vNeed, vHave, vLack, vHere, vOut, vInto, .bool x.fMelts] ∧ F = FNeed ++ FHave ++ FLack ++ FHere ++ FOut ++ FInto ∧ GoRep.rep w FNeed [vNeed] x.fNeed ∧ GoRep.rep w FHave [vHave] x.fHave ∧ GoRep.rep w FLack [vLack] x.fLack ∧ GoRep.rep w FHere [vHere] x.fHere ∧ GoRep.rep w FOut [vOut] x.fOut ∧ GoRep.rep w FInto [vInto] x.fInto
  len := by rintro w F cs x ⟨vNeed, vHave, vLack, vHere, vOut, vInto, FNeed, FHave, FLack, FHere, FOut, FInto, rfl, _, hNeed, hHave, hLack, hHere, hOut, hInto⟩; rfl
  one := by
    rintro w F cs x ⟨vNeed, vHave, vLack, vHere, vOut, vInto, FNeed, FHave, FLack, FHere, FOut, FInto, rfl, rfl, hNeed, hHave, hLack, hHere, hOut, hInto⟩ u hu
    simp only [List.mem_cons, List.not_mem_nil, or_false] at hu
    rcases hu with rfl | rfl | rfl | rfl | rfl | rfl | rfl | rfl | rfl <;> first | rfl | exact one_of (by assumption)
  stay := by
    rintro w w' F cs x ⟨vNeed, vHave, vLack, vHere, vOut, vInto, FNeed, FHave, FLack, FHere, FOut, FInto, rfl, rfl, hNeed, hHave, hLack, hHere, hOut, hInto⟩ hs
    exact ⟨_, _, _, _, _, _, _, _, _, _, _, _, rfl, rfl, GoRep.stay hNeed fun b hb => hs b (by simp [hb]), GoRep.stay hHave fun b hb => hs b (by simp [hb]), GoRep.stay hLack fun b hb => hs b (by simp [hb]), GoRep.stay hHere fun b hb => hs b (by simp [hb]), GoRep.stay hOut fun b hb => hs b (by simp [hb]), GoRep.stay hInto fun b hb => hs b (by simp [hb])⟩
  lt := by
    rintro w F cs x ⟨vNeed, vHave, vLack, vHere, vOut, vInto, FNeed, FHave, FLack, FHere, FOut, FInto, rfl, rfl, hNeed, hHave, hLack, hHere, hOut, hInto⟩ b hb
    simp only [List.mem_append] at hb
    rcases hb with (((((hb | hb) | hb) | hb) | hb) | hb)
    · exact GoRep.lt hNeed b hb
    · exact GoRep.lt hHave b hb
    · exact GoRep.lt hLack b hb
    · exact GoRep.lt hHere b hb
    · exact GoRep.lt hOut b hb
    · exact GoRep.lt hInto b hb

theorem St.elem_RuleD {W0 w : World} {ps : List Prv} {Γ : List Fact} (H : St W0 w ps Γ) (i : Nat) {fr : Bool} {F : List Nat} {b o m c : Nat} {l : List RuleD} (hf : Γ[i]? = some (isF fr F (.slice (some ⟨b, o, none⟩) m c) l)) (iv : Int) (k : Nat) (hk : iv.toNat = k) (h0 : 0 ≤ iv) (h1 : iv < l.length) :
    ∃ (aNeed : Option Addr) (cNeed : Nat) (FNeed : List Nat) (aHave : Option Addr) (cHave : Nat) (FHave : List Nat) (aLack : Option Addr) (cLack : Nat) (FLack : List Nat) (aHere : Option Addr) (cHere : Nat) (FHere : List Nat) (aOut : Option Addr) (cOut : Nat) (FOut : List Nat) (aInto : Option Addr) (cInto : Nat) (FInto : List Nat), St W0 w ps (isF fr FNeed (.slice aNeed (l[k]!).fNeed.length cNeed) (l[k]!).fNeed :: isF fr FHave (.slice aHave (l[k]!).fHave.length cHave) (l[k]!).fHave :: isF fr FLack (.slice aLack (l[k]!).fLack.length cLack) (l[k]!).fLack :: isF fr FHere (.slice aHere (l[k]!).fHere.length cHere) (l[k]!).fHere :: isF fr FOut (.slice aOut (l[k]!).fOut.length cOut) (l[k]!).fOut :: isF fr FInto (.slice aInto (l[k]!).fInto.length cInto) (l[k]!).fInto :: atF b (o + iv.toNat * 9) [.int .i64 (l[k]!).fCell, .int .i64 (l[k]!).fRank, .slice aNeed (l[k]!).fNeed.length cNeed, .slice aHave (l[k]!).fHave.length cHave, .slice aLack (l[k]!).fLack.length cLack, .slice aHere (l[k]!).fHere.length cHere, .slice aOut (l[k]!).fOut.length cOut, .slice aInto (l[k]!).fInto.length cInto, .bool (l[k]!).fMelts] :: Γ) := by
  obtain ⟨cs, Fk, hc, hr, hsub⟩ := H.elem i hf iv h0 h1
  have hfr : fr = true → FreeAll w Fk := fun e => ((H.get i hf).2 e).sub fun x hx => hsub x (List.mem_cons_of_mem _ hx)
  rw [hk] at hr
  obtain ⟨vNeed, vHave, vLack, vHere, vOut, vInto, FNeed, FHave, FLack, FHere, FOut, FInto, rfl, hFF, hNeed, hHave, hLack, hHere, hOut, hInto⟩ := hr
  obtain ⟨aNeed, cNeed, rfl⟩ := slice_form hNeed
  obtain ⟨aHave, cHave, rfl⟩ := slice_form hHave
  obtain ⟨aLack, cLack, rfl⟩ := slice_form hLack
  obtain ⟨aHere, cHere, rfl⟩ := slice_form hHere
  obtain ⟨aOut, cOut, rfl⟩ := slice_form hOut
  obtain ⟨aInto, cInto, rfl⟩ := slice_form hInto
  exact ⟨_, _, _, _, _, _, _, _, _, _, _, _, _, _, _, _, _, _, (((((((H.add_sub i hf (atF b (o + iv.toNat * 9) [.int .i64 (l[k]!).fCell, .int .i64 (l[k]!).fRank, .slice aNeed (l[k]!).fNeed.length cNeed, .slice aHave (l[k]!).fHave.length cHave, .slice aLack (l[k]!).fLack.length cLack, .slice aHere (l[k]!).fHere.length cHere, .slice aOut (l[k]!).fOut.length cOut, .slice aInto (l[k]!).fInto.length cInto, .bool (l[k]!).fMelts]) hc (fun x hx => hsub x (by simp only [atF, List.mem_singleton] at hx; subst hx; exact List.mem_cons_self ..))).add_sub (i + 1) hf (isF fr FInto _ (l[k]!).fInto) ⟨hInto, fun e => (hfr e).sub (by rw [hFF]; intro x hx; simp [hx])⟩ (fun x hx => hsub x (List.mem_cons_of_mem _ (hFF.symm ▸ (by have hx : x ∈ FInto := hx; simp [hx]))))).add_sub (i + 2) hf (isF fr FOut _ (l[k]!).fOut) ⟨hOut, fun e => (hfr e).sub (by rw [hFF]; intro x hx; simp [hx])⟩ (fun x hx => hsub x (List.mem_cons_of_mem _ (hFF.symm ▸ (by have hx : x ∈ FOut := hx; simp [hx]))))).add_sub (i + 3) hf (isF fr FHere _ (l[k]!).fHere) ⟨hHere, fun e => (hfr e).sub (by rw [hFF]; intro x hx; simp [hx])⟩ (fun x hx => hsub x (List.mem_cons_of_mem _ (hFF.symm ▸ (by have hx : x ∈ FHere := hx; simp [hx]))))).add_sub (i + 4) hf (isF fr FLack _ (l[k]!).fLack) ⟨hLack, fun e => (hfr e).sub (by rw [hFF]; intro x hx; simp [hx])⟩ (fun x hx => hsub x (List.mem_cons_of_mem _ (hFF.symm ▸ (by have hx : x ∈ FLack := hx; simp [hx]))))).add_sub (i + 5) hf (isF fr FHave _ (l[k]!).fHave) ⟨hHave, fun e => (hfr e).sub (by rw [hFF]; intro x hx; simp [hx])⟩ (fun x hx => hsub x (List.mem_cons_of_mem _ (hFF.symm ▸ (by have hx : x ∈ FHave := hx; simp [hx]))))).add_sub (i + 6) hf (isF fr FNeed _ (l[k]!).fNeed) ⟨hNeed, fun e => (hfr e).sub (by rw [hFF]; intro x hx; simp [hx])⟩ (fun x hx => hsub x (List.mem_cons_of_mem _ (hFF.symm ▸ (by have hx : x ∈ FNeed := hx; simp [hx])))))⟩

def New_RuleD (w0 w : World) (v : Value) (x : RuleD) : Prop :=
  ∃ (aNeed : Option Addr) (cNeed : Nat) (FNeed : List Nat) (aHave : Option Addr) (cHave : Nat) (FHave : List Nat) (aLack : Option Addr) (cLack : Nat) (FLack : List Nat) (aHere : Option Addr) (cHere : Nat) (FHere : List Nat) (aOut : Option Addr) (cOut : Nat) (FOut : List Nat) (aInto : Option Addr) (cInto : Nat) (FInto : List Nat), v = .agg #[.int .i64 x.fCell, .int .i64 x.fRank, .slice aNeed x.fNeed.length cNeed, .slice aHave x.fHave.length cHave, .slice aLack x.fLack.length cLack, .slice aHere x.fHere.length cHere, .slice aOut x.fOut.length cOut, .slice aInto x.fInto.length cInto, .bool x.fMelts] ∧ GoRep.rep w FNeed [.slice aNeed x.fNeed.length cNeed] x.fNeed ∧ GoRep.rep w FHave [.slice aHave x.fHave.length cHave] x.fHave ∧ GoRep.rep w FLack [.slice aLack x.fLack.length cLack] x.fLack ∧ GoRep.rep w FHere [.slice aHere x.fHere.length cHere] x.fHere ∧ GoRep.rep w FOut [.slice aOut x.fOut.length cOut] x.fOut ∧ GoRep.rep w FInto [.slice aInto x.fInto.length cInto] x.fInto ∧ (∀ b ∈ (FNeed ++ FHave ++ FLack ++ FHere ++ FOut ++ FInto), w0.heap.size ≤ b) ∧ (FNeed ++ FHave ++ FLack ++ FHere ++ FOut ++ FInto).Nodup ∧ FreeAll w (FNeed ++ FHave ++ FLack ++ FHere ++ FOut ++ FInto)
theorem St.add_RuleD {W0 w w' : World} {ps : List Prv} {Γ : List Fact} (H : St W0 w ps Γ) (e : Ext w w') {v : Value} {x : RuleD} (h : New_RuleD w w' v x) :
    ∃ (aNeed : Option Addr) (cNeed : Nat) (FNeed : List Nat) (aHave : Option Addr) (cHave : Nat) (FHave : List Nat) (aLack : Option Addr) (cLack : Nat) (FLack : List Nat) (aHere : Option Addr) (cHere : Nat) (FHere : List Nat) (aOut : Option Addr) (cOut : Nat) (FOut : List Nat) (aInto : Option Addr) (cInto : Nat) (FInto : List Nat), v = .agg #[.int .i64 x.fCell, .int .i64 x.fRank, .slice aNeed x.fNeed.length cNeed, .slice aHave x.fHave.length cHave, .slice aLack x.fLack.length cLack, .slice aHere x.fHere.length cHere, .slice aOut x.fOut.length cOut, .slice aInto x.fInto.length cInto, .bool x.fMelts] ∧ ((∀ b ∈ (FNeed ++ FHave ++ FLack ++ FHere ++ FOut ++ FInto), w.heap.size ≤ b) ∧ (FNeed ++ FHave ++ FLack ++ FHere ++ FOut ++ FInto).Nodup) ∧ St W0 w' ps (isF true FNeed (.slice aNeed x.fNeed.length cNeed) x.fNeed :: isF true FHave (.slice aHave x.fHave.length cHave) x.fHave :: isF true FLack (.slice aLack x.fLack.length cLack) x.fLack :: isF true FHere (.slice aHere x.fHere.length cHere) x.fHere :: isF true FOut (.slice aOut x.fOut.length cOut) x.fOut :: isF true FInto (.slice aInto x.fInto.length cInto) x.fInto :: Γ) := by
  obtain ⟨aNeed, cNeed, FNeed, aHave, cHave, FHave, aLack, cLack, FLack, aHere, cHere, FHere, aOut, cOut, FOut, aInto, cInto, FInto, rfl, hNeed, hHave, hLack, hHere, hOut, hInto, hF, hd, hfr⟩ := h
  refine ⟨_, _, _, _, _, _, _, _, _, _, _, _, _, _, _, _, _, _, rfl, ⟨hF, hd⟩, ?_⟩
  exact (((((((H.ext e).add (isF true FInto _ x.fInto) ⟨hInto, fun _ => hfr.sub (by intro b hb; simp [hb])⟩ (fun b hb => ⟨GoRep.lt hInto b hb, fun i hi => by have h1 := (blkAt_has H hi).2; have h2 := hF b (by have hb : b ∈ FInto := hb; simp [hb]); omega⟩)).add (isF true FOut _ x.fOut) ⟨hOut, fun _ => hfr.sub (by intro b hb; simp [hb])⟩ (fun b hb => ⟨GoRep.lt hOut b hb, fun i hi => by have h1 := (blkAt_has H hi).2; have h2 := hF b (by have hb : b ∈ FOut := hb; simp [hb]); omega⟩)).add (isF true FHere _ x.fHere) ⟨hHere, fun _ => hfr.sub (by intro b hb; simp [hb])⟩ (fun b hb => ⟨GoRep.lt hHere b hb, fun i hi => by have h1 := (blkAt_has H hi).2; have h2 := hF b (by have hb : b ∈ FHere := hb; simp [hb]); omega⟩)).add (isF true FLack _ x.fLack) ⟨hLack, fun _ => hfr.sub (by intro b hb; simp [hb])⟩ (fun b hb => ⟨GoRep.lt hLack b hb, fun i hi => by have h1 := (blkAt_has H hi).2; have h2 := hF b (by have hb : b ∈ FLack := hb; simp [hb]); omega⟩)).add (isF true FHave _ x.fHave) ⟨hHave, fun _ => hfr.sub (by intro b hb; simp [hb])⟩ (fun b hb => ⟨GoRep.lt hHave b hb, fun i hi => by have h1 := (blkAt_has H hi).2; have h2 := hF b (by have hb : b ∈ FHave := hb; simp [hb]); omega⟩)).add (isF true FNeed _ x.fNeed) ⟨hNeed, fun _ => hfr.sub (by intro b hb; simp [hb])⟩ (fun b hb => ⟨GoRep.lt hNeed b hb, fun i hi => by have h1 := (blkAt_has H hi).2; have h2 := hF b (by have hb : b ∈ FNeed := hb; simp [hb]); omega⟩))

theorem St.snoc_RuleD {W0 w : World} {ps : List Prv} {Γ : List Fact} (H : St W0 w ps Γ) (i : Nat) {fr : Bool} {F : List Nat} {xs : List Value} {l : List RuleD} (hf : Γ[i]? = some (repsF fr F xs l)) (xCell : Int) (xRank : Int) (iNeed : Nat) {GNeed : List Nat} {vNeed : Value} {xNeed : List Int} (hNeed : Γ[iNeed]? = some (isF fr GNeed vNeed xNeed)) (iHave : Nat) {GHave : List Nat} {vHave : Value} {xHave : List Int} (hHave : Γ[iHave]? = some (isF fr GHave vHave xHave)) (iLack : Nat) {GLack : List Nat} {vLack : Value} {xLack : List Int} (hLack : Γ[iLack]? = some (isF fr GLack vLack xLack)) (iHere : Nat) {GHere : List Nat} {vHere : Value} {xHere : List Int} (hHere : Γ[iHere]? = some (isF fr GHere vHere xHere)) (iOut : Nat) {GOut : List Nat} {vOut : Value} {xOut : List Int} (hOut : Γ[iOut]? = some (isF fr GOut vOut xOut)) (iInto : Nat) {GInto : List Nat} {vInto : Value} {xInto : List IntoD} (hInto : Γ[iInto]? = some (isF fr GInto vInto xInto)) (xMelts : Bool) :
    St W0 w ps (repsF fr (F ++ (GNeed ++ GHave ++ GLack ++ GHere ++ GOut ++ GInto)) (xs ++ [.int .i64 xCell, .int .i64 xRank, vNeed, vHave, vLack, vHere, vOut, vInto, .bool xMelts]) (l ++ [⟨xCell, xRank, xNeed, xHave, xLack, xHere, xOut, xInto, xMelts⟩]) :: Γ) := by
  have hr : GoRep.rep w (GNeed ++ GHave ++ GLack ++ GHere ++ GOut ++ GInto) [.int .i64 xCell, .int .i64 xRank, vNeed, vHave, vLack, vHere, vOut, vInto, .bool xMelts] (⟨xCell, xRank, xNeed, xHave, xLack, xHere, xOut, xInto, xMelts⟩ : RuleD) := ⟨vNeed, vHave, vLack, vHere, vOut, vInto, GNeed, GHave, GLack, GHere, GOut, GInto, rfl, rfl, (H.get iNeed hNeed).1, (H.get iHave hHave).1, (H.get iLack hLack).1, (H.get iHere hHere).1, (H.get iOut hOut).1, (H.get iInto hInto).1⟩
  refine H.add _ ⟨reps_append (H.get i hf).1 (reps_one hr), fun e => ((H.get i hf).2 e).app ((((((((H.get iNeed hNeed).2 e).app ((H.get iHave hHave).2 e)).app ((H.get iLack hLack).2 e)).app ((H.get iHere hHere).2 e)).app ((H.get iOut hOut).2 e)).app ((H.get iInto hInto).2 e)))⟩ fun b hb => ?_
  rcases List.mem_append.1 hb with h | h
  · exact (H.facts _ (List.mem_of_getElem? hf)).2 b h
  · simp only [List.mem_append] at h
    rcases h with (((((h | h) | h) | h) | h) | h)
    · exact (H.facts _ (List.mem_of_getElem? hNeed)).2 b h
    · exact (H.facts _ (List.mem_of_getElem? hHave)).2 b h
    · exact (H.facts _ (List.mem_of_getElem? hLack)).2 b h
    · exact (H.facts _ (List.mem_of_getElem? hHere)).2 b h
    · exact (H.facts _ (List.mem_of_getElem? hOut)).2 b h
    · exact (H.facts _ (List.mem_of_getElem? hInto)).2 b h

structure SystemD where
  fKinds : Int
  fParents : List Int
  fRules : List RuleD
  deriving DecidableEq
instance : Inhabited SystemD := ⟨⟨0, [], []⟩⟩
instance : Tot SystemD := ⟨fun x => tot x.fParents + tot x.fRules⟩
theorem tot_SystemD (x : SystemD) : tot x = tot x.fParents + tot x.fRules := rfl

instance : GoRep SystemD where
  size := 3
  rep := fun w F cs x => ∃ (vParents vRules : Value) (FParents FRules : List Nat), cs = [.int .i64 x.fKinds, vParents, vRules] ∧ F = FParents ++ FRules ∧ GoRep.rep w FParents [vParents] x.fParents ∧ GoRep.rep w FRules [vRules] x.fRules
  len := by rintro w F cs x ⟨vParents, vRules, FParents, FRules, rfl, _, hParents, hRules⟩; rfl
  one := by
    rintro w F cs x ⟨vParents, vRules, FParents, FRules, rfl, rfl, hParents, hRules⟩ u hu
    simp only [List.mem_cons, List.not_mem_nil, or_false] at hu
    rcases hu with rfl | rfl | rfl <;> first | rfl | exact one_of (by assumption)
  stay := by
    rintro w w' F cs x ⟨vParents, vRules, FParents, FRules, rfl, rfl, hParents, hRules⟩ hs
    exact ⟨_, _, _, _, rfl, rfl, GoRep.stay hParents fun b hb => hs b (by simp [hb]), GoRep.stay hRules fun b hb => hs b (by simp [hb])⟩
  lt := by
    rintro w F cs x ⟨vParents, vRules, FParents, FRules, rfl, rfl, hParents, hRules⟩ b hb
    simp only [List.mem_append] at hb
    rcases hb with (hb | hb)
    · exact GoRep.lt hParents b hb
    · exact GoRep.lt hRules b hb

theorem St.elem_SystemD {W0 w : World} {ps : List Prv} {Γ : List Fact} (H : St W0 w ps Γ) (i : Nat) {fr : Bool} {F : List Nat} {b o m c : Nat} {l : List SystemD} (hf : Γ[i]? = some (isF fr F (.slice (some ⟨b, o, none⟩) m c) l)) (iv : Int) (k : Nat) (hk : iv.toNat = k) (h0 : 0 ≤ iv) (h1 : iv < l.length) :
    ∃ (aParents : Option Addr) (cParents : Nat) (FParents : List Nat) (aRules : Option Addr) (cRules : Nat) (FRules : List Nat), St W0 w ps (isF fr FParents (.slice aParents (l[k]!).fParents.length cParents) (l[k]!).fParents :: isF fr FRules (.slice aRules (l[k]!).fRules.length cRules) (l[k]!).fRules :: atF b (o + iv.toNat * 3) [.int .i64 (l[k]!).fKinds, .slice aParents (l[k]!).fParents.length cParents, .slice aRules (l[k]!).fRules.length cRules] :: Γ) := by
  obtain ⟨cs, Fk, hc, hr, hsub⟩ := H.elem i hf iv h0 h1
  have hfr : fr = true → FreeAll w Fk := fun e => ((H.get i hf).2 e).sub fun x hx => hsub x (List.mem_cons_of_mem _ hx)
  rw [hk] at hr
  obtain ⟨vParents, vRules, FParents, FRules, rfl, hFF, hParents, hRules⟩ := hr
  obtain ⟨aParents, cParents, rfl⟩ := slice_form hParents
  obtain ⟨aRules, cRules, rfl⟩ := slice_form hRules
  exact ⟨_, _, _, _, _, _, (((H.add_sub i hf (atF b (o + iv.toNat * 3) [.int .i64 (l[k]!).fKinds, .slice aParents (l[k]!).fParents.length cParents, .slice aRules (l[k]!).fRules.length cRules]) hc (fun x hx => hsub x (by simp only [atF, List.mem_singleton] at hx; subst hx; exact List.mem_cons_self ..))).add_sub (i + 1) hf (isF fr FRules _ (l[k]!).fRules) ⟨hRules, fun e => (hfr e).sub (by rw [hFF]; intro x hx; simp [hx])⟩ (fun x hx => hsub x (List.mem_cons_of_mem _ (hFF.symm ▸ (by have hx : x ∈ FRules := hx; simp [hx]))))).add_sub (i + 2) hf (isF fr FParents _ (l[k]!).fParents) ⟨hParents, fun e => (hfr e).sub (by rw [hFF]; intro x hx; simp [hx])⟩ (fun x hx => hsub x (List.mem_cons_of_mem _ (hFF.symm ▸ (by have hx : x ∈ FParents := hx; simp [hx])))))⟩

def New_SystemD (w0 w : World) (v : Value) (x : SystemD) : Prop :=
  ∃ (aParents : Option Addr) (cParents : Nat) (FParents : List Nat) (aRules : Option Addr) (cRules : Nat) (FRules : List Nat), v = .agg #[.int .i64 x.fKinds, .slice aParents x.fParents.length cParents, .slice aRules x.fRules.length cRules] ∧ GoRep.rep w FParents [.slice aParents x.fParents.length cParents] x.fParents ∧ GoRep.rep w FRules [.slice aRules x.fRules.length cRules] x.fRules ∧ (∀ b ∈ (FParents ++ FRules), w0.heap.size ≤ b) ∧ (FParents ++ FRules).Nodup ∧ FreeAll w (FParents ++ FRules)
theorem St.add_SystemD {W0 w w' : World} {ps : List Prv} {Γ : List Fact} (H : St W0 w ps Γ) (e : Ext w w') {v : Value} {x : SystemD} (h : New_SystemD w w' v x) :
    ∃ (aParents : Option Addr) (cParents : Nat) (FParents : List Nat) (aRules : Option Addr) (cRules : Nat) (FRules : List Nat), v = .agg #[.int .i64 x.fKinds, .slice aParents x.fParents.length cParents, .slice aRules x.fRules.length cRules] ∧ ((∀ b ∈ (FParents ++ FRules), w.heap.size ≤ b) ∧ (FParents ++ FRules).Nodup) ∧ St W0 w' ps (isF true FParents (.slice aParents x.fParents.length cParents) x.fParents :: isF true FRules (.slice aRules x.fRules.length cRules) x.fRules :: Γ) := by
  obtain ⟨aParents, cParents, FParents, aRules, cRules, FRules, rfl, hParents, hRules, hF, hd, hfr⟩ := h
  refine ⟨_, _, _, _, _, _, rfl, ⟨hF, hd⟩, ?_⟩
  exact (((H.ext e).add (isF true FRules _ x.fRules) ⟨hRules, fun _ => hfr.sub (by intro b hb; simp [hb])⟩ (fun b hb => ⟨GoRep.lt hRules b hb, fun i hi => by have h1 := (blkAt_has H hi).2; have h2 := hF b (by have hb : b ∈ FRules := hb; simp [hb]); omega⟩)).add (isF true FParents _ x.fParents) ⟨hParents, fun _ => hfr.sub (by intro b hb; simp [hb])⟩ (fun b hb => ⟨GoRep.lt hParents b hb, fun i hi => by have h1 := (blkAt_has H hi).2; have h2 := hF b (by have hb : b ∈ FParents := hb; simp [hb]); omega⟩))

theorem St.snoc_SystemD {W0 w : World} {ps : List Prv} {Γ : List Fact} (H : St W0 w ps Γ) (i : Nat) {fr : Bool} {F : List Nat} {xs : List Value} {l : List SystemD} (hf : Γ[i]? = some (repsF fr F xs l)) (xKinds : Int) (iParents : Nat) {GParents : List Nat} {vParents : Value} {xParents : List Int} (hParents : Γ[iParents]? = some (isF fr GParents vParents xParents)) (iRules : Nat) {GRules : List Nat} {vRules : Value} {xRules : List RuleD} (hRules : Γ[iRules]? = some (isF fr GRules vRules xRules)) :
    St W0 w ps (repsF fr (F ++ (GParents ++ GRules)) (xs ++ [.int .i64 xKinds, vParents, vRules]) (l ++ [⟨xKinds, xParents, xRules⟩]) :: Γ) := by
  have hr : GoRep.rep w (GParents ++ GRules) [.int .i64 xKinds, vParents, vRules] (⟨xKinds, xParents, xRules⟩ : SystemD) := ⟨vParents, vRules, GParents, GRules, rfl, rfl, (H.get iParents hParents).1, (H.get iRules hRules).1⟩
  refine H.add _ ⟨reps_append (H.get i hf).1 (reps_one hr), fun e => ((H.get i hf).2 e).app ((((H.get iParents hParents).2 e).app ((H.get iRules hRules).2 e)))⟩ fun b hb => ?_
  rcases List.mem_append.1 hb with h | h
  · exact (H.facts _ (List.mem_of_getElem? hf)).2 b h
  · simp only [List.mem_append] at h
    rcases h with (h | h)
    · exact (H.facts _ (List.mem_of_getElem? hParents)).2 b h
    · exact (H.facts _ (List.mem_of_getElem? hRules)).2 b h

structure StateD where
  fAlive : List Bool
  fBags : List (List Int)
  fAround : List Int
  deriving DecidableEq
instance : Inhabited StateD := ⟨⟨[], [], []⟩⟩
instance : Tot StateD := ⟨fun x => tot x.fAlive + tot x.fBags + tot x.fAround⟩
theorem tot_StateD (x : StateD) : tot x = tot x.fAlive + tot x.fBags + tot x.fAround := rfl

instance : GoRep StateD where
  size := 3
  rep := fun w F cs x => ∃ (vAlive vBags vAround : Value) (FAlive FBags FAround : List Nat), cs = [vAlive, vBags, vAround] ∧ F = FAlive ++ FBags ++ FAround ∧ GoRep.rep w FAlive [vAlive] x.fAlive ∧ GoRep.rep w FBags [vBags] x.fBags ∧ GoRep.rep w FAround [vAround] x.fAround
  len := by rintro w F cs x ⟨vAlive, vBags, vAround, FAlive, FBags, FAround, rfl, _, hAlive, hBags, hAround⟩; rfl
  one := by
    rintro w F cs x ⟨vAlive, vBags, vAround, FAlive, FBags, FAround, rfl, rfl, hAlive, hBags, hAround⟩ u hu
    simp only [List.mem_cons, List.not_mem_nil, or_false] at hu
    rcases hu with rfl | rfl | rfl <;> first | rfl | exact one_of (by assumption)
  stay := by
    rintro w w' F cs x ⟨vAlive, vBags, vAround, FAlive, FBags, FAround, rfl, rfl, hAlive, hBags, hAround⟩ hs
    exact ⟨_, _, _, _, _, _, rfl, rfl, GoRep.stay hAlive fun b hb => hs b (by simp [hb]), GoRep.stay hBags fun b hb => hs b (by simp [hb]), GoRep.stay hAround fun b hb => hs b (by simp [hb])⟩
  lt := by
    rintro w F cs x ⟨vAlive, vBags, vAround, FAlive, FBags, FAround, rfl, rfl, hAlive, hBags, hAround⟩ b hb
    simp only [List.mem_append] at hb
    rcases hb with ((hb | hb) | hb)
    · exact GoRep.lt hAlive b hb
    · exact GoRep.lt hBags b hb
    · exact GoRep.lt hAround b hb

theorem St.elem_StateD {W0 w : World} {ps : List Prv} {Γ : List Fact} (H : St W0 w ps Γ) (i : Nat) {fr : Bool} {F : List Nat} {b o m c : Nat} {l : List StateD} (hf : Γ[i]? = some (isF fr F (.slice (some ⟨b, o, none⟩) m c) l)) (iv : Int) (k : Nat) (hk : iv.toNat = k) (h0 : 0 ≤ iv) (h1 : iv < l.length) :
    ∃ (aAlive : Option Addr) (cAlive : Nat) (FAlive : List Nat) (aBags : Option Addr) (cBags : Nat) (FBags : List Nat) (aAround : Option Addr) (cAround : Nat) (FAround : List Nat), St W0 w ps (isF fr FAlive (.slice aAlive (l[k]!).fAlive.length cAlive) (l[k]!).fAlive :: isF fr FBags (.slice aBags (l[k]!).fBags.length cBags) (l[k]!).fBags :: isF fr FAround (.slice aAround (l[k]!).fAround.length cAround) (l[k]!).fAround :: atF b (o + iv.toNat * 3) [.slice aAlive (l[k]!).fAlive.length cAlive, .slice aBags (l[k]!).fBags.length cBags, .slice aAround (l[k]!).fAround.length cAround] :: Γ) := by
  obtain ⟨cs, Fk, hc, hr, hsub⟩ := H.elem i hf iv h0 h1
  have hfr : fr = true → FreeAll w Fk := fun e => ((H.get i hf).2 e).sub fun x hx => hsub x (List.mem_cons_of_mem _ hx)
  rw [hk] at hr
  obtain ⟨vAlive, vBags, vAround, FAlive, FBags, FAround, rfl, hFF, hAlive, hBags, hAround⟩ := hr
  obtain ⟨aAlive, cAlive, rfl⟩ := slice_form hAlive
  obtain ⟨aBags, cBags, rfl⟩ := slice_form hBags
  obtain ⟨aAround, cAround, rfl⟩ := slice_form hAround
  exact ⟨_, _, _, _, _, _, _, _, _, ((((H.add_sub i hf (atF b (o + iv.toNat * 3) [.slice aAlive (l[k]!).fAlive.length cAlive, .slice aBags (l[k]!).fBags.length cBags, .slice aAround (l[k]!).fAround.length cAround]) hc (fun x hx => hsub x (by simp only [atF, List.mem_singleton] at hx; subst hx; exact List.mem_cons_self ..))).add_sub (i + 1) hf (isF fr FAround _ (l[k]!).fAround) ⟨hAround, fun e => (hfr e).sub (by rw [hFF]; intro x hx; simp [hx])⟩ (fun x hx => hsub x (List.mem_cons_of_mem _ (hFF.symm ▸ (by have hx : x ∈ FAround := hx; simp [hx]))))).add_sub (i + 2) hf (isF fr FBags _ (l[k]!).fBags) ⟨hBags, fun e => (hfr e).sub (by rw [hFF]; intro x hx; simp [hx])⟩ (fun x hx => hsub x (List.mem_cons_of_mem _ (hFF.symm ▸ (by have hx : x ∈ FBags := hx; simp [hx]))))).add_sub (i + 3) hf (isF fr FAlive _ (l[k]!).fAlive) ⟨hAlive, fun e => (hfr e).sub (by rw [hFF]; intro x hx; simp [hx])⟩ (fun x hx => hsub x (List.mem_cons_of_mem _ (hFF.symm ▸ (by have hx : x ∈ FAlive := hx; simp [hx])))))⟩

def New_StateD (w0 w : World) (v : Value) (x : StateD) : Prop :=
  ∃ (aAlive : Option Addr) (cAlive : Nat) (FAlive : List Nat) (aBags : Option Addr) (cBags : Nat) (FBags : List Nat) (aAround : Option Addr) (cAround : Nat) (FAround : List Nat), v = .agg #[.slice aAlive x.fAlive.length cAlive, .slice aBags x.fBags.length cBags, .slice aAround x.fAround.length cAround] ∧ GoRep.rep w FAlive [.slice aAlive x.fAlive.length cAlive] x.fAlive ∧ GoRep.rep w FBags [.slice aBags x.fBags.length cBags] x.fBags ∧ GoRep.rep w FAround [.slice aAround x.fAround.length cAround] x.fAround ∧ (∀ b ∈ (FAlive ++ FBags ++ FAround), w0.heap.size ≤ b) ∧ (FAlive ++ FBags ++ FAround).Nodup ∧ FreeAll w (FAlive ++ FBags ++ FAround)
theorem St.add_StateD {W0 w w' : World} {ps : List Prv} {Γ : List Fact} (H : St W0 w ps Γ) (e : Ext w w') {v : Value} {x : StateD} (h : New_StateD w w' v x) :
    ∃ (aAlive : Option Addr) (cAlive : Nat) (FAlive : List Nat) (aBags : Option Addr) (cBags : Nat) (FBags : List Nat) (aAround : Option Addr) (cAround : Nat) (FAround : List Nat), v = .agg #[.slice aAlive x.fAlive.length cAlive, .slice aBags x.fBags.length cBags, .slice aAround x.fAround.length cAround] ∧ ((∀ b ∈ (FAlive ++ FBags ++ FAround), w.heap.size ≤ b) ∧ (FAlive ++ FBags ++ FAround).Nodup) ∧ St W0 w' ps (isF true FAlive (.slice aAlive x.fAlive.length cAlive) x.fAlive :: isF true FBags (.slice aBags x.fBags.length cBags) x.fBags :: isF true FAround (.slice aAround x.fAround.length cAround) x.fAround :: Γ) := by
  obtain ⟨aAlive, cAlive, FAlive, aBags, cBags, FBags, aAround, cAround, FAround, rfl, hAlive, hBags, hAround, hF, hd, hfr⟩ := h
  refine ⟨_, _, _, _, _, _, _, _, _, rfl, ⟨hF, hd⟩, ?_⟩
  exact ((((H.ext e).add (isF true FAround _ x.fAround) ⟨hAround, fun _ => hfr.sub (by intro b hb; simp [hb])⟩ (fun b hb => ⟨GoRep.lt hAround b hb, fun i hi => by have h1 := (blkAt_has H hi).2; have h2 := hF b (by have hb : b ∈ FAround := hb; simp [hb]); omega⟩)).add (isF true FBags _ x.fBags) ⟨hBags, fun _ => hfr.sub (by intro b hb; simp [hb])⟩ (fun b hb => ⟨GoRep.lt hBags b hb, fun i hi => by have h1 := (blkAt_has H hi).2; have h2 := hF b (by have hb : b ∈ FBags := hb; simp [hb]); omega⟩)).add (isF true FAlive _ x.fAlive) ⟨hAlive, fun _ => hfr.sub (by intro b hb; simp [hb])⟩ (fun b hb => ⟨GoRep.lt hAlive b hb, fun i hi => by have h1 := (blkAt_has H hi).2; have h2 := hF b (by have hb : b ∈ FAlive := hb; simp [hb]); omega⟩))

theorem St.snoc_StateD {W0 w : World} {ps : List Prv} {Γ : List Fact} (H : St W0 w ps Γ) (i : Nat) {fr : Bool} {F : List Nat} {xs : List Value} {l : List StateD} (hf : Γ[i]? = some (repsF fr F xs l)) (iAlive : Nat) {GAlive : List Nat} {vAlive : Value} {xAlive : List Bool} (hAlive : Γ[iAlive]? = some (isF fr GAlive vAlive xAlive)) (iBags : Nat) {GBags : List Nat} {vBags : Value} {xBags : List (List Int)} (hBags : Γ[iBags]? = some (isF fr GBags vBags xBags)) (iAround : Nat) {GAround : List Nat} {vAround : Value} {xAround : List Int} (hAround : Γ[iAround]? = some (isF fr GAround vAround xAround)) :
    St W0 w ps (repsF fr (F ++ (GAlive ++ GBags ++ GAround)) (xs ++ [vAlive, vBags, vAround]) (l ++ [⟨xAlive, xBags, xAround⟩]) :: Γ) := by
  have hr : GoRep.rep w (GAlive ++ GBags ++ GAround) [vAlive, vBags, vAround] (⟨xAlive, xBags, xAround⟩ : StateD) := ⟨vAlive, vBags, vAround, GAlive, GBags, GAround, rfl, rfl, (H.get iAlive hAlive).1, (H.get iBags hBags).1, (H.get iAround hAround).1⟩
  refine H.add _ ⟨reps_append (H.get i hf).1 (reps_one hr), fun e => ((H.get i hf).2 e).app (((((H.get iAlive hAlive).2 e).app ((H.get iBags hBags).2 e)).app ((H.get iAround hAround).2 e)))⟩ fun b hb => ?_
  rcases List.mem_append.1 hb with h | h
  · exact (H.facts _ (List.mem_of_getElem? hf)).2 b h
  · simp only [List.mem_append] at h
    rcases h with ((h | h) | h)
    · exact (H.facts _ (List.mem_of_getElem? hAlive)).2 b h
    · exact (H.facts _ (List.mem_of_getElem? hBags)).2 b h
    · exact (H.facts _ (List.mem_of_getElem? hAround)).2 b h


end Go.Proofs.Ytkmlihdacnfhdaa
