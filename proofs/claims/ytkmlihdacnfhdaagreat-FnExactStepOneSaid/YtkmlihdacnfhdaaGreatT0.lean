/- Walks, printed by program (wip/tools/gv.py): what each function comes to, for all arguments. -/
import Derived.Test.YtkmlihdacnfhdaaGreatA
import Derived.Test.YtkmlihdacnfhdaaGreatP0
namespace Go.Proofs.YtkmlihdacnfhdaaGreat
open Go.Proofs.YtkmlihdacnfhdaaGreat.Tot (tot)
open Go.RowKit
set_option linter.unusedVariables false
set_option linter.unusedSimpArgs false
set_option maxRecDepth 100000
set_option maxHeartbeats 4000000


theorem slice_form {α : Type} [qR α] {w : World} {F : List Nat} {v : Value} {l : List α} (h : qR.rep w F [v] l) : ∃ a c, v = .slice a l.length c := by
  obtain ⟨a, c, hc, _⟩ := h
  simp only [List.cons.injEq, and_true] at hc
  exact ⟨a, c, hc⟩

theorem one_of {α : Type} [qR α] {w : World} {F : List Nat} {v : Value} {x : α} (h : qR.rep w F [v] x) : v.oneCell' = true := qR.one h v (List.mem_singleton.2 rfl)

theorem St.yX {α : Type} [qR α] {W0 w : World} {ps : List Prv} {Γ : List Fact} (H : St W0 w ps Γ) (i : Nat) {fr : Bool} {F : List Nat} {b o m c : Nat} {l : List (List α)} (hf : Γ[i]? = some (isF fr F (.slice (some ⟨b, o, none⟩) m c) l)) (iv : Int) (k : Nat) (hk : iv.toNat = k) (h0 : 0 ≤ iv) (h1 : iv < l.length) :
    ∃ (a' : Option Addr) (c' : Nat) (Fk : List Nat), St W0 w ps (isF fr Fk (.slice a' (l[k]!).length c') (l[k]!) :: atF b (o + iv.toNat * 1) [.slice a' (l[k]!).length c'] :: Γ) := by
  obtain ⟨cs, Fk, hc, hr, hsub⟩ := H.elem i hf iv h0 h1
  have hfr : fr = true → zU w Fk := fun e => ((H.get i hf).2 e).sub fun x hx => hsub x (List.mem_cons_of_mem _ hx)
  rw [hk] at hr
  obtain ⟨a', c', rfl, _⟩ := id hr
  exact ⟨a', c', Fk, (H.XH i hf (atF b (o + iv.toNat * 1) _) hc (fun x hx => hsub x (by simp only [atF, List.mem_singleton] at hx; subst hx; exact List.mem_cons_self ..))).XH (i + 1) hf (isF fr Fk _ _) ⟨hr, hfr⟩ (fun x hx => hsub x (List.mem_cons_of_mem _ hx))⟩

structure IntoD where
  qA : Int
  zV : List Int
  deriving DecidableEq
instance : Inhabited IntoD := ⟨⟨0, []⟩⟩
instance : Tot IntoD := ⟨fun x => tot x.zV⟩
theorem tot_IntoD (x : IntoD) : tot x = tot x.zV := rfl

instance : qR IntoD where
  size := 2
  rep := fun w F cs x => ∃ (vBag : Value) (FBag : List Nat), cs = [.int .i64 x.qA, vBag] ∧ F = FBag ∧ qR.rep w FBag [vBag] x.zV
  len := by rintro w F cs x ⟨vBag, FBag, rfl, _, hBag⟩; rfl
  one := by
    rintro w F cs x ⟨vBag, FBag, rfl, rfl, hBag⟩ u hu
    simp only [List.mem_cons, List.not_mem_nil, or_false] at hu
    rcases hu with rfl | rfl <;> first | rfl | exact one_of (by assumption)
  stay := by
    rintro w w' F cs x ⟨vBag, FBag, rfl, rfl, hBag⟩ hs
    exact ⟨_, _, rfl, rfl, qR.stay hBag fun b hb => hs b (by simp [hb])⟩
  lt := by
    rintro w F cs x ⟨vBag, FBag, rfl, rfl, hBag⟩ b hb
    exact qR.lt hBag b hb

theorem St.jy {W0 w : World} {ps : List Prv} {Γ : List Fact} (H : St W0 w ps Γ) (i : Nat) {fr : Bool} {F : List Nat} {b o m c : Nat} {l : List IntoD} (hf : Γ[i]? = some (isF fr F (.slice (some ⟨b, o, none⟩) m c) l)) (iv : Int) (k : Nat) (hk : iv.toNat = k) (h0 : 0 ≤ iv) (h1 : iv < l.length) :
    ∃ (aBag : Option Addr) (cBag : Nat) (FBag : List Nat), St W0 w ps (isF fr FBag (.slice aBag (l[k]!).zV.length cBag) (l[k]!).zV :: atF b (o + iv.toNat * 2) [.int .i64 (l[k]!).qA, .slice aBag (l[k]!).zV.length cBag] :: Γ) := by
  obtain ⟨cs, Fk, hc, hr, hsub⟩ := H.elem i hf iv h0 h1
  have hfr : fr = true → zU w Fk := fun e => ((H.get i hf).2 e).sub fun x hx => hsub x (List.mem_cons_of_mem _ hx)
  rw [hk] at hr
  obtain ⟨vBag, FBag, rfl, hFF, hBag⟩ := hr
  obtain ⟨aBag, cBag, rfl⟩ := slice_form hBag
  exact ⟨_, _, _, ((H.XH i hf (atF b (o + iv.toNat * 2) [.int .i64 (l[k]!).qA, .slice aBag (l[k]!).zV.length cBag]) hc (fun x hx => hsub x (by simp only [atF, List.mem_singleton] at hx; subst hx; exact List.mem_cons_self ..))).XH (i + 1) hf (isF fr FBag _ (l[k]!).zV) ⟨hBag, fun e => (hfr e).sub (by rw [hFF]; intro x hx; simp [hx])⟩ (fun x hx => hsub x (List.mem_cons_of_mem _ (hFF.symm ▸ (by have hx : x ∈ FBag := hx; simp [hx])))))⟩

def New_IntoD (w0 w : World) (v : Value) (x : IntoD) : Prop :=
  ∃ (aBag : Option Addr) (cBag : Nat) (FBag : List Nat), v = .agg #[.int .i64 x.qA, .slice aBag x.zV.length cBag] ∧ qR.rep w FBag [.slice aBag x.zV.length cBag] x.zV ∧ (∀ b ∈ (FBag), w0.heap.size ≤ b) ∧ (FBag).Nodup ∧ zU w (FBag)
theorem St.add_IntoD {W0 w w' : World} {ps : List Prv} {Γ : List Fact} (H : St W0 w ps Γ) (e : Ext w w') {v : Value} {x : IntoD} (h : New_IntoD w w' v x) :
    ∃ (aBag : Option Addr) (cBag : Nat) (FBag : List Nat), v = .agg #[.int .i64 x.qA, .slice aBag x.zV.length cBag] ∧ ((∀ b ∈ (FBag), w.heap.size ≤ b) ∧ (FBag).Nodup) ∧ St W0 w' ps (isF true FBag (.slice aBag x.zV.length cBag) x.zV :: Γ) := by
  obtain ⟨aBag, cBag, FBag, rfl, hBag, hF, hd, hfr⟩ := h
  refine ⟨_, _, _, rfl, ⟨hF, hd⟩, ?_⟩
  exact ((H.ext e).add (isF true FBag _ x.zV) ⟨hBag, fun _ => hfr.sub (by intro b hb; simp [hb])⟩ (fun b hb => ⟨qR.lt hBag b hb, fun i hi => by have h1 := (yf H hi).2; have h2 := hF b (by have hb : b ∈ FBag := hb; simp [hb]); omega⟩))

theorem St.snoc_IntoD {W0 w : World} {ps : List Prv} {Γ : List Fact} (H : St W0 w ps Γ) (i : Nat) {fr : Bool} {F : List Nat} {xs : List Value} {l : List IntoD} (hf : Γ[i]? = some (jf fr F xs l)) (xCell : Int) (iBag : Nat) {GBag : List Nat} {vBag : Value} {xBag : List Int} (hBag : Γ[iBag]? = some (isF fr GBag vBag xBag)) :
    St W0 w ps (jf fr (F ++ (GBag)) (xs ++ [.int .i64 xCell, vBag]) (l ++ [⟨xCell, xBag⟩]) :: Γ) := by
  have hr : qR.rep w (GBag) [.int .i64 xCell, vBag] (⟨xCell, xBag⟩ : IntoD) := ⟨vBag, GBag, rfl, rfl, (H.get iBag hBag).1⟩
  refine H.add _ ⟨QH (H.get i hf).1 (reps_one hr), fun e => ((H.get i hf).2 e).app (((H.get iBag hBag).2 e))⟩ fun b hb => ?_
  rcases List.mem_append.1 hb with h | h
  · exact (H.facts _ (List.mem_of_getElem? hf)).2 b h
  · exact (H.facts _ (List.mem_of_getElem? hBag)).2 b h

structure Qk where
  qA : Int
  xY : Int
  qV : List Int
  xh : List Int
  xk : List Int
  xm : List Int
  zf : List Int
  qC : List IntoD
  xN : Bool
  deriving DecidableEq
instance : Inhabited Qk := ⟨⟨0, 0, [], [], [], [], [], [], false⟩⟩
instance : Tot Qk := ⟨fun x => tot x.qV + tot x.xh + tot x.xk + tot x.xm + tot x.zf + tot x.qC⟩
theorem tot_RuleD (x : Qk) : tot x = tot x.qV + tot x.xh + tot x.xk + tot x.xm + tot x.zf + tot x.qC := rfl

instance : qR Qk where
  size := 9
  rep := fun w F cs x => ∃ (vNeed vHave vLack vHere vOut vInto : Value) (X4 X8 X5 X7 FOut X6 : List Nat), cs = [.int .i64 x.qA, .int .i64 x.xY, vNeed, vHave, vLack, vHere, vOut, vInto, .bool x.xN] ∧ F = X4 ++ X8 ++ X5 ++ X7 ++ FOut ++ X6 ∧ qR.rep w X4 [vNeed] x.qV ∧ qR.rep w X8 [vHave] x.xh ∧ qR.rep w X5 [vLack] x.xk ∧ qR.rep w X7 [vHere] x.xm ∧ qR.rep w FOut [vOut] x.zf ∧ qR.rep w X6 [vInto] x.qC
  len := by rintro w F cs x ⟨vNeed, vHave, vLack, vHere, vOut, vInto, X4, X8, X5, X7, FOut, X6, rfl, _, hNeed, hHave, hLack, hHere, hOut, hInto⟩; rfl
  one := by
    rintro w F cs x ⟨vNeed, vHave, vLack, vHere, vOut, vInto, X4, X8, X5, X7, FOut, X6, rfl, rfl, hNeed, hHave, hLack, hHere, hOut, hInto⟩ u hu
    simp only [List.mem_cons, List.not_mem_nil, or_false] at hu
    rcases hu with rfl | rfl | rfl | rfl | rfl | rfl | rfl | rfl | rfl <;> first | rfl | exact one_of (by assumption)
  stay := by
    rintro w w' F cs x ⟨vNeed, vHave, vLack, vHere, vOut, vInto, X4, X8, X5, X7, FOut, X6, rfl, rfl, hNeed, hHave, hLack, hHere, hOut, hInto⟩ hs
    exact ⟨_, _, _, _, _, _, _, _, _, _, _, _, rfl, rfl, qR.stay hNeed fun b hb => hs b (by simp [hb]), qR.stay hHave fun b hb => hs b (by simp [hb]), qR.stay hLack fun b hb => hs b (by simp [hb]), qR.stay hHere fun b hb => hs b (by simp [hb]), qR.stay hOut fun b hb => hs b (by simp [hb]), qR.stay hInto fun b hb => hs b (by simp [hb])⟩
  lt := by
    rintro w F cs x ⟨vNeed, vHave, vLack, vHere, vOut, vInto, X4, X8, X5, X7, FOut, X6, rfl, rfl, hNeed, hHave, hLack, hHere, hOut, hInto⟩ b hb
    simp only [List.mem_append] at hb
    rcases hb with (((((hb | hb) | hb) | hb) | hb) | hb)
    · exact qR.lt hNeed b hb
    · exact qR.lt hHave b hb
    · exact qR.lt hLack b hb
    · exact qR.lt hHere b hb
    · exact qR.lt hOut b hb
    · exact qR.lt hInto b hb

theorem St.yJ {W0 w : World} {ps : List Prv} {Γ : List Fact} (H : St W0 w ps Γ) (i : Nat) {fr : Bool} {F : List Nat} {b o m c : Nat} {l : List Qk} (hf : Γ[i]? = some (isF fr F (.slice (some ⟨b, o, none⟩) m c) l)) (iv : Int) (k : Nat) (hk : iv.toNat = k) (h0 : 0 ≤ iv) (h1 : iv < l.length) :
    ∃ (aNeed : Option Addr) (cNeed : Nat) (X4 : List Nat) (aHave : Option Addr) (cHave : Nat) (X8 : List Nat) (aLack : Option Addr) (cLack : Nat) (X5 : List Nat) (aHere : Option Addr) (cHere : Nat) (X7 : List Nat) (aOut : Option Addr) (cOut : Nat) (FOut : List Nat) (aInto : Option Addr) (cInto : Nat) (X6 : List Nat), St W0 w ps (isF fr X4 (.slice aNeed (l[k]!).qV.length cNeed) (l[k]!).qV :: isF fr X8 (.slice aHave (l[k]!).xh.length cHave) (l[k]!).xh :: isF fr X5 (.slice aLack (l[k]!).xk.length cLack) (l[k]!).xk :: isF fr X7 (.slice aHere (l[k]!).xm.length cHere) (l[k]!).xm :: isF fr FOut (.slice aOut (l[k]!).zf.length cOut) (l[k]!).zf :: isF fr X6 (.slice aInto (l[k]!).qC.length cInto) (l[k]!).qC :: atF b (o + iv.toNat * 9) [.int .i64 (l[k]!).qA, .int .i64 (l[k]!).xY, .slice aNeed (l[k]!).qV.length cNeed, .slice aHave (l[k]!).xh.length cHave, .slice aLack (l[k]!).xk.length cLack, .slice aHere (l[k]!).xm.length cHere, .slice aOut (l[k]!).zf.length cOut, .slice aInto (l[k]!).qC.length cInto, .bool (l[k]!).xN] :: Γ) := by
  obtain ⟨cs, Fk, hc, hr, hsub⟩ := H.elem i hf iv h0 h1
  have hfr : fr = true → zU w Fk := fun e => ((H.get i hf).2 e).sub fun x hx => hsub x (List.mem_cons_of_mem _ hx)
  rw [hk] at hr
  obtain ⟨vNeed, vHave, vLack, vHere, vOut, vInto, X4, X8, X5, X7, FOut, X6, rfl, hFF, hNeed, hHave, hLack, hHere, hOut, hInto⟩ := hr
  obtain ⟨aNeed, cNeed, rfl⟩ := slice_form hNeed
  obtain ⟨aHave, cHave, rfl⟩ := slice_form hHave
  obtain ⟨aLack, cLack, rfl⟩ := slice_form hLack
  obtain ⟨aHere, cHere, rfl⟩ := slice_form hHere
  obtain ⟨aOut, cOut, rfl⟩ := slice_form hOut
  obtain ⟨aInto, cInto, rfl⟩ := slice_form hInto
  exact ⟨_, _, _, _, _, _, _, _, _, _, _, _, _, _, _, _, _, _, (((((((H.XH i hf (atF b (o + iv.toNat * 9) [.int .i64 (l[k]!).qA, .int .i64 (l[k]!).xY, .slice aNeed (l[k]!).qV.length cNeed, .slice aHave (l[k]!).xh.length cHave, .slice aLack (l[k]!).xk.length cLack, .slice aHere (l[k]!).xm.length cHere, .slice aOut (l[k]!).zf.length cOut, .slice aInto (l[k]!).qC.length cInto, .bool (l[k]!).xN]) hc (fun x hx => hsub x (by simp only [atF, List.mem_singleton] at hx; subst hx; exact List.mem_cons_self ..))).XH (i + 1) hf (isF fr X6 _ (l[k]!).qC) ⟨hInto, fun e => (hfr e).sub (by rw [hFF]; intro x hx; simp [hx])⟩ (fun x hx => hsub x (List.mem_cons_of_mem _ (hFF.symm ▸ (by have hx : x ∈ X6 := hx; simp [hx]))))).XH (i + 2) hf (isF fr FOut _ (l[k]!).zf) ⟨hOut, fun e => (hfr e).sub (by rw [hFF]; intro x hx; simp [hx])⟩ (fun x hx => hsub x (List.mem_cons_of_mem _ (hFF.symm ▸ (by have hx : x ∈ FOut := hx; simp [hx]))))).XH (i + 3) hf (isF fr X7 _ (l[k]!).xm) ⟨hHere, fun e => (hfr e).sub (by rw [hFF]; intro x hx; simp [hx])⟩ (fun x hx => hsub x (List.mem_cons_of_mem _ (hFF.symm ▸ (by have hx : x ∈ X7 := hx; simp [hx]))))).XH (i + 4) hf (isF fr X5 _ (l[k]!).xk) ⟨hLack, fun e => (hfr e).sub (by rw [hFF]; intro x hx; simp [hx])⟩ (fun x hx => hsub x (List.mem_cons_of_mem _ (hFF.symm ▸ (by have hx : x ∈ X5 := hx; simp [hx]))))).XH (i + 5) hf (isF fr X8 _ (l[k]!).xh) ⟨hHave, fun e => (hfr e).sub (by rw [hFF]; intro x hx; simp [hx])⟩ (fun x hx => hsub x (List.mem_cons_of_mem _ (hFF.symm ▸ (by have hx : x ∈ X8 := hx; simp [hx]))))).XH (i + 6) hf (isF fr X4 _ (l[k]!).qV) ⟨hNeed, fun e => (hfr e).sub (by rw [hFF]; intro x hx; simp [hx])⟩ (fun x hx => hsub x (List.mem_cons_of_mem _ (hFF.symm ▸ (by have hx : x ∈ X4 := hx; simp [hx])))))⟩

def New_RuleD (w0 w : World) (v : Value) (x : Qk) : Prop :=
  ∃ (aNeed : Option Addr) (cNeed : Nat) (X4 : List Nat) (aHave : Option Addr) (cHave : Nat) (X8 : List Nat) (aLack : Option Addr) (cLack : Nat) (X5 : List Nat) (aHere : Option Addr) (cHere : Nat) (X7 : List Nat) (aOut : Option Addr) (cOut : Nat) (FOut : List Nat) (aInto : Option Addr) (cInto : Nat) (X6 : List Nat), v = .agg #[.int .i64 x.qA, .int .i64 x.xY, .slice aNeed x.qV.length cNeed, .slice aHave x.xh.length cHave, .slice aLack x.xk.length cLack, .slice aHere x.xm.length cHere, .slice aOut x.zf.length cOut, .slice aInto x.qC.length cInto, .bool x.xN] ∧ qR.rep w X4 [.slice aNeed x.qV.length cNeed] x.qV ∧ qR.rep w X8 [.slice aHave x.xh.length cHave] x.xh ∧ qR.rep w X5 [.slice aLack x.xk.length cLack] x.xk ∧ qR.rep w X7 [.slice aHere x.xm.length cHere] x.xm ∧ qR.rep w FOut [.slice aOut x.zf.length cOut] x.zf ∧ qR.rep w X6 [.slice aInto x.qC.length cInto] x.qC ∧ (∀ b ∈ (X4 ++ X8 ++ X5 ++ X7 ++ FOut ++ X6), w0.heap.size ≤ b) ∧ (X4 ++ X8 ++ X5 ++ X7 ++ FOut ++ X6).Nodup ∧ zU w (X4 ++ X8 ++ X5 ++ X7 ++ FOut ++ X6)
theorem St.add_RuleD {W0 w w' : World} {ps : List Prv} {Γ : List Fact} (H : St W0 w ps Γ) (e : Ext w w') {v : Value} {x : Qk} (h : New_RuleD w w' v x) :
    ∃ (aNeed : Option Addr) (cNeed : Nat) (X4 : List Nat) (aHave : Option Addr) (cHave : Nat) (X8 : List Nat) (aLack : Option Addr) (cLack : Nat) (X5 : List Nat) (aHere : Option Addr) (cHere : Nat) (X7 : List Nat) (aOut : Option Addr) (cOut : Nat) (FOut : List Nat) (aInto : Option Addr) (cInto : Nat) (X6 : List Nat), v = .agg #[.int .i64 x.qA, .int .i64 x.xY, .slice aNeed x.qV.length cNeed, .slice aHave x.xh.length cHave, .slice aLack x.xk.length cLack, .slice aHere x.xm.length cHere, .slice aOut x.zf.length cOut, .slice aInto x.qC.length cInto, .bool x.xN] ∧ ((∀ b ∈ (X4 ++ X8 ++ X5 ++ X7 ++ FOut ++ X6), w.heap.size ≤ b) ∧ (X4 ++ X8 ++ X5 ++ X7 ++ FOut ++ X6).Nodup) ∧ St W0 w' ps (isF true X4 (.slice aNeed x.qV.length cNeed) x.qV :: isF true X8 (.slice aHave x.xh.length cHave) x.xh :: isF true X5 (.slice aLack x.xk.length cLack) x.xk :: isF true X7 (.slice aHere x.xm.length cHere) x.xm :: isF true FOut (.slice aOut x.zf.length cOut) x.zf :: isF true X6 (.slice aInto x.qC.length cInto) x.qC :: Γ) := by
  obtain ⟨aNeed, cNeed, X4, aHave, cHave, X8, aLack, cLack, X5, aHere, cHere, X7, aOut, cOut, FOut, aInto, cInto, X6, rfl, hNeed, hHave, hLack, hHere, hOut, hInto, hF, hd, hfr⟩ := h
  refine ⟨_, _, _, _, _, _, _, _, _, _, _, _, _, _, _, _, _, _, rfl, ⟨hF, hd⟩, ?_⟩
  exact (((((((H.ext e).add (isF true X6 _ x.qC) ⟨hInto, fun _ => hfr.sub (by intro b hb; simp [hb])⟩ (fun b hb => ⟨qR.lt hInto b hb, fun i hi => by have h1 := (yf H hi).2; have h2 := hF b (by have hb : b ∈ X6 := hb; simp [hb]); omega⟩)).add (isF true FOut _ x.zf) ⟨hOut, fun _ => hfr.sub (by intro b hb; simp [hb])⟩ (fun b hb => ⟨qR.lt hOut b hb, fun i hi => by have h1 := (yf H hi).2; have h2 := hF b (by have hb : b ∈ FOut := hb; simp [hb]); omega⟩)).add (isF true X7 _ x.xm) ⟨hHere, fun _ => hfr.sub (by intro b hb; simp [hb])⟩ (fun b hb => ⟨qR.lt hHere b hb, fun i hi => by have h1 := (yf H hi).2; have h2 := hF b (by have hb : b ∈ X7 := hb; simp [hb]); omega⟩)).add (isF true X5 _ x.xk) ⟨hLack, fun _ => hfr.sub (by intro b hb; simp [hb])⟩ (fun b hb => ⟨qR.lt hLack b hb, fun i hi => by have h1 := (yf H hi).2; have h2 := hF b (by have hb : b ∈ X5 := hb; simp [hb]); omega⟩)).add (isF true X8 _ x.xh) ⟨hHave, fun _ => hfr.sub (by intro b hb; simp [hb])⟩ (fun b hb => ⟨qR.lt hHave b hb, fun i hi => by have h1 := (yf H hi).2; have h2 := hF b (by have hb : b ∈ X8 := hb; simp [hb]); omega⟩)).add (isF true X4 _ x.qV) ⟨hNeed, fun _ => hfr.sub (by intro b hb; simp [hb])⟩ (fun b hb => ⟨qR.lt hNeed b hb, fun i hi => by have h1 := (yf H hi).2; have h2 := hF b (by have hb : b ∈ X4 := hb; simp [hb]); omega⟩))

theorem St.snoc_RuleD {W0 w : World} {ps : List Prv} {Γ : List Fact} (H : St W0 w ps Γ) (i : Nat) {fr : Bool} {F : List Nat} {xs : List Value} {l : List Qk} (hf : Γ[i]? = some (jf fr F xs l)) (xCell : Int) (xRank : Int) (iNeed : Nat) {GNeed : List Nat} {vNeed : Value} {xNeed : List Int} (hNeed : Γ[iNeed]? = some (isF fr GNeed vNeed xNeed)) (iHave : Nat) {GHave : List Nat} {vHave : Value} {xHave : List Int} (hHave : Γ[iHave]? = some (isF fr GHave vHave xHave)) (iLack : Nat) {GLack : List Nat} {vLack : Value} {xLack : List Int} (hLack : Γ[iLack]? = some (isF fr GLack vLack xLack)) (iHere : Nat) {GHere : List Nat} {vHere : Value} {xHere : List Int} (hHere : Γ[iHere]? = some (isF fr GHere vHere xHere)) (iOut : Nat) {GOut : List Nat} {vOut : Value} {xOut : List Int} (hOut : Γ[iOut]? = some (isF fr GOut vOut xOut)) (iInto : Nat) {GInto : List Nat} {vInto : Value} {xInto : List IntoD} (hInto : Γ[iInto]? = some (isF fr GInto vInto xInto)) (xMelts : Bool) :
    St W0 w ps (jf fr (F ++ (GNeed ++ GHave ++ GLack ++ GHere ++ GOut ++ GInto)) (xs ++ [.int .i64 xCell, .int .i64 xRank, vNeed, vHave, vLack, vHere, vOut, vInto, .bool xMelts]) (l ++ [⟨xCell, xRank, xNeed, xHave, xLack, xHere, xOut, xInto, xMelts⟩]) :: Γ) := by
  have hr : qR.rep w (GNeed ++ GHave ++ GLack ++ GHere ++ GOut ++ GInto) [.int .i64 xCell, .int .i64 xRank, vNeed, vHave, vLack, vHere, vOut, vInto, .bool xMelts] (⟨xCell, xRank, xNeed, xHave, xLack, xHere, xOut, xInto, xMelts⟩ : Qk) := ⟨vNeed, vHave, vLack, vHere, vOut, vInto, GNeed, GHave, GLack, GHere, GOut, GInto, rfl, rfl, (H.get iNeed hNeed).1, (H.get iHave hHave).1, (H.get iLack hLack).1, (H.get iHere hHere).1, (H.get iOut hOut).1, (H.get iInto hInto).1⟩
  refine H.add _ ⟨QH (H.get i hf).1 (reps_one hr), fun e => ((H.get i hf).2 e).app ((((((((H.get iNeed hNeed).2 e).app ((H.get iHave hHave).2 e)).app ((H.get iLack hLack).2 e)).app ((H.get iHere hHere).2 e)).app ((H.get iOut hOut).2 e)).app ((H.get iInto hInto).2 e)))⟩ fun b hb => ?_
  rcases List.mem_append.1 hb with h | h
  · exact (H.facts _ (List.mem_of_getElem? hf)).2 b h
  · simp only [List.mem_append] at h
    rcases h with (((((h | h) | h) | h) | h) | h)
    · exact (H.facts _ (List.mem_of_getElem? hNeed)).2 b h
    · exact (H.facts _ (List.mem_of_getElem? hHave)).2 b h
    · exact (H.facts _ (List.mem_of_getElem? hLack)).2 b h
    · exact (H.facts _ (List.mem_of_getElem? hHere)).2 b h
    · exact (H.facts _ (List.mem_of_getElem? hOut)).2 b h
    · exact (H.facts _ (List.mem_of_getElem? hInto)).2 b h

structure qW where
  qH : Int
  qf : List Int
  qg : List Qk
  deriving DecidableEq
instance : Inhabited qW := ⟨⟨0, [], []⟩⟩
instance : Tot qW := ⟨fun x => tot x.qf + tot x.qg⟩
theorem tot_SystemD (x : qW) : tot x = tot x.qf + tot x.qg := rfl

instance : qR qW where
  size := 3
  rep := fun w F cs x => ∃ (vParents vRules : Value) (Qz FRules : List Nat), cs = [.int .i64 x.qH, vParents, vRules] ∧ F = Qz ++ FRules ∧ qR.rep w Qz [vParents] x.qf ∧ qR.rep w FRules [vRules] x.qg
  len := by rintro w F cs x ⟨vParents, vRules, Qz, FRules, rfl, _, hParents, hRules⟩; rfl
  one := by
    rintro w F cs x ⟨vParents, vRules, Qz, FRules, rfl, rfl, hParents, hRules⟩ u hu
    simp only [List.mem_cons, List.not_mem_nil, or_false] at hu
    rcases hu with rfl | rfl | rfl <;> first | rfl | exact one_of (by assumption)
  stay := by
    rintro w w' F cs x ⟨vParents, vRules, Qz, FRules, rfl, rfl, hParents, hRules⟩ hs
    exact ⟨_, _, _, _, rfl, rfl, qR.stay hParents fun b hb => hs b (by simp [hb]), qR.stay hRules fun b hb => hs b (by simp [hb])⟩
  lt := by
    rintro w F cs x ⟨vParents, vRules, Qz, FRules, rfl, rfl, hParents, hRules⟩ b hb
    simp only [List.mem_append] at hb
    rcases hb with (hb | hb)
    · exact qR.lt hParents b hb
    · exact qR.lt hRules b hb

def New_SystemD (w0 w : World) (v : Value) (x : qW) : Prop :=
  ∃ (aParents : Option Addr) (cParents : Nat) (Qz : List Nat) (aRules : Option Addr) (cRules : Nat) (FRules : List Nat), v = .agg #[.int .i64 x.qH, .slice aParents x.qf.length cParents, .slice aRules x.qg.length cRules] ∧ qR.rep w Qz [.slice aParents x.qf.length cParents] x.qf ∧ qR.rep w FRules [.slice aRules x.qg.length cRules] x.qg ∧ (∀ b ∈ (Qz ++ FRules), w0.heap.size ≤ b) ∧ (Qz ++ FRules).Nodup ∧ zU w (Qz ++ FRules)
theorem St.add_SystemD {W0 w w' : World} {ps : List Prv} {Γ : List Fact} (H : St W0 w ps Γ) (e : Ext w w') {v : Value} {x : qW} (h : New_SystemD w w' v x) :
    ∃ (aParents : Option Addr) (cParents : Nat) (Qz : List Nat) (aRules : Option Addr) (cRules : Nat) (FRules : List Nat), v = .agg #[.int .i64 x.qH, .slice aParents x.qf.length cParents, .slice aRules x.qg.length cRules] ∧ ((∀ b ∈ (Qz ++ FRules), w.heap.size ≤ b) ∧ (Qz ++ FRules).Nodup) ∧ St W0 w' ps (isF true Qz (.slice aParents x.qf.length cParents) x.qf :: isF true FRules (.slice aRules x.qg.length cRules) x.qg :: Γ) := by
  obtain ⟨aParents, cParents, Qz, aRules, cRules, FRules, rfl, hParents, hRules, hF, hd, hfr⟩ := h
  refine ⟨_, _, _, _, _, _, rfl, ⟨hF, hd⟩, ?_⟩
  exact (((H.ext e).add (isF true FRules _ x.qg) ⟨hRules, fun _ => hfr.sub (by intro b hb; simp [hb])⟩ (fun b hb => ⟨qR.lt hRules b hb, fun i hi => by have h1 := (yf H hi).2; have h2 := hF b (by have hb : b ∈ FRules := hb; simp [hb]); omega⟩)).add (isF true Qz _ x.qf) ⟨hParents, fun _ => hfr.sub (by intro b hb; simp [hb])⟩ (fun b hb => ⟨qR.lt hParents b hb, fun i hi => by have h1 := (yf H hi).2; have h2 := hF b (by have hb : b ∈ Qz := hb; simp [hb]); omega⟩))

structure qU where
  qh : List Bool
  qp : List (List Int)
  ql : List Int
  deriving DecidableEq
instance : Inhabited qU := ⟨⟨[], [], []⟩⟩
instance : Tot qU := ⟨fun x => tot x.qh + tot x.qp + tot x.ql⟩
theorem tot_StateD (x : qU) : tot x = tot x.qh + tot x.qp + tot x.ql := rfl

instance : qR qU where
  size := 3
  rep := fun w F cs x => ∃ (vAlive vBags vAround : Value) (FAlive FBags Xc : List Nat), cs = [vAlive, vBags, vAround] ∧ F = FAlive ++ FBags ++ Xc ∧ qR.rep w FAlive [vAlive] x.qh ∧ qR.rep w FBags [vBags] x.qp ∧ qR.rep w Xc [vAround] x.ql
  len := by rintro w F cs x ⟨vAlive, vBags, vAround, FAlive, FBags, Xc, rfl, _, hAlive, hBags, hAround⟩; rfl
  one := by
    rintro w F cs x ⟨vAlive, vBags, vAround, FAlive, FBags, Xc, rfl, rfl, hAlive, hBags, hAround⟩ u hu
    simp only [List.mem_cons, List.not_mem_nil, or_false] at hu
    rcases hu with rfl | rfl | rfl <;> first | rfl | exact one_of (by assumption)
  stay := by
    rintro w w' F cs x ⟨vAlive, vBags, vAround, FAlive, FBags, Xc, rfl, rfl, hAlive, hBags, hAround⟩ hs
    exact ⟨_, _, _, _, _, _, rfl, rfl, qR.stay hAlive fun b hb => hs b (by simp [hb]), qR.stay hBags fun b hb => hs b (by simp [hb]), qR.stay hAround fun b hb => hs b (by simp [hb])⟩
  lt := by
    rintro w F cs x ⟨vAlive, vBags, vAround, FAlive, FBags, Xc, rfl, rfl, hAlive, hBags, hAround⟩ b hb
    simp only [List.mem_append] at hb
    rcases hb with ((hb | hb) | hb)
    · exact qR.lt hAlive b hb
    · exact qR.lt hBags b hb
    · exact qR.lt hAround b hb

def New_StateD (w0 w : World) (v : Value) (x : qU) : Prop :=
  ∃ (aAlive : Option Addr) (cAlive : Nat) (FAlive : List Nat) (aBags : Option Addr) (cBags : Nat) (FBags : List Nat) (aAround : Option Addr) (cAround : Nat) (Xc : List Nat), v = .agg #[.slice aAlive x.qh.length cAlive, .slice aBags x.qp.length cBags, .slice aAround x.ql.length cAround] ∧ qR.rep w FAlive [.slice aAlive x.qh.length cAlive] x.qh ∧ qR.rep w FBags [.slice aBags x.qp.length cBags] x.qp ∧ qR.rep w Xc [.slice aAround x.ql.length cAround] x.ql ∧ (∀ b ∈ (FAlive ++ FBags ++ Xc), w0.heap.size ≤ b) ∧ (FAlive ++ FBags ++ Xc).Nodup ∧ zU w (FAlive ++ FBags ++ Xc)
theorem St.XZ {W0 w w' : World} {ps : List Prv} {Γ : List Fact} (H : St W0 w ps Γ) (e : Ext w w') {v : Value} {x : qU} (h : New_StateD w w' v x) :
    ∃ (aAlive : Option Addr) (cAlive : Nat) (FAlive : List Nat) (aBags : Option Addr) (cBags : Nat) (FBags : List Nat) (aAround : Option Addr) (cAround : Nat) (Xc : List Nat), v = .agg #[.slice aAlive x.qh.length cAlive, .slice aBags x.qp.length cBags, .slice aAround x.ql.length cAround] ∧ ((∀ b ∈ (FAlive ++ FBags ++ Xc), w.heap.size ≤ b) ∧ (FAlive ++ FBags ++ Xc).Nodup) ∧ St W0 w' ps (isF true FAlive (.slice aAlive x.qh.length cAlive) x.qh :: isF true FBags (.slice aBags x.qp.length cBags) x.qp :: isF true Xc (.slice aAround x.ql.length cAround) x.ql :: Γ) := by
  obtain ⟨aAlive, cAlive, FAlive, aBags, cBags, FBags, aAround, cAround, Xc, rfl, hAlive, hBags, hAround, hF, hd, hfr⟩ := h
  refine ⟨_, _, _, _, _, _, _, _, _, rfl, ⟨hF, hd⟩, ?_⟩
  exact ((((H.ext e).add (isF true Xc _ x.ql) ⟨hAround, fun _ => hfr.sub (by intro b hb; simp [hb])⟩ (fun b hb => ⟨qR.lt hAround b hb, fun i hi => by have h1 := (yf H hi).2; have h2 := hF b (by have hb : b ∈ Xc := hb; simp [hb]); omega⟩)).add (isF true FBags _ x.qp) ⟨hBags, fun _ => hfr.sub (by intro b hb; simp [hb])⟩ (fun b hb => ⟨qR.lt hBags b hb, fun i hi => by have h1 := (yf H hi).2; have h2 := hF b (by have hb : b ∈ FBags := hb; simp [hb]); omega⟩)).add (isF true FAlive _ x.qh) ⟨hAlive, fun _ => hfr.sub (by intro b hb; simp [hb])⟩ (fun b hb => ⟨qR.lt hAlive b hb, fun i hi => by have h1 := (yf H hi).2; have h2 := hF b (by have hb : b ∈ FAlive := hb; simp [hb]); omega⟩))

end Go.Proofs.YtkmlihdacnfhdaaGreat
