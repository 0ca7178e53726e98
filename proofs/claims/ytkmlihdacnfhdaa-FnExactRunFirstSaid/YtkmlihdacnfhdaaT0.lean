/- Walks, printed by program (wip/tools/gv.py): what each function comes to, for all arguments. -/
import Derived.Test.YtkmlihdacnfhdaaA
import Derived.Test.YtkmlihdacnfhdaaP0
namespace Go.Proofs.Ytkmlihdacnfhdaa
open Go.Proofs.Ytkmlihdacnfhdaa.Tot (tot)
open Go.RowKit
set_option linter.unusedVariables false
set_option linter.unusedSimpArgs false
set_option maxRecDepth 100000
set_option maxHeartbeats 4000000


theorem slice_form {α : Type} [qW α] {w : World} {F : List Nat} {v : Value} {l : List α} (h : qW.rep w F [v] l) : ∃ a c, v = .slice a l.length c := by
  obtain ⟨a, c, hc, _⟩ := h
  simp only [List.cons.injEq, and_true] at hc
  exact ⟨a, c, hc⟩

theorem one_of {α : Type} [qW α] {w : World} {F : List Nat} {v : Value} {x : α} (h : qW.rep w F [v] x) : v.oneCell' = true := qW.one h v (List.mem_singleton.2 rfl)

theorem St.yY {α : Type} [qW α] {W0 w : World} {ps : List Prv} {Γ : List Fact} (H : St W0 w ps Γ) (i : Nat) {fr : Bool} {F : List Nat} {b o m c : Nat} {l : List (List α)} (hf : Γ[i]? = some (isF fr F (.slice (some ⟨b, o, none⟩) m c) l)) (iv : Int) (k : Nat) (hk : iv.toNat = k) (h0 : 0 ≤ iv) (h1 : iv < l.length) :
    ∃ (a' : Option Addr) (c' : Nat) (Fk : List Nat), St W0 w ps (isF fr Fk (.slice a' (l[k]!).length c') (l[k]!) :: atF b (o + iv.toNat * 1) [.slice a' (l[k]!).length c'] :: Γ) := by
  obtain ⟨cs, Fk, hc, hr, hsub⟩ := H.elem i hf iv h0 h1
  have hfr : fr = true → vJ w Fk := fun e => ((H.get i hf).2 e).sub fun x hx => hsub x (List.mem_cons_of_mem _ hx)
  rw [hk] at hr
  obtain ⟨a', c', rfl, _⟩ := id hr
  exact ⟨a', c', Fk, (H.Ve i hf (atF b (o + iv.toNat * 1) _) hc (fun x hx => hsub x (by simp only [atF, List.mem_singleton] at hx; subst hx; exact List.mem_cons_self ..))).Ve (i + 1) hf (isF fr Fk _ _) ⟨hr, hfr⟩ (fun x hx => hsub x (List.mem_cons_of_mem _ hx))⟩

structure IntoD where
  qy : Int
  vK : List Int
  deriving DecidableEq
instance : Inhabited IntoD := ⟨⟨0, []⟩⟩
instance : Tot IntoD := ⟨fun x => tot x.vK⟩
theorem tot_IntoD (x : IntoD) : tot x = tot x.vK := rfl

instance : qW IntoD where
  size := 2
  rep := fun w F cs x => ∃ (vBag : Value) (FBag : List Nat), cs = [.int .i64 x.qy, vBag] ∧ F = FBag ∧ qW.rep w FBag [vBag] x.vK
  len := by rintro w F cs x ⟨vBag, FBag, rfl, _, hBag⟩; rfl
  one := by
    rintro w F cs x ⟨vBag, FBag, rfl, rfl, hBag⟩ u hu
    simp only [List.mem_cons, List.not_mem_nil, or_false] at hu
    rcases hu with rfl | rfl <;> first | rfl | exact one_of (by assumption)
  stay := by
    rintro w w' F cs x ⟨vBag, FBag, rfl, rfl, hBag⟩ hs
    exact ⟨_, _, rfl, rfl, qW.stay hBag fun b hb => hs b (by simp [hb])⟩
  lt := by
    rintro w F cs x ⟨vBag, FBag, rfl, rfl, hBag⟩ b hb
    exact qW.lt hBag b hb

theorem St.jQ {W0 w : World} {ps : List Prv} {Γ : List Fact} (H : St W0 w ps Γ) (i : Nat) {fr : Bool} {F : List Nat} {b o m c : Nat} {l : List IntoD} (hf : Γ[i]? = some (isF fr F (.slice (some ⟨b, o, none⟩) m c) l)) (iv : Int) (k : Nat) (hk : iv.toNat = k) (h0 : 0 ≤ iv) (h1 : iv < l.length) :
    ∃ (aBag : Option Addr) (cBag : Nat) (FBag : List Nat), St W0 w ps (isF fr FBag (.slice aBag (l[k]!).vK.length cBag) (l[k]!).vK :: atF b (o + iv.toNat * 2) [.int .i64 (l[k]!).qy, .slice aBag (l[k]!).vK.length cBag] :: Γ) := by
  obtain ⟨cs, Fk, hc, hr, hsub⟩ := H.elem i hf iv h0 h1
  have hfr : fr = true → vJ w Fk := fun e => ((H.get i hf).2 e).sub fun x hx => hsub x (List.mem_cons_of_mem _ hx)
  rw [hk] at hr
  obtain ⟨vBag, FBag, rfl, hFF, hBag⟩ := hr
  obtain ⟨aBag, cBag, rfl⟩ := slice_form hBag
  exact ⟨_, _, _, ((H.Ve i hf (atF b (o + iv.toNat * 2) [.int .i64 (l[k]!).qy, .slice aBag (l[k]!).vK.length cBag]) hc (fun x hx => hsub x (by simp only [atF, List.mem_singleton] at hx; subst hx; exact List.mem_cons_self ..))).Ve (i + 1) hf (isF fr FBag _ (l[k]!).vK) ⟨hBag, fun e => (hfr e).sub (by rw [hFF]; intro x hx; simp [hx])⟩ (fun x hx => hsub x (List.mem_cons_of_mem _ (hFF.symm ▸ (by have hx : x ∈ FBag := hx; simp [hx])))))⟩

def New_IntoD (w0 w : World) (v : Value) (x : IntoD) : Prop :=
  ∃ (aBag : Option Addr) (cBag : Nat) (FBag : List Nat), v = .agg #[.int .i64 x.qy, .slice aBag x.vK.length cBag] ∧ qW.rep w FBag [.slice aBag x.vK.length cBag] x.vK ∧ (∀ b ∈ (FBag), w0.heap.size ≤ b) ∧ (FBag).Nodup ∧ vJ w (FBag)
theorem St.add_IntoD {W0 w w' : World} {ps : List Prv} {Γ : List Fact} (H : St W0 w ps Γ) (e : Ext w w') {v : Value} {x : IntoD} (h : New_IntoD w w' v x) :
    ∃ (aBag : Option Addr) (cBag : Nat) (FBag : List Nat), v = .agg #[.int .i64 x.qy, .slice aBag x.vK.length cBag] ∧ ((∀ b ∈ (FBag), w.heap.size ≤ b) ∧ (FBag).Nodup) ∧ St W0 w' ps (isF true FBag (.slice aBag x.vK.length cBag) x.vK :: Γ) := by
  obtain ⟨aBag, cBag, FBag, rfl, hBag, hF, hd, hfr⟩ := h
  refine ⟨_, _, _, rfl, ⟨hF, hd⟩, ?_⟩
  exact ((H.ext e).add (isF true FBag _ x.vK) ⟨hBag, fun _ => hfr.sub (by intro b hb; simp [hb])⟩ (fun b hb => ⟨qW.lt hBag b hb, fun i hi => by have h1 := (yH H hi).2; have h2 := hF b (by have hb : b ∈ FBag := hb; simp [hb]); omega⟩))

theorem St.snoc_IntoD {W0 w : World} {ps : List Prv} {Γ : List Fact} (H : St W0 w ps Γ) (i : Nat) {fr : Bool} {F : List Nat} {xs : List Value} {l : List IntoD} (hf : Γ[i]? = some (jl fr F xs l)) (xCell : Int) (iBag : Nat) {GBag : List Nat} {vBag : Value} {xBag : List Int} (hBag : Γ[iBag]? = some (isF fr GBag vBag xBag)) :
    St W0 w ps (jl fr (F ++ (GBag)) (xs ++ [.int .i64 xCell, vBag]) (l ++ [⟨xCell, xBag⟩]) :: Γ) := by
  have hr : qW.rep w (GBag) [.int .i64 xCell, vBag] (⟨xCell, xBag⟩ : IntoD) := ⟨vBag, GBag, rfl, rfl, (H.get iBag hBag).1⟩
  refine H.add _ ⟨Q8 (H.get i hf).1 (reps_one hr), fun e => ((H.get i hf).2 e).app (((H.get iBag hBag).2 e))⟩ fun b hb => ?_
  rcases List.mem_append.1 hb with h | h
  · exact (H.facts _ (List.mem_of_getElem? hf)).2 b h
  · exact (H.facts _ (List.mem_of_getElem? hBag)).2 b h

structure QK where
  qy : Int
  zk : Int
  qR : List Int
  xg : List Int
  xk : List Int
  xw : List Int
  zo : List Int
  qE : List IntoD
  xQ : Bool
  deriving DecidableEq
instance : Inhabited QK := ⟨⟨0, 0, [], [], [], [], [], [], false⟩⟩
instance : Tot QK := ⟨fun x => tot x.qR + tot x.xg + tot x.xk + tot x.xw + tot x.zo + tot x.qE⟩
theorem tot_RuleD (x : QK) : tot x = tot x.qR + tot x.xg + tot x.xk + tot x.xw + tot x.zo + tot x.qE := rfl

instance : qW QK where
  size := 9
  rep := fun w F cs x => ∃ (vNeed vHave vLack vHere vOut vInto : Value) (VD VH VE VG FOut VF : List Nat), cs = [.int .i64 x.qy, .int .i64 x.zk, vNeed, vHave, vLack, vHere, vOut, vInto, .bool x.xQ] ∧ F = VD ++ VH ++ VE ++ VG ++ FOut ++ VF ∧ qW.rep w VD [vNeed] x.qR ∧ qW.rep w VH [vHave] x.xg ∧ qW.rep w VE [vLack] x.xk ∧ qW.rep w VG [vHere] x.xw ∧ qW.rep w FOut [vOut] x.zo ∧ qW.rep w VF [vInto] x.qE
  len := by rintro w F cs x ⟨vNeed, vHave, vLack, vHere, vOut, vInto, VD, VH, VE, VG, FOut, VF, rfl, _, hNeed, hHave, hLack, hHere, hOut, hInto⟩; rfl
  one := by
    rintro w F cs x ⟨vNeed, vHave, vLack, vHere, vOut, vInto, VD, VH, VE, VG, FOut, VF, rfl, rfl, hNeed, hHave, hLack, hHere, hOut, hInto⟩ u hu
    simp only [List.mem_cons, List.not_mem_nil, or_false] at hu
    rcases hu with rfl | rfl | rfl | rfl | rfl | rfl | rfl | rfl | rfl <;> first | rfl | exact one_of (by assumption)
  stay := by
    rintro w w' F cs x ⟨vNeed, vHave, vLack, vHere, vOut, vInto, VD, VH, VE, VG, FOut, VF, rfl, rfl, hNeed, hHave, hLack, hHere, hOut, hInto⟩ hs
    exact ⟨_, _, _, _, _, _, _, _, _, _, _, _, rfl, rfl, qW.stay hNeed fun b hb => hs b (by simp [hb]), qW.stay hHave fun b hb => hs b (by simp [hb]), qW.stay hLack fun b hb => hs b (by simp [hb]), qW.stay hHere fun b hb => hs b (by simp [hb]), qW.stay hOut fun b hb => hs b (by simp [hb]), qW.stay hInto fun b hb => hs b (by simp [hb])⟩
  lt := by
    rintro w F cs x ⟨vNeed, vHave, vLack, vHere, vOut, vInto, VD, VH, VE, VG, FOut, VF, rfl, rfl, hNeed, hHave, hLack, hHere, hOut, hInto⟩ b hb
    simp only [List.mem_append] at hb
    rcases hb with (((((hb | hb) | hb) | hb) | hb) | hb)
    · exact qW.lt hNeed b hb
    · exact qW.lt hHave b hb
    · exact qW.lt hLack b hb
    · exact qW.lt hHere b hb
    · exact qW.lt hOut b hb
    · exact qW.lt hInto b hb

theorem St.yD {W0 w : World} {ps : List Prv} {Γ : List Fact} (H : St W0 w ps Γ) (i : Nat) {fr : Bool} {F : List Nat} {b o m c : Nat} {l : List QK} (hf : Γ[i]? = some (isF fr F (.slice (some ⟨b, o, none⟩) m c) l)) (iv : Int) (k : Nat) (hk : iv.toNat = k) (h0 : 0 ≤ iv) (h1 : iv < l.length) :
    ∃ (aNeed : Option Addr) (cNeed : Nat) (VD : List Nat) (aHave : Option Addr) (cHave : Nat) (VH : List Nat) (aLack : Option Addr) (cLack : Nat) (VE : List Nat) (aHere : Option Addr) (cHere : Nat) (VG : List Nat) (aOut : Option Addr) (cOut : Nat) (FOut : List Nat) (aInto : Option Addr) (cInto : Nat) (VF : List Nat), St W0 w ps (isF fr VD (.slice aNeed (l[k]!).qR.length cNeed) (l[k]!).qR :: isF fr VH (.slice aHave (l[k]!).xg.length cHave) (l[k]!).xg :: isF fr VE (.slice aLack (l[k]!).xk.length cLack) (l[k]!).xk :: isF fr VG (.slice aHere (l[k]!).xw.length cHere) (l[k]!).xw :: isF fr FOut (.slice aOut (l[k]!).zo.length cOut) (l[k]!).zo :: isF fr VF (.slice aInto (l[k]!).qE.length cInto) (l[k]!).qE :: atF b (o + iv.toNat * 9) [.int .i64 (l[k]!).qy, .int .i64 (l[k]!).zk, .slice aNeed (l[k]!).qR.length cNeed, .slice aHave (l[k]!).xg.length cHave, .slice aLack (l[k]!).xk.length cLack, .slice aHere (l[k]!).xw.length cHere, .slice aOut (l[k]!).zo.length cOut, .slice aInto (l[k]!).qE.length cInto, .bool (l[k]!).xQ] :: Γ) := by
  obtain ⟨cs, Fk, hc, hr, hsub⟩ := H.elem i hf iv h0 h1
  have hfr : fr = true → vJ w Fk := fun e => ((H.get i hf).2 e).sub fun x hx => hsub x (List.mem_cons_of_mem _ hx)
  rw [hk] at hr
  obtain ⟨vNeed, vHave, vLack, vHere, vOut, vInto, VD, VH, VE, VG, FOut, VF, rfl, hFF, hNeed, hHave, hLack, hHere, hOut, hInto⟩ := hr
  obtain ⟨aNeed, cNeed, rfl⟩ := slice_form hNeed
  obtain ⟨aHave, cHave, rfl⟩ := slice_form hHave
  obtain ⟨aLack, cLack, rfl⟩ := slice_form hLack
  obtain ⟨aHere, cHere, rfl⟩ := slice_form hHere
  obtain ⟨aOut, cOut, rfl⟩ := slice_form hOut
  obtain ⟨aInto, cInto, rfl⟩ := slice_form hInto
  exact ⟨_, _, _, _, _, _, _, _, _, _, _, _, _, _, _, _, _, _, (((((((H.Ve i hf (atF b (o + iv.toNat * 9) [.int .i64 (l[k]!).qy, .int .i64 (l[k]!).zk, .slice aNeed (l[k]!).qR.length cNeed, .slice aHave (l[k]!).xg.length cHave, .slice aLack (l[k]!).xk.length cLack, .slice aHere (l[k]!).xw.length cHere, .slice aOut (l[k]!).zo.length cOut, .slice aInto (l[k]!).qE.length cInto, .bool (l[k]!).xQ]) hc (fun x hx => hsub x (by simp only [atF, List.mem_singleton] at hx; subst hx; exact List.mem_cons_self ..))).Ve (i + 1) hf (isF fr VF _ (l[k]!).qE) ⟨hInto, fun e => (hfr e).sub (by rw [hFF]; intro x hx; simp [hx])⟩ (fun x hx => hsub x (List.mem_cons_of_mem _ (hFF.symm ▸ (by have hx : x ∈ VF := hx; simp [hx]))))).Ve (i + 2) hf (isF fr FOut _ (l[k]!).zo) ⟨hOut, fun e => (hfr e).sub (by rw [hFF]; intro x hx; simp [hx])⟩ (fun x hx => hsub x (List.mem_cons_of_mem _ (hFF.symm ▸ (by have hx : x ∈ FOut := hx; simp [hx]))))).Ve (i + 3) hf (isF fr VG _ (l[k]!).xw) ⟨hHere, fun e => (hfr e).sub (by rw [hFF]; intro x hx; simp [hx])⟩ (fun x hx => hsub x (List.mem_cons_of_mem _ (hFF.symm ▸ (by have hx : x ∈ VG := hx; simp [hx]))))).Ve (i + 4) hf (isF fr VE _ (l[k]!).xk) ⟨hLack, fun e => (hfr e).sub (by rw [hFF]; intro x hx; simp [hx])⟩ (fun x hx => hsub x (List.mem_cons_of_mem _ (hFF.symm ▸ (by have hx : x ∈ VE := hx; simp [hx]))))).Ve (i + 5) hf (isF fr VH _ (l[k]!).xg) ⟨hHave, fun e => (hfr e).sub (by rw [hFF]; intro x hx; simp [hx])⟩ (fun x hx => hsub x (List.mem_cons_of_mem _ (hFF.symm ▸ (by have hx : x ∈ VH := hx; simp [hx]))))).Ve (i + 6) hf (isF fr VD _ (l[k]!).qR) ⟨hNeed, fun e => (hfr e).sub (by rw [hFF]; intro x hx; simp [hx])⟩ (fun x hx => hsub x (List.mem_cons_of_mem _ (hFF.symm ▸ (by have hx : x ∈ VD := hx; simp [hx])))))⟩

def New_RuleD (w0 w : World) (v : Value) (x : QK) : Prop :=
  ∃ (aNeed : Option Addr) (cNeed : Nat) (VD : List Nat) (aHave : Option Addr) (cHave : Nat) (VH : List Nat) (aLack : Option Addr) (cLack : Nat) (VE : List Nat) (aHere : Option Addr) (cHere : Nat) (VG : List Nat) (aOut : Option Addr) (cOut : Nat) (FOut : List Nat) (aInto : Option Addr) (cInto : Nat) (VF : List Nat), v = .agg #[.int .i64 x.qy, .int .i64 x.zk, .slice aNeed x.qR.length cNeed, .slice aHave x.xg.length cHave, .slice aLack x.xk.length cLack, .slice aHere x.xw.length cHere, .slice aOut x.zo.length cOut, .slice aInto x.qE.length cInto, .bool x.xQ] ∧ qW.rep w VD [.slice aNeed x.qR.length cNeed] x.qR ∧ qW.rep w VH [.slice aHave x.xg.length cHave] x.xg ∧ qW.rep w VE [.slice aLack x.xk.length cLack] x.xk ∧ qW.rep w VG [.slice aHere x.xw.length cHere] x.xw ∧ qW.rep w FOut [.slice aOut x.zo.length cOut] x.zo ∧ qW.rep w VF [.slice aInto x.qE.length cInto] x.qE ∧ (∀ b ∈ (VD ++ VH ++ VE ++ VG ++ FOut ++ VF), w0.heap.size ≤ b) ∧ (VD ++ VH ++ VE ++ VG ++ FOut ++ VF).Nodup ∧ vJ w (VD ++ VH ++ VE ++ VG ++ FOut ++ VF)
theorem St.add_RuleD {W0 w w' : World} {ps : List Prv} {Γ : List Fact} (H : St W0 w ps Γ) (e : Ext w w') {v : Value} {x : QK} (h : New_RuleD w w' v x) :
    ∃ (aNeed : Option Addr) (cNeed : Nat) (VD : List Nat) (aHave : Option Addr) (cHave : Nat) (VH : List Nat) (aLack : Option Addr) (cLack : Nat) (VE : List Nat) (aHere : Option Addr) (cHere : Nat) (VG : List Nat) (aOut : Option Addr) (cOut : Nat) (FOut : List Nat) (aInto : Option Addr) (cInto : Nat) (VF : List Nat), v = .agg #[.int .i64 x.qy, .int .i64 x.zk, .slice aNeed x.qR.length cNeed, .slice aHave x.xg.length cHave, .slice aLack x.xk.length cLack, .slice aHere x.xw.length cHere, .slice aOut x.zo.length cOut, .slice aInto x.qE.length cInto, .bool x.xQ] ∧ ((∀ b ∈ (VD ++ VH ++ VE ++ VG ++ FOut ++ VF), w.heap.size ≤ b) ∧ (VD ++ VH ++ VE ++ VG ++ FOut ++ VF).Nodup) ∧ St W0 w' ps (isF true VD (.slice aNeed x.qR.length cNeed) x.qR :: isF true VH (.slice aHave x.xg.length cHave) x.xg :: isF true VE (.slice aLack x.xk.length cLack) x.xk :: isF true VG (.slice aHere x.xw.length cHere) x.xw :: isF true FOut (.slice aOut x.zo.length cOut) x.zo :: isF true VF (.slice aInto x.qE.length cInto) x.qE :: Γ) := by
  obtain ⟨aNeed, cNeed, VD, aHave, cHave, VH, aLack, cLack, VE, aHere, cHere, VG, aOut, cOut, FOut, aInto, cInto, VF, rfl, hNeed, hHave, hLack, hHere, hOut, hInto, hF, hd, hfr⟩ := h
  refine ⟨_, _, _, _, _, _, _, _, _, _, _, _, _, _, _, _, _, _, rfl, ⟨hF, hd⟩, ?_⟩
  exact (((((((H.ext e).add (isF true VF _ x.qE) ⟨hInto, fun _ => hfr.sub (by intro b hb; simp [hb])⟩ (fun b hb => ⟨qW.lt hInto b hb, fun i hi => by have h1 := (yH H hi).2; have h2 := hF b (by have hb : b ∈ VF := hb; simp [hb]); omega⟩)).add (isF true FOut _ x.zo) ⟨hOut, fun _ => hfr.sub (by intro b hb; simp [hb])⟩ (fun b hb => ⟨qW.lt hOut b hb, fun i hi => by have h1 := (yH H hi).2; have h2 := hF b (by have hb : b ∈ FOut := hb; simp [hb]); omega⟩)).add (isF true VG _ x.xw) ⟨hHere, fun _ => hfr.sub (by intro b hb; simp [hb])⟩ (fun b hb => ⟨qW.lt hHere b hb, fun i hi => by have h1 := (yH H hi).2; have h2 := hF b (by have hb : b ∈ VG := hb; simp [hb]); omega⟩)).add (isF true VE _ x.xk) ⟨hLack, fun _ => hfr.sub (by intro b hb; simp [hb])⟩ (fun b hb => ⟨qW.lt hLack b hb, fun i hi => by have h1 := (yH H hi).2; have h2 := hF b (by have hb : b ∈ VE := hb; simp [hb]); omega⟩)).add (isF true VH _ x.xg) ⟨hHave, fun _ => hfr.sub (by intro b hb; simp [hb])⟩ (fun b hb => ⟨qW.lt hHave b hb, fun i hi => by have h1 := (yH H hi).2; have h2 := hF b (by have hb : b ∈ VH := hb; simp [hb]); omega⟩)).add (isF true VD _ x.qR) ⟨hNeed, fun _ => hfr.sub (by intro b hb; simp [hb])⟩ (fun b hb => ⟨qW.lt hNeed b hb, fun i hi => by have h1 := (yH H hi).2; have h2 := hF b (by have hb : b ∈ VD := hb; simp [hb]); omega⟩))

theorem St.snoc_RuleD {W0 w : World} {ps : List Prv} {Γ : List Fact} (H : St W0 w ps Γ) (i : Nat) {fr : Bool} {F : List Nat} {xs : List Value} {l : List QK} (hf : Γ[i]? = some (jl fr F xs l)) (xCell : Int) (xRank : Int) (iNeed : Nat) {GNeed : List Nat} {vNeed : Value} {xNeed : List Int} (hNeed : Γ[iNeed]? = some (isF fr GNeed vNeed xNeed)) (iHave : Nat) {GHave : List Nat} {vHave : Value} {xHave : List Int} (hHave : Γ[iHave]? = some (isF fr GHave vHave xHave)) (iLack : Nat) {GLack : List Nat} {vLack : Value} {xLack : List Int} (hLack : Γ[iLack]? = some (isF fr GLack vLack xLack)) (iHere : Nat) {GHere : List Nat} {vHere : Value} {xHere : List Int} (hHere : Γ[iHere]? = some (isF fr GHere vHere xHere)) (iOut : Nat) {GOut : List Nat} {vOut : Value} {xOut : List Int} (hOut : Γ[iOut]? = some (isF fr GOut vOut xOut)) (iInto : Nat) {GInto : List Nat} {vInto : Value} {xInto : List IntoD} (hInto : Γ[iInto]? = some (isF fr GInto vInto xInto)) (xMelts : Bool) :
    St W0 w ps (jl fr (F ++ (GNeed ++ GHave ++ GLack ++ GHere ++ GOut ++ GInto)) (xs ++ [.int .i64 xCell, .int .i64 xRank, vNeed, vHave, vLack, vHere, vOut, vInto, .bool xMelts]) (l ++ [⟨xCell, xRank, xNeed, xHave, xLack, xHere, xOut, xInto, xMelts⟩]) :: Γ) := by
  have hr : qW.rep w (GNeed ++ GHave ++ GLack ++ GHere ++ GOut ++ GInto) [.int .i64 xCell, .int .i64 xRank, vNeed, vHave, vLack, vHere, vOut, vInto, .bool xMelts] (⟨xCell, xRank, xNeed, xHave, xLack, xHere, xOut, xInto, xMelts⟩ : QK) := ⟨vNeed, vHave, vLack, vHere, vOut, vInto, GNeed, GHave, GLack, GHere, GOut, GInto, rfl, rfl, (H.get iNeed hNeed).1, (H.get iHave hHave).1, (H.get iLack hLack).1, (H.get iHere hHere).1, (H.get iOut hOut).1, (H.get iInto hInto).1⟩
  refine H.add _ ⟨Q8 (H.get i hf).1 (reps_one hr), fun e => ((H.get i hf).2 e).app ((((((((H.get iNeed hNeed).2 e).app ((H.get iHave hHave).2 e)).app ((H.get iLack hLack).2 e)).app ((H.get iHere hHere).2 e)).app ((H.get iOut hOut).2 e)).app ((H.get iInto hInto).2 e)))⟩ fun b hb => ?_
  rcases List.mem_append.1 hb with h | h
  · exact (H.facts _ (List.mem_of_getElem? hf)).2 b h
  · simp only [List.mem_append] at h
    rcases h with (((((h | h) | h) | h) | h) | h)
    · exact (H.facts _ (List.mem_of_getElem? hNeed)).2 b h
    · exact (H.facts _ (List.mem_of_getElem? hHave)).2 b h
    · exact (H.facts _ (List.mem_of_getElem? hLack)).2 b h
    · exact (H.facts _ (List.mem_of_getElem? hHere)).2 b h
    · exact (H.facts _ (List.mem_of_getElem? hOut)).2 b h
    · exact (H.facts _ (List.mem_of_getElem? hInto)).2 b h

structure qV where
  qI : Int
  qf : List Int
  qg : List QK
  deriving DecidableEq
instance : Inhabited qV := ⟨⟨0, [], []⟩⟩
instance : Tot qV := ⟨fun x => tot x.qf + tot x.qg⟩
theorem tot_SystemD (x : qV) : tot x = tot x.qf + tot x.qg := rfl

instance : qW qV where
  size := 3
  rep := fun w F cs x => ∃ (vParents vRules : Value) (QY FRules : List Nat), cs = [.int .i64 x.qI, vParents, vRules] ∧ F = QY ++ FRules ∧ qW.rep w QY [vParents] x.qf ∧ qW.rep w FRules [vRules] x.qg
  len := by rintro w F cs x ⟨vParents, vRules, QY, FRules, rfl, _, hParents, hRules⟩; rfl
  one := by
    rintro w F cs x ⟨vParents, vRules, QY, FRules, rfl, rfl, hParents, hRules⟩ u hu
    simp only [List.mem_cons, List.not_mem_nil, or_false] at hu
    rcases hu with rfl | rfl | rfl <;> first | rfl | exact one_of (by assumption)
  stay := by
    rintro w w' F cs x ⟨vParents, vRules, QY, FRules, rfl, rfl, hParents, hRules⟩ hs
    exact ⟨_, _, _, _, rfl, rfl, qW.stay hParents fun b hb => hs b (by simp [hb]), qW.stay hRules fun b hb => hs b (by simp [hb])⟩
  lt := by
    rintro w F cs x ⟨vParents, vRules, QY, FRules, rfl, rfl, hParents, hRules⟩ b hb
    simp only [List.mem_append] at hb
    rcases hb with (hb | hb)
    · exact qW.lt hParents b hb
    · exact qW.lt hRules b hb

def New_SystemD (w0 w : World) (v : Value) (x : qV) : Prop :=
  ∃ (aParents : Option Addr) (cParents : Nat) (QY : List Nat) (aRules : Option Addr) (cRules : Nat) (FRules : List Nat), v = .agg #[.int .i64 x.qI, .slice aParents x.qf.length cParents, .slice aRules x.qg.length cRules] ∧ qW.rep w QY [.slice aParents x.qf.length cParents] x.qf ∧ qW.rep w FRules [.slice aRules x.qg.length cRules] x.qg ∧ (∀ b ∈ (QY ++ FRules), w0.heap.size ≤ b) ∧ (QY ++ FRules).Nodup ∧ vJ w (QY ++ FRules)
theorem St.add_SystemD {W0 w w' : World} {ps : List Prv} {Γ : List Fact} (H : St W0 w ps Γ) (e : Ext w w') {v : Value} {x : qV} (h : New_SystemD w w' v x) :
    ∃ (aParents : Option Addr) (cParents : Nat) (QY : List Nat) (aRules : Option Addr) (cRules : Nat) (FRules : List Nat), v = .agg #[.int .i64 x.qI, .slice aParents x.qf.length cParents, .slice aRules x.qg.length cRules] ∧ ((∀ b ∈ (QY ++ FRules), w.heap.size ≤ b) ∧ (QY ++ FRules).Nodup) ∧ St W0 w' ps (isF true QY (.slice aParents x.qf.length cParents) x.qf :: isF true FRules (.slice aRules x.qg.length cRules) x.qg :: Γ) := by
  obtain ⟨aParents, cParents, QY, aRules, cRules, FRules, rfl, hParents, hRules, hF, hd, hfr⟩ := h
  refine ⟨_, _, _, _, _, _, rfl, ⟨hF, hd⟩, ?_⟩
  exact (((H.ext e).add (isF true FRules _ x.qg) ⟨hRules, fun _ => hfr.sub (by intro b hb; simp [hb])⟩ (fun b hb => ⟨qW.lt hRules b hb, fun i hi => by have h1 := (yH H hi).2; have h2 := hF b (by have hb : b ∈ FRules := hb; simp [hb]); omega⟩)).add (isF true QY _ x.qf) ⟨hParents, fun _ => hfr.sub (by intro b hb; simp [hb])⟩ (fun b hb => ⟨qW.lt hParents b hb, fun i hi => by have h1 := (yH H hi).2; have h2 := hF b (by have hb : b ∈ QY := hb; simp [hb]); omega⟩))

structure qQ where
  qh : List Bool
  qp : List (List Int)
  ql : List Int
  deriving DecidableEq
instance : Inhabited qQ := ⟨⟨[], [], []⟩⟩
instance : Tot qQ := ⟨fun x => tot x.qh + tot x.qp + tot x.ql⟩
theorem tot_StateD (x : qQ) : tot x = tot x.qh + tot x.qp + tot x.ql := rfl

instance : qW qQ where
  size := 3
  rep := fun w F cs x => ∃ (vAlive vBags vAround : Value) (FAlive FBags XD : List Nat), cs = [vAlive, vBags, vAround] ∧ F = FAlive ++ FBags ++ XD ∧ qW.rep w FAlive [vAlive] x.qh ∧ qW.rep w FBags [vBags] x.qp ∧ qW.rep w XD [vAround] x.ql
  len := by rintro w F cs x ⟨vAlive, vBags, vAround, FAlive, FBags, XD, rfl, _, hAlive, hBags, hAround⟩; rfl
  one := by
    rintro w F cs x ⟨vAlive, vBags, vAround, FAlive, FBags, XD, rfl, rfl, hAlive, hBags, hAround⟩ u hu
    simp only [List.mem_cons, List.not_mem_nil, or_false] at hu
    rcases hu with rfl | rfl | rfl <;> first | rfl | exact one_of (by assumption)
  stay := by
    rintro w w' F cs x ⟨vAlive, vBags, vAround, FAlive, FBags, XD, rfl, rfl, hAlive, hBags, hAround⟩ hs
    exact ⟨_, _, _, _, _, _, rfl, rfl, qW.stay hAlive fun b hb => hs b (by simp [hb]), qW.stay hBags fun b hb => hs b (by simp [hb]), qW.stay hAround fun b hb => hs b (by simp [hb])⟩
  lt := by
    rintro w F cs x ⟨vAlive, vBags, vAround, FAlive, FBags, XD, rfl, rfl, hAlive, hBags, hAround⟩ b hb
    simp only [List.mem_append] at hb
    rcases hb with ((hb | hb) | hb)
    · exact qW.lt hAlive b hb
    · exact qW.lt hBags b hb
    · exact qW.lt hAround b hb

def New_StateD (w0 w : World) (v : Value) (x : qQ) : Prop :=
  ∃ (aAlive : Option Addr) (cAlive : Nat) (FAlive : List Nat) (aBags : Option Addr) (cBags : Nat) (FBags : List Nat) (aAround : Option Addr) (cAround : Nat) (XD : List Nat), v = .agg #[.slice aAlive x.qh.length cAlive, .slice aBags x.qp.length cBags, .slice aAround x.ql.length cAround] ∧ qW.rep w FAlive [.slice aAlive x.qh.length cAlive] x.qh ∧ qW.rep w FBags [.slice aBags x.qp.length cBags] x.qp ∧ qW.rep w XD [.slice aAround x.ql.length cAround] x.ql ∧ (∀ b ∈ (FAlive ++ FBags ++ XD), w0.heap.size ≤ b) ∧ (FAlive ++ FBags ++ XD).Nodup ∧ vJ w (FAlive ++ FBags ++ XD)
theorem St.VA {W0 w w' : World} {ps : List Prv} {Γ : List Fact} (H : St W0 w ps Γ) (e : Ext w w') {v : Value} {x : qQ} (h : New_StateD w w' v x) :
    ∃ (aAlive : Option Addr) (cAlive : Nat) (FAlive : List Nat) (aBags : Option Addr) (cBags : Nat) (FBags : List Nat) (aAround : Option Addr) (cAround : Nat) (XD : List Nat), v = .agg #[.slice aAlive x.qh.length cAlive, .slice aBags x.qp.length cBags, .slice aAround x.ql.length cAround] ∧ ((∀ b ∈ (FAlive ++ FBags ++ XD), w.heap.size ≤ b) ∧ (FAlive ++ FBags ++ XD).Nodup) ∧ St W0 w' ps (isF true FAlive (.slice aAlive x.qh.length cAlive) x.qh :: isF true FBags (.slice aBags x.qp.length cBags) x.qp :: isF true XD (.slice aAround x.ql.length cAround) x.ql :: Γ) := by
  obtain ⟨aAlive, cAlive, FAlive, aBags, cBags, FBags, aAround, cAround, XD, rfl, hAlive, hBags, hAround, hF, hd, hfr⟩ := h
  refine ⟨_, _, _, _, _, _, _, _, _, rfl, ⟨hF, hd⟩, ?_⟩
  exact ((((H.ext e).add (isF true XD _ x.ql) ⟨hAround, fun _ => hfr.sub (by intro b hb; simp [hb])⟩ (fun b hb => ⟨qW.lt hAround b hb, fun i hi => by have h1 := (yH H hi).2; have h2 := hF b (by have hb : b ∈ XD := hb; simp [hb]); omega⟩)).add (isF true FBags _ x.qp) ⟨hBags, fun _ => hfr.sub (by intro b hb; simp [hb])⟩ (fun b hb => ⟨qW.lt hBags b hb, fun i hi => by have h1 := (yH H hi).2; have h2 := hF b (by have hb : b ∈ FBags := hb; simp [hb]); omega⟩)).add (isF true FAlive _ x.qh) ⟨hAlive, fun _ => hfr.sub (by intro b hb; simp [hb])⟩ (fun b hb => ⟨qW.lt hAlive b hb, fun i hi => by have h1 := (yH H hi).2; have h2 := hF b (by have hb : b ∈ FAlive := hb; simp [hb]); omega⟩))

end Go.Proofs.Ytkmlihdacnfhdaa
