/- Walks, printed by program (wip/tools/gv.py): what each function comes to, for all arguments. -/
import Derived.Test.YtkmlihdacnfhdaaGreatA
import Derived.Test.YtkmlihdacnfhdaaGreatP0
namespace Go.Proofs.YtkmlihdacnfhdaaGreat
open Go.Proofs.YtkmlihdacnfhdaaGreat.Tot (tot)
open Go.RowKit
set_option linter.unusedVariables false
set_option linter.unusedSimpArgs false
set_option maxRecDepth 100000
set_option maxHeartbeats 4000000


theorem slice_form {α : Type} [qQ α] {w : World} {F : List Nat} {v : Value} {l : List α} (h : qQ.rep w F [v] l) : ∃ a c, v = .slice a l.length c := by
  obtain ⟨a, c, hc, _⟩ := h
  simp only [List.cons.injEq, and_true] at hc
  exact ⟨a, c, hc⟩

theorem one_of {α : Type} [qQ α] {w : World} {F : List Nat} {v : Value} {x : α} (h : qQ.rep w F [v] x) : v.oneCell' = true := qQ.one h v (List.mem_singleton.2 rfl)

theorem St.jC {α : Type} [qQ α] {W0 w : World} {ps : List Prv} {Γ : List Fact} (H : St W0 w ps Γ) (i : Nat) {fr : Bool} {F : List Nat} {b o m c : Nat} {l : List (List α)} (hf : Γ[i]? = some (isF fr F (.slice (some ⟨b, o, none⟩) m c) l)) (iv : Int) (k : Nat) (hk : iv.toNat = k) (h0 : 0 ≤ iv) (h1 : iv < l.length) :
    ∃ (a' : Option Addr) (c' : Nat) (Fk : List Nat), St W0 w ps (isF fr Fk (.slice a' (l[k]!).length c') (l[k]!) :: atF b (o + iv.toNat * 1) [.slice a' (l[k]!).length c'] :: Γ) := by
  obtain ⟨cs, Fk, hc, hr, hsub⟩ := H.elem i hf iv h0 h1
  have hfr : fr = true → zU w Fk := fun e => ((H.get i hf).2 e).sub fun x hx => hsub x (List.mem_cons_of_mem _ hx)
  rw [hk] at hr
  obtain ⟨a', c', rfl, _⟩ := id hr
  exact ⟨a', c', Fk, (H.QI i hf (atF b (o + iv.toNat * 1) _) hc (fun x hx => hsub x (by simp only [atF, List.mem_singleton] at hx; subst hx; exact List.mem_cons_self ..))).QI (i + 1) hf (isF fr Fk _ _) ⟨hr, hfr⟩ (fun x hx => hsub x (List.mem_cons_of_mem _ hx))⟩

structure IntoD where
  qA : Int
  zW : List Int
  deriving DecidableEq
instance : Inhabited IntoD := ⟨⟨0, []⟩⟩
instance : Tot IntoD := ⟨fun x => tot x.zW⟩
theorem tot_IntoD (x : IntoD) : tot x = tot x.zW := rfl

instance : qQ IntoD where
  size := 2
  rep := fun w F cs x => ∃ (vBag : Value) (FBag : List Nat), cs = [.int .i64 x.qA, vBag] ∧ F = FBag ∧ qQ.rep w FBag [vBag] x.zW
  len := by rintro w F cs x ⟨vBag, FBag, rfl, _, hBag⟩; rfl
  one := by
    rintro w F cs x ⟨vBag, FBag, rfl, rfl, hBag⟩ u hu
    simp only [List.mem_cons, List.not_mem_nil, or_false] at hu
    rcases hu with rfl | rfl <;> first | rfl | exact one_of (by assumption)
  stay := by
    rintro w w' F cs x ⟨vBag, FBag, rfl, rfl, hBag⟩ hs
    exact ⟨_, _, rfl, rfl, qQ.stay hBag fun b hb => hs b (by simp [hb])⟩
  lt := by
    rintro w F cs x ⟨vBag, FBag, rfl, rfl, hBag⟩ b hb
    exact qQ.lt hBag b hb

theorem St.jl {W0 w : World} {ps : List Prv} {Γ : List Fact} (H : St W0 w ps Γ) (i : Nat) {fr : Bool} {F : List Nat} {b o m c : Nat} {l : List IntoD} (hf : Γ[i]? = some (isF fr F (.slice (some ⟨b, o, none⟩) m c) l)) (iv : Int) (k : Nat) (hk : iv.toNat = k) (h0 : 0 ≤ iv) (h1 : iv < l.length) :
    ∃ (aBag : Option Addr) (cBag : Nat) (FBag : List Nat), St W0 w ps (isF fr FBag (.slice aBag (l[k]!).zW.length cBag) (l[k]!).zW :: atF b (o + iv.toNat * 2) [.int .i64 (l[k]!).qA, .slice aBag (l[k]!).zW.length cBag] :: Γ) := by
  obtain ⟨cs, Fk, hc, hr, hsub⟩ := H.elem i hf iv h0 h1
  have hfr : fr = true → zU w Fk := fun e => ((H.get i hf).2 e).sub fun x hx => hsub x (List.mem_cons_of_mem _ hx)
  rw [hk] at hr
  obtain ⟨vBag, FBag, rfl, hFF, hBag⟩ := hr
  obtain ⟨aBag, cBag, rfl⟩ := slice_form hBag
  exact ⟨_, _, _, ((H.QI i hf (atF b (o + iv.toNat * 2) [.int .i64 (l[k]!).qA, .slice aBag (l[k]!).zW.length cBag]) hc (fun x hx => hsub x (by simp only [atF, List.mem_singleton] at hx; subst hx; exact List.mem_cons_self ..))).QI (i + 1) hf (isF fr FBag _ (l[k]!).zW) ⟨hBag, fun e => (hfr e).sub (by rw [hFF]; intro x hx; simp [hx])⟩ (fun x hx => hsub x (List.mem_cons_of_mem _ (hFF.symm ▸ (by have hx : x ∈ FBag := hx; simp [hx])))))⟩

def New_IntoD (w0 w : World) (v : Value) (x : IntoD) : Prop :=
  ∃ (aBag : Option Addr) (cBag : Nat) (FBag : List Nat), v = .agg #[.int .i64 x.qA, .slice aBag x.zW.length cBag] ∧ qQ.rep w FBag [.slice aBag x.zW.length cBag] x.zW ∧ (∀ b ∈ (FBag), w0.heap.size ≤ b) ∧ (FBag).Nodup ∧ zU w (FBag)
theorem St.add_IntoD {W0 w w' : World} {ps : List Prv} {Γ : List Fact} (H : St W0 w ps Γ) (e : Ext w w') {v : Value} {x : IntoD} (h : New_IntoD w w' v x) :
    ∃ (aBag : Option Addr) (cBag : Nat) (FBag : List Nat), v = .agg #[.int .i64 x.qA, .slice aBag x.zW.length cBag] ∧ ((∀ b ∈ (FBag), w.heap.size ≤ b) ∧ (FBag).Nodup) ∧ St W0 w' ps (isF true FBag (.slice aBag x.zW.length cBag) x.zW :: Γ) := by
  obtain ⟨aBag, cBag, FBag, rfl, hBag, hF, hd, hfr⟩ := h
  refine ⟨_, _, _, rfl, ⟨hF, hd⟩, ?_⟩
  exact ((H.ext e).add (isF true FBag _ x.zW) ⟨hBag, fun _ => hfr.sub (by intro b hb; simp [hb])⟩ (fun b hb => ⟨qQ.lt hBag b hb, fun i hi => by have h1 := (yf H hi).2; have h2 := hF b (by have hb : b ∈ FBag := hb; simp [hb]); omega⟩))

theorem St.snoc_IntoD {W0 w : World} {ps : List Prv} {Γ : List Fact} (H : St W0 w ps Γ) (i : Nat) {fr : Bool} {F : List Nat} {xs : List Value} {l : List IntoD} (hf : Γ[i]? = some (vK fr F xs l)) (xCell : Int) (iBag : Nat) {GBag : List Nat} {vBag : Value} {xBag : List Int} (hBag : Γ[iBag]? = some (isF fr GBag vBag xBag)) :
    St W0 w ps (vK fr (F ++ (GBag)) (xs ++ [.int .i64 xCell, vBag]) (l ++ [⟨xCell, xBag⟩]) :: Γ) := by
  have hr : qQ.rep w (GBag) [.int .i64 xCell, vBag] (⟨xCell, xBag⟩ : IntoD) := ⟨vBag, GBag, rfl, rfl, (H.get iBag hBag).1⟩
  refine H.add _ ⟨QD (H.get i hf).1 (reps_one hr), fun e => ((H.get i hf).2 e).app (((H.get iBag hBag).2 e))⟩ fun b hb => ?_
  rcases List.mem_append.1 hb with h | h
  · exact (H.facts _ (List.mem_of_getElem? hf)).2 b h
  · exact (H.facts _ (List.mem_of_getElem? hBag)).2 b h

structure QB where
  qA : Int
  xZ : Int
  qW : List Int
  xg : List Int
  xk : List Int
  xw : List Int
  zf : List Int
  qB : List IntoD
  xP : Bool
  deriving DecidableEq
instance : Inhabited QB := ⟨⟨0, 0, [], [], [], [], [], [], false⟩⟩
instance : Tot QB := ⟨fun x => tot x.qW + tot x.xg + tot x.xk + tot x.xw + tot x.zf + tot x.qB⟩
theorem tot_RuleD (x : QB) : tot x = tot x.qW + tot x.xg + tot x.xk + tot x.xw + tot x.zf + tot x.qB := rfl

instance : qQ QB where
  size := 9
  rep := fun w F cs x => ∃ (vNeed vHave vLack vHere vOut vInto : Value) (VC VG VD VF FOut VE : List Nat), cs = [.int .i64 x.qA, .int .i64 x.xZ, vNeed, vHave, vLack, vHere, vOut, vInto, .bool x.xP] ∧ F = VC ++ VG ++ VD ++ VF ++ FOut ++ VE ∧ qQ.rep w VC [vNeed] x.qW ∧ qQ.rep w VG [vHave] x.xg ∧ qQ.rep w VD [vLack] x.xk ∧ qQ.rep w VF [vHere] x.xw ∧ qQ.rep w FOut [vOut] x.zf ∧ qQ.rep w VE [vInto] x.qB
  len := by rintro w F cs x ⟨vNeed, vHave, vLack, vHere, vOut, vInto, VC, VG, VD, VF, FOut, VE, rfl, _, hNeed, hHave, hLack, hHere, hOut, hInto⟩; rfl
  one := by
    rintro w F cs x ⟨vNeed, vHave, vLack, vHere, vOut, vInto, VC, VG, VD, VF, FOut, VE, rfl, rfl, hNeed, hHave, hLack, hHere, hOut, hInto⟩ u hu
    simp only [List.mem_cons, List.not_mem_nil, or_false] at hu
    rcases hu with rfl | rfl | rfl | rfl | rfl | rfl | rfl | rfl | rfl <;> first | rfl | exact one_of (by assumption)
  stay := by
    rintro w w' F cs x ⟨vNeed, vHave, vLack, vHere, vOut, vInto, VC, VG, VD, VF, FOut, VE, rfl, rfl, hNeed, hHave, hLack, hHere, hOut, hInto⟩ hs
    exact ⟨_, _, _, _, _, _, _, _, _, _, _, _, rfl, rfl, qQ.stay hNeed fun b hb => hs b (by simp [hb]), qQ.stay hHave fun b hb => hs b (by simp [hb]), qQ.stay hLack fun b hb => hs b (by simp [hb]), qQ.stay hHere fun b hb => hs b (by simp [hb]), qQ.stay hOut fun b hb => hs b (by simp [hb]), qQ.stay hInto fun b hb => hs b (by simp [hb])⟩
  lt := by
    rintro w F cs x ⟨vNeed, vHave, vLack, vHere, vOut, vInto, VC, VG, VD, VF, FOut, VE, rfl, rfl, hNeed, hHave, hLack, hHere, hOut, hInto⟩ b hb
    simp only [List.mem_append] at hb
    rcases hb with (((((hb | hb) | hb) | hb) | hb) | hb)
    · exact qQ.lt hNeed b hb
    · exact qQ.lt hHave b hb
    · exact qQ.lt hLack b hb
    · exact qQ.lt hHere b hb
    · exact qQ.lt hOut b hb
    · exact qQ.lt hInto b hb

theorem St.yE {W0 w : World} {ps : List Prv} {Γ : List Fact} (H : St W0 w ps Γ) (i : Nat) {fr : Bool} {F : List Nat} {b o m c : Nat} {l : List QB} (hf : Γ[i]? = some (isF fr F (.slice (some ⟨b, o, none⟩) m c) l)) (iv : Int) (k : Nat) (hk : iv.toNat = k) (h0 : 0 ≤ iv) (h1 : iv < l.length) :
    ∃ (aNeed : Option Addr) (cNeed : Nat) (VC : List Nat) (aHave : Option Addr) (cHave : Nat) (VG : List Nat) (aLack : Option Addr) (cLack : Nat) (VD : List Nat) (aHere : Option Addr) (cHere : Nat) (VF : List Nat) (aOut : Option Addr) (cOut : Nat) (FOut : List Nat) (aInto : Option Addr) (cInto : Nat) (VE : List Nat), St W0 w ps (isF fr VC (.slice aNeed (l[k]!).qW.length cNeed) (l[k]!).qW :: isF fr VG (.slice aHave (l[k]!).xg.length cHave) (l[k]!).xg :: isF fr VD (.slice aLack (l[k]!).xk.length cLack) (l[k]!).xk :: isF fr VF (.slice aHere (l[k]!).xw.length cHere) (l[k]!).xw :: isF fr FOut (.slice aOut (l[k]!).zf.length cOut) (l[k]!).zf :: isF fr VE (.slice aInto (l[k]!).qB.length cInto) (l[k]!).qB :: atF b (o + iv.toNat * 9) [.int .i64 (l[k]!).qA, .int .i64 (l[k]!).xZ, .slice aNeed (l[k]!).qW.length cNeed, .slice aHave (l[k]!).xg.length cHave, .slice aLack (l[k]!).xk.length cLack, .slice aHere (l[k]!).xw.length cHere, .slice aOut (l[k]!).zf.length cOut, .slice aInto (l[k]!).qB.length cInto, .bool (l[k]!).xP] :: Γ) := by
  obtain ⟨cs, Fk, hc, hr, hsub⟩ := H.elem i hf iv h0 h1
  have hfr : fr = true → zU w Fk := fun e => ((H.get i hf).2 e).sub fun x hx => hsub x (List.mem_cons_of_mem _ hx)
  rw [hk] at hr
  obtain ⟨vNeed, vHave, vLack, vHere, vOut, vInto, VC, VG, VD, VF, FOut, VE, rfl, hFF, hNeed, hHave, hLack, hHere, hOut, hInto⟩ := hr
  obtain ⟨aNeed, cNeed, rfl⟩ := slice_form hNeed
  obtain ⟨aHave, cHave, rfl⟩ := slice_form hHave
  obtain ⟨aLack, cLack, rfl⟩ := slice_form hLack
  obtain ⟨aHere, cHere, rfl⟩ := slice_form hHere
  obtain ⟨aOut, cOut, rfl⟩ := slice_form hOut
  obtain ⟨aInto, cInto, rfl⟩ := slice_form hInto
  exact ⟨_, _, _, _, _, _, _, _, _, _, _, _, _, _, _, _, _, _, (((((((H.QI i hf (atF b (o + iv.toNat * 9) [.int .i64 (l[k]!).qA, .int .i64 (l[k]!).xZ, .slice aNeed (l[k]!).qW.length cNeed, .slice aHave (l[k]!).xg.length cHave, .slice aLack (l[k]!).xk.length cLack, .slice aHere (l[k]!).xw.length cHere, .slice aOut (l[k]!).zf.length cOut, .slice aInto (l[k]!).qB.length cInto, .bool (l[k]!).xP]) hc (fun x hx => hsub x (by simp only [atF, List.mem_singleton] at hx; subst hx; exact List.mem_cons_self ..))).QI (i + 1) hf (isF fr VE _ (l[k]!).qB) ⟨hInto, fun e => (hfr e).sub (by rw [hFF]; intro x hx; simp [hx])⟩ (fun x hx => hsub x (List.mem_cons_of_mem _ (hFF.symm ▸ (by have hx : x ∈ VE := hx; simp [hx]))))).QI (i + 2) hf (isF fr FOut _ (l[k]!).zf) ⟨hOut, fun e => (hfr e).sub (by rw [hFF]; intro x hx; simp [hx])⟩ (fun x hx => hsub x (List.mem_cons_of_mem _ (hFF.symm ▸ (by have hx : x ∈ FOut := hx; simp [hx]))))).QI (i + 3) hf (isF fr VF _ (l[k]!).xw) ⟨hHere, fun e => (hfr e).sub (by rw [hFF]; intro x hx; simp [hx])⟩ (fun x hx => hsub x (List.mem_cons_of_mem _ (hFF.symm ▸ (by have hx : x ∈ VF := hx; simp [hx]))))).QI (i + 4) hf (isF fr VD _ (l[k]!).xk) ⟨hLack, fun e => (hfr e).sub (by rw [hFF]; intro x hx; simp [hx])⟩ (fun x hx => hsub x (List.mem_cons_of_mem _ (hFF.symm ▸ (by have hx : x ∈ VD := hx; simp [hx]))))).QI (i + 5) hf (isF fr VG _ (l[k]!).xg) ⟨hHave, fun e => (hfr e).sub (by rw [hFF]; intro x hx; simp [hx])⟩ (fun x hx => hsub x (List.mem_cons_of_mem _ (hFF.symm ▸ (by have hx : x ∈ VG := hx; simp [hx]))))).QI (i + 6) hf (isF fr VC _ (l[k]!).qW) ⟨hNeed, fun e => (hfr e).sub (by rw [hFF]; intro x hx; simp [hx])⟩ (fun x hx => hsub x (List.mem_cons_of_mem _ (hFF.symm ▸ (by have hx : x ∈ VC := hx; simp [hx])))))⟩

def New_RuleD (w0 w : World) (v : Value) (x : QB) : Prop :=
  ∃ (aNeed : Option Addr) (cNeed : Nat) (VC : List Nat) (aHave : Option Addr) (cHave : Nat) (VG : List Nat) (aLack : Option Addr) (cLack : Nat) (VD : List Nat) (aHere : Option Addr) (cHere : Nat) (VF : List Nat) (aOut : Option Addr) (cOut : Nat) (FOut : List Nat) (aInto : Option Addr) (cInto : Nat) (VE : List Nat), v = .agg #[.int .i64 x.qA, .int .i64 x.xZ, .slice aNeed x.qW.length cNeed, .slice aHave x.xg.length cHave, .slice aLack x.xk.length cLack, .slice aHere x.xw.length cHere, .slice aOut x.zf.length cOut, .slice aInto x.qB.length cInto, .bool x.xP] ∧ qQ.rep w VC [.slice aNeed x.qW.length cNeed] x.qW ∧ qQ.rep w VG [.slice aHave x.xg.length cHave] x.xg ∧ qQ.rep w VD [.slice aLack x.xk.length cLack] x.xk ∧ qQ.rep w VF [.slice aHere x.xw.length cHere] x.xw ∧ qQ.rep w FOut [.slice aOut x.zf.length cOut] x.zf ∧ qQ.rep w VE [.slice aInto x.qB.length cInto] x.qB ∧ (∀ b ∈ (VC ++ VG ++ VD ++ VF ++ FOut ++ VE), w0.heap.size ≤ b) ∧ (VC ++ VG ++ VD ++ VF ++ FOut ++ VE).Nodup ∧ zU w (VC ++ VG ++ VD ++ VF ++ FOut ++ VE)
theorem St.add_RuleD {W0 w w' : World} {ps : List Prv} {Γ : List Fact} (H : St W0 w ps Γ) (e : Ext w w') {v : Value} {x : QB} (h : New_RuleD w w' v x) :
    ∃ (aNeed : Option Addr) (cNeed : Nat) (VC : List Nat) (aHave : Option Addr) (cHave : Nat) (VG : List Nat) (aLack : Option Addr) (cLack : Nat) (VD : List Nat) (aHere : Option Addr) (cHere : Nat) (VF : List Nat) (aOut : Option Addr) (cOut : Nat) (FOut : List Nat) (aInto : Option Addr) (cInto : Nat) (VE : List Nat), v = .agg #[.int .i64 x.qA, .int .i64 x.xZ, .slice aNeed x.qW.length cNeed, .slice aHave x.xg.length cHave, .slice aLack x.xk.length cLack, .slice aHere x.xw.length cHere, .slice aOut x.zf.length cOut, .slice aInto x.qB.length cInto, .bool x.xP] ∧ ((∀ b ∈ (VC ++ VG ++ VD ++ VF ++ FOut ++ VE), w.heap.size ≤ b) ∧ (VC ++ VG ++ VD ++ VF ++ FOut ++ VE).Nodup) ∧ St W0 w' ps (isF true VC (.slice aNeed x.qW.length cNeed) x.qW :: isF true VG (.slice aHave x.xg.length cHave) x.xg :: isF true VD (.slice aLack x.xk.length cLack) x.xk :: isF true VF (.slice aHere x.xw.length cHere) x.xw :: isF true FOut (.slice aOut x.zf.length cOut) x.zf :: isF true VE (.slice aInto x.qB.length cInto) x.qB :: Γ) := by
  obtain ⟨aNeed, cNeed, VC, aHave, cHave, VG, aLack, cLack, VD, aHere, cHere, VF, aOut, cOut, FOut, aInto, cInto, VE, rfl, hNeed, hHave, hLack, hHere, hOut, hInto, hF, hd, hfr⟩ := h
  refine ⟨_, _, _, _, _, _, _, _, _, _, _, _, _, _, _, _, _, _, rfl, ⟨hF, hd⟩, ?_⟩
  exact (((((((H.ext e).add (isF true VE _ x.qB) ⟨hInto, fun _ => hfr.sub (by intro b hb; simp [hb])⟩ (fun b hb => ⟨qQ.lt hInto b hb, fun i hi => by have h1 := (yf H hi).2; have h2 := hF b (by have hb : b ∈ VE := hb; simp [hb]); omega⟩)).add (isF true FOut _ x.zf) ⟨hOut, fun _ => hfr.sub (by intro b hb; simp [hb])⟩ (fun b hb => ⟨qQ.lt hOut b hb, fun i hi => by have h1 := (yf H hi).2; have h2 := hF b (by have hb : b ∈ FOut := hb; simp [hb]); omega⟩)).add (isF true VF _ x.xw) ⟨hHere, fun _ => hfr.sub (by intro b hb; simp [hb])⟩ (fun b hb => ⟨qQ.lt hHere b hb, fun i hi => by have h1 := (yf H hi).2; have h2 := hF b (by have hb : b ∈ VF := hb; simp [hb]); omega⟩)).add (isF true VD _ x.xk) ⟨hLack, fun _ => hfr.sub (by intro b hb; simp [hb])⟩ (fun b hb => ⟨qQ.lt hLack b hb, fun i hi => by have h1 := (yf H hi).2; have h2 := hF b (by have hb : b ∈ VD := hb; simp [hb]); omega⟩)).add (isF true VG _ x.xg) ⟨hHave, fun _ => hfr.sub (by intro b hb; simp [hb])⟩ (fun b hb => ⟨qQ.lt hHave b hb, fun i hi => by have h1 := (yf H hi).2; have h2 := hF b (by have hb : b ∈ VG := hb; simp [hb]); omega⟩)).add (isF true VC _ x.qW) ⟨hNeed, fun _ => hfr.sub (by intro b hb; simp [hb])⟩ (fun b hb => ⟨qQ.lt hNeed b hb, fun i hi => by have h1 := (yf H hi).2; have h2 := hF b (by have hb : b ∈ VC := hb; simp [hb]); omega⟩))

theorem St.snoc_RuleD {W0 w : World} {ps : List Prv} {Γ : List Fact} (H : St W0 w ps Γ) (i : Nat) {fr : Bool} {F : List Nat} {xs : List Value} {l : List QB} (hf : Γ[i]? = some (vK fr F xs l)) (xCell : Int) (xRank : Int) (iNeed : Nat) {GNeed : List Nat} {vNeed : Value} {xNeed : List Int} (hNeed : Γ[iNeed]? = some (isF fr GNeed vNeed xNeed)) (iHave : Nat) {GHave : List Nat} {vHave : Value} {xHave : List Int} (hHave : Γ[iHave]? = some (isF fr GHave vHave xHave)) (iLack : Nat) {GLack : List Nat} {vLack : Value} {xLack : List Int} (hLack : Γ[iLack]? = some (isF fr GLack vLack xLack)) (iHere : Nat) {GHere : List Nat} {vHere : Value} {xHere : List Int} (hHere : Γ[iHere]? = some (isF fr GHere vHere xHere)) (iOut : Nat) {GOut : List Nat} {vOut : Value} {xOut : List Int} (hOut : Γ[iOut]? = some (isF fr GOut vOut xOut)) (iInto : Nat) {GInto : List Nat} {vInto : Value} {xInto : List IntoD} (hInto : Γ[iInto]? = some (isF fr GInto vInto xInto)) (xMelts : Bool) :
    St W0 w ps (vK fr (F ++ (GNeed ++ GHave ++ GLack ++ GHere ++ GOut ++ GInto)) (xs ++ [.int .i64 xCell, .int .i64 xRank, vNeed, vHave, vLack, vHere, vOut, vInto, .bool xMelts]) (l ++ [⟨xCell, xRank, xNeed, xHave, xLack, xHere, xOut, xInto, xMelts⟩]) :: Γ) := by
  have hr : qQ.rep w (GNeed ++ GHave ++ GLack ++ GHere ++ GOut ++ GInto) [.int .i64 xCell, .int .i64 xRank, vNeed, vHave, vLack, vHere, vOut, vInto, .bool xMelts] (⟨xCell, xRank, xNeed, xHave, xLack, xHere, xOut, xInto, xMelts⟩ : QB) := ⟨vNeed, vHave, vLack, vHere, vOut, vInto, GNeed, GHave, GLack, GHere, GOut, GInto, rfl, rfl, (H.get iNeed hNeed).1, (H.get iHave hHave).1, (H.get iLack hLack).1, (H.get iHere hHere).1, (H.get iOut hOut).1, (H.get iInto hInto).1⟩
  refine H.add _ ⟨QD (H.get i hf).1 (reps_one hr), fun e => ((H.get i hf).2 e).app ((((((((H.get iNeed hNeed).2 e).app ((H.get iHave hHave).2 e)).app ((H.get iLack hLack).2 e)).app ((H.get iHere hHere).2 e)).app ((H.get iOut hOut).2 e)).app ((H.get iInto hInto).2 e)))⟩ fun b hb => ?_
  rcases List.mem_append.1 hb with h | h
  · exact (H.facts _ (List.mem_of_getElem? hf)).2 b h
  · simp only [List.mem_append] at h
    rcases h with (((((h | h) | h) | h) | h) | h)
    · exact (H.facts _ (List.mem_of_getElem? hNeed)).2 b h
    · exact (H.facts _ (List.mem_of_getElem? hHave)).2 b h
    · exact (H.facts _ (List.mem_of_getElem? hLack)).2 b h
    · exact (H.facts _ (List.mem_of_getElem? hHere)).2 b h
    · exact (H.facts _ (List.mem_of_getElem? hOut)).2 b h
    · exact (H.facts _ (List.mem_of_getElem? hInto)).2 b h

structure qU where
  qI : Int
  qf : List Int
  qg : List QB
  deriving DecidableEq
instance : Inhabited qU := ⟨⟨0, [], []⟩⟩
instance : Tot qU := ⟨fun x => tot x.qf + tot x.qg⟩
theorem tot_SystemD (x : qU) : tot x = tot x.qf + tot x.qg := rfl

instance : qQ qU where
  size := 3
  rep := fun w F cs x => ∃ (vParents vRules : Value) (QQ FRules : List Nat), cs = [.int .i64 x.qI, vParents, vRules] ∧ F = QQ ++ FRules ∧ qQ.rep w QQ [vParents] x.qf ∧ qQ.rep w FRules [vRules] x.qg
  len := by rintro w F cs x ⟨vParents, vRules, QQ, FRules, rfl, _, hParents, hRules⟩; rfl
  one := by
    rintro w F cs x ⟨vParents, vRules, QQ, FRules, rfl, rfl, hParents, hRules⟩ u hu
    simp only [List.mem_cons, List.not_mem_nil, or_false] at hu
    rcases hu with rfl | rfl | rfl <;> first | rfl | exact one_of (by assumption)
  stay := by
    rintro w w' F cs x ⟨vParents, vRules, QQ, FRules, rfl, rfl, hParents, hRules⟩ hs
    exact ⟨_, _, _, _, rfl, rfl, qQ.stay hParents fun b hb => hs b (by simp [hb]), qQ.stay hRules fun b hb => hs b (by simp [hb])⟩
  lt := by
    rintro w F cs x ⟨vParents, vRules, QQ, FRules, rfl, rfl, hParents, hRules⟩ b hb
    simp only [List.mem_append] at hb
    rcases hb with (hb | hb)
    · exact qQ.lt hParents b hb
    · exact qQ.lt hRules b hb

def New_SystemD (w0 w : World) (v : Value) (x : qU) : Prop :=
  ∃ (aParents : Option Addr) (cParents : Nat) (QQ : List Nat) (aRules : Option Addr) (cRules : Nat) (FRules : List Nat), v = .agg #[.int .i64 x.qI, .slice aParents x.qf.length cParents, .slice aRules x.qg.length cRules] ∧ qQ.rep w QQ [.slice aParents x.qf.length cParents] x.qf ∧ qQ.rep w FRules [.slice aRules x.qg.length cRules] x.qg ∧ (∀ b ∈ (QQ ++ FRules), w0.heap.size ≤ b) ∧ (QQ ++ FRules).Nodup ∧ zU w (QQ ++ FRules)
theorem St.add_SystemD {W0 w w' : World} {ps : List Prv} {Γ : List Fact} (H : St W0 w ps Γ) (e : Ext w w') {v : Value} {x : qU} (h : New_SystemD w w' v x) :
    ∃ (aParents : Option Addr) (cParents : Nat) (QQ : List Nat) (aRules : Option Addr) (cRules : Nat) (FRules : List Nat), v = .agg #[.int .i64 x.qI, .slice aParents x.qf.length cParents, .slice aRules x.qg.length cRules] ∧ ((∀ b ∈ (QQ ++ FRules), w.heap.size ≤ b) ∧ (QQ ++ FRules).Nodup) ∧ St W0 w' ps (isF true QQ (.slice aParents x.qf.length cParents) x.qf :: isF true FRules (.slice aRules x.qg.length cRules) x.qg :: Γ) := by
  obtain ⟨aParents, cParents, QQ, aRules, cRules, FRules, rfl, hParents, hRules, hF, hd, hfr⟩ := h
  refine ⟨_, _, _, _, _, _, rfl, ⟨hF, hd⟩, ?_⟩
  exact (((H.ext e).add (isF true FRules _ x.qg) ⟨hRules, fun _ => hfr.sub (by intro b hb; simp [hb])⟩ (fun b hb => ⟨qQ.lt hRules b hb, fun i hi => by have h1 := (yf H hi).2; have h2 := hF b (by have hb : b ∈ FRules := hb; simp [hb]); omega⟩)).add (isF true QQ _ x.qf) ⟨hParents, fun _ => hfr.sub (by intro b hb; simp [hb])⟩ (fun b hb => ⟨qQ.lt hParents b hb, fun i hi => by have h1 := (yf H hi).2; have h2 := hF b (by have hb : b ∈ QQ := hb; simp [hb]); omega⟩))

structure qP where
  qh : List Bool
  qx : List (List Int)
  ql : List Int
  deriving DecidableEq
instance : Inhabited qP := ⟨⟨[], [], []⟩⟩
instance : Tot qP := ⟨fun x => tot x.qh + tot x.qx + tot x.ql⟩
theorem tot_StateD (x : qP) : tot x = tot x.qh + tot x.qx + tot x.ql := rfl

instance : qQ qP where
  size := 3
  rep := fun w F cs x => ∃ (vAlive vBags vAround : Value) (QS VH yj : List Nat), cs = [vAlive, vBags, vAround] ∧ F = QS ++ VH ++ yj ∧ qQ.rep w QS [vAlive] x.qh ∧ qQ.rep w VH [vBags] x.qx ∧ qQ.rep w yj [vAround] x.ql
  len := by rintro w F cs x ⟨vAlive, vBags, vAround, QS, VH, yj, rfl, _, hAlive, hBags, Xv⟩; rfl
  one := by
    rintro w F cs x ⟨vAlive, vBags, vAround, QS, VH, yj, rfl, rfl, hAlive, hBags, Xv⟩ u hu
    simp only [List.mem_cons, List.not_mem_nil, or_false] at hu
    rcases hu with rfl | rfl | rfl <;> first | rfl | exact one_of (by assumption)
  stay := by
    rintro w w' F cs x ⟨vAlive, vBags, vAround, QS, VH, yj, rfl, rfl, hAlive, hBags, Xv⟩ hs
    exact ⟨_, _, _, _, _, _, rfl, rfl, qQ.stay hAlive fun b hb => hs b (by simp [hb]), qQ.stay hBags fun b hb => hs b (by simp [hb]), qQ.stay Xv fun b hb => hs b (by simp [hb])⟩
  lt := by
    rintro w F cs x ⟨vAlive, vBags, vAround, QS, VH, yj, rfl, rfl, hAlive, hBags, Xv⟩ b hb
    simp only [List.mem_append] at hb
    rcases hb with ((hb | hb) | hb)
    · exact qQ.lt hAlive b hb
    · exact qQ.lt hBags b hb
    · exact qQ.lt Xv b hb

theorem St.elem_StateD {W0 w : World} {ps : List Prv} {Γ : List Fact} (H : St W0 w ps Γ) (i : Nat) {fr : Bool} {F : List Nat} {b o m c : Nat} {l : List qP} (hf : Γ[i]? = some (isF fr F (.slice (some ⟨b, o, none⟩) m c) l)) (iv : Int) (k : Nat) (hk : iv.toNat = k) (h0 : 0 ≤ iv) (h1 : iv < l.length) :
    ∃ (aAlive : Option Addr) (cAlive : Nat) (QS : List Nat) (aBags : Option Addr) (cBags : Nat) (VH : List Nat) (Vj : Option Addr) (Vh : Nat) (yj : List Nat), St W0 w ps (isF fr QS (.slice aAlive (l[k]!).qh.length cAlive) (l[k]!).qh :: isF fr VH (.slice aBags (l[k]!).qx.length cBags) (l[k]!).qx :: isF fr yj (.slice Vj (l[k]!).ql.length Vh) (l[k]!).ql :: atF b (o + iv.toNat * 3) [.slice aAlive (l[k]!).qh.length cAlive, .slice aBags (l[k]!).qx.length cBags, .slice Vj (l[k]!).ql.length Vh] :: Γ) := by
  obtain ⟨cs, Fk, hc, hr, hsub⟩ := H.elem i hf iv h0 h1
  have hfr : fr = true → zU w Fk := fun e => ((H.get i hf).2 e).sub fun x hx => hsub x (List.mem_cons_of_mem _ hx)
  rw [hk] at hr
  obtain ⟨vAlive, vBags, vAround, QS, VH, yj, rfl, hFF, hAlive, hBags, Xv⟩ := hr
  obtain ⟨aAlive, cAlive, rfl⟩ := slice_form hAlive
  obtain ⟨aBags, cBags, rfl⟩ := slice_form hBags
  obtain ⟨Vj, Vh, rfl⟩ := slice_form Xv
  exact ⟨_, _, _, _, _, _, _, _, _, ((((H.QI i hf (atF b (o + iv.toNat * 3) [.slice aAlive (l[k]!).qh.length cAlive, .slice aBags (l[k]!).qx.length cBags, .slice Vj (l[k]!).ql.length Vh]) hc (fun x hx => hsub x (by simp only [atF, List.mem_singleton] at hx; subst hx; exact List.mem_cons_self ..))).QI (i + 1) hf (isF fr yj _ (l[k]!).ql) ⟨Xv, fun e => (hfr e).sub (by rw [hFF]; intro x hx; simp [hx])⟩ (fun x hx => hsub x (List.mem_cons_of_mem _ (hFF.symm ▸ (by have hx : x ∈ yj := hx; simp [hx]))))).QI (i + 2) hf (isF fr VH _ (l[k]!).qx) ⟨hBags, fun e => (hfr e).sub (by rw [hFF]; intro x hx; simp [hx])⟩ (fun x hx => hsub x (List.mem_cons_of_mem _ (hFF.symm ▸ (by have hx : x ∈ VH := hx; simp [hx]))))).QI (i + 3) hf (isF fr QS _ (l[k]!).qh) ⟨hAlive, fun e => (hfr e).sub (by rw [hFF]; intro x hx; simp [hx])⟩ (fun x hx => hsub x (List.mem_cons_of_mem _ (hFF.symm ▸ (by have hx : x ∈ QS := hx; simp [hx])))))⟩

def New_StateD (w0 w : World) (v : Value) (x : qP) : Prop :=
  ∃ (aAlive : Option Addr) (cAlive : Nat) (QS : List Nat) (aBags : Option Addr) (cBags : Nat) (VH : List Nat) (Vj : Option Addr) (Vh : Nat) (yj : List Nat), v = .agg #[.slice aAlive x.qh.length cAlive, .slice aBags x.qx.length cBags, .slice Vj x.ql.length Vh] ∧ qQ.rep w QS [.slice aAlive x.qh.length cAlive] x.qh ∧ qQ.rep w VH [.slice aBags x.qx.length cBags] x.qx ∧ qQ.rep w yj [.slice Vj x.ql.length Vh] x.ql ∧ (∀ b ∈ (QS ++ VH ++ yj), w0.heap.size ≤ b) ∧ (QS ++ VH ++ yj).Nodup ∧ zU w (QS ++ VH ++ yj)
theorem St.add_StateD {W0 w w' : World} {ps : List Prv} {Γ : List Fact} (H : St W0 w ps Γ) (e : Ext w w') {v : Value} {x : qP} (h : New_StateD w w' v x) :
    ∃ (aAlive : Option Addr) (cAlive : Nat) (QS : List Nat) (aBags : Option Addr) (cBags : Nat) (VH : List Nat) (Vj : Option Addr) (Vh : Nat) (yj : List Nat), v = .agg #[.slice aAlive x.qh.length cAlive, .slice aBags x.qx.length cBags, .slice Vj x.ql.length Vh] ∧ ((∀ b ∈ (QS ++ VH ++ yj), w.heap.size ≤ b) ∧ (QS ++ VH ++ yj).Nodup) ∧ St W0 w' ps (isF true QS (.slice aAlive x.qh.length cAlive) x.qh :: isF true VH (.slice aBags x.qx.length cBags) x.qx :: isF true yj (.slice Vj x.ql.length Vh) x.ql :: Γ) := by
  obtain ⟨aAlive, cAlive, QS, aBags, cBags, VH, Vj, Vh, yj, rfl, hAlive, hBags, Xv, hF, hd, hfr⟩ := h
  refine ⟨_, _, _, _, _, _, _, _, _, rfl, ⟨hF, hd⟩, ?_⟩
  exact ((((H.ext e).add (isF true yj _ x.ql) ⟨Xv, fun _ => hfr.sub (by intro b hb; simp [hb])⟩ (fun b hb => ⟨qQ.lt Xv b hb, fun i hi => by have h1 := (yf H hi).2; have h2 := hF b (by have hb : b ∈ yj := hb; simp [hb]); omega⟩)).add (isF true VH _ x.qx) ⟨hBags, fun _ => hfr.sub (by intro b hb; simp [hb])⟩ (fun b hb => ⟨qQ.lt hBags b hb, fun i hi => by have h1 := (yf H hi).2; have h2 := hF b (by have hb : b ∈ VH := hb; simp [hb]); omega⟩)).add (isF true QS _ x.qh) ⟨hAlive, fun _ => hfr.sub (by intro b hb; simp [hb])⟩ (fun b hb => ⟨qQ.lt hAlive b hb, fun i hi => by have h1 := (yf H hi).2; have h2 := hF b (by have hb : b ∈ QS := hb; simp [hb]); omega⟩))

theorem St.snoc_StateD {W0 w : World} {ps : List Prv} {Γ : List Fact} (H : St W0 w ps Γ) (i : Nat) {fr : Bool} {F : List Nat} {xs : List Value} {l : List qP} (hf : Γ[i]? = some (vK fr F xs l)) (iAlive : Nat) {GAlive : List Nat} {vAlive : Value} {xAlive : List Bool} (hAlive : Γ[iAlive]? = some (isF fr GAlive vAlive xAlive)) (iBags : Nat) {GBags : List Nat} {vBags : Value} {xBags : List (List Int)} (hBags : Γ[iBags]? = some (isF fr GBags vBags xBags)) (iAround : Nat) {GAround : List Nat} {vAround : Value} {xAround : List Int} (Xv : Γ[iAround]? = some (isF fr GAround vAround xAround)) :
    St W0 w ps (vK fr (F ++ (GAlive ++ GBags ++ GAround)) (xs ++ [vAlive, vBags, vAround]) (l ++ [⟨xAlive, xBags, xAround⟩]) :: Γ) := by
  have hr : qQ.rep w (GAlive ++ GBags ++ GAround) [vAlive, vBags, vAround] (⟨xAlive, xBags, xAround⟩ : qP) := ⟨vAlive, vBags, vAround, GAlive, GBags, GAround, rfl, rfl, (H.get iAlive hAlive).1, (H.get iBags hBags).1, (H.get iAround Xv).1⟩
  refine H.add _ ⟨QD (H.get i hf).1 (reps_one hr), fun e => ((H.get i hf).2 e).app (((((H.get iAlive hAlive).2 e).app ((H.get iBags hBags).2 e)).app ((H.get iAround Xv).2 e)))⟩ fun b hb => ?_
  rcases List.mem_append.1 hb with h | h
  · exact (H.facts _ (List.mem_of_getElem? hf)).2 b h
  · simp only [List.mem_append] at h
    rcases h with ((h | h) | h)
    · exact (H.facts _ (List.mem_of_getElem? hAlive)).2 b h
    · exact (H.facts _ (List.mem_of_getElem? hBags)).2 b h
    · exact (H.facts _ (List.mem_of_getElem? Xv)).2 b h


end Go.Proofs.YtkmlihdacnfhdaaGreat
