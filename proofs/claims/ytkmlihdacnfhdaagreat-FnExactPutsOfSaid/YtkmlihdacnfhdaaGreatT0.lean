/- Walks, printed by program (wip/tools/gv.py): what each function comes to, for all arguments. -/
import Derived.Test.YtkmlihdacnfhdaaGreatA
import Derived.Test.YtkmlihdacnfhdaaGreatP0
namespace Go.Proofs.YtkmlihdacnfhdaaGreat
open Go.Proofs.YtkmlihdacnfhdaaGreat.Tot (tot)
open Go.RowKit
set_option linter.unusedVariables false
set_option linter.unusedSimpArgs false
set_option maxRecDepth 100000
set_option maxHeartbeats 4000000


theorem slice_form {α : Type} [qM α] {w : World} {F : List Nat} {v : Value} {l : List α} (h : qM.rep w F [v] l) : ∃ a c, v = .slice a l.length c := by
  obtain ⟨a, c, hc, _⟩ := h
  simp only [List.cons.injEq, and_true] at hc
  exact ⟨a, c, hc⟩

theorem one_of {α : Type} [qM α] {w : World} {F : List Nat} {v : Value} {x : α} (h : qM.rep w F [v] x) : v.oneCell' = true := qM.one h v (List.mem_singleton.2 rfl)

theorem St.Xk {α : Type} [qM α] {W0 w : World} {ps : List Prv} {Γ : List Fact} (H : St W0 w ps Γ) (i : Nat) {fr : Bool} {F : List Nat} {b o m c : Nat} {l : List (List α)} (hf : Γ[i]? = some (isF fr F (.slice (some ⟨b, o, none⟩) m c) l)) (iv : Int) (k : Nat) (hk : iv.toNat = k) (h0 : 0 ≤ iv) (h1 : iv < l.length) :
    ∃ (a' : Option Addr) (c' : Nat) (Fk : List Nat), St W0 w ps (isF fr Fk (.slice a' (l[k]!).length c') (l[k]!) :: atF b (o + iv.toNat * 1) [.slice a' (l[k]!).length c'] :: Γ) := by
  obtain ⟨cs, Fk, hc, hr, hsub⟩ := H.elem i hf iv h0 h1
  have hfr : fr = true → zL w Fk := fun e => ((H.get i hf).2 e).sub fun x hx => hsub x (List.mem_cons_of_mem _ hx)
  rw [hk] at hr
  obtain ⟨a', c', rfl, _⟩ := id hr
  exact ⟨a', c', Fk, (H.Xq i hf (atF b (o + iv.toNat * 1) _) hc (fun x hx => hsub x (by simp only [atF, List.mem_singleton] at hx; subst hx; exact List.mem_cons_self ..))).Xq (i + 1) hf (isF fr Fk _ _) ⟨hr, hfr⟩ (fun x hx => hsub x (List.mem_cons_of_mem _ hx))⟩

structure IntoD where
  qw : Int
  zF : List Int
  deriving DecidableEq
instance : Inhabited IntoD := ⟨⟨0, []⟩⟩
instance : Tot IntoD := ⟨fun x => tot x.zF⟩
theorem tot_IntoD (x : IntoD) : tot x = tot x.zF := rfl

instance : qM IntoD where
  size := 2
  rep := fun w F cs x => ∃ (vBag : Value) (FBag : List Nat), cs = [.int .i64 x.qw, vBag] ∧ F = FBag ∧ qM.rep w FBag [vBag] x.zF
  len := by rintro w F cs x ⟨vBag, FBag, rfl, _, hBag⟩; rfl
  one := by
    rintro w F cs x ⟨vBag, FBag, rfl, rfl, hBag⟩ u hu
    simp only [List.mem_cons, List.not_mem_nil, or_false] at hu
    rcases hu with rfl | rfl <;> first | rfl | exact one_of (by assumption)
  stay := by
    rintro w w' F cs x ⟨vBag, FBag, rfl, rfl, hBag⟩ hs
    exact ⟨_, _, rfl, rfl, qM.stay hBag fun b hb => hs b (by simp [hb])⟩
  lt := by
    rintro w F cs x ⟨vBag, FBag, rfl, rfl, hBag⟩ b hb
    exact qM.lt hBag b hb

theorem St.vP {W0 w : World} {ps : List Prv} {Γ : List Fact} (H : St W0 w ps Γ) (i : Nat) {fr : Bool} {F : List Nat} {b o m c : Nat} {l : List IntoD} (hf : Γ[i]? = some (isF fr F (.slice (some ⟨b, o, none⟩) m c) l)) (iv : Int) (k : Nat) (hk : iv.toNat = k) (h0 : 0 ≤ iv) (h1 : iv < l.length) :
    ∃ (aBag : Option Addr) (cBag : Nat) (FBag : List Nat), St W0 w ps (isF fr FBag (.slice aBag (l[k]!).zF.length cBag) (l[k]!).zF :: atF b (o + iv.toNat * 2) [.int .i64 (l[k]!).qw, .slice aBag (l[k]!).zF.length cBag] :: Γ) := by
  obtain ⟨cs, Fk, hc, hr, hsub⟩ := H.elem i hf iv h0 h1
  have hfr : fr = true → zL w Fk := fun e => ((H.get i hf).2 e).sub fun x hx => hsub x (List.mem_cons_of_mem _ hx)
  rw [hk] at hr
  obtain ⟨vBag, FBag, rfl, hFF, hBag⟩ := hr
  obtain ⟨aBag, cBag, rfl⟩ := slice_form hBag
  exact ⟨_, _, _, ((H.Xq i hf (atF b (o + iv.toNat * 2) [.int .i64 (l[k]!).qw, .slice aBag (l[k]!).zF.length cBag]) hc (fun x hx => hsub x (by simp only [atF, List.mem_singleton] at hx; subst hx; exact List.mem_cons_self ..))).Xq (i + 1) hf (isF fr FBag _ (l[k]!).zF) ⟨hBag, fun e => (hfr e).sub (by rw [hFF]; intro x hx; simp [hx])⟩ (fun x hx => hsub x (List.mem_cons_of_mem _ (hFF.symm ▸ (by have hx : x ∈ FBag := hx; simp [hx])))))⟩

def New_IntoD (w0 w : World) (v : Value) (x : IntoD) : Prop :=
  ∃ (aBag : Option Addr) (cBag : Nat) (FBag : List Nat), v = .agg #[.int .i64 x.qw, .slice aBag x.zF.length cBag] ∧ qM.rep w FBag [.slice aBag x.zF.length cBag] x.zF ∧ (∀ b ∈ (FBag), w0.heap.size ≤ b) ∧ (FBag).Nodup ∧ zL w (FBag)
theorem St.add_IntoD {W0 w w' : World} {ps : List Prv} {Γ : List Fact} (H : St W0 w ps Γ) (e : Ext w w') {v : Value} {x : IntoD} (h : New_IntoD w w' v x) :
    ∃ (aBag : Option Addr) (cBag : Nat) (FBag : List Nat), v = .agg #[.int .i64 x.qw, .slice aBag x.zF.length cBag] ∧ ((∀ b ∈ (FBag), w.heap.size ≤ b) ∧ (FBag).Nodup) ∧ St W0 w' ps (isF true FBag (.slice aBag x.zF.length cBag) x.zF :: Γ) := by
  obtain ⟨aBag, cBag, FBag, rfl, hBag, hF, hd, hfr⟩ := h
  refine ⟨_, _, _, rfl, ⟨hF, hd⟩, ?_⟩
  exact ((H.ext e).add (isF true FBag _ x.zF) ⟨hBag, fun _ => hfr.sub (by intro b hb; simp [hb])⟩ (fun b hb => ⟨qM.lt hBag b hb, fun i hi => by have h1 := (jk H hi).2; have h2 := hF b (by have hb : b ∈ FBag := hb; simp [hb]); omega⟩))

theorem St.snoc_IntoD {W0 w : World} {ps : List Prv} {Γ : List Fact} (H : St W0 w ps Γ) (i : Nat) {fr : Bool} {F : List Nat} {xs : List Value} {l : List IntoD} (hf : Γ[i]? = some (jo fr F xs l)) (xCell : Int) (iBag : Nat) {GBag : List Nat} {vBag : Value} {xBag : List Int} (hBag : Γ[iBag]? = some (isF fr GBag vBag xBag)) :
    St W0 w ps (jo fr (F ++ (GBag)) (xs ++ [.int .i64 xCell, vBag]) (l ++ [⟨xCell, xBag⟩]) :: Γ) := by
  have hr : qM.rep w (GBag) [.int .i64 xCell, vBag] (⟨xCell, xBag⟩ : IntoD) := ⟨vBag, GBag, rfl, rfl, (H.get iBag hBag).1⟩
  refine H.add _ ⟨yY (H.get i hf).1 (reps_one hr), fun e => ((H.get i hf).2 e).app (((H.get iBag hBag).2 e))⟩ fun b hb => ?_
  rcases List.mem_append.1 hb with h | h
  · exact (H.facts _ (List.mem_of_getElem? hf)).2 b h
  · exact (H.facts _ (List.mem_of_getElem? hBag)).2 b h

structure yB where
  qw : Int
  xM : Int
  qI : List Int
  qW : List Int
  qX : List Int
  xe : List Int
  xO : List Int
  qx : List IntoD
  xG : Bool
  deriving DecidableEq
instance : Inhabited yB := ⟨⟨0, 0, [], [], [], [], [], [], false⟩⟩
instance : Tot yB := ⟨fun x => tot x.qI + tot x.qW + tot x.qX + tot x.xe + tot x.xO + tot x.qx⟩
theorem tot_RuleD (x : yB) : tot x = tot x.qI + tot x.qW + tot x.qX + tot x.xe + tot x.xO + tot x.qx := rfl

instance : qM yB where
  size := 9
  rep := fun w F cs x => ∃ (vNeed vHave vLack vHere vOut vInto : Value) (Xv Xz Xw Xy FOut Xx : List Nat), cs = [.int .i64 x.qw, .int .i64 x.xM, vNeed, vHave, vLack, vHere, vOut, vInto, .bool x.xG] ∧ F = Xv ++ Xz ++ Xw ++ Xy ++ FOut ++ Xx ∧ qM.rep w Xv [vNeed] x.qI ∧ qM.rep w Xz [vHave] x.qW ∧ qM.rep w Xw [vLack] x.qX ∧ qM.rep w Xy [vHere] x.xe ∧ qM.rep w FOut [vOut] x.xO ∧ qM.rep w Xx [vInto] x.qx
  len := by rintro w F cs x ⟨vNeed, vHave, vLack, vHere, vOut, vInto, Xv, Xz, Xw, Xy, FOut, Xx, rfl, _, hNeed, hHave, hLack, hHere, hOut, hInto⟩; rfl
  one := by
    rintro w F cs x ⟨vNeed, vHave, vLack, vHere, vOut, vInto, Xv, Xz, Xw, Xy, FOut, Xx, rfl, rfl, hNeed, hHave, hLack, hHere, hOut, hInto⟩ u hu
    simp only [List.mem_cons, List.not_mem_nil, or_false] at hu
    rcases hu with rfl | rfl | rfl | rfl | rfl | rfl | rfl | rfl | rfl <;> first | rfl | exact one_of (by assumption)
  stay := by
    rintro w w' F cs x ⟨vNeed, vHave, vLack, vHere, vOut, vInto, Xv, Xz, Xw, Xy, FOut, Xx, rfl, rfl, hNeed, hHave, hLack, hHere, hOut, hInto⟩ hs
    exact ⟨_, _, _, _, _, _, _, _, _, _, _, _, rfl, rfl, qM.stay hNeed fun b hb => hs b (by simp [hb]), qM.stay hHave fun b hb => hs b (by simp [hb]), qM.stay hLack fun b hb => hs b (by simp [hb]), qM.stay hHere fun b hb => hs b (by simp [hb]), qM.stay hOut fun b hb => hs b (by simp [hb]), qM.stay hInto fun b hb => hs b (by simp [hb])⟩
  lt := by
    rintro w F cs x ⟨vNeed, vHave, vLack, vHere, vOut, vInto, Xv, Xz, Xw, Xy, FOut, Xx, rfl, rfl, hNeed, hHave, hLack, hHere, hOut, hInto⟩ b hb
    simp only [List.mem_append] at hb
    rcases hb with (((((hb | hb) | hb) | hb) | hb) | hb)
    · exact qM.lt hNeed b hb
    · exact qM.lt hHave b hb
    · exact qM.lt hLack b hb
    · exact qM.lt hHere b hb
    · exact qM.lt hOut b hb
    · exact qM.lt hInto b hb

theorem St.jv {W0 w : World} {ps : List Prv} {Γ : List Fact} (H : St W0 w ps Γ) (i : Nat) {fr : Bool} {F : List Nat} {b o m c : Nat} {l : List yB} (hf : Γ[i]? = some (isF fr F (.slice (some ⟨b, o, none⟩) m c) l)) (iv : Int) (k : Nat) (hk : iv.toNat = k) (h0 : 0 ≤ iv) (h1 : iv < l.length) :
    ∃ (aNeed : Option Addr) (cNeed : Nat) (Xv : List Nat) (aHave : Option Addr) (cHave : Nat) (Xz : List Nat) (aLack : Option Addr) (cLack : Nat) (Xw : List Nat) (aHere : Option Addr) (cHere : Nat) (Xy : List Nat) (aOut : Option Addr) (cOut : Nat) (FOut : List Nat) (aInto : Option Addr) (cInto : Nat) (Xx : List Nat), St W0 w ps (isF fr Xv (.slice aNeed (l[k]!).qI.length cNeed) (l[k]!).qI :: isF fr Xz (.slice aHave (l[k]!).qW.length cHave) (l[k]!).qW :: isF fr Xw (.slice aLack (l[k]!).qX.length cLack) (l[k]!).qX :: isF fr Xy (.slice aHere (l[k]!).xe.length cHere) (l[k]!).xe :: isF fr FOut (.slice aOut (l[k]!).xO.length cOut) (l[k]!).xO :: isF fr Xx (.slice aInto (l[k]!).qx.length cInto) (l[k]!).qx :: atF b (o + iv.toNat * 9) [.int .i64 (l[k]!).qw, .int .i64 (l[k]!).xM, .slice aNeed (l[k]!).qI.length cNeed, .slice aHave (l[k]!).qW.length cHave, .slice aLack (l[k]!).qX.length cLack, .slice aHere (l[k]!).xe.length cHere, .slice aOut (l[k]!).xO.length cOut, .slice aInto (l[k]!).qx.length cInto, .bool (l[k]!).xG] :: Γ) := by
  obtain ⟨cs, Fk, hc, hr, hsub⟩ := H.elem i hf iv h0 h1
  have hfr : fr = true → zL w Fk := fun e => ((H.get i hf).2 e).sub fun x hx => hsub x (List.mem_cons_of_mem _ hx)
  rw [hk] at hr
  obtain ⟨vNeed, vHave, vLack, vHere, vOut, vInto, Xv, Xz, Xw, Xy, FOut, Xx, rfl, hFF, hNeed, hHave, hLack, hHere, hOut, hInto⟩ := hr
  obtain ⟨aNeed, cNeed, rfl⟩ := slice_form hNeed
  obtain ⟨aHave, cHave, rfl⟩ := slice_form hHave
  obtain ⟨aLack, cLack, rfl⟩ := slice_form hLack
  obtain ⟨aHere, cHere, rfl⟩ := slice_form hHere
  obtain ⟨aOut, cOut, rfl⟩ := slice_form hOut
  obtain ⟨aInto, cInto, rfl⟩ := slice_form hInto
  exact ⟨_, _, _, _, _, _, _, _, _, _, _, _, _, _, _, _, _, _, (((((((H.Xq i hf (atF b (o + iv.toNat * 9) [.int .i64 (l[k]!).qw, .int .i64 (l[k]!).xM, .slice aNeed (l[k]!).qI.length cNeed, .slice aHave (l[k]!).qW.length cHave, .slice aLack (l[k]!).qX.length cLack, .slice aHere (l[k]!).xe.length cHere, .slice aOut (l[k]!).xO.length cOut, .slice aInto (l[k]!).qx.length cInto, .bool (l[k]!).xG]) hc (fun x hx => hsub x (by simp only [atF, List.mem_singleton] at hx; subst hx; exact List.mem_cons_self ..))).Xq (i + 1) hf (isF fr Xx _ (l[k]!).qx) ⟨hInto, fun e => (hfr e).sub (by rw [hFF]; intro x hx; simp [hx])⟩ (fun x hx => hsub x (List.mem_cons_of_mem _ (hFF.symm ▸ (by have hx : x ∈ Xx := hx; simp [hx]))))).Xq (i + 2) hf (isF fr FOut _ (l[k]!).xO) ⟨hOut, fun e => (hfr e).sub (by rw [hFF]; intro x hx; simp [hx])⟩ (fun x hx => hsub x (List.mem_cons_of_mem _ (hFF.symm ▸ (by have hx : x ∈ FOut := hx; simp [hx]))))).Xq (i + 3) hf (isF fr Xy _ (l[k]!).xe) ⟨hHere, fun e => (hfr e).sub (by rw [hFF]; intro x hx; simp [hx])⟩ (fun x hx => hsub x (List.mem_cons_of_mem _ (hFF.symm ▸ (by have hx : x ∈ Xy := hx; simp [hx]))))).Xq (i + 4) hf (isF fr Xw _ (l[k]!).qX) ⟨hLack, fun e => (hfr e).sub (by rw [hFF]; intro x hx; simp [hx])⟩ (fun x hx => hsub x (List.mem_cons_of_mem _ (hFF.symm ▸ (by have hx : x ∈ Xw := hx; simp [hx]))))).Xq (i + 5) hf (isF fr Xz _ (l[k]!).qW) ⟨hHave, fun e => (hfr e).sub (by rw [hFF]; intro x hx; simp [hx])⟩ (fun x hx => hsub x (List.mem_cons_of_mem _ (hFF.symm ▸ (by have hx : x ∈ Xz := hx; simp [hx]))))).Xq (i + 6) hf (isF fr Xv _ (l[k]!).qI) ⟨hNeed, fun e => (hfr e).sub (by rw [hFF]; intro x hx; simp [hx])⟩ (fun x hx => hsub x (List.mem_cons_of_mem _ (hFF.symm ▸ (by have hx : x ∈ Xv := hx; simp [hx])))))⟩

def New_RuleD (w0 w : World) (v : Value) (x : yB) : Prop :=
  ∃ (aNeed : Option Addr) (cNeed : Nat) (Xv : List Nat) (aHave : Option Addr) (cHave : Nat) (Xz : List Nat) (aLack : Option Addr) (cLack : Nat) (Xw : List Nat) (aHere : Option Addr) (cHere : Nat) (Xy : List Nat) (aOut : Option Addr) (cOut : Nat) (FOut : List Nat) (aInto : Option Addr) (cInto : Nat) (Xx : List Nat), v = .agg #[.int .i64 x.qw, .int .i64 x.xM, .slice aNeed x.qI.length cNeed, .slice aHave x.qW.length cHave, .slice aLack x.qX.length cLack, .slice aHere x.xe.length cHere, .slice aOut x.xO.length cOut, .slice aInto x.qx.length cInto, .bool x.xG] ∧ qM.rep w Xv [.slice aNeed x.qI.length cNeed] x.qI ∧ qM.rep w Xz [.slice aHave x.qW.length cHave] x.qW ∧ qM.rep w Xw [.slice aLack x.qX.length cLack] x.qX ∧ qM.rep w Xy [.slice aHere x.xe.length cHere] x.xe ∧ qM.rep w FOut [.slice aOut x.xO.length cOut] x.xO ∧ qM.rep w Xx [.slice aInto x.qx.length cInto] x.qx ∧ (∀ b ∈ (Xv ++ Xz ++ Xw ++ Xy ++ FOut ++ Xx), w0.heap.size ≤ b) ∧ (Xv ++ Xz ++ Xw ++ Xy ++ FOut ++ Xx).Nodup ∧ zL w (Xv ++ Xz ++ Xw ++ Xy ++ FOut ++ Xx)
theorem St.add_RuleD {W0 w w' : World} {ps : List Prv} {Γ : List Fact} (H : St W0 w ps Γ) (e : Ext w w') {v : Value} {x : yB} (h : New_RuleD w w' v x) :
    ∃ (aNeed : Option Addr) (cNeed : Nat) (Xv : List Nat) (aHave : Option Addr) (cHave : Nat) (Xz : List Nat) (aLack : Option Addr) (cLack : Nat) (Xw : List Nat) (aHere : Option Addr) (cHere : Nat) (Xy : List Nat) (aOut : Option Addr) (cOut : Nat) (FOut : List Nat) (aInto : Option Addr) (cInto : Nat) (Xx : List Nat), v = .agg #[.int .i64 x.qw, .int .i64 x.xM, .slice aNeed x.qI.length cNeed, .slice aHave x.qW.length cHave, .slice aLack x.qX.length cLack, .slice aHere x.xe.length cHere, .slice aOut x.xO.length cOut, .slice aInto x.qx.length cInto, .bool x.xG] ∧ ((∀ b ∈ (Xv ++ Xz ++ Xw ++ Xy ++ FOut ++ Xx), w.heap.size ≤ b) ∧ (Xv ++ Xz ++ Xw ++ Xy ++ FOut ++ Xx).Nodup) ∧ St W0 w' ps (isF true Xv (.slice aNeed x.qI.length cNeed) x.qI :: isF true Xz (.slice aHave x.qW.length cHave) x.qW :: isF true Xw (.slice aLack x.qX.length cLack) x.qX :: isF true Xy (.slice aHere x.xe.length cHere) x.xe :: isF true FOut (.slice aOut x.xO.length cOut) x.xO :: isF true Xx (.slice aInto x.qx.length cInto) x.qx :: Γ) := by
  obtain ⟨aNeed, cNeed, Xv, aHave, cHave, Xz, aLack, cLack, Xw, aHere, cHere, Xy, aOut, cOut, FOut, aInto, cInto, Xx, rfl, hNeed, hHave, hLack, hHere, hOut, hInto, hF, hd, hfr⟩ := h
  refine ⟨_, _, _, _, _, _, _, _, _, _, _, _, _, _, _, _, _, _, rfl, ⟨hF, hd⟩, ?_⟩
  exact (((((((H.ext e).add (isF true Xx _ x.qx) ⟨hInto, fun _ => hfr.sub (by intro b hb; simp [hb])⟩ (fun b hb => ⟨qM.lt hInto b hb, fun i hi => by have h1 := (jk H hi).2; have h2 := hF b (by have hb : b ∈ Xx := hb; simp [hb]); omega⟩)).add (isF true FOut _ x.xO) ⟨hOut, fun _ => hfr.sub (by intro b hb; simp [hb])⟩ (fun b hb => ⟨qM.lt hOut b hb, fun i hi => by have h1 := (jk H hi).2; have h2 := hF b (by have hb : b ∈ FOut := hb; simp [hb]); omega⟩)).add (isF true Xy _ x.xe) ⟨hHere, fun _ => hfr.sub (by intro b hb; simp [hb])⟩ (fun b hb => ⟨qM.lt hHere b hb, fun i hi => by have h1 := (jk H hi).2; have h2 := hF b (by have hb : b ∈ Xy := hb; simp [hb]); omega⟩)).add (isF true Xw _ x.qX) ⟨hLack, fun _ => hfr.sub (by intro b hb; simp [hb])⟩ (fun b hb => ⟨qM.lt hLack b hb, fun i hi => by have h1 := (jk H hi).2; have h2 := hF b (by have hb : b ∈ Xw := hb; simp [hb]); omega⟩)).add (isF true Xz _ x.qW) ⟨hHave, fun _ => hfr.sub (by intro b hb; simp [hb])⟩ (fun b hb => ⟨qM.lt hHave b hb, fun i hi => by have h1 := (jk H hi).2; have h2 := hF b (by have hb : b ∈ Xz := hb; simp [hb]); omega⟩)).add (isF true Xv _ x.qI) ⟨hNeed, fun _ => hfr.sub (by intro b hb; simp [hb])⟩ (fun b hb => ⟨qM.lt hNeed b hb, fun i hi => by have h1 := (jk H hi).2; have h2 := hF b (by have hb : b ∈ Xv := hb; simp [hb]); omega⟩))

theorem St.snoc_RuleD {W0 w : World} {ps : List Prv} {Γ : List Fact} (H : St W0 w ps Γ) (i : Nat) {fr : Bool} {F : List Nat} {xs : List Value} {l : List yB} (hf : Γ[i]? = some (jo fr F xs l)) (xCell : Int) (xRank : Int) (iNeed : Nat) {GNeed : List Nat} {vNeed : Value} {xNeed : List Int} (hNeed : Γ[iNeed]? = some (isF fr GNeed vNeed xNeed)) (iHave : Nat) {GHave : List Nat} {vHave : Value} {xHave : List Int} (hHave : Γ[iHave]? = some (isF fr GHave vHave xHave)) (iLack : Nat) {GLack : List Nat} {vLack : Value} {xLack : List Int} (hLack : Γ[iLack]? = some (isF fr GLack vLack xLack)) (iHere : Nat) {GHere : List Nat} {vHere : Value} {xHere : List Int} (hHere : Γ[iHere]? = some (isF fr GHere vHere xHere)) (iOut : Nat) {GOut : List Nat} {vOut : Value} {xOut : List Int} (hOut : Γ[iOut]? = some (isF fr GOut vOut xOut)) (iInto : Nat) {GInto : List Nat} {vInto : Value} {xInto : List IntoD} (hInto : Γ[iInto]? = some (isF fr GInto vInto xInto)) (xMelts : Bool) :
    St W0 w ps (jo fr (F ++ (GNeed ++ GHave ++ GLack ++ GHere ++ GOut ++ GInto)) (xs ++ [.int .i64 xCell, .int .i64 xRank, vNeed, vHave, vLack, vHere, vOut, vInto, .bool xMelts]) (l ++ [⟨xCell, xRank, xNeed, xHave, xLack, xHere, xOut, xInto, xMelts⟩]) :: Γ) := by
  have hr : qM.rep w (GNeed ++ GHave ++ GLack ++ GHere ++ GOut ++ GInto) [.int .i64 xCell, .int .i64 xRank, vNeed, vHave, vLack, vHere, vOut, vInto, .bool xMelts] (⟨xCell, xRank, xNeed, xHave, xLack, xHere, xOut, xInto, xMelts⟩ : yB) := ⟨vNeed, vHave, vLack, vHere, vOut, vInto, GNeed, GHave, GLack, GHere, GOut, GInto, rfl, rfl, (H.get iNeed hNeed).1, (H.get iHave hHave).1, (H.get iLack hLack).1, (H.get iHere hHere).1, (H.get iOut hOut).1, (H.get iInto hInto).1⟩
  refine H.add _ ⟨yY (H.get i hf).1 (reps_one hr), fun e => ((H.get i hf).2 e).app ((((((((H.get iNeed hNeed).2 e).app ((H.get iHave hHave).2 e)).app ((H.get iLack hLack).2 e)).app ((H.get iHere hHere).2 e)).app ((H.get iOut hOut).2 e)).app ((H.get iInto hInto).2 e)))⟩ fun b hb => ?_
  rcases List.mem_append.1 hb with h | h
  · exact (H.facts _ (List.mem_of_getElem? hf)).2 b h
  · simp only [List.mem_append] at h
    rcases h with (((((h | h) | h) | h) | h) | h)
    · exact (H.facts _ (List.mem_of_getElem? hNeed)).2 b h
    · exact (H.facts _ (List.mem_of_getElem? hHave)).2 b h
    · exact (H.facts _ (List.mem_of_getElem? hLack)).2 b h
    · exact (H.facts _ (List.mem_of_getElem? hHere)).2 b h
    · exact (H.facts _ (List.mem_of_getElem? hOut)).2 b h
    · exact (H.facts _ (List.mem_of_getElem? hInto)).2 b h

structure qR where
  qF : Int
  qg : List Int
  qf : List yB
  deriving DecidableEq
instance : Inhabited qR := ⟨⟨0, [], []⟩⟩
instance : Tot qR := ⟨fun x => tot x.qg + tot x.qf⟩
theorem tot_SystemD (x : qR) : tot x = tot x.qg + tot x.qf := rfl

instance : qM qR where
  size := 3
  rep := fun w F cs x => ∃ (vParents vRules : Value) (yP FRules : List Nat), cs = [.int .i64 x.qF, vParents, vRules] ∧ F = yP ++ FRules ∧ qM.rep w yP [vParents] x.qg ∧ qM.rep w FRules [vRules] x.qf
  len := by rintro w F cs x ⟨vParents, vRules, yP, FRules, rfl, _, hParents, hRules⟩; rfl
  one := by
    rintro w F cs x ⟨vParents, vRules, yP, FRules, rfl, rfl, hParents, hRules⟩ u hu
    simp only [List.mem_cons, List.not_mem_nil, or_false] at hu
    rcases hu with rfl | rfl | rfl <;> first | rfl | exact one_of (by assumption)
  stay := by
    rintro w w' F cs x ⟨vParents, vRules, yP, FRules, rfl, rfl, hParents, hRules⟩ hs
    exact ⟨_, _, _, _, rfl, rfl, qM.stay hParents fun b hb => hs b (by simp [hb]), qM.stay hRules fun b hb => hs b (by simp [hb])⟩
  lt := by
    rintro w F cs x ⟨vParents, vRules, yP, FRules, rfl, rfl, hParents, hRules⟩ b hb
    simp only [List.mem_append] at hb
    rcases hb with (hb | hb)
    · exact qM.lt hParents b hb
    · exact qM.lt hRules b hb

def New_SystemD (w0 w : World) (v : Value) (x : qR) : Prop :=
  ∃ (aParents : Option Addr) (cParents : Nat) (yP : List Nat) (aRules : Option Addr) (cRules : Nat) (FRules : List Nat), v = .agg #[.int .i64 x.qF, .slice aParents x.qg.length cParents, .slice aRules x.qf.length cRules] ∧ qM.rep w yP [.slice aParents x.qg.length cParents] x.qg ∧ qM.rep w FRules [.slice aRules x.qf.length cRules] x.qf ∧ (∀ b ∈ (yP ++ FRules), w0.heap.size ≤ b) ∧ (yP ++ FRules).Nodup ∧ zL w (yP ++ FRules)
theorem St.add_SystemD {W0 w w' : World} {ps : List Prv} {Γ : List Fact} (H : St W0 w ps Γ) (e : Ext w w') {v : Value} {x : qR} (h : New_SystemD w w' v x) :
    ∃ (aParents : Option Addr) (cParents : Nat) (yP : List Nat) (aRules : Option Addr) (cRules : Nat) (FRules : List Nat), v = .agg #[.int .i64 x.qF, .slice aParents x.qg.length cParents, .slice aRules x.qf.length cRules] ∧ ((∀ b ∈ (yP ++ FRules), w.heap.size ≤ b) ∧ (yP ++ FRules).Nodup) ∧ St W0 w' ps (isF true yP (.slice aParents x.qg.length cParents) x.qg :: isF true FRules (.slice aRules x.qf.length cRules) x.qf :: Γ) := by
  obtain ⟨aParents, cParents, yP, aRules, cRules, FRules, rfl, hParents, hRules, hF, hd, hfr⟩ := h
  refine ⟨_, _, _, _, _, _, rfl, ⟨hF, hd⟩, ?_⟩
  exact (((H.ext e).add (isF true FRules _ x.qf) ⟨hRules, fun _ => hfr.sub (by intro b hb; simp [hb])⟩ (fun b hb => ⟨qM.lt hRules b hb, fun i hi => by have h1 := (jk H hi).2; have h2 := hF b (by have hb : b ∈ FRules := hb; simp [hb]); omega⟩)).add (isF true yP _ x.qg) ⟨hParents, fun _ => hfr.sub (by intro b hb; simp [hb])⟩ (fun b hb => ⟨qM.lt hParents b hb, fun i hi => by have h1 := (jk H hi).2; have h2 := hF b (by have hb : b ∈ yP := hb; simp [hb]); omega⟩))

structure xF where
  qy : List Bool
  qG : List (List Int)
  qB : List Int
  deriving DecidableEq
instance : Inhabited xF := ⟨⟨[], [], []⟩⟩
instance : Tot xF := ⟨fun x => tot x.qy + tot x.qG + tot x.qB⟩
theorem tot_StateD (x : xF) : tot x = tot x.qy + tot x.qG + tot x.qB := rfl

instance : qM xF where
  size := 3
  rep := fun w F cs x => ∃ (vAlive vBags vAround : Value) (FAlive FBags QA : List Nat), cs = [vAlive, vBags, vAround] ∧ F = FAlive ++ FBags ++ QA ∧ qM.rep w FAlive [vAlive] x.qy ∧ qM.rep w FBags [vBags] x.qG ∧ qM.rep w QA [vAround] x.qB
  len := by rintro w F cs x ⟨vAlive, vBags, vAround, FAlive, FBags, QA, rfl, _, hAlive, hBags, hAround⟩; rfl
  one := by
    rintro w F cs x ⟨vAlive, vBags, vAround, FAlive, FBags, QA, rfl, rfl, hAlive, hBags, hAround⟩ u hu
    simp only [List.mem_cons, List.not_mem_nil, or_false] at hu
    rcases hu with rfl | rfl | rfl <;> first | rfl | exact one_of (by assumption)
  stay := by
    rintro w w' F cs x ⟨vAlive, vBags, vAround, FAlive, FBags, QA, rfl, rfl, hAlive, hBags, hAround⟩ hs
    exact ⟨_, _, _, _, _, _, rfl, rfl, qM.stay hAlive fun b hb => hs b (by simp [hb]), qM.stay hBags fun b hb => hs b (by simp [hb]), qM.stay hAround fun b hb => hs b (by simp [hb])⟩
  lt := by
    rintro w F cs x ⟨vAlive, vBags, vAround, FAlive, FBags, QA, rfl, rfl, hAlive, hBags, hAround⟩ b hb
    simp only [List.mem_append] at hb
    rcases hb with ((hb | hb) | hb)
    · exact qM.lt hAlive b hb
    · exact qM.lt hBags b hb
    · exact qM.lt hAround b hb

def New_StateD (w0 w : World) (v : Value) (x : xF) : Prop :=
  ∃ (aAlive : Option Addr) (cAlive : Nat) (FAlive : List Nat) (aBags : Option Addr) (cBags : Nat) (FBags : List Nat) (aAround : Option Addr) (cAround : Nat) (QA : List Nat), v = .agg #[.slice aAlive x.qy.length cAlive, .slice aBags x.qG.length cBags, .slice aAround x.qB.length cAround] ∧ qM.rep w FAlive [.slice aAlive x.qy.length cAlive] x.qy ∧ qM.rep w FBags [.slice aBags x.qG.length cBags] x.qG ∧ qM.rep w QA [.slice aAround x.qB.length cAround] x.qB ∧ (∀ b ∈ (FAlive ++ FBags ++ QA), w0.heap.size ≤ b) ∧ (FAlive ++ FBags ++ QA).Nodup ∧ zL w (FAlive ++ FBags ++ QA)
theorem St.add_StateD {W0 w w' : World} {ps : List Prv} {Γ : List Fact} (H : St W0 w ps Γ) (e : Ext w w') {v : Value} {x : xF} (h : New_StateD w w' v x) :
    ∃ (aAlive : Option Addr) (cAlive : Nat) (FAlive : List Nat) (aBags : Option Addr) (cBags : Nat) (FBags : List Nat) (aAround : Option Addr) (cAround : Nat) (QA : List Nat), v = .agg #[.slice aAlive x.qy.length cAlive, .slice aBags x.qG.length cBags, .slice aAround x.qB.length cAround] ∧ ((∀ b ∈ (FAlive ++ FBags ++ QA), w.heap.size ≤ b) ∧ (FAlive ++ FBags ++ QA).Nodup) ∧ St W0 w' ps (isF true FAlive (.slice aAlive x.qy.length cAlive) x.qy :: isF true FBags (.slice aBags x.qG.length cBags) x.qG :: isF true QA (.slice aAround x.qB.length cAround) x.qB :: Γ) := by
  obtain ⟨aAlive, cAlive, FAlive, aBags, cBags, FBags, aAround, cAround, QA, rfl, hAlive, hBags, hAround, hF, hd, hfr⟩ := h
  refine ⟨_, _, _, _, _, _, _, _, _, rfl, ⟨hF, hd⟩, ?_⟩
  exact ((((H.ext e).add (isF true QA _ x.qB) ⟨hAround, fun _ => hfr.sub (by intro b hb; simp [hb])⟩ (fun b hb => ⟨qM.lt hAround b hb, fun i hi => by have h1 := (jk H hi).2; have h2 := hF b (by have hb : b ∈ QA := hb; simp [hb]); omega⟩)).add (isF true FBags _ x.qG) ⟨hBags, fun _ => hfr.sub (by intro b hb; simp [hb])⟩ (fun b hb => ⟨qM.lt hBags b hb, fun i hi => by have h1 := (jk H hi).2; have h2 := hF b (by have hb : b ∈ FBags := hb; simp [hb]); omega⟩)).add (isF true FAlive _ x.qy) ⟨hAlive, fun _ => hfr.sub (by intro b hb; simp [hb])⟩ (fun b hb => ⟨qM.lt hAlive b hb, fun i hi => by have h1 := (jk H hi).2; have h2 := hF b (by have hb : b ∈ FAlive := hb; simp [hb]); omega⟩))

end Go.Proofs.YtkmlihdacnfhdaaGreat
