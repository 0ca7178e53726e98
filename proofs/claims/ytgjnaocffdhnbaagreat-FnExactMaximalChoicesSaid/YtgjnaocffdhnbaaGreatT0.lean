/- Walks, printed by program (wip/tools/gv.py): what each function comes to, for all arguments. -/
import Derived.Test.YtgjnaocffdhnbaaGreatA
import Derived.Test.YtgjnaocffdhnbaaGreatP0
import Derived.Test.YtgjnaocffdhnbaaGreatI
import Derived.Test.YtgjnaocffdhnbaaGreatTI
namespace Go.Proofs.YtgjnaocffdhnbaaGreat
set_option linter.unusedVariables false
set_option linter.unusedSimpArgs false
open Go.Proofs.YtgjnaocffdhnbaaGreat.Tot (tot)
open Go.Proofs.YtgjnaocffdhnbaaGreat.Mark (cnt mrk mkd mkd_mark cnt_mark)
open Go.RowKit
set_option linter.unusedVariables false
set_option linter.unusedSimpArgs false
set_option maxRecDepth 100000
set_option maxHeartbeats 4000000


theorem slice_form {α : Type} [qE α] {w : World} {F : List Nat} {v : Value} {l : List α} (h : qE.rep w F [v] l) : ∃ a c, v = .slice a l.length c := by
  obtain ⟨a, c, hc, _⟩ := h
  simp only [List.cons.injEq, and_true] at hc
  exact ⟨a, c, hc⟩

theorem one_of {α : Type} [qE α] {w : World} {F : List Nat} {v : Value} {x : α} (h : qE.rep w F [v] x) : v.oneCell' = true := qE.one h v (List.mem_singleton.2 rfl)

theorem St.jo {α : Type} [qE α] {W0 w : World} {ps : List Prv} {Γ : List Fact} (H : St W0 w ps Γ) (i : Nat) {fr : Bool} {F : List Nat} {b o m c : Nat} {l : List (List α)} (hf : Γ[i]? = some (isF fr F (.slice (some ⟨b, o, none⟩) m c) l)) (iv : Int) (k : Nat) (hk : iv.toNat = k) (h0 : 0 ≤ iv) (h1 : iv < l.length) :
    ∃ (a' : Option Addr) (c' : Nat) (Fk : List Nat), St W0 w ps (isF fr Fk (.slice a' (l[k]!).length c') (l[k]!) :: atF b (o + iv.toNat * 1) [.slice a' (l[k]!).length c'] :: Γ) := by
  obtain ⟨cs, Fk, hc, hr, hsub⟩ := H.elem i hf iv h0 h1
  have hfr : fr = true → zl w Fk := fun e => ((H.get i hf).2 e).sub fun x hx => hsub x (List.mem_cons_of_mem _ hx)
  rw [hk] at hr
  obtain ⟨a', c', rfl, _⟩ := id hr
  exact ⟨a', c', Fk, (H.yL i hf (atF b (o + iv.toNat * 1) _) hc (fun x hx => hsub x (by simp only [atF, List.mem_singleton] at hx; subst hx; exact List.mem_cons_self ..))).yL (i + 1) hf (isF fr Fk _ _) ⟨hr, hfr⟩ (fun x hx => hsub x (List.mem_cons_of_mem _ hx))⟩

structure IntoD where
  qw : Int
  zZ : List Int
  deriving DecidableEq
instance : Inhabited IntoD := ⟨⟨0, []⟩⟩
instance : Tot IntoD := ⟨fun x => tot x.zZ⟩
theorem tot_IntoD (x : IntoD) : tot x = tot x.zZ := rfl

instance : qE IntoD where
  size := 2
  rep := fun w F cs x => ∃ (vBag : Value) (FBag : List Nat), cs = [.int .i64 x.qw, vBag] ∧ F = FBag ∧ qE.rep w FBag [vBag] x.zZ
  len := by rintro w F cs x ⟨vBag, FBag, rfl, _, hBag⟩; rfl
  one := by
    rintro w F cs x ⟨vBag, FBag, rfl, rfl, hBag⟩ u hu
    simp only [List.mem_cons, List.not_mem_nil, or_false] at hu
    rcases hu with rfl | rfl <;> first | rfl | exact one_of (by assumption)
  stay := by
    rintro w w' F cs x ⟨vBag, FBag, rfl, rfl, hBag⟩ hs
    exact ⟨_, _, rfl, rfl, qE.stay hBag fun b hb => hs b (by simp [hb])⟩
  lt := by
    rintro w F cs x ⟨vBag, FBag, rfl, rfl, hBag⟩ b hb
    exact qE.lt hBag b hb

theorem St.jC {W0 w : World} {ps : List Prv} {Γ : List Fact} (H : St W0 w ps Γ) (i : Nat) {fr : Bool} {F : List Nat} {b o m c : Nat} {l : List IntoD} (hf : Γ[i]? = some (isF fr F (.slice (some ⟨b, o, none⟩) m c) l)) (iv : Int) (k : Nat) (hk : iv.toNat = k) (h0 : 0 ≤ iv) (h1 : iv < l.length) :
    ∃ (aBag : Option Addr) (cBag : Nat) (FBag : List Nat), St W0 w ps (isF fr FBag (.slice aBag (l[k]!).zZ.length cBag) (l[k]!).zZ :: atF b (o + iv.toNat * 2) [.int .i64 (l[k]!).qw, .slice aBag (l[k]!).zZ.length cBag] :: Γ) := by
  obtain ⟨cs, Fk, hc, hr, hsub⟩ := H.elem i hf iv h0 h1
  have hfr : fr = true → zl w Fk := fun e => ((H.get i hf).2 e).sub fun x hx => hsub x (List.mem_cons_of_mem _ hx)
  rw [hk] at hr
  obtain ⟨vBag, FBag, rfl, hFF, hBag⟩ := hr
  obtain ⟨aBag, cBag, rfl⟩ := slice_form hBag
  exact ⟨_, _, _, ((H.yL i hf (atF b (o + iv.toNat * 2) [.int .i64 (l[k]!).qw, .slice aBag (l[k]!).zZ.length cBag]) hc (fun x hx => hsub x (by simp only [atF, List.mem_singleton] at hx; subst hx; exact List.mem_cons_self ..))).yL (i + 1) hf (isF fr FBag _ (l[k]!).zZ) ⟨hBag, fun e => (hfr e).sub (by rw [hFF]; intro x hx; simp [hx])⟩ (fun x hx => hsub x (List.mem_cons_of_mem _ (hFF.symm ▸ (by have hx : x ∈ FBag := hx; simp [hx])))))⟩

def New_IntoD (w0 w : World) (v : Value) (x : IntoD) : Prop :=
  ∃ (aBag : Option Addr) (cBag : Nat) (FBag : List Nat), v = .agg #[.int .i64 x.qw, .slice aBag x.zZ.length cBag] ∧ qE.rep w FBag [.slice aBag x.zZ.length cBag] x.zZ ∧ (∀ b ∈ (FBag), w0.heap.size ≤ b) ∧ (FBag).Nodup ∧ zl w (FBag)
theorem St.add_IntoD {W0 w w' : World} {ps : List Prv} {Γ : List Fact} (H : St W0 w ps Γ) (e : Ext w w') {v : Value} {x : IntoD} (h : New_IntoD w w' v x) :
    ∃ (aBag : Option Addr) (cBag : Nat) (FBag : List Nat), v = .agg #[.int .i64 x.qw, .slice aBag x.zZ.length cBag] ∧ ((∀ b ∈ (FBag), w.heap.size ≤ b) ∧ (FBag).Nodup) ∧ St W0 w' ps (isF true FBag (.slice aBag x.zZ.length cBag) x.zZ :: Γ) := by
  obtain ⟨aBag, cBag, FBag, rfl, hBag, hF, hd, hfr⟩ := h
  refine ⟨_, _, _, rfl, ⟨hF, hd⟩, ?_⟩
  exact ((H.ext e).add (isF true FBag _ x.zZ) ⟨hBag, fun _ => hfr.sub (by intro b hb; simp [hb])⟩ (fun b hb => ⟨qE.lt hBag b hb, fun i hi => by have h1 := (vK H hi).2; have h2 := hF b (by have hb : b ∈ FBag := hb; simp [hb]); omega⟩))

theorem St.snoc_IntoD {W0 w : World} {ps : List Prv} {Γ : List Fact} (H : St W0 w ps Γ) (i : Nat) {fr : Bool} {F : List Nat} {xs : List Value} {l : List IntoD} (hf : Γ[i]? = some (zn fr F xs l)) (xCell : Int) (iBag : Nat) {GBag : List Nat} {vBag : Value} {xBag : List Int} (hBag : Γ[iBag]? = some (isF fr GBag vBag xBag)) :
    St W0 w ps (zn fr (F ++ (GBag)) (xs ++ [.int .i64 xCell, vBag]) (l ++ [⟨xCell, xBag⟩]) :: Γ) := by
  have hr : qE.rep w (GBag) [.int .i64 xCell, vBag] (⟨xCell, xBag⟩ : IntoD) := ⟨vBag, GBag, rfl, rfl, (H.get iBag hBag).1⟩
  refine H.add _ ⟨yl (H.get i hf).1 (reps_one hr), fun e => ((H.get i hf).2 e).app (((H.get iBag hBag).2 e))⟩ fun b hb => ?_
  rcases List.mem_append.1 hb with h | h
  · exact (H.facts _ (List.mem_of_getElem? hf)).2 b h
  · exact (H.facts _ (List.mem_of_getElem? hBag)).2 b h

structure Qm where
  qw : Int
  xN : Int
  qO : List Int
  qX : List Int
  xe : List Int
  xm : List Int
  xZ : List Int
  qF : List IntoD
  xO : Bool
  deriving DecidableEq
instance : Inhabited Qm := ⟨⟨0, 0, [], [], [], [], [], [], false⟩⟩
instance : Tot Qm := ⟨fun x => tot x.qO + tot x.qX + tot x.xe + tot x.xm + tot x.xZ + tot x.qF⟩
theorem tot_RuleD (x : Qm) : tot x = tot x.qO + tot x.qX + tot x.xe + tot x.xm + tot x.xZ + tot x.qF := rfl

instance : qE Qm where
  size := 9
  rep := fun w F cs x => ∃ (vNeed vHave vLack vHere vOut vInto : Value) (XK XO XL XN FOut XM : List Nat), cs = [.int .i64 x.qw, .int .i64 x.xN, vNeed, vHave, vLack, vHere, vOut, vInto, .bool x.xO] ∧ F = XK ++ XO ++ XL ++ XN ++ FOut ++ XM ∧ qE.rep w XK [vNeed] x.qO ∧ qE.rep w XO [vHave] x.qX ∧ qE.rep w XL [vLack] x.xe ∧ qE.rep w XN [vHere] x.xm ∧ qE.rep w FOut [vOut] x.xZ ∧ qE.rep w XM [vInto] x.qF
  len := by rintro w F cs x ⟨vNeed, vHave, vLack, vHere, vOut, vInto, XK, XO, XL, XN, FOut, XM, rfl, _, hNeed, hHave, hLack, hHere, hOut, hInto⟩; rfl
  one := by
    rintro w F cs x ⟨vNeed, vHave, vLack, vHere, vOut, vInto, XK, XO, XL, XN, FOut, XM, rfl, rfl, hNeed, hHave, hLack, hHere, hOut, hInto⟩ u hu
    simp only [List.mem_cons, List.not_mem_nil, or_false] at hu
    rcases hu with rfl | rfl | rfl | rfl | rfl | rfl | rfl | rfl | rfl <;> first | rfl | exact one_of (by assumption)
  stay := by
    rintro w w' F cs x ⟨vNeed, vHave, vLack, vHere, vOut, vInto, XK, XO, XL, XN, FOut, XM, rfl, rfl, hNeed, hHave, hLack, hHere, hOut, hInto⟩ hs
    exact ⟨_, _, _, _, _, _, _, _, _, _, _, _, rfl, rfl, qE.stay hNeed fun b hb => hs b (by simp [hb]), qE.stay hHave fun b hb => hs b (by simp [hb]), qE.stay hLack fun b hb => hs b (by simp [hb]), qE.stay hHere fun b hb => hs b (by simp [hb]), qE.stay hOut fun b hb => hs b (by simp [hb]), qE.stay hInto fun b hb => hs b (by simp [hb])⟩
  lt := by
    rintro w F cs x ⟨vNeed, vHave, vLack, vHere, vOut, vInto, XK, XO, XL, XN, FOut, XM, rfl, rfl, hNeed, hHave, hLack, hHere, hOut, hInto⟩ b hb
    simp only [List.mem_append] at hb
    rcases hb with (((((hb | hb) | hb) | hb) | hb) | hb)
    · exact qE.lt hNeed b hb
    · exact qE.lt hHave b hb
    · exact qE.lt hLack b hb
    · exact qE.lt hHere b hb
    · exact qE.lt hOut b hb
    · exact qE.lt hInto b hb

theorem St.jK {W0 w : World} {ps : List Prv} {Γ : List Fact} (H : St W0 w ps Γ) (i : Nat) {fr : Bool} {F : List Nat} {b o m c : Nat} {l : List Qm} (hf : Γ[i]? = some (isF fr F (.slice (some ⟨b, o, none⟩) m c) l)) (iv : Int) (k : Nat) (hk : iv.toNat = k) (h0 : 0 ≤ iv) (h1 : iv < l.length) :
    ∃ (aNeed : Option Addr) (cNeed : Nat) (XK : List Nat) (aHave : Option Addr) (cHave : Nat) (XO : List Nat) (aLack : Option Addr) (cLack : Nat) (XL : List Nat) (aHere : Option Addr) (cHere : Nat) (XN : List Nat) (aOut : Option Addr) (cOut : Nat) (FOut : List Nat) (aInto : Option Addr) (cInto : Nat) (XM : List Nat), St W0 w ps (isF fr XK (.slice aNeed (l[k]!).qO.length cNeed) (l[k]!).qO :: isF fr XO (.slice aHave (l[k]!).qX.length cHave) (l[k]!).qX :: isF fr XL (.slice aLack (l[k]!).xe.length cLack) (l[k]!).xe :: isF fr XN (.slice aHere (l[k]!).xm.length cHere) (l[k]!).xm :: isF fr FOut (.slice aOut (l[k]!).xZ.length cOut) (l[k]!).xZ :: isF fr XM (.slice aInto (l[k]!).qF.length cInto) (l[k]!).qF :: atF b (o + iv.toNat * 9) [.int .i64 (l[k]!).qw, .int .i64 (l[k]!).xN, .slice aNeed (l[k]!).qO.length cNeed, .slice aHave (l[k]!).qX.length cHave, .slice aLack (l[k]!).xe.length cLack, .slice aHere (l[k]!).xm.length cHere, .slice aOut (l[k]!).xZ.length cOut, .slice aInto (l[k]!).qF.length cInto, .bool (l[k]!).xO] :: Γ) := by
  obtain ⟨cs, Fk, hc, hr, hsub⟩ := H.elem i hf iv h0 h1
  have hfr : fr = true → zl w Fk := fun e => ((H.get i hf).2 e).sub fun x hx => hsub x (List.mem_cons_of_mem _ hx)
  rw [hk] at hr
  obtain ⟨vNeed, vHave, vLack, vHere, vOut, vInto, XK, XO, XL, XN, FOut, XM, rfl, hFF, hNeed, hHave, hLack, hHere, hOut, hInto⟩ := hr
  obtain ⟨aNeed, cNeed, rfl⟩ := slice_form hNeed
  obtain ⟨aHave, cHave, rfl⟩ := slice_form hHave
  obtain ⟨aLack, cLack, rfl⟩ := slice_form hLack
  obtain ⟨aHere, cHere, rfl⟩ := slice_form hHere
  obtain ⟨aOut, cOut, rfl⟩ := slice_form hOut
  obtain ⟨aInto, cInto, rfl⟩ := slice_form hInto
  exact ⟨_, _, _, _, _, _, _, _, _, _, _, _, _, _, _, _, _, _, (((((((H.yL i hf (atF b (o + iv.toNat * 9) [.int .i64 (l[k]!).qw, .int .i64 (l[k]!).xN, .slice aNeed (l[k]!).qO.length cNeed, .slice aHave (l[k]!).qX.length cHave, .slice aLack (l[k]!).xe.length cLack, .slice aHere (l[k]!).xm.length cHere, .slice aOut (l[k]!).xZ.length cOut, .slice aInto (l[k]!).qF.length cInto, .bool (l[k]!).xO]) hc (fun x hx => hsub x (by simp only [atF, List.mem_singleton] at hx; subst hx; exact List.mem_cons_self ..))).yL (i + 1) hf (isF fr XM _ (l[k]!).qF) ⟨hInto, fun e => (hfr e).sub (by rw [hFF]; intro x hx; simp [hx])⟩ (fun x hx => hsub x (List.mem_cons_of_mem _ (hFF.symm ▸ (by have hx : x ∈ XM := hx; simp [hx]))))).yL (i + 2) hf (isF fr FOut _ (l[k]!).xZ) ⟨hOut, fun e => (hfr e).sub (by rw [hFF]; intro x hx; simp [hx])⟩ (fun x hx => hsub x (List.mem_cons_of_mem _ (hFF.symm ▸ (by have hx : x ∈ FOut := hx; simp [hx]))))).yL (i + 3) hf (isF fr XN _ (l[k]!).xm) ⟨hHere, fun e => (hfr e).sub (by rw [hFF]; intro x hx; simp [hx])⟩ (fun x hx => hsub x (List.mem_cons_of_mem _ (hFF.symm ▸ (by have hx : x ∈ XN := hx; simp [hx]))))).yL (i + 4) hf (isF fr XL _ (l[k]!).xe) ⟨hLack, fun e => (hfr e).sub (by rw [hFF]; intro x hx; simp [hx])⟩ (fun x hx => hsub x (List.mem_cons_of_mem _ (hFF.symm ▸ (by have hx : x ∈ XL := hx; simp [hx]))))).yL (i + 5) hf (isF fr XO _ (l[k]!).qX) ⟨hHave, fun e => (hfr e).sub (by rw [hFF]; intro x hx; simp [hx])⟩ (fun x hx => hsub x (List.mem_cons_of_mem _ (hFF.symm ▸ (by have hx : x ∈ XO := hx; simp [hx]))))).yL (i + 6) hf (isF fr XK _ (l[k]!).qO) ⟨hNeed, fun e => (hfr e).sub (by rw [hFF]; intro x hx; simp [hx])⟩ (fun x hx => hsub x (List.mem_cons_of_mem _ (hFF.symm ▸ (by have hx : x ∈ XK := hx; simp [hx])))))⟩

def New_RuleD (w0 w : World) (v : Value) (x : Qm) : Prop :=
  ∃ (aNeed : Option Addr) (cNeed : Nat) (XK : List Nat) (aHave : Option Addr) (cHave : Nat) (XO : List Nat) (aLack : Option Addr) (cLack : Nat) (XL : List Nat) (aHere : Option Addr) (cHere : Nat) (XN : List Nat) (aOut : Option Addr) (cOut : Nat) (FOut : List Nat) (aInto : Option Addr) (cInto : Nat) (XM : List Nat), v = .agg #[.int .i64 x.qw, .int .i64 x.xN, .slice aNeed x.qO.length cNeed, .slice aHave x.qX.length cHave, .slice aLack x.xe.length cLack, .slice aHere x.xm.length cHere, .slice aOut x.xZ.length cOut, .slice aInto x.qF.length cInto, .bool x.xO] ∧ qE.rep w XK [.slice aNeed x.qO.length cNeed] x.qO ∧ qE.rep w XO [.slice aHave x.qX.length cHave] x.qX ∧ qE.rep w XL [.slice aLack x.xe.length cLack] x.xe ∧ qE.rep w XN [.slice aHere x.xm.length cHere] x.xm ∧ qE.rep w FOut [.slice aOut x.xZ.length cOut] x.xZ ∧ qE.rep w XM [.slice aInto x.qF.length cInto] x.qF ∧ (∀ b ∈ (XK ++ XO ++ XL ++ XN ++ FOut ++ XM), w0.heap.size ≤ b) ∧ (XK ++ XO ++ XL ++ XN ++ FOut ++ XM).Nodup ∧ zl w (XK ++ XO ++ XL ++ XN ++ FOut ++ XM)
theorem St.add_RuleD {W0 w w' : World} {ps : List Prv} {Γ : List Fact} (H : St W0 w ps Γ) (e : Ext w w') {v : Value} {x : Qm} (h : New_RuleD w w' v x) :
    ∃ (aNeed : Option Addr) (cNeed : Nat) (XK : List Nat) (aHave : Option Addr) (cHave : Nat) (XO : List Nat) (aLack : Option Addr) (cLack : Nat) (XL : List Nat) (aHere : Option Addr) (cHere : Nat) (XN : List Nat) (aOut : Option Addr) (cOut : Nat) (FOut : List Nat) (aInto : Option Addr) (cInto : Nat) (XM : List Nat), v = .agg #[.int .i64 x.qw, .int .i64 x.xN, .slice aNeed x.qO.length cNeed, .slice aHave x.qX.length cHave, .slice aLack x.xe.length cLack, .slice aHere x.xm.length cHere, .slice aOut x.xZ.length cOut, .slice aInto x.qF.length cInto, .bool x.xO] ∧ ((∀ b ∈ (XK ++ XO ++ XL ++ XN ++ FOut ++ XM), w.heap.size ≤ b) ∧ (XK ++ XO ++ XL ++ XN ++ FOut ++ XM).Nodup) ∧ St W0 w' ps (isF true XK (.slice aNeed x.qO.length cNeed) x.qO :: isF true XO (.slice aHave x.qX.length cHave) x.qX :: isF true XL (.slice aLack x.xe.length cLack) x.xe :: isF true XN (.slice aHere x.xm.length cHere) x.xm :: isF true FOut (.slice aOut x.xZ.length cOut) x.xZ :: isF true XM (.slice aInto x.qF.length cInto) x.qF :: Γ) := by
  obtain ⟨aNeed, cNeed, XK, aHave, cHave, XO, aLack, cLack, XL, aHere, cHere, XN, aOut, cOut, FOut, aInto, cInto, XM, rfl, hNeed, hHave, hLack, hHere, hOut, hInto, hF, hd, hfr⟩ := h
  refine ⟨_, _, _, _, _, _, _, _, _, _, _, _, _, _, _, _, _, _, rfl, ⟨hF, hd⟩, ?_⟩
  exact (((((((H.ext e).add (isF true XM _ x.qF) ⟨hInto, fun _ => hfr.sub (by intro b hb; simp [hb])⟩ (fun b hb => ⟨qE.lt hInto b hb, fun i hi => by have h1 := (vK H hi).2; have h2 := hF b (by have hb : b ∈ XM := hb; simp [hb]); omega⟩)).add (isF true FOut _ x.xZ) ⟨hOut, fun _ => hfr.sub (by intro b hb; simp [hb])⟩ (fun b hb => ⟨qE.lt hOut b hb, fun i hi => by have h1 := (vK H hi).2; have h2 := hF b (by have hb : b ∈ FOut := hb; simp [hb]); omega⟩)).add (isF true XN _ x.xm) ⟨hHere, fun _ => hfr.sub (by intro b hb; simp [hb])⟩ (fun b hb => ⟨qE.lt hHere b hb, fun i hi => by have h1 := (vK H hi).2; have h2 := hF b (by have hb : b ∈ XN := hb; simp [hb]); omega⟩)).add (isF true XL _ x.xe) ⟨hLack, fun _ => hfr.sub (by intro b hb; simp [hb])⟩ (fun b hb => ⟨qE.lt hLack b hb, fun i hi => by have h1 := (vK H hi).2; have h2 := hF b (by have hb : b ∈ XL := hb; simp [hb]); omega⟩)).add (isF true XO _ x.qX) ⟨hHave, fun _ => hfr.sub (by intro b hb; simp [hb])⟩ (fun b hb => ⟨qE.lt hHave b hb, fun i hi => by have h1 := (vK H hi).2; have h2 := hF b (by have hb : b ∈ XO := hb; simp [hb]); omega⟩)).add (isF true XK _ x.qO) ⟨hNeed, fun _ => hfr.sub (by intro b hb; simp [hb])⟩ (fun b hb => ⟨qE.lt hNeed b hb, fun i hi => by have h1 := (vK H hi).2; have h2 := hF b (by have hb : b ∈ XK := hb; simp [hb]); omega⟩))

theorem St.snoc_RuleD {W0 w : World} {ps : List Prv} {Γ : List Fact} (H : St W0 w ps Γ) (i : Nat) {fr : Bool} {F : List Nat} {xs : List Value} {l : List Qm} (hf : Γ[i]? = some (zn fr F xs l)) (xCell : Int) (xRank : Int) (iNeed : Nat) {GNeed : List Nat} {vNeed : Value} {xNeed : List Int} (hNeed : Γ[iNeed]? = some (isF fr GNeed vNeed xNeed)) (iHave : Nat) {GHave : List Nat} {vHave : Value} {xHave : List Int} (hHave : Γ[iHave]? = some (isF fr GHave vHave xHave)) (iLack : Nat) {GLack : List Nat} {vLack : Value} {xLack : List Int} (hLack : Γ[iLack]? = some (isF fr GLack vLack xLack)) (iHere : Nat) {GHere : List Nat} {vHere : Value} {xHere : List Int} (hHere : Γ[iHere]? = some (isF fr GHere vHere xHere)) (iOut : Nat) {GOut : List Nat} {vOut : Value} {xOut : List Int} (hOut : Γ[iOut]? = some (isF fr GOut vOut xOut)) (iInto : Nat) {GInto : List Nat} {vInto : Value} {xInto : List IntoD} (hInto : Γ[iInto]? = some (isF fr GInto vInto xInto)) (xMelts : Bool) :
    St W0 w ps (zn fr (F ++ (GNeed ++ GHave ++ GLack ++ GHere ++ GOut ++ GInto)) (xs ++ [.int .i64 xCell, .int .i64 xRank, vNeed, vHave, vLack, vHere, vOut, vInto, .bool xMelts]) (l ++ [⟨xCell, xRank, xNeed, xHave, xLack, xHere, xOut, xInto, xMelts⟩]) :: Γ) := by
  have hr : qE.rep w (GNeed ++ GHave ++ GLack ++ GHere ++ GOut ++ GInto) [.int .i64 xCell, .int .i64 xRank, vNeed, vHave, vLack, vHere, vOut, vInto, .bool xMelts] (⟨xCell, xRank, xNeed, xHave, xLack, xHere, xOut, xInto, xMelts⟩ : Qm) := ⟨vNeed, vHave, vLack, vHere, vOut, vInto, GNeed, GHave, GLack, GHere, GOut, GInto, rfl, rfl, (H.get iNeed hNeed).1, (H.get iHave hHave).1, (H.get iLack hLack).1, (H.get iHere hHere).1, (H.get iOut hOut).1, (H.get iInto hInto).1⟩
  refine H.add _ ⟨yl (H.get i hf).1 (reps_one hr), fun e => ((H.get i hf).2 e).app ((((((((H.get iNeed hNeed).2 e).app ((H.get iHave hHave).2 e)).app ((H.get iLack hLack).2 e)).app ((H.get iHere hHere).2 e)).app ((H.get iOut hOut).2 e)).app ((H.get iInto hInto).2 e)))⟩ fun b hb => ?_
  rcases List.mem_append.1 hb with h | h
  · exact (H.facts _ (List.mem_of_getElem? hf)).2 b h
  · simp only [List.mem_append] at h
    rcases h with (((((h | h) | h) | h) | h) | h)
    · exact (H.facts _ (List.mem_of_getElem? hNeed)).2 b h
    · exact (H.facts _ (List.mem_of_getElem? hHave)).2 b h
    · exact (H.facts _ (List.mem_of_getElem? hLack)).2 b h
    · exact (H.facts _ (List.mem_of_getElem? hHere)).2 b h
    · exact (H.facts _ (List.mem_of_getElem? hOut)).2 b h
    · exact (H.facts _ (List.mem_of_getElem? hInto)).2 b h

structure qK where
  qH : Int
  qf : List Int
  qh : List Qm
  deriving DecidableEq
instance : Inhabited qK := ⟨⟨0, [], []⟩⟩
instance : Tot qK := ⟨fun x => tot x.qf + tot x.qh⟩
theorem tot_SystemD (x : qK) : tot x = tot x.qf + tot x.qh := rfl

instance : qE qK where
  size := 3
  rep := fun w F cs x => ∃ (vParents vRules : Value) (yu FRules : List Nat), cs = [.int .i64 x.qH, vParents, vRules] ∧ F = yu ++ FRules ∧ qE.rep w yu [vParents] x.qf ∧ qE.rep w FRules [vRules] x.qh
  len := by rintro w F cs x ⟨vParents, vRules, yu, FRules, rfl, _, hParents, hRules⟩; rfl
  one := by
    rintro w F cs x ⟨vParents, vRules, yu, FRules, rfl, rfl, hParents, hRules⟩ u hu
    simp only [List.mem_cons, List.not_mem_nil, or_false] at hu
    rcases hu with rfl | rfl | rfl <;> first | rfl | exact one_of (by assumption)
  stay := by
    rintro w w' F cs x ⟨vParents, vRules, yu, FRules, rfl, rfl, hParents, hRules⟩ hs
    exact ⟨_, _, _, _, rfl, rfl, qE.stay hParents fun b hb => hs b (by simp [hb]), qE.stay hRules fun b hb => hs b (by simp [hb])⟩
  lt := by
    rintro w F cs x ⟨vParents, vRules, yu, FRules, rfl, rfl, hParents, hRules⟩ b hb
    simp only [List.mem_append] at hb
    rcases hb with (hb | hb)
    · exact qE.lt hParents b hb
    · exact qE.lt hRules b hb

def New_SystemD (w0 w : World) (v : Value) (x : qK) : Prop :=
  ∃ (aParents : Option Addr) (cParents : Nat) (yu : List Nat) (aRules : Option Addr) (cRules : Nat) (FRules : List Nat), v = .agg #[.int .i64 x.qH, .slice aParents x.qf.length cParents, .slice aRules x.qh.length cRules] ∧ qE.rep w yu [.slice aParents x.qf.length cParents] x.qf ∧ qE.rep w FRules [.slice aRules x.qh.length cRules] x.qh ∧ (∀ b ∈ (yu ++ FRules), w0.heap.size ≤ b) ∧ (yu ++ FRules).Nodup ∧ zl w (yu ++ FRules)
theorem St.add_SystemD {W0 w w' : World} {ps : List Prv} {Γ : List Fact} (H : St W0 w ps Γ) (e : Ext w w') {v : Value} {x : qK} (h : New_SystemD w w' v x) :
    ∃ (aParents : Option Addr) (cParents : Nat) (yu : List Nat) (aRules : Option Addr) (cRules : Nat) (FRules : List Nat), v = .agg #[.int .i64 x.qH, .slice aParents x.qf.length cParents, .slice aRules x.qh.length cRules] ∧ ((∀ b ∈ (yu ++ FRules), w.heap.size ≤ b) ∧ (yu ++ FRules).Nodup) ∧ St W0 w' ps (isF true yu (.slice aParents x.qf.length cParents) x.qf :: isF true FRules (.slice aRules x.qh.length cRules) x.qh :: Γ) := by
  obtain ⟨aParents, cParents, yu, aRules, cRules, FRules, rfl, hParents, hRules, hF, hd, hfr⟩ := h
  refine ⟨_, _, _, _, _, _, rfl, ⟨hF, hd⟩, ?_⟩
  exact (((H.ext e).add (isF true FRules _ x.qh) ⟨hRules, fun _ => hfr.sub (by intro b hb; simp [hb])⟩ (fun b hb => ⟨qE.lt hRules b hb, fun i hi => by have h1 := (vK H hi).2; have h2 := hF b (by have hb : b ∈ FRules := hb; simp [hb]); omega⟩)).add (isF true yu _ x.qf) ⟨hParents, fun _ => hfr.sub (by intro b hb; simp [hb])⟩ (fun b hb => ⟨qE.lt hParents b hb, fun i hi => by have h1 := (vK H hi).2; have h2 := hF b (by have hb : b ∈ yu := hb; simp [hb]); omega⟩))

structure xu where
  qo : List Bool
  qy : List (List Int)
  qm : List Int
  deriving DecidableEq
instance : Inhabited xu := ⟨⟨[], [], []⟩⟩
instance : Tot xu := ⟨fun x => tot x.qo + tot x.qy + tot x.qm⟩
theorem tot_StateD (x : xu) : tot x = tot x.qo + tot x.qy + tot x.qm := rfl

instance : qE xu where
  size := 3
  rep := fun w F cs x => ∃ (vAlive vBags vAround : Value) (FAlive FBags QE : List Nat), cs = [vAlive, vBags, vAround] ∧ F = FAlive ++ FBags ++ QE ∧ qE.rep w FAlive [vAlive] x.qo ∧ qE.rep w FBags [vBags] x.qy ∧ qE.rep w QE [vAround] x.qm
  len := by rintro w F cs x ⟨vAlive, vBags, vAround, FAlive, FBags, QE, rfl, _, hAlive, hBags, hAround⟩; rfl
  one := by
    rintro w F cs x ⟨vAlive, vBags, vAround, FAlive, FBags, QE, rfl, rfl, hAlive, hBags, hAround⟩ u hu
    simp only [List.mem_cons, List.not_mem_nil, or_false] at hu
    rcases hu with rfl | rfl | rfl <;> first | rfl | exact one_of (by assumption)
  stay := by
    rintro w w' F cs x ⟨vAlive, vBags, vAround, FAlive, FBags, QE, rfl, rfl, hAlive, hBags, hAround⟩ hs
    exact ⟨_, _, _, _, _, _, rfl, rfl, qE.stay hAlive fun b hb => hs b (by simp [hb]), qE.stay hBags fun b hb => hs b (by simp [hb]), qE.stay hAround fun b hb => hs b (by simp [hb])⟩
  lt := by
    rintro w F cs x ⟨vAlive, vBags, vAround, FAlive, FBags, QE, rfl, rfl, hAlive, hBags, hAround⟩ b hb
    simp only [List.mem_append] at hb
    rcases hb with ((hb | hb) | hb)
    · exact qE.lt hAlive b hb
    · exact qE.lt hBags b hb
    · exact qE.lt hAround b hb

def New_StateD (w0 w : World) (v : Value) (x : xu) : Prop :=
  ∃ (aAlive : Option Addr) (cAlive : Nat) (FAlive : List Nat) (aBags : Option Addr) (cBags : Nat) (FBags : List Nat) (aAround : Option Addr) (cAround : Nat) (QE : List Nat), v = .agg #[.slice aAlive x.qo.length cAlive, .slice aBags x.qy.length cBags, .slice aAround x.qm.length cAround] ∧ qE.rep w FAlive [.slice aAlive x.qo.length cAlive] x.qo ∧ qE.rep w FBags [.slice aBags x.qy.length cBags] x.qy ∧ qE.rep w QE [.slice aAround x.qm.length cAround] x.qm ∧ (∀ b ∈ (FAlive ++ FBags ++ QE), w0.heap.size ≤ b) ∧ (FAlive ++ FBags ++ QE).Nodup ∧ zl w (FAlive ++ FBags ++ QE)
theorem St.add_StateD {W0 w w' : World} {ps : List Prv} {Γ : List Fact} (H : St W0 w ps Γ) (e : Ext w w') {v : Value} {x : xu} (h : New_StateD w w' v x) :
    ∃ (aAlive : Option Addr) (cAlive : Nat) (FAlive : List Nat) (aBags : Option Addr) (cBags : Nat) (FBags : List Nat) (aAround : Option Addr) (cAround : Nat) (QE : List Nat), v = .agg #[.slice aAlive x.qo.length cAlive, .slice aBags x.qy.length cBags, .slice aAround x.qm.length cAround] ∧ ((∀ b ∈ (FAlive ++ FBags ++ QE), w.heap.size ≤ b) ∧ (FAlive ++ FBags ++ QE).Nodup) ∧ St W0 w' ps (isF true FAlive (.slice aAlive x.qo.length cAlive) x.qo :: isF true FBags (.slice aBags x.qy.length cBags) x.qy :: isF true QE (.slice aAround x.qm.length cAround) x.qm :: Γ) := by
  obtain ⟨aAlive, cAlive, FAlive, aBags, cBags, FBags, aAround, cAround, QE, rfl, hAlive, hBags, hAround, hF, hd, hfr⟩ := h
  refine ⟨_, _, _, _, _, _, _, _, _, rfl, ⟨hF, hd⟩, ?_⟩
  exact ((((H.ext e).add (isF true QE _ x.qm) ⟨hAround, fun _ => hfr.sub (by intro b hb; simp [hb])⟩ (fun b hb => ⟨qE.lt hAround b hb, fun i hi => by have h1 := (vK H hi).2; have h2 := hF b (by have hb : b ∈ QE := hb; simp [hb]); omega⟩)).add (isF true FBags _ x.qy) ⟨hBags, fun _ => hfr.sub (by intro b hb; simp [hb])⟩ (fun b hb => ⟨qE.lt hBags b hb, fun i hi => by have h1 := (vK H hi).2; have h2 := hF b (by have hb : b ∈ FBags := hb; simp [hb]); omega⟩)).add (isF true FAlive _ x.qo) ⟨hAlive, fun _ => hfr.sub (by intro b hb; simp [hb])⟩ (fun b hb => ⟨qE.lt hAlive b hb, fun i hi => by have h1 := (vK H hi).2; have h2 := hF b (by have hb : b ∈ FAlive := hb; simp [hb]); omega⟩))

structure inCellD where
  frules : List Int
  fpackings : List (List Int)
  deriving DecidableEq
instance : Inhabited inCellD := ⟨⟨[], []⟩⟩
instance : Tot inCellD := ⟨fun x => tot x.frules + tot x.fpackings⟩
instance : qE inCellD where
  size := 2
  rep := fun w F cs x => ∃ (vrules vpackings : Value) (Frules Fpackings : List Nat), cs = [vrules, vpackings] ∧ F = Frules ++ Fpackings ∧ qE.rep w Frules [vrules] x.frules ∧ qE.rep w Fpackings [vpackings] x.fpackings
  len := by rintro w F cs x ⟨vrules, vpackings, Frules, Fpackings, rfl, _, hrules, hpackings⟩; rfl
  one := by
    rintro w F cs x ⟨vrules, vpackings, Frules, Fpackings, rfl, rfl, hrules, hpackings⟩ u hu
    simp only [List.mem_cons, List.not_mem_nil, or_false] at hu
    rcases hu with rfl | rfl <;> first | rfl | exact one_of (by assumption)
  stay := by
    rintro w w' F cs x ⟨vrules, vpackings, Frules, Fpackings, rfl, rfl, hrules, hpackings⟩ hs
    exact ⟨_, _, _, _, rfl, rfl, qE.stay hrules fun b hb => hs b (by simp [hb]), qE.stay hpackings fun b hb => hs b (by simp [hb])⟩
  lt := by
    rintro w F cs x ⟨vrules, vpackings, Frules, Fpackings, rfl, rfl, hrules, hpackings⟩ b hb
    simp only [List.mem_append] at hb
    rcases hb with (hb | hb)
    · exact qE.lt hrules b hb
    · exact qE.lt hpackings b hb

theorem St.elem_inCellD {W0 w : World} {ps : List Prv} {Γ : List Fact} (H : St W0 w ps Γ) (i : Nat) {fr : Bool} {F : List Nat} {b o m c : Nat} {l : List inCellD} (hf : Γ[i]? = some (isF fr F (.slice (some ⟨b, o, none⟩) m c) l)) (iv : Int) (k : Nat) (hk : iv.toNat = k) (h0 : 0 ≤ iv) (h1 : iv < l.length) :
    ∃ (arules : Option Addr) (crules : Nat) (Frules : List Nat) (apackings : Option Addr) (cpackings : Nat) (Fpackings : List Nat), St W0 w ps (isF fr Frules (.slice arules (l[k]!).frules.length crules) (l[k]!).frules :: isF fr Fpackings (.slice apackings (l[k]!).fpackings.length cpackings) (l[k]!).fpackings :: atF b (o + iv.toNat * 2) [.slice arules (l[k]!).frules.length crules, .slice apackings (l[k]!).fpackings.length cpackings] :: Γ) := by
  obtain ⟨cs, Fk, hc, hr, hsub⟩ := H.elem i hf iv h0 h1
  have hfr : fr = true → zl w Fk := fun e => ((H.get i hf).2 e).sub fun x hx => hsub x (List.mem_cons_of_mem _ hx)
  rw [hk] at hr
  obtain ⟨vrules, vpackings, Frules, Fpackings, rfl, hFF, hrules, hpackings⟩ := hr
  obtain ⟨arules, crules, rfl⟩ := slice_form hrules
  obtain ⟨apackings, cpackings, rfl⟩ := slice_form hpackings
  exact ⟨_, _, _, _, _, _, (((H.yL i hf (atF b (o + iv.toNat * 2) [.slice arules (l[k]!).frules.length crules, .slice apackings (l[k]!).fpackings.length cpackings]) hc (fun x hx => hsub x (by simp only [atF, List.mem_singleton] at hx; subst hx; exact List.mem_cons_self ..))).yL (i + 1) hf (isF fr Fpackings _ (l[k]!).fpackings) ⟨hpackings, fun e => (hfr e).sub (by rw [hFF]; intro x hx; simp [hx])⟩ (fun x hx => hsub x (List.mem_cons_of_mem _ (hFF.symm ▸ (by have hx : x ∈ Fpackings := hx; simp [hx]))))).yL (i + 2) hf (isF fr Frules _ (l[k]!).frules) ⟨hrules, fun e => (hfr e).sub (by rw [hFF]; intro x hx; simp [hx])⟩ (fun x hx => hsub x (List.mem_cons_of_mem _ (hFF.symm ▸ (by have hx : x ∈ Frules := hx; simp [hx])))))⟩

theorem St.snoc_inCellD {W0 w : World} {ps : List Prv} {Γ : List Fact} (H : St W0 w ps Γ) (i : Nat) {fr : Bool} {F : List Nat} {xs : List Value} {l : List inCellD} (hf : Γ[i]? = some (zn fr F xs l)) (irules : Nat) {Grules : List Nat} {vrules : Value} {xrules : List Int} (hrules : Γ[irules]? = some (isF fr Grules vrules xrules)) (ipackings : Nat) {Gpackings : List Nat} {vpackings : Value} {xpackings : List (List Int)} (hpackings : Γ[ipackings]? = some (isF fr Gpackings vpackings xpackings)) :
    St W0 w ps (zn fr (F ++ (Grules ++ Gpackings)) (xs ++ [vrules, vpackings]) (l ++ [⟨xrules, xpackings⟩]) :: Γ) := by
  have hr : qE.rep w (Grules ++ Gpackings) [vrules, vpackings] (⟨xrules, xpackings⟩ : inCellD) := ⟨vrules, vpackings, Grules, Gpackings, rfl, rfl, (H.get irules hrules).1, (H.get ipackings hpackings).1⟩
  refine H.add _ ⟨yl (H.get i hf).1 (reps_one hr), fun e => ((H.get i hf).2 e).app ((((H.get irules hrules).2 e).app ((H.get ipackings hpackings).2 e)))⟩ fun b hb => ?_
  rcases List.mem_append.1 hb with h | h
  · exact (H.facts _ (List.mem_of_getElem? hf)).2 b h
  · simp only [List.mem_append] at h
    rcases h with (h | h)
    · exact (H.facts _ (List.mem_of_getElem? hrules)).2 b h
    · exact (H.facts _ (List.mem_of_getElem? hpackings)).2 b h


end Go.Proofs.YtgjnaocffdhnbaaGreat
