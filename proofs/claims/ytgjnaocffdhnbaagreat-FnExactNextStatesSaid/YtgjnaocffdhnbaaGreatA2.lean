/- Walks and laws, printed by program and by hand: what each function comes to, for all arguments, part 2. -/
import Derived.Test.YtgjnaocffdhnbaaGreatA1
import Derived.Test.YtgjnaocffdhnbaaGreatRows
namespace Go.Proofs.YtgjnaocffdhnbaaGreat
set_option linter.unusedVariables false
set_option linter.unusedSimpArgs false
open Go.Proofs.YtgjnaocffdhnbaaGreat.Tot (tot)
open Go.Proofs.YtgjnaocffdhnbaaGreat.Mark (cnt mrk mkd mkd_mark cnt_mark)
section
open Go.RowKit
set_option linter.unusedVariables false
set_option linter.unusedSimpArgs false
set_option maxRecDepth 100000
set_option maxHeartbeats 4000000
theorem slice_form {α : Type} [qB α] {w : World} {F : List Nat} {v : Value} {l : List α} (h : qB.rep w F [v] l) : ∃ a c, v = .slice a l.length c := by
  obtain ⟨a, c, hc, _⟩ := h
  simp only [List.cons.injEq, and_true] at hc
  exact ⟨a, c, hc⟩

theorem one_of {α : Type} [qB α] {w : World} {F : List Nat} {v : Value} {x : α} (h : qB.rep w F [v] x) : v.oneCell' = true := qB.one h v (List.mem_singleton.2 rfl)

theorem St.zU {α : Type} [qB α] {W0 w : World} {ps : List Prv} {Γ : List Fact} (H : St W0 w ps Γ) (i : Nat) {fr : Bool} {F : List Nat} {b o m c : Nat} {l : List (List α)} (hf : Γ[i]? = some (isF fr F (.slice (some ⟨b, o, none⟩) m c) l)) (iv : Int) (k : Nat) (hk : iv.toNat = k) (h0 : 0 ≤ iv) (h1 : iv < l.length) :
    ∃ (a' : Option Addr) (c' : Nat) (Fk : List Nat), St W0 w ps (isF fr Fk (.slice a' (l[k]!).length c') (l[k]!) :: atF b (o + iv.toNat * 1) [.slice a' (l[k]!).length c'] :: Γ) := by
  obtain ⟨cs, Fk, hc, hr, hsub⟩ := H.elem i hf iv h0 h1
  have hfr : fr = true → zC w Fk := fun e => ((H.get i hf).2 e).sub fun x hx => hsub x (List.mem_cons_of_mem _ hx)
  rw [hk] at hr
  obtain ⟨a', c', rfl, _⟩ := id hr
  exact ⟨a', c', Fk, (H.yu i hf (atF b (o + iv.toNat * 1) _) hc (fun x hx => hsub x (by simp only [atF, List.mem_singleton] at hx; subst hx; exact List.mem_cons_self ..))).yu (i + 1) hf (isF fr Fk _ _) ⟨hr, hfr⟩ (fun x hx => hsub x (List.mem_cons_of_mem _ hx))⟩

structure IntoD where
  qp : Int
  vS : List Int
  deriving DecidableEq
instance : Inhabited IntoD := ⟨⟨0, []⟩⟩
instance : Tot IntoD := ⟨fun x => tot x.vS⟩
theorem tot_IntoD (x : IntoD) : tot x = tot x.vS := rfl

instance : qB IntoD where
  size := 2
  rep := fun w F cs x => ∃ (vBag : Value) (FBag : List Nat), cs = [.int .i64 x.qp, vBag] ∧ F = FBag ∧ qB.rep w FBag [vBag] x.vS
  len := by rintro w F cs x ⟨vBag, FBag, rfl, _, hBag⟩; rfl
  one := by
    rintro w F cs x ⟨vBag, FBag, rfl, rfl, hBag⟩ u hu
    simp only [List.mem_cons, List.not_mem_nil, or_false] at hu
    rcases hu with rfl | rfl <;> first | rfl | exact one_of (by assumption)
  stay := by
    rintro w w' F cs x ⟨vBag, FBag, rfl, rfl, hBag⟩ hs
    exact ⟨_, _, rfl, rfl, qB.stay hBag fun b hb => hs b (by simp [hb])⟩
  lt := by
    rintro w F cs x ⟨vBag, FBag, rfl, rfl, hBag⟩ b hb
    exact qB.lt hBag b hb

theorem St.jh {W0 w : World} {ps : List Prv} {Γ : List Fact} (H : St W0 w ps Γ) (i : Nat) {fr : Bool} {F : List Nat} {b o m c : Nat} {l : List IntoD} (hf : Γ[i]? = some (isF fr F (.slice (some ⟨b, o, none⟩) m c) l)) (iv : Int) (k : Nat) (hk : iv.toNat = k) (h0 : 0 ≤ iv) (h1 : iv < l.length) :
    ∃ (aBag : Option Addr) (cBag : Nat) (FBag : List Nat), St W0 w ps (isF fr FBag (.slice aBag (l[k]!).vS.length cBag) (l[k]!).vS :: atF b (o + iv.toNat * 2) [.int .i64 (l[k]!).qp, .slice aBag (l[k]!).vS.length cBag] :: Γ) := by
  obtain ⟨cs, Fk, hc, hr, hsub⟩ := H.elem i hf iv h0 h1
  have hfr : fr = true → zC w Fk := fun e => ((H.get i hf).2 e).sub fun x hx => hsub x (List.mem_cons_of_mem _ hx)
  rw [hk] at hr
  obtain ⟨vBag, FBag, rfl, hFF, hBag⟩ := hr
  obtain ⟨aBag, cBag, rfl⟩ := slice_form hBag
  exact ⟨_, _, _, ((H.yu i hf (atF b (o + iv.toNat * 2) [.int .i64 (l[k]!).qp, .slice aBag (l[k]!).vS.length cBag]) hc (fun x hx => hsub x (by simp only [atF, List.mem_singleton] at hx; subst hx; exact List.mem_cons_self ..))).yu (i + 1) hf (isF fr FBag _ (l[k]!).vS) ⟨hBag, fun e => (hfr e).sub (by rw [hFF]; intro x hx; simp [hx])⟩ (fun x hx => hsub x (List.mem_cons_of_mem _ (hFF.symm ▸ (by have hx : x ∈ FBag := hx; simp [hx])))))⟩

def New_IntoD (w0 w : World) (v : Value) (x : IntoD) : Prop :=
  ∃ (aBag : Option Addr) (cBag : Nat) (FBag : List Nat), v = .agg #[.int .i64 x.qp, .slice aBag x.vS.length cBag] ∧ qB.rep w FBag [.slice aBag x.vS.length cBag] x.vS ∧ (∀ b ∈ (FBag), w0.heap.size ≤ b) ∧ (FBag).Nodup ∧ zC w (FBag)
theorem St.add_IntoD {W0 w w' : World} {ps : List Prv} {Γ : List Fact} (H : St W0 w ps Γ) (e : Ext w w') {v : Value} {x : IntoD} (h : New_IntoD w w' v x) :
    ∃ (aBag : Option Addr) (cBag : Nat) (FBag : List Nat), v = .agg #[.int .i64 x.qp, .slice aBag x.vS.length cBag] ∧ ((∀ b ∈ (FBag), w.heap.size ≤ b) ∧ (FBag).Nodup) ∧ St W0 w' ps (isF true FBag (.slice aBag x.vS.length cBag) x.vS :: Γ) := by
  obtain ⟨aBag, cBag, FBag, rfl, hBag, hF, hd, hfr⟩ := h
  refine ⟨_, _, _, rfl, ⟨hF, hd⟩, ?_⟩
  exact ((H.ext e).add (isF true FBag _ x.vS) ⟨hBag, fun _ => hfr.sub (by intro b hb; simp [hb])⟩ (fun b hb => ⟨qB.lt hBag b hb, fun i hi => by have h1 := (jC H hi).2; have h2 := hF b (by have hb : b ∈ FBag := hb; simp [hb]); omega⟩))

theorem St.snoc_IntoD {W0 w : World} {ps : List Prv} {Γ : List Fact} (H : St W0 w ps Γ) (i : Nat) {fr : Bool} {F : List Nat} {xs : List Value} {l : List IntoD} (hf : Γ[i]? = some (xN fr F xs l)) (xCell : Int) (iBag : Nat) {GBag : List Nat} {vBag : Value} {xBag : List Int} (hBag : Γ[iBag]? = some (isF fr GBag vBag xBag)) :
    St W0 w ps (xN fr (F ++ (GBag)) (xs ++ [.int .i64 xCell, vBag]) (l ++ [⟨xCell, xBag⟩]) :: Γ) := by
  have hr : qB.rep w (GBag) [.int .i64 xCell, vBag] (⟨xCell, xBag⟩ : IntoD) := ⟨vBag, GBag, rfl, rfl, (H.get iBag hBag).1⟩
  refine H.add _ ⟨yL (H.get i hf).1 (reps_one hr), fun e => ((H.get i hf).2 e).app (((H.get iBag hBag).2 e))⟩ fun b hb => ?_
  rcases List.mem_append.1 hb with h | h
  · exact (H.facts _ (List.mem_of_getElem? hf)).2 b h
  · exact (H.facts _ (List.mem_of_getElem? hBag)).2 b h

structure Qr where
  qp : Int
  zg : Int
  qV : List Int
  xg : List Int
  xm : List Int
  xq : List Int
  zq : List Int
  qI : List IntoD
  xO : Bool
  deriving DecidableEq
instance : Inhabited Qr := ⟨⟨0, 0, [], [], [], [], [], [], false⟩⟩
instance : Tot Qr := ⟨fun x => tot x.qV + tot x.xg + tot x.xm + tot x.xq + tot x.zq + tot x.qI⟩
theorem tot_RuleD (x : Qr) : tot x = tot x.qV + tot x.xg + tot x.xm + tot x.xq + tot x.zq + tot x.qI := rfl

instance : qB Qr where
  size := 9
  rep := fun w F cs x => ∃ (vNeed vHave vLack vHere vOut vInto : Value) (Ya Ye Yb Yd FOut Yc : List Nat), cs = [.int .i64 x.qp, .int .i64 x.zg, vNeed, vHave, vLack, vHere, vOut, vInto, .bool x.xO] ∧ F = Ya ++ Ye ++ Yb ++ Yd ++ FOut ++ Yc ∧ qB.rep w Ya [vNeed] x.qV ∧ qB.rep w Ye [vHave] x.xg ∧ qB.rep w Yb [vLack] x.xm ∧ qB.rep w Yd [vHere] x.xq ∧ qB.rep w FOut [vOut] x.zq ∧ qB.rep w Yc [vInto] x.qI
  len := by rintro w F cs x ⟨vNeed, vHave, vLack, vHere, vOut, vInto, Ya, Ye, Yb, Yd, FOut, Yc, rfl, _, hNeed, hHave, hLack, hHere, hOut, hInto⟩; rfl
  one := by
    rintro w F cs x ⟨vNeed, vHave, vLack, vHere, vOut, vInto, Ya, Ye, Yb, Yd, FOut, Yc, rfl, rfl, hNeed, hHave, hLack, hHere, hOut, hInto⟩ u hu
    simp only [List.mem_cons, List.not_mem_nil, or_false] at hu
    rcases hu with rfl | rfl | rfl | rfl | rfl | rfl | rfl | rfl | rfl <;> first | rfl | exact one_of (by assumption)
  stay := by
    rintro w w' F cs x ⟨vNeed, vHave, vLack, vHere, vOut, vInto, Ya, Ye, Yb, Yd, FOut, Yc, rfl, rfl, hNeed, hHave, hLack, hHere, hOut, hInto⟩ hs
    exact ⟨_, _, _, _, _, _, _, _, _, _, _, _, rfl, rfl, qB.stay hNeed fun b hb => hs b (by simp [hb]), qB.stay hHave fun b hb => hs b (by simp [hb]), qB.stay hLack fun b hb => hs b (by simp [hb]), qB.stay hHere fun b hb => hs b (by simp [hb]), qB.stay hOut fun b hb => hs b (by simp [hb]), qB.stay hInto fun b hb => hs b (by simp [hb])⟩
  lt := by
    rintro w F cs x ⟨vNeed, vHave, vLack, vHere, vOut, vInto, Ya, Ye, Yb, Yd, FOut, Yc, rfl, rfl, hNeed, hHave, hLack, hHere, hOut, hInto⟩ b hb
    simp only [List.mem_append] at hb
    rcases hb with (((((hb | hb) | hb) | hb) | hb) | hb)
    · exact qB.lt hNeed b hb
    · exact qB.lt hHave b hb
    · exact qB.lt hLack b hb
    · exact qB.lt hHere b hb
    · exact qB.lt hOut b hb
    · exact qB.lt hInto b hb

theorem St.jy {W0 w : World} {ps : List Prv} {Γ : List Fact} (H : St W0 w ps Γ) (i : Nat) {fr : Bool} {F : List Nat} {b o m c : Nat} {l : List Qr} (hf : Γ[i]? = some (isF fr F (.slice (some ⟨b, o, none⟩) m c) l)) (iv : Int) (k : Nat) (hk : iv.toNat = k) (h0 : 0 ≤ iv) (h1 : iv < l.length) :
    ∃ (aNeed : Option Addr) (cNeed : Nat) (Ya : List Nat) (aHave : Option Addr) (cHave : Nat) (Ye : List Nat) (aLack : Option Addr) (cLack : Nat) (Yb : List Nat) (aHere : Option Addr) (cHere : Nat) (Yd : List Nat) (aOut : Option Addr) (cOut : Nat) (FOut : List Nat) (aInto : Option Addr) (cInto : Nat) (Yc : List Nat), St W0 w ps (isF fr Ya (.slice aNeed (l[k]!).qV.length cNeed) (l[k]!).qV :: isF fr Ye (.slice aHave (l[k]!).xg.length cHave) (l[k]!).xg :: isF fr Yb (.slice aLack (l[k]!).xm.length cLack) (l[k]!).xm :: isF fr Yd (.slice aHere (l[k]!).xq.length cHere) (l[k]!).xq :: isF fr FOut (.slice aOut (l[k]!).zq.length cOut) (l[k]!).zq :: isF fr Yc (.slice aInto (l[k]!).qI.length cInto) (l[k]!).qI :: atF b (o + iv.toNat * 9) [.int .i64 (l[k]!).qp, .int .i64 (l[k]!).zg, .slice aNeed (l[k]!).qV.length cNeed, .slice aHave (l[k]!).xg.length cHave, .slice aLack (l[k]!).xm.length cLack, .slice aHere (l[k]!).xq.length cHere, .slice aOut (l[k]!).zq.length cOut, .slice aInto (l[k]!).qI.length cInto, .bool (l[k]!).xO] :: Γ) := by
  obtain ⟨cs, Fk, hc, hr, hsub⟩ := H.elem i hf iv h0 h1
  have hfr : fr = true → zC w Fk := fun e => ((H.get i hf).2 e).sub fun x hx => hsub x (List.mem_cons_of_mem _ hx)
  rw [hk] at hr
  obtain ⟨vNeed, vHave, vLack, vHere, vOut, vInto, Ya, Ye, Yb, Yd, FOut, Yc, rfl, hFF, hNeed, hHave, hLack, hHere, hOut, hInto⟩ := hr
  obtain ⟨aNeed, cNeed, rfl⟩ := slice_form hNeed
  obtain ⟨aHave, cHave, rfl⟩ := slice_form hHave
  obtain ⟨aLack, cLack, rfl⟩ := slice_form hLack
  obtain ⟨aHere, cHere, rfl⟩ := slice_form hHere
  obtain ⟨aOut, cOut, rfl⟩ := slice_form hOut
  obtain ⟨aInto, cInto, rfl⟩ := slice_form hInto
  exact ⟨_, _, _, _, _, _, _, _, _, _, _, _, _, _, _, _, _, _, (((((((H.yu i hf (atF b (o + iv.toNat * 9) [.int .i64 (l[k]!).qp, .int .i64 (l[k]!).zg, .slice aNeed (l[k]!).qV.length cNeed, .slice aHave (l[k]!).xg.length cHave, .slice aLack (l[k]!).xm.length cLack, .slice aHere (l[k]!).xq.length cHere, .slice aOut (l[k]!).zq.length cOut, .slice aInto (l[k]!).qI.length cInto, .bool (l[k]!).xO]) hc (fun x hx => hsub x (by simp only [atF, List.mem_singleton] at hx; subst hx; exact List.mem_cons_self ..))).yu (i + 1) hf (isF fr Yc _ (l[k]!).qI) ⟨hInto, fun e => (hfr e).sub (by rw [hFF]; intro x hx; simp [hx])⟩ (fun x hx => hsub x (List.mem_cons_of_mem _ (hFF.symm ▸ (by have hx : x ∈ Yc := hx; simp [hx]))))).yu (i + 2) hf (isF fr FOut _ (l[k]!).zq) ⟨hOut, fun e => (hfr e).sub (by rw [hFF]; intro x hx; simp [hx])⟩ (fun x hx => hsub x (List.mem_cons_of_mem _ (hFF.symm ▸ (by have hx : x ∈ FOut := hx; simp [hx]))))).yu (i + 3) hf (isF fr Yd _ (l[k]!).xq) ⟨hHere, fun e => (hfr e).sub (by rw [hFF]; intro x hx; simp [hx])⟩ (fun x hx => hsub x (List.mem_cons_of_mem _ (hFF.symm ▸ (by have hx : x ∈ Yd := hx; simp [hx]))))).yu (i + 4) hf (isF fr Yb _ (l[k]!).xm) ⟨hLack, fun e => (hfr e).sub (by rw [hFF]; intro x hx; simp [hx])⟩ (fun x hx => hsub x (List.mem_cons_of_mem _ (hFF.symm ▸ (by have hx : x ∈ Yb := hx; simp [hx]))))).yu (i + 5) hf (isF fr Ye _ (l[k]!).xg) ⟨hHave, fun e => (hfr e).sub (by rw [hFF]; intro x hx; simp [hx])⟩ (fun x hx => hsub x (List.mem_cons_of_mem _ (hFF.symm ▸ (by have hx : x ∈ Ye := hx; simp [hx]))))).yu (i + 6) hf (isF fr Ya _ (l[k]!).qV) ⟨hNeed, fun e => (hfr e).sub (by rw [hFF]; intro x hx; simp [hx])⟩ (fun x hx => hsub x (List.mem_cons_of_mem _ (hFF.symm ▸ (by have hx : x ∈ Ya := hx; simp [hx])))))⟩

def New_RuleD (w0 w : World) (v : Value) (x : Qr) : Prop :=
  ∃ (aNeed : Option Addr) (cNeed : Nat) (Ya : List Nat) (aHave : Option Addr) (cHave : Nat) (Ye : List Nat) (aLack : Option Addr) (cLack : Nat) (Yb : List Nat) (aHere : Option Addr) (cHere : Nat) (Yd : List Nat) (aOut : Option Addr) (cOut : Nat) (FOut : List Nat) (aInto : Option Addr) (cInto : Nat) (Yc : List Nat), v = .agg #[.int .i64 x.qp, .int .i64 x.zg, .slice aNeed x.qV.length cNeed, .slice aHave x.xg.length cHave, .slice aLack x.xm.length cLack, .slice aHere x.xq.length cHere, .slice aOut x.zq.length cOut, .slice aInto x.qI.length cInto, .bool x.xO] ∧ qB.rep w Ya [.slice aNeed x.qV.length cNeed] x.qV ∧ qB.rep w Ye [.slice aHave x.xg.length cHave] x.xg ∧ qB.rep w Yb [.slice aLack x.xm.length cLack] x.xm ∧ qB.rep w Yd [.slice aHere x.xq.length cHere] x.xq ∧ qB.rep w FOut [.slice aOut x.zq.length cOut] x.zq ∧ qB.rep w Yc [.slice aInto x.qI.length cInto] x.qI ∧ (∀ b ∈ (Ya ++ Ye ++ Yb ++ Yd ++ FOut ++ Yc), w0.heap.size ≤ b) ∧ (Ya ++ Ye ++ Yb ++ Yd ++ FOut ++ Yc).Nodup ∧ zC w (Ya ++ Ye ++ Yb ++ Yd ++ FOut ++ Yc)
theorem St.add_RuleD {W0 w w' : World} {ps : List Prv} {Γ : List Fact} (H : St W0 w ps Γ) (e : Ext w w') {v : Value} {x : Qr} (h : New_RuleD w w' v x) :
    ∃ (aNeed : Option Addr) (cNeed : Nat) (Ya : List Nat) (aHave : Option Addr) (cHave : Nat) (Ye : List Nat) (aLack : Option Addr) (cLack : Nat) (Yb : List Nat) (aHere : Option Addr) (cHere : Nat) (Yd : List Nat) (aOut : Option Addr) (cOut : Nat) (FOut : List Nat) (aInto : Option Addr) (cInto : Nat) (Yc : List Nat), v = .agg #[.int .i64 x.qp, .int .i64 x.zg, .slice aNeed x.qV.length cNeed, .slice aHave x.xg.length cHave, .slice aLack x.xm.length cLack, .slice aHere x.xq.length cHere, .slice aOut x.zq.length cOut, .slice aInto x.qI.length cInto, .bool x.xO] ∧ ((∀ b ∈ (Ya ++ Ye ++ Yb ++ Yd ++ FOut ++ Yc), w.heap.size ≤ b) ∧ (Ya ++ Ye ++ Yb ++ Yd ++ FOut ++ Yc).Nodup) ∧ St W0 w' ps (isF true Ya (.slice aNeed x.qV.length cNeed) x.qV :: isF true Ye (.slice aHave x.xg.length cHave) x.xg :: isF true Yb (.slice aLack x.xm.length cLack) x.xm :: isF true Yd (.slice aHere x.xq.length cHere) x.xq :: isF true FOut (.slice aOut x.zq.length cOut) x.zq :: isF true Yc (.slice aInto x.qI.length cInto) x.qI :: Γ) := by
  obtain ⟨aNeed, cNeed, Ya, aHave, cHave, Ye, aLack, cLack, Yb, aHere, cHere, Yd, aOut, cOut, FOut, aInto, cInto, Yc, rfl, hNeed, hHave, hLack, hHere, hOut, hInto, hF, hd, hfr⟩ := h
  refine ⟨_, _, _, _, _, _, _, _, _, _, _, _, _, _, _, _, _, _, rfl, ⟨hF, hd⟩, ?_⟩
  exact (((((((H.ext e).add (isF true Yc _ x.qI) ⟨hInto, fun _ => hfr.sub (by intro b hb; simp [hb])⟩ (fun b hb => ⟨qB.lt hInto b hb, fun i hi => by have h1 := (jC H hi).2; have h2 := hF b (by have hb : b ∈ Yc := hb; simp [hb]); omega⟩)).add (isF true FOut _ x.zq) ⟨hOut, fun _ => hfr.sub (by intro b hb; simp [hb])⟩ (fun b hb => ⟨qB.lt hOut b hb, fun i hi => by have h1 := (jC H hi).2; have h2 := hF b (by have hb : b ∈ FOut := hb; simp [hb]); omega⟩)).add (isF true Yd _ x.xq) ⟨hHere, fun _ => hfr.sub (by intro b hb; simp [hb])⟩ (fun b hb => ⟨qB.lt hHere b hb, fun i hi => by have h1 := (jC H hi).2; have h2 := hF b (by have hb : b ∈ Yd := hb; simp [hb]); omega⟩)).add (isF true Yb _ x.xm) ⟨hLack, fun _ => hfr.sub (by intro b hb; simp [hb])⟩ (fun b hb => ⟨qB.lt hLack b hb, fun i hi => by have h1 := (jC H hi).2; have h2 := hF b (by have hb : b ∈ Yb := hb; simp [hb]); omega⟩)).add (isF true Ye _ x.xg) ⟨hHave, fun _ => hfr.sub (by intro b hb; simp [hb])⟩ (fun b hb => ⟨qB.lt hHave b hb, fun i hi => by have h1 := (jC H hi).2; have h2 := hF b (by have hb : b ∈ Ye := hb; simp [hb]); omega⟩)).add (isF true Ya _ x.qV) ⟨hNeed, fun _ => hfr.sub (by intro b hb; simp [hb])⟩ (fun b hb => ⟨qB.lt hNeed b hb, fun i hi => by have h1 := (jC H hi).2; have h2 := hF b (by have hb : b ∈ Ya := hb; simp [hb]); omega⟩))

theorem St.snoc_RuleD {W0 w : World} {ps : List Prv} {Γ : List Fact} (H : St W0 w ps Γ) (i : Nat) {fr : Bool} {F : List Nat} {xs : List Value} {l : List Qr} (hf : Γ[i]? = some (xN fr F xs l)) (xCell : Int) (xRank : Int) (iNeed : Nat) {GNeed : List Nat} {vNeed : Value} {xNeed : List Int} (hNeed : Γ[iNeed]? = some (isF fr GNeed vNeed xNeed)) (iHave : Nat) {GHave : List Nat} {vHave : Value} {xHave : List Int} (hHave : Γ[iHave]? = some (isF fr GHave vHave xHave)) (iLack : Nat) {GLack : List Nat} {vLack : Value} {xLack : List Int} (hLack : Γ[iLack]? = some (isF fr GLack vLack xLack)) (iHere : Nat) {GHere : List Nat} {vHere : Value} {xHere : List Int} (hHere : Γ[iHere]? = some (isF fr GHere vHere xHere)) (iOut : Nat) {GOut : List Nat} {vOut : Value} {xOut : List Int} (hOut : Γ[iOut]? = some (isF fr GOut vOut xOut)) (iInto : Nat) {GInto : List Nat} {vInto : Value} {xInto : List IntoD} (hInto : Γ[iInto]? = some (isF fr GInto vInto xInto)) (xMelts : Bool) :
    St W0 w ps (xN fr (F ++ (GNeed ++ GHave ++ GLack ++ GHere ++ GOut ++ GInto)) (xs ++ [.int .i64 xCell, .int .i64 xRank, vNeed, vHave, vLack, vHere, vOut, vInto, .bool xMelts]) (l ++ [⟨xCell, xRank, xNeed, xHave, xLack, xHere, xOut, xInto, xMelts⟩]) :: Γ) := by
  have hr : qB.rep w (GNeed ++ GHave ++ GLack ++ GHere ++ GOut ++ GInto) [.int .i64 xCell, .int .i64 xRank, vNeed, vHave, vLack, vHere, vOut, vInto, .bool xMelts] (⟨xCell, xRank, xNeed, xHave, xLack, xHere, xOut, xInto, xMelts⟩ : Qr) := ⟨vNeed, vHave, vLack, vHere, vOut, vInto, GNeed, GHave, GLack, GHere, GOut, GInto, rfl, rfl, (H.get iNeed hNeed).1, (H.get iHave hHave).1, (H.get iLack hLack).1, (H.get iHere hHere).1, (H.get iOut hOut).1, (H.get iInto hInto).1⟩
  refine H.add _ ⟨yL (H.get i hf).1 (reps_one hr), fun e => ((H.get i hf).2 e).app ((((((((H.get iNeed hNeed).2 e).app ((H.get iHave hHave).2 e)).app ((H.get iLack hLack).2 e)).app ((H.get iHere hHere).2 e)).app ((H.get iOut hOut).2 e)).app ((H.get iInto hInto).2 e)))⟩ fun b hb => ?_
  rcases List.mem_append.1 hb with h | h
  · exact (H.facts _ (List.mem_of_getElem? hf)).2 b h
  · simp only [List.mem_append] at h
    rcases h with (((((h | h) | h) | h) | h) | h)
    · exact (H.facts _ (List.mem_of_getElem? hNeed)).2 b h
    · exact (H.facts _ (List.mem_of_getElem? hHave)).2 b h
    · exact (H.facts _ (List.mem_of_getElem? hLack)).2 b h
    · exact (H.facts _ (List.mem_of_getElem? hHere)).2 b h
    · exact (H.facts _ (List.mem_of_getElem? hOut)).2 b h
    · exact (H.facts _ (List.mem_of_getElem? hInto)).2 b h

structure qy where
  qJ : Int
  qf : List Int
  qg : List Qr
  deriving DecidableEq
instance : Inhabited qy := ⟨⟨0, [], []⟩⟩
instance : Tot qy := ⟨fun x => tot x.qf + tot x.qg⟩
theorem tot_SystemD (x : qy) : tot x = tot x.qf + tot x.qg := rfl

instance : qB qy where
  size := 3
  rep := fun w F cs x => ∃ (vParents vRules : Value) (QA FRules : List Nat), cs = [.int .i64 x.qJ, vParents, vRules] ∧ F = QA ++ FRules ∧ qB.rep w QA [vParents] x.qf ∧ qB.rep w FRules [vRules] x.qg
  len := by rintro w F cs x ⟨vParents, vRules, QA, FRules, rfl, _, hParents, hRules⟩; rfl
  one := by
    rintro w F cs x ⟨vParents, vRules, QA, FRules, rfl, rfl, hParents, hRules⟩ u hu
    simp only [List.mem_cons, List.not_mem_nil, or_false] at hu
    rcases hu with rfl | rfl | rfl <;> first | rfl | exact one_of (by assumption)
  stay := by
    rintro w w' F cs x ⟨vParents, vRules, QA, FRules, rfl, rfl, hParents, hRules⟩ hs
    exact ⟨_, _, _, _, rfl, rfl, qB.stay hParents fun b hb => hs b (by simp [hb]), qB.stay hRules fun b hb => hs b (by simp [hb])⟩
  lt := by
    rintro w F cs x ⟨vParents, vRules, QA, FRules, rfl, rfl, hParents, hRules⟩ b hb
    simp only [List.mem_append] at hb
    rcases hb with (hb | hb)
    · exact qB.lt hParents b hb
    · exact qB.lt hRules b hb

def New_SystemD (w0 w : World) (v : Value) (x : qy) : Prop :=
  ∃ (aParents : Option Addr) (cParents : Nat) (QA : List Nat) (aRules : Option Addr) (cRules : Nat) (FRules : List Nat), v = .agg #[.int .i64 x.qJ, .slice aParents x.qf.length cParents, .slice aRules x.qg.length cRules] ∧ qB.rep w QA [.slice aParents x.qf.length cParents] x.qf ∧ qB.rep w FRules [.slice aRules x.qg.length cRules] x.qg ∧ (∀ b ∈ (QA ++ FRules), w0.heap.size ≤ b) ∧ (QA ++ FRules).Nodup ∧ zC w (QA ++ FRules)
theorem St.add_SystemD {W0 w w' : World} {ps : List Prv} {Γ : List Fact} (H : St W0 w ps Γ) (e : Ext w w') {v : Value} {x : qy} (h : New_SystemD w w' v x) :
    ∃ (aParents : Option Addr) (cParents : Nat) (QA : List Nat) (aRules : Option Addr) (cRules : Nat) (FRules : List Nat), v = .agg #[.int .i64 x.qJ, .slice aParents x.qf.length cParents, .slice aRules x.qg.length cRules] ∧ ((∀ b ∈ (QA ++ FRules), w.heap.size ≤ b) ∧ (QA ++ FRules).Nodup) ∧ St W0 w' ps (isF true QA (.slice aParents x.qf.length cParents) x.qf :: isF true FRules (.slice aRules x.qg.length cRules) x.qg :: Γ) := by
  obtain ⟨aParents, cParents, QA, aRules, cRules, FRules, rfl, hParents, hRules, hF, hd, hfr⟩ := h
  refine ⟨_, _, _, _, _, _, rfl, ⟨hF, hd⟩, ?_⟩
  exact (((H.ext e).add (isF true FRules _ x.qg) ⟨hRules, fun _ => hfr.sub (by intro b hb; simp [hb])⟩ (fun b hb => ⟨qB.lt hRules b hb, fun i hi => by have h1 := (jC H hi).2; have h2 := hF b (by have hb : b ∈ FRules := hb; simp [hb]); omega⟩)).add (isF true QA _ x.qf) ⟨hParents, fun _ => hfr.sub (by intro b hb; simp [hb])⟩ (fun b hb => ⟨qB.lt hParents b hb, fun i hi => by have h1 := (jC H hi).2; have h2 := hF b (by have hb : b ∈ QA := hb; simp [hb]); omega⟩))

structure qE where
  qh : List Bool
  ql : List (List Int)
  qj : List Int
  deriving DecidableEq
instance : Inhabited qE := ⟨⟨[], [], []⟩⟩
instance : Tot qE := ⟨fun x => tot x.qh + tot x.ql + tot x.qj⟩
theorem tot_StateD (x : qE) : tot x = tot x.qh + tot x.ql + tot x.qj := rfl

instance : qB qE where
  size := 3
  rep := fun w F cs x => ∃ (vAlive vBags vAround : Value) (QB Yf yw : List Nat), cs = [vAlive, vBags, vAround] ∧ F = QB ++ Yf ++ yw ∧ qB.rep w QB [vAlive] x.qh ∧ qB.rep w Yf [vBags] x.ql ∧ qB.rep w yw [vAround] x.qj
  len := by rintro w F cs x ⟨vAlive, vBags, vAround, QB, Yf, yw, rfl, _, hAlive, hBags, Xr⟩; rfl
  one := by
    rintro w F cs x ⟨vAlive, vBags, vAround, QB, Yf, yw, rfl, rfl, hAlive, hBags, Xr⟩ u hu
    simp only [List.mem_cons, List.not_mem_nil, or_false] at hu
    rcases hu with rfl | rfl | rfl <;> first | rfl | exact one_of (by assumption)
  stay := by
    rintro w w' F cs x ⟨vAlive, vBags, vAround, QB, Yf, yw, rfl, rfl, hAlive, hBags, Xr⟩ hs
    exact ⟨_, _, _, _, _, _, rfl, rfl, qB.stay hAlive fun b hb => hs b (by simp [hb]), qB.stay hBags fun b hb => hs b (by simp [hb]), qB.stay Xr fun b hb => hs b (by simp [hb])⟩
  lt := by
    rintro w F cs x ⟨vAlive, vBags, vAround, QB, Yf, yw, rfl, rfl, hAlive, hBags, Xr⟩ b hb
    simp only [List.mem_append] at hb
    rcases hb with ((hb | hb) | hb)
    · exact qB.lt hAlive b hb
    · exact qB.lt hBags b hb
    · exact qB.lt Xr b hb

theorem St.elem_StateD {W0 w : World} {ps : List Prv} {Γ : List Fact} (H : St W0 w ps Γ) (i : Nat) {fr : Bool} {F : List Nat} {b o m c : Nat} {l : List qE} (hf : Γ[i]? = some (isF fr F (.slice (some ⟨b, o, none⟩) m c) l)) (iv : Int) (k : Nat) (hk : iv.toNat = k) (h0 : 0 ≤ iv) (h1 : iv < l.length) :
    ∃ (aAlive : Option Addr) (cAlive : Nat) (QB : List Nat) (aBags : Option Addr) (cBags : Nat) (Yf : List Nat) (Vd : Option Addr) (Vb : Nat) (yw : List Nat), St W0 w ps (isF fr QB (.slice aAlive (l[k]!).qh.length cAlive) (l[k]!).qh :: isF fr Yf (.slice aBags (l[k]!).ql.length cBags) (l[k]!).ql :: isF fr yw (.slice Vd (l[k]!).qj.length Vb) (l[k]!).qj :: atF b (o + iv.toNat * 3) [.slice aAlive (l[k]!).qh.length cAlive, .slice aBags (l[k]!).ql.length cBags, .slice Vd (l[k]!).qj.length Vb] :: Γ) := by
  obtain ⟨cs, Fk, hc, hr, hsub⟩ := H.elem i hf iv h0 h1
  have hfr : fr = true → zC w Fk := fun e => ((H.get i hf).2 e).sub fun x hx => hsub x (List.mem_cons_of_mem _ hx)
  rw [hk] at hr
  obtain ⟨vAlive, vBags, vAround, QB, Yf, yw, rfl, hFF, hAlive, hBags, Xr⟩ := hr
  obtain ⟨aAlive, cAlive, rfl⟩ := slice_form hAlive
  obtain ⟨aBags, cBags, rfl⟩ := slice_form hBags
  obtain ⟨Vd, Vb, rfl⟩ := slice_form Xr
  exact ⟨_, _, _, _, _, _, _, _, _, ((((H.yu i hf (atF b (o + iv.toNat * 3) [.slice aAlive (l[k]!).qh.length cAlive, .slice aBags (l[k]!).ql.length cBags, .slice Vd (l[k]!).qj.length Vb]) hc (fun x hx => hsub x (by simp only [atF, List.mem_singleton] at hx; subst hx; exact List.mem_cons_self ..))).yu (i + 1) hf (isF fr yw _ (l[k]!).qj) ⟨Xr, fun e => (hfr e).sub (by rw [hFF]; intro x hx; simp [hx])⟩ (fun x hx => hsub x (List.mem_cons_of_mem _ (hFF.symm ▸ (by have hx : x ∈ yw := hx; simp [hx]))))).yu (i + 2) hf (isF fr Yf _ (l[k]!).ql) ⟨hBags, fun e => (hfr e).sub (by rw [hFF]; intro x hx; simp [hx])⟩ (fun x hx => hsub x (List.mem_cons_of_mem _ (hFF.symm ▸ (by have hx : x ∈ Yf := hx; simp [hx]))))).yu (i + 3) hf (isF fr QB _ (l[k]!).qh) ⟨hAlive, fun e => (hfr e).sub (by rw [hFF]; intro x hx; simp [hx])⟩ (fun x hx => hsub x (List.mem_cons_of_mem _ (hFF.symm ▸ (by have hx : x ∈ QB := hx; simp [hx])))))⟩

def New_StateD (w0 w : World) (v : Value) (x : qE) : Prop :=
  ∃ (aAlive : Option Addr) (cAlive : Nat) (QB : List Nat) (aBags : Option Addr) (cBags : Nat) (Yf : List Nat) (Vd : Option Addr) (Vb : Nat) (yw : List Nat), v = .agg #[.slice aAlive x.qh.length cAlive, .slice aBags x.ql.length cBags, .slice Vd x.qj.length Vb] ∧ qB.rep w QB [.slice aAlive x.qh.length cAlive] x.qh ∧ qB.rep w Yf [.slice aBags x.ql.length cBags] x.ql ∧ qB.rep w yw [.slice Vd x.qj.length Vb] x.qj ∧ (∀ b ∈ (QB ++ Yf ++ yw), w0.heap.size ≤ b) ∧ (QB ++ Yf ++ yw).Nodup ∧ zC w (QB ++ Yf ++ yw)
theorem St.add_StateD {W0 w w' : World} {ps : List Prv} {Γ : List Fact} (H : St W0 w ps Γ) (e : Ext w w') {v : Value} {x : qE} (h : New_StateD w w' v x) :
    ∃ (aAlive : Option Addr) (cAlive : Nat) (QB : List Nat) (aBags : Option Addr) (cBags : Nat) (Yf : List Nat) (Vd : Option Addr) (Vb : Nat) (yw : List Nat), v = .agg #[.slice aAlive x.qh.length cAlive, .slice aBags x.ql.length cBags, .slice Vd x.qj.length Vb] ∧ ((∀ b ∈ (QB ++ Yf ++ yw), w.heap.size ≤ b) ∧ (QB ++ Yf ++ yw).Nodup) ∧ St W0 w' ps (isF true QB (.slice aAlive x.qh.length cAlive) x.qh :: isF true Yf (.slice aBags x.ql.length cBags) x.ql :: isF true yw (.slice Vd x.qj.length Vb) x.qj :: Γ) := by
  obtain ⟨aAlive, cAlive, QB, aBags, cBags, Yf, Vd, Vb, yw, rfl, hAlive, hBags, Xr, hF, hd, hfr⟩ := h
  refine ⟨_, _, _, _, _, _, _, _, _, rfl, ⟨hF, hd⟩, ?_⟩
  exact ((((H.ext e).add (isF true yw _ x.qj) ⟨Xr, fun _ => hfr.sub (by intro b hb; simp [hb])⟩ (fun b hb => ⟨qB.lt Xr b hb, fun i hi => by have h1 := (jC H hi).2; have h2 := hF b (by have hb : b ∈ yw := hb; simp [hb]); omega⟩)).add (isF true Yf _ x.ql) ⟨hBags, fun _ => hfr.sub (by intro b hb; simp [hb])⟩ (fun b hb => ⟨qB.lt hBags b hb, fun i hi => by have h1 := (jC H hi).2; have h2 := hF b (by have hb : b ∈ Yf := hb; simp [hb]); omega⟩)).add (isF true QB _ x.qh) ⟨hAlive, fun _ => hfr.sub (by intro b hb; simp [hb])⟩ (fun b hb => ⟨qB.lt hAlive b hb, fun i hi => by have h1 := (jC H hi).2; have h2 := hF b (by have hb : b ∈ QB := hb; simp [hb]); omega⟩))

theorem St.snoc_StateD {W0 w : World} {ps : List Prv} {Γ : List Fact} (H : St W0 w ps Γ) (i : Nat) {fr : Bool} {F : List Nat} {xs : List Value} {l : List qE} (hf : Γ[i]? = some (xN fr F xs l)) (iAlive : Nat) {GAlive : List Nat} {vAlive : Value} {xAlive : List Bool} (hAlive : Γ[iAlive]? = some (isF fr GAlive vAlive xAlive)) (iBags : Nat) {GBags : List Nat} {vBags : Value} {xBags : List (List Int)} (hBags : Γ[iBags]? = some (isF fr GBags vBags xBags)) (iAround : Nat) {GAround : List Nat} {vAround : Value} {xAround : List Int} (Xr : Γ[iAround]? = some (isF fr GAround vAround xAround)) :
    St W0 w ps (xN fr (F ++ (GAlive ++ GBags ++ GAround)) (xs ++ [vAlive, vBags, vAround]) (l ++ [⟨xAlive, xBags, xAround⟩]) :: Γ) := by
  have hr : qB.rep w (GAlive ++ GBags ++ GAround) [vAlive, vBags, vAround] (⟨xAlive, xBags, xAround⟩ : qE) := ⟨vAlive, vBags, vAround, GAlive, GBags, GAround, rfl, rfl, (H.get iAlive hAlive).1, (H.get iBags hBags).1, (H.get iAround Xr).1⟩
  refine H.add _ ⟨yL (H.get i hf).1 (reps_one hr), fun e => ((H.get i hf).2 e).app (((((H.get iAlive hAlive).2 e).app ((H.get iBags hBags).2 e)).app ((H.get iAround Xr).2 e)))⟩ fun b hb => ?_
  rcases List.mem_append.1 hb with h | h
  · exact (H.facts _ (List.mem_of_getElem? hf)).2 b h
  · simp only [List.mem_append] at h
    rcases h with ((h | h) | h)
    · exact (H.facts _ (List.mem_of_getElem? hAlive)).2 b h
    · exact (H.facts _ (List.mem_of_getElem? hBags)).2 b h
    · exact (H.facts _ (List.mem_of_getElem? Xr)).2 b h

structure inCellD where
  frules : List Int
  fpackings : List (List Int)
  deriving DecidableEq
instance : Inhabited inCellD := ⟨⟨[], []⟩⟩
instance : Tot inCellD := ⟨fun x => tot x.frules + tot x.fpackings⟩
instance : qB inCellD where
  size := 2
  rep := fun w F cs x => ∃ (vrules vpackings : Value) (Frules Fpackings : List Nat), cs = [vrules, vpackings] ∧ F = Frules ++ Fpackings ∧ qB.rep w Frules [vrules] x.frules ∧ qB.rep w Fpackings [vpackings] x.fpackings
  len := by rintro w F cs x ⟨vrules, vpackings, Frules, Fpackings, rfl, _, hrules, hpackings⟩; rfl
  one := by
    rintro w F cs x ⟨vrules, vpackings, Frules, Fpackings, rfl, rfl, hrules, hpackings⟩ u hu
    simp only [List.mem_cons, List.not_mem_nil, or_false] at hu
    rcases hu with rfl | rfl <;> first | rfl | exact one_of (by assumption)
  stay := by
    rintro w w' F cs x ⟨vrules, vpackings, Frules, Fpackings, rfl, rfl, hrules, hpackings⟩ hs
    exact ⟨_, _, _, _, rfl, rfl, qB.stay hrules fun b hb => hs b (by simp [hb]), qB.stay hpackings fun b hb => hs b (by simp [hb])⟩
  lt := by
    rintro w F cs x ⟨vrules, vpackings, Frules, Fpackings, rfl, rfl, hrules, hpackings⟩ b hb
    simp only [List.mem_append] at hb
    rcases hb with (hb | hb)
    · exact qB.lt hrules b hb
    · exact qB.lt hpackings b hb

theorem St.elem_inCellD {W0 w : World} {ps : List Prv} {Γ : List Fact} (H : St W0 w ps Γ) (i : Nat) {fr : Bool} {F : List Nat} {b o m c : Nat} {l : List inCellD} (hf : Γ[i]? = some (isF fr F (.slice (some ⟨b, o, none⟩) m c) l)) (iv : Int) (k : Nat) (hk : iv.toNat = k) (h0 : 0 ≤ iv) (h1 : iv < l.length) :
    ∃ (arules : Option Addr) (crules : Nat) (Frules : List Nat) (apackings : Option Addr) (cpackings : Nat) (Fpackings : List Nat), St W0 w ps (isF fr Frules (.slice arules (l[k]!).frules.length crules) (l[k]!).frules :: isF fr Fpackings (.slice apackings (l[k]!).fpackings.length cpackings) (l[k]!).fpackings :: atF b (o + iv.toNat * 2) [.slice arules (l[k]!).frules.length crules, .slice apackings (l[k]!).fpackings.length cpackings] :: Γ) := by
  obtain ⟨cs, Fk, hc, hr, hsub⟩ := H.elem i hf iv h0 h1
  have hfr : fr = true → zC w Fk := fun e => ((H.get i hf).2 e).sub fun x hx => hsub x (List.mem_cons_of_mem _ hx)
  rw [hk] at hr
  obtain ⟨vrules, vpackings, Frules, Fpackings, rfl, hFF, hrules, hpackings⟩ := hr
  obtain ⟨arules, crules, rfl⟩ := slice_form hrules
  obtain ⟨apackings, cpackings, rfl⟩ := slice_form hpackings
  exact ⟨_, _, _, _, _, _, (((H.yu i hf (atF b (o + iv.toNat * 2) [.slice arules (l[k]!).frules.length crules, .slice apackings (l[k]!).fpackings.length cpackings]) hc (fun x hx => hsub x (by simp only [atF, List.mem_singleton] at hx; subst hx; exact List.mem_cons_self ..))).yu (i + 1) hf (isF fr Fpackings _ (l[k]!).fpackings) ⟨hpackings, fun e => (hfr e).sub (by rw [hFF]; intro x hx; simp [hx])⟩ (fun x hx => hsub x (List.mem_cons_of_mem _ (hFF.symm ▸ (by have hx : x ∈ Fpackings := hx; simp [hx]))))).yu (i + 2) hf (isF fr Frules _ (l[k]!).frules) ⟨hrules, fun e => (hfr e).sub (by rw [hFF]; intro x hx; simp [hx])⟩ (fun x hx => hsub x (List.mem_cons_of_mem _ (hFF.symm ▸ (by have hx : x ∈ Frules := hx; simp [hx])))))⟩

theorem St.snoc_inCellD {W0 w : World} {ps : List Prv} {Γ : List Fact} (H : St W0 w ps Γ) (i : Nat) {fr : Bool} {F : List Nat} {xs : List Value} {l : List inCellD} (hf : Γ[i]? = some (xN fr F xs l)) (irules : Nat) {Grules : List Nat} {vrules : Value} {xrules : List Int} (hrules : Γ[irules]? = some (isF fr Grules vrules xrules)) (ipackings : Nat) {Gpackings : List Nat} {vpackings : Value} {xpackings : List (List Int)} (hpackings : Γ[ipackings]? = some (isF fr Gpackings vpackings xpackings)) :
    St W0 w ps (xN fr (F ++ (Grules ++ Gpackings)) (xs ++ [vrules, vpackings]) (l ++ [⟨xrules, xpackings⟩]) :: Γ) := by
  have hr : qB.rep w (Grules ++ Gpackings) [vrules, vpackings] (⟨xrules, xpackings⟩ : inCellD) := ⟨vrules, vpackings, Grules, Gpackings, rfl, rfl, (H.get irules hrules).1, (H.get ipackings hpackings).1⟩
  refine H.add _ ⟨yL (H.get i hf).1 (reps_one hr), fun e => ((H.get i hf).2 e).app ((((H.get irules hrules).2 e).app ((H.get ipackings hpackings).2 e)))⟩ fun b hb => ?_
  rcases List.mem_append.1 hb with h | h
  · exact (H.facts _ (List.mem_of_getElem? hf)).2 b h
  · simp only [List.mem_append] at h
    rcases h with (h | h)
    · exact (H.facts _ (List.mem_of_getElem? hrules)).2 b h
    · exact (H.facts _ (List.mem_of_getElem? hpackings)).2 b h
end
section

def FrameTo (s : qy) (k : Nat) : Prop := ∀ c, 1 ≤ c → c < k → 0 ≤ s.qf[c]! ∧ s.qf[c]! ≤ (c : Int) - 1
theorem FrameTo.one (s : qy) : FrameTo s 1 := fun c h1 h2 => by omega
theorem FrameTo.succ {s : qy} {k : Nat} (h : FrameTo s k) (h1 : 0 ≤ s.qf[k]! ∧ s.qf[k]! ≤ (k : Int) - 1) : FrameTo s (k + 1) := fun c hc hk => by
  by_cases e : c = k
  · subst e; exact h1
  · exact h c hc (by omega)
def jg (s : qy) : Prop := (1 ≤ s.qJ ∧ s.qJ ≤ 8) ∧ (1 ≤ s.qf.length ∧ s.qf.length ≤ 6) ∧ s.qf[0]! = -1 ∧ FrameTo s s.qf.length
theorem jg.up {s : qy} (h : jg s) {c : Int} (h0 : 0 < c) (h1 : c ≤ (s.qf.length : Int) - 1) : 0 ≤ s.qf[c.toNat]! ∧ s.qf[c.toNat]! < c := by
  have := h.2.2.2 c.toNat (by omega) (by omega)
  omega
inductive Lies (p : List Int) (o : Int) : Int → Prop where
  | here {c : Int} : 0 < c → p[c.toNat]! = o → Lies p o c
  | up {c : Int} : 0 < c → Lies p o (p[c.toNat]!) → Lies p o c
theorem lies_iff {p : List Int} {o c : Int} : Lies p o c ↔ 0 < c ∧ (p[c.toNat]! = o ∨ Lies p o (p[c.toNat]!)) := by
  constructor
  · rintro (⟨h, e⟩ | ⟨h, e⟩)
    · exact ⟨h, .inl e⟩
    · exact ⟨h, .inr e⟩
  · rintro ⟨h, e | e⟩
    · exact .here h e
    · exact .up h e

abbrev CellIn (s : qy) (c : Int) : Prop := 0 ≤ c ∧ c ≤ (s.qf.length : Int) - 1
def IntoOk (s : qy) (r : Qr) (j : Nat) : Prop :=
  CellIn s (r.qI[j]!).qp ∧ Lies s.qf r.qp (r.qI[j]!).qp ∧ zB s.qJ (r.qI[j]!).vS ∧ X4 (r.qI[j]!).vS ≠ 0 ∧ (0 < j → (r.qI[j - 1]!).qp < (r.qI[j]!).qp)
def IntosTo (s : qy) (r : Qr) (k : Nat) : Prop := ∀ j, j < k → IntoOk s r j
theorem IntosTo.succ {s : qy} {r : Qr} {k : Nat} (h : IntosTo s r k) (h1 : IntoOk s r k) : IntosTo s r (k + 1) := fun j hj => by
  by_cases e : j = k
  · subst e; exact h1
  · exact h j (by omega)
def RuleOk (s : qy) (r : Qr) : Prop :=
  CellIn s r.qp ∧ (0 ≤ r.zg ∧ r.zg ≤ 9) ∧ ¬ (r.xO = true ∧ r.qp = 0) ∧ r.qI.length ≤ 3 ∧
    zB s.qJ r.qV ∧ zB s.qJ r.xg ∧ zB s.qJ r.xm ∧ zB s.qJ r.xq ∧ zB s.qJ r.zq ∧ X4 r.qV ≠ 0 ∧ IntosTo s r r.qI.length
def Ve (rs : List Qr) (c : Int) : Nat → Int
  | 0 => 0
  | k + 1 => Ve rs c k + if (rs[k]!).qp = c then 1 else 0
def RulesTo (s : qy) (k : Nat) : Prop := ∀ j, j < k → RuleOk s (s.qg[j]!) ∧ Ve s.qg (s.qg[j]!).qp (j + 1) ≤ 8
theorem RulesTo.succ {s : qy} {k : Nat} (h : RulesTo s k) (h1 : RuleOk s (s.qg[k]!)) (h2 : Ve s.qg (s.qg[k]!).qp (k + 1) ≤ 8) : RulesTo s (k + 1) := fun j hj => by
  by_cases e : j = k
  · subst e; exact ⟨h1, h2⟩
  · exact h j (by omega)
def jG (s : qy) : Prop := jg s ∧ s.qg.length ≤ 16 ∧ RulesTo s s.qg.length
def BagsTo (s : qy) (t : qE) (k : Nat) : Prop := ∀ c, c < k → zB s.qJ (t.ql[c]!) ∧ (t.qh[c]! = false → X4 (t.ql[c]!) ≤ 0)
theorem BagsTo.succ {s : qy} {t : qE} {k : Nat} (h : BagsTo s t k) (h1 : zB s.qJ (t.ql[k]!)) (h2 : t.qh[k]! = false → X4 (t.ql[k]!) ≤ 0) : BagsTo s t (k + 1) := fun j hj => by
  by_cases e : j = k
  · subst e; exact ⟨h1, h2⟩
  · exact h j (by omega)
def zt (s : qy) (t : qE) : Prop :=
  t.qh.length = s.qf.length ∧ t.ql.length = s.qf.length ∧ t.qh[0]! = true ∧ zB s.qJ t.qj ∧ BagsTo s t t.ql.length
theorem jg.step {s : qy} (h : jg s) {c : Int} (h0 : 0 ≤ c) (h1 : c ≤ (s.qf.length : Int) - 1) : -1 ≤ s.qf[c.toNat]! ∧ s.qf[c.toNat]! < c := by
  rcases Int.lt_or_eq_of_le h0 with h2 | h2
  · have := h.up h2 h1; omega
  · subst h2
    have := h.2.2.1
    simp only [Int.toNat_zero]
    omega
def climb (p : List Int) (alive : List Bool) : Nat → Int → Int
  | 0, c => c
  | n + 1, c => if 0 ≤ c ∧ alive[c.toNat]! = false then climb p alive n (p[c.toNat]!) else c
theorem climb_go {p : List Int} {alive : List Bool} {n : Nat} {c : Int} (hn : c < n) (h0 : 0 ≤ c) (h : alive[c.toNat]! = false) : climb p alive n c = climb p alive (n - 1) (p[c.toNat]!) := by
  obtain ⟨m, rfl⟩ : ∃ m, n = m + 1 := ⟨n - 1, by omega⟩
  rw [climb, if_pos ⟨h0, h⟩]; rfl
theorem climb_end {p : List Int} {alive : List Bool} {n : Nat} {c : Int} (h : ¬ (0 ≤ c ∧ alive[c.toNat]! = false)) : climb p alive n c = c := by
  cases n with
  | zero => rfl
  | succ m => rw [climb, if_neg h]
def xe (s : qy) (t : qE) (c : Int) : Int := climb s.qf t.qh s.qf.length (s.qf[c.toNat]!)
theorem ofCell_bd (rs : List Qr) (c : Int) : ∀ k, 0 ≤ Ve rs c k ∧ Ve rs c k ≤ k
  | 0 => by simp [Ve]
  | k + 1 => by
    have := ofCell_bd rs c k
    simp only [Ve]
    split <;> omega
def counts (s : qy) (k : Nat) : List Int := (List.range s.qf.length).map fun c : Nat => Ve s.qg (c : Int) k
theorem counts_len (s : qy) (k : Nat) : (counts s k).length = s.qf.length := by simp [counts]
theorem counts_zero (s : qy) : List.replicate s.qf.length (0 : Int) = counts s 0 := by
  apply List.ext_getElem
  · simp [counts]
  · intro i h1 h2; simp [counts, Ve]
theorem V5 {s : qy} {k : Nat} {c : Int} (h : CellIn s c) : (counts s k)[c.toNat]! = Ve s.qg c k := by
  rw [getElem!_pos _ _ (by rw [counts_len]; omega)]
  simp only [counts, List.getElem_map, List.getElem_range]
  rw [show ((c.toNat : Nat) : Int) = c by omega]
theorem counts_succ {s : qy} {k : Nat} (h : CellIn s (s.qg[k]!).qp) :
    (counts s k).set (s.qg[k]!).qp.toNat ((counts s k)[(s.qg[k]!).qp.toNat]! + 1) = counts s (k + 1) := by
  rw [V5 h]
  apply List.ext_getElem
  · simp [counts]
  · intro i h1 h2
    rw [List.getElem_set]
    simp only [counts, List.getElem_map, List.getElem_range, Ve]
    by_cases e : (s.qg[k]!).qp.toNat = i
    · subst e
      rw [if_pos rfl, if_pos (by omega), show (((s.qg[k]!).qp.toNat : Nat) : Int) = (s.qg[k]!).qp by omega]
    · rw [if_neg e, if_neg (by omega)]; omega
theorem climb_in {s : qy} {t : qE} (hs : jg s) (h0 : t.qh[0]! = true) : ∀ (n : Nat) (c : Int), 0 ≤ c → c < n → c ≤ (s.qf.length : Int) - 1 →
    0 ≤ climb s.qf t.qh n c ∧ climb s.qf t.qh n c ≤ c ∧ t.qh[(climb s.qf t.qh n c).toNat]! = true
  | 0, c, h1, h2, h3 => by omega
  | n + 1, c, h1, h2, h3 => by
    rw [climb]
    by_cases ha : 0 ≤ c ∧ t.qh[c.toNat]! = false
    · rw [if_pos ha]
      have hc : 0 < c := by
        rcases Int.lt_or_eq_of_le h1 with h | h
        · exact h
        · rw [← h] at ha; simp [h0] at ha
      have hu := hs.up hc h3
      have := climb_in hs h0 n (s.qf[c.toNat]!) hu.1 (by omega) (by omega)
      exact ⟨this.1, by omega, this.2.2⟩
    · rw [if_neg ha]
      refine ⟨h1, Int.le_refl _, ?_⟩
      cases hx : t.qh[c.toNat]! with
      | true => rfl
      | false => exact absurd ⟨h1, hx⟩ ha
theorem VZ {s : qy} {t : qE} (hs : jg s) (h0 : t.qh[0]! = true) {c : Int} (h1 : 0 < c) (h2 : c ≤ (s.qf.length : Int) - 1) : 0 ≤ xe s t c ∧ xe s t c < c ∧ t.qh[(xe s t c).toNat]! = true := by
  have hu := hs.up h1 h2
  have := climb_in hs h0 s.qf.length (s.qf[c.toNat]!) hu.1 (by omega) (by omega)
  exact ⟨this.1, by have := this.2.1; unfold xe; omega, this.2.2⟩

def melted (s : qy) (t : qE) (c : Int) : qE :=
  ⟨t.qh.set c.toNat false, (t.ql.set (xe s t c).toNat (vk (t.ql[(xe s t c).toNat]!) (t.ql[c.toNat]!) 1)).set c.toNat (List.replicate s.qJ.toNat 0), t.qj⟩
open Classical in
noncomputable def told (s : qy) (t : qE) : qE × Int := if zt s t then (t, 0) else (default, 3)
theorem told_yes {s : qy} {t : qE} (h : zt s t) : told s t = (t, 0) := by rw [told, if_pos h]
theorem told_no {s : qy} {t : qE} (h : ¬ zt s t) : told s t = (default, 3) := by rw [told, if_neg h]
theorem zt.bagLen {s : qy} {t : qE} (h : zt s t) {k : Nat} (hk : k < t.ql.length) : zB s.qJ (t.ql[k]!) := (h.2.2.2.2 k hk).1
theorem bagOk_smallT {n : Int} {l : List Int} (h : zB n l) {t : Int} (ht : -1000000 ≤ t ∧ t ≤ 1000000) : SmallT l t := fun k hk => by
  have := h.1.1 k hk
  constructor
  · have h1 : -(1000000 * 1000) ≤ t * l[k]! := by
      rcases Int.le_total 0 t with h0 | h0
      · have := Int.mul_nonneg h0 this.1; omega
      · have h2 := Int.mul_le_mul_of_nonneg_left this.2 (show 0 ≤ -t by omega)
        have h3 : -t * l[k]! = -(t * l[k]!) := Int.neg_mul ..
        have h4 : -t * 1000 ≤ 1000000 * 1000 := by omega
        omega
    omega
  · have h1 : t * l[k]! ≤ 1000000 * 1000 := by
      rcases Int.le_total 0 t with h0 | h0
      · have h2 := Int.mul_le_mul_of_nonneg_left this.2 h0
        omega
      · have h2 := Int.mul_nonneg (show 0 ≤ -t by omega) this.1
        have h3 : -t * l[k]! = -(t * l[k]!) := Int.neg_mul ..
        omega
    omega
theorem zt.sizes {s : qy} {t : qE} (hs : jg s) (h : zt s t) : t.qh.length ≤ 6 ∧ t.qj.length ≤ 8 ∧ t.ql.length ≤ 6 ∧ ∀ k, k < t.ql.length → (t.ql[k]!).length ≤ 8 :=
  ⟨by have := h.1; have := hs.2.1; omega, h.2.2.2.1.1.2.2, by have := h.2.1; have := hs.2.1; omega, fun k hk => (h.bagLen hk).1.2.2⟩
theorem zt.add {s : qy} {t : qE} (h : zt s t) {j k : Nat} (hj : j < t.ql.length) (hk : k < t.ql.length) : (t.ql[j]!).length ≤ (t.ql[k]!).length ∧ Mid (t.ql[j]!) ∧ SmallT (t.ql[k]!) 1 := by
  have h1 := h.bagLen hj
  have h2 := h.bagLen hk
  exact ⟨by have := h1.2; have := h2.2; omega, (zL h1).mid, bagOk_smallT h2 (by omega)⟩
theorem drop_get {l : List Int} {k : Nat} (h : k + 1 < l.length) : (l.drop 1)[k]! = l[k + 1]! := by
  rw [getElem!_pos (l.drop 1) k (by rw [List.length_drop]; omega), getElem!_pos l (k + 1) h]
  simp [Nat.add_comm]
theorem lies_up {s : qy} (hs : jg s) {c o : Int} (hc : CellIn s c) : Lies s.qf o c ↔ 0 ≤ s.qf[c.toNat]! ∧ (s.qf[c.toNat]! = o ∨ Lies s.qf o (s.qf[c.toNat]!)) := by
  rw [lies_iff]
  rcases Int.lt_or_eq_of_le hc.1 with h | h
  · have := hs.up h hc.2
    constructor
    · rintro ⟨_, h1⟩; exact ⟨this.1, h1⟩
    · rintro ⟨_, h1⟩; exact ⟨h, h1⟩
  · subst h
    have := hs.2.2.1
    simp only [Int.toNat_zero] at *
    constructor
    · rintro ⟨h1, _⟩; omega
    · rintro ⟨h1, _⟩; omega
def counts6 (s : qy) (k : Nat) : List Int := (List.range 6).map fun c : Nat => Ve s.qg (c : Int) k
theorem counts6_len (s : qy) (k : Nat) : (counts6 s k).length = 6 := by simp [counts6]
theorem counts6_zero (s : qy) : ([0, 0, 0, 0, 0, 0] : List Int) = counts6 s 0 := by simp [counts6, List.range_succ, Ve]
theorem VV {s : qy} {k : Nat} {c : Int} (h : 0 ≤ c) (h1 : c ≤ 5) : (counts6 s k)[c.toNat]! = Ve s.qg c k := by
  rw [getElem!_pos _ _ (by rw [counts6_len]; omega)]
  simp only [counts6, List.getElem_map, List.getElem_range]
  rw [show ((c.toNat : Nat) : Int) = c by omega]
theorem counts6_succ {s : qy} {k : Nat} (h : 0 ≤ (s.qg[k]!).qp) (h1 : (s.qg[k]!).qp ≤ 5) :
    (counts6 s k).set (s.qg[k]!).qp.toNat ((counts6 s k)[(s.qg[k]!).qp.toNat]! + 1) = counts6 s (k + 1) := by
  rw [VV h h1]
  apply List.ext_getElem
  · simp [counts6]
  · intro i h1 h2
    rw [List.getElem_set]
    simp only [counts6, List.getElem_map, List.getElem_range, Ve]
    by_cases e : (s.qg[k]!).qp.toNat = i
    · subst e
      rw [if_pos rfl, if_pos (by omega), show (((s.qg[k]!).qp.toNat : Nat) : Int) = (s.qg[k]!).qp by omega]
    · rw [if_neg e, if_neg (by omega)]; omega
theorem sum_nonneg {l : List Int} (h : X6 l) : 0 ≤ X4 l := by
  have : ∀ k, k ≤ l.length → 0 ≤ sumTo l k := fun k => by
    induction k with
    | zero => intro _; exact Int.le_refl _
    | succ k ih => intro hk; have := ih (by omega); have := h.1 k (by omega); simp only [sumTo]; omega
  exact this _ (Nat.le_refl _)
end
section
open Go.RowKit
set_option linter.unusedVariables false
set_option linter.unusedSimpArgs false
set_option maxRecDepth 100000
set_option maxHeartbeats 4000000
variable {al am ax axBag Vr Vw Vs Vu axOut Vt vC yE jV Qy vY ay : Option Addr} {cl cm cx cxBag Vf Vk Vg Vj cxOut Vh vz yC jU Qx vX cy : Nat} {Fl Fm Fx FxBag FxNeed FxHave FxLack FxHere FxOut FxInto yF Xi Q4 V6 Qb Fy : List Nat}
theorem V4 (w : World) (n : Int) (lo : Int) (hi : Int) : Calls Tryz.prog 78 #[.int .i64 n, .int .i64 lo, .int .i64 hi] w (Ret (fun v w' => v = .bool (inR n lo hi)) w) := by
 refine en Tryz.func78 Tryz.ntmps78 ?_
 have H := St.start w
 refine zcr (sp (.bool false) (zjc (sps [.int .i64 n, .int .i64 lo, .bool (decide ((n : Int) ≥ lo)), .bool (decide ((n : Int) ≥ lo))] ?_)))
 cases h1 : (decide ((n : Int) ≥ lo))
 ·skip
  replace h1 := of_decide_eq_false h1
  refine xJ [11, 12, 13] (sps [.bool false, .bool false] (zjr (ret1 (.bool false) rfl rfl ⟨_, rfl, ?_, H.base⟩)))
  rw [inR_no ‹_›]
 replace h1 := of_decide_eq_true h1
 refine qH 10 rfl rfl (sp (.int .i64 n) (qH 10 rfl rfl (sp (.int .i64 hi) (qH 10 rfl rfl (sps [.bool (decide ((n : Int) ≤ hi)), .bool (decide ((n : Int) ≤ hi)), .bool (decide ((n : Int) ≤ hi))] (zjr (ret1 (.bool (decide ((n : Int) ≤ hi))) rfl rfl ⟨_, rfl, ?_, H.base⟩)))))))
 rw [inR_yes ‹_›]

theorem l00In_ok (w : World) (n : Int) (lo : Int) (hi : Int) : Calls Tryz.prog 75 #[.int .i64 n, .int .i64 lo, .int .i64 hi] w (Ret (fun v w' => v = .bool (inR n lo hi)) w) := by
 refine en Tryz.func75 Tryz.ntmps75 ?_
 have H := St.start w
 refine zcr (sp (.bool false) (zjc (sps [.int .i64 n, .int .i64 lo, .bool (decide ((n : Int) ≥ lo)), .bool (decide ((n : Int) ≥ lo))] ?_)))
 cases h1 : (decide ((n : Int) ≥ lo))
 ·skip
  replace h1 := of_decide_eq_false h1
  refine xJ [11, 12, 13] (sps [.bool false, .bool false] (zjr (ret1 (.bool false) rfl rfl ⟨_, rfl, ?_, H.base⟩)))
  rw [inR_no ‹_›]
 replace h1 := of_decide_eq_true h1
 refine qH 10 rfl rfl (sp (.int .i64 n) (qH 10 rfl rfl (sp (.int .i64 hi) (qH 10 rfl rfl (sps [.bool (decide ((n : Int) ≤ hi)), .bool (decide ((n : Int) ≤ hi)), .bool (decide ((n : Int) ≤ hi))] (zjr (ret1 (.bool (decide ((n : Int) ≤ hi))) rfl rfl ⟨_, rfl, ?_, H.base⟩)))))))
 rw [inR_yes ‹_›]

theorem isWithin_ok (w : World) (l : List Int) (m : List Int) (hl : qB.rep w Fl [.slice al l.length cl] l) (hm : qB.rep w Fm [.slice am m.length cm] m) (p0 : l.length ≤ m.length) (p1 : l.length ≤ 1000000) : Calls Tryz.prog 185 #[.slice al l.length cl, .slice am m.length cm] w (Ret (fun v w' => v = .bool (within l m)) w) := by
 refine en Tryz.func185 Tryz.ntmps185 ?_
 have H := ((St.start w).arg hm).arg hl
 have nhl := qx hl
 have nhm := qx hm
 clear hl hm
 refine zcr (sp (.bool false) (zjcc (sp (.slice al l.length cl) (oN rfl (sp (.int .i64 0) (zjn (qM ?_)))))))
 refine xQ (fun m' ρ w1 => ∃ (junk : Env) (k : Nat), ρ = upd (upd (upd (upd junk 1 (.slice am m.length cm)) 7 (.slice al l.length cl)) 8 (.int .i64 l.length)) 9 (.int .i64 k) ∧ (k ≤ l.length) ∧ (withinTo l m k) ∧ m' = l.length - k ∧ St w w1 [] [sF false Fl al cl l, sF false Fm am cm m]) (l.length - 0) ⟨_, 0, uE4, (by omega), (by exact withinTo_zero l m), rfl, H⟩ ?_
 clear H
 rintro m' ρ w2 ⟨junk, k, rfl, i0, i1, rfl, H⟩
 refine zcr (sp (.bool (decide ((k : Int) < l.length))) (zjn (xC (cD rfl (fun h3 => ?_) (fun h3 => ?_)))))
 ·skip
  refine qK (t_n (xC (qM (zcr (sp (.int .i64 k) ?_)))))
  obtain ⟨b4, o5, rfl⟩ := H.addr 0 rfl (by omega)
  refine oI rfl rfl (oL rfl (H.jd 0 rfl k (by omega) (by omega)) (sps [.int .i64 k, .int .i64 (l[k]!)] (zjc (sps [.int .i64 (l[k]!), .slice am m.length cm, .int .i64 k] ?_))))
  obtain ⟨b6, o7, rfl⟩ := H.addr 1 rfl (by omega)
  refine oI rfl rfl (oL rfl (H.jd 1 rfl k (by omega) (by omega)) (sp (.bool (decide ((l[k]! : Int) > (m[k]!)))) (zjn (cD rfl (fun h8 => ?_) (fun h8 => ?_)))))
  ·skip
   refine zcr (sp (.bool false) (zjr (zr5 (ret1 (.bool false) rfl rfl ⟨_, rfl, ?_, H.base⟩))))
   rw [within_no (k := k) ‹_› (by omega)]
  refine qK (b_n (t_n (xH (sw (xX k 1 rfl rfl (by omega) (sp (.int .i64 (k + 1)) (xG (qR (m' := l.length - (k + 1)) (by omega) ⟨_, k + 1, uE4, ?_, ?_, rfl, H⟩))))))))
  · omega
  · exact withinTo_succ ‹_› (by omega)
 refine zx4 (zcr (sp (.bool true) (zjr (ret1 (.bool true) rfl rfl ⟨_, rfl, ?_, H.base⟩))))
 rw [within_yes ‹_› (by omega)]

theorem XW (w : World) (l : List Int) (hl : qB.rep w Fl [.slice al l.length cl] l) (p0 : Small l) : Calls Tryz.prog 106 #[.slice al l.length cl] w (Ret (fun v w' => v = .int .i64 (X4 l)) w) := by
 refine en Tryz.func106 Tryz.ntmps106 ?_
 have H := (St.start w).arg hl
 have nhl := qx hl
 clear hl
 have p1 := p0.1
 refine zcr (sp (.int .i64 0) (zjc (sp (.int .i64 0) (zjcc (sp (.slice al l.length cl) (oN rfl (sp (.int .i64 0) (zjn (qM ?_)))))))))
 refine xQ (fun m' ρ w1 => ∃ (junk : Env) (k : Nat), ρ = upd (upd (upd (upd (upd junk 2 (.int .i64 0)) 3 (.int .i64 (sumTo l k))) 6 (.slice al l.length cl)) 7 (.int .i64 l.length)) 8 (.int .i64 k) ∧ (k ≤ l.length) ∧ m' = l.length - k ∧ St w w1 [] [sF false Fl al cl l]) (l.length - 0) ⟨_, 0, uE5, (by omega), rfl, H⟩ ?_
 clear H
 rintro m' ρ w2 ⟨junk, k, rfl, i0, rfl, H⟩
 have hs := sumTo_small p0 i0
 have hv := p0.2 k
 refine zcr (sp (.bool (decide ((k : Int) < l.length))) (zjn (xC (cD rfl (fun h3 => ?_) (fun h3 => ?_)))))
 ·skip
  refine qK (t_n (xC (qM (zcr ?_))))
  obtain ⟨b4, o5, rfl⟩ := H.addr 0 rfl (by omega)
  refine oI rfl rfl (oL rfl (H.jd 0 rfl k (by omega) (by omega)) (sp (.int .i64 (l[k]!)) (zjn (xH (sps [.int .i64 (sumTo l k), .int .i64 (l[k]!)] (sw (xX (sumTo l k) (l[k]!) rfl rfl (by (have := hv (by omega); omega)) (sp (.int .i64 ((sumTo l k) + (l[k]!))) (xG (b_n (t_n (xH (sw (xX k 1 rfl rfl (by (have := hv (by omega); omega)) (sp (.int .i64 (k + 1)) (xG (qR (m' := l.length - (k + 1)) (by omega) ⟨_, k + 1, uE5, ?_, rfl, H⟩)))))))))))))))))
  · omega
 refine zx4 (zcr (sps [.int .i64 (sumTo l k), .int .i64 (sumTo l k)] (zjr (ret1 (.int .i64 (sumTo l k)) rfl rfl ⟨_, rfl, ?_, H.base⟩))))
 obtain rfl : k = l.length := by omega
 rfl

theorem V3 (w : World) (l : List Int) (hl : qB.rep w Fl [.slice al l.length cl] l) (p0 : Small l) : Calls Tryz.prog 123 #[.slice al l.length cl] w (Ret (fun v w' => v = .int .i64 (X4 l)) w) := by
 refine en Tryz.func123 Tryz.ntmps123 ?_
 have H := (St.start w).arg hl
 have nhl := qx hl
 clear hl
 have p1 := p0.1
 refine zcr (sp (.int .i64 0) (zjc (sp (.int .i64 0) (zjcc (sp (.int .i64 0) (zjn (qM ?_)))))))
 refine xQ (fun m' ρ w1 => ∃ (junk : Env) (k : Nat), ρ = upd (upd (upd (upd junk 0 (.slice al l.length cl)) 2 (.int .i64 0)) 3 (.int .i64 (sumTo l k))) 4 (.int .i64 k) ∧ (k ≤ l.length) ∧ m' = l.length - k ∧ St w w1 [] [sF false Fl al cl l]) (l.length - 0) ⟨_, 0, uE4, (by omega), rfl, H⟩ ?_
 clear H
 rintro m' ρ w2 ⟨junk, k, rfl, i0, rfl, H⟩
 have hs := sumTo_small p0 i0
 have hv := p0.2 k
 refine zcc (sps [.int .i64 k, .slice al l.length cl] (oN rfl (sp (.bool (decide ((k : Int) < l.length))) (zjn (cD rfl (fun h3 => ?_) (fun h3 => ?_))))))
 ·skip
  refine qK (t_n (xC (qM (xH (sps [.int .i64 (sumTo l k), .slice al l.length cl, .int .i64 k] ?_)))))
  obtain ⟨b4, o5, rfl⟩ := H.addr 0 rfl (by omega)
  refine oI rfl rfl (oL rfl (H.jd 0 rfl k (by omega) (by omega)) (sw (xX (sumTo l k) (l[k]!) rfl rfl (by (have := hv (by omega); omega)) (sp (.int .i64 ((sumTo l k) + (l[k]!))) (xG (b_n (t_n (xH (sp (.int .i64 k) (sw (xX k 1 rfl rfl (by (have := hv (by omega); omega)) (sp (.int .i64 (k + 1)) (xG (qR (m' := l.length - (k + 1)) (by omega) ⟨_, k + 1, uE4, ?_, rfl, H⟩))))))))))))))
  · omega
 refine zx4 (zcr (sps [.int .i64 (sumTo l k), .int .i64 (sumTo l k)] (zjr (ret1 (.int .i64 (sumTo l k)) rfl rfl ⟨_, rfl, ?_, H.base⟩))))
 obtain rfl : k = l.length := by omega
 rfl

theorem indexFuncI_ok (w : World) (l : List Int) (f : FuncId) (capsf : Array Value) (gf : Nat → Bool) (hl : qB.rep w Fl [.slice al l.length cl] l) (hff : ∀ args w, (callFunc f args).run Tryz.prog w = .ok (.enter f args) w) (hoff : ∀ k w', k < l.length → Ext w w' → Calls Tryz.prog f (([.int .i64 (l[k]!)] : List Value) ++ capsf.toList).toArray w' (Ret (fun v _ => v = .bool (gf k)) w')) : Calls Tryz.prog 175 #[.slice al l.length cl, .func (.func f) #[] capsf] w (Ret (fun v w' => v = .int .i64 (firstIdx gf l.length)) w) := by
 refine en Tryz.func175 Tryz.ntmps175 ?_
 have H := (St.start w).arg hl
 have nhl := qx hl
 clear hl
 refine zcr (sp (.int .i64 0) (zjcc (sp (.slice al l.length cl) (oN rfl (sp (.int .i64 0) (zjn (qM ?_)))))))
 refine xQ (fun m' ρ w1 => ∃ (junk : Env) (k : Nat), ρ = upd (upd (upd (upd junk 0 (.slice al l.length cl)) 1 (.func (.func f) #[] capsf)) 7 (.int .i64 l.length)) 8 (.int .i64 k) ∧ (k ≤ l.length) ∧ (noneTo gf k) ∧ m' = l.length - k ∧ St w w1 [] [sF false Fl al cl l]) (l.length - 0) ⟨_, 0, uE4, (by omega), (by exact fun j hj => by omega), rfl, H⟩ ?_
 clear H
 rintro m' ρ w2 ⟨junk, k, rfl, i0, i1, rfl, H⟩
 refine zcr (sp (.bool (decide ((k : Int) < l.length))) (zjn (xC (cD rfl (fun h3 => ?_) (fun h3 => ?_)))))
 ·skip
  refine qK (t_n (xC (qM (zcr (sps [.int .i64 k, .int .i64 k] (zjc (sps [.func (.func f) #[] capsf, .slice al l.length cl, .int .i64 k] ?_)))))))
  obtain ⟨b4, o5, rfl⟩ := H.addr 0 rfl (by omega)
  refine oI rfl rfl (oL rfl (H.jd 0 rfl k (by omega) (by omega)) (sw (o_callV [.int .i64 (l[k]!)] rfl rfl hff (hoff k _ (by omega) H.base) ?_)))
  rintro _ w6 rfl x7
  replace H := H.ext x7
  refine zjn (xn (gf k) rfl (fun h8 => ?_) (fun h8 => ?_))
  ·skip
   refine zcr (sps [.int .i64 k, .int .i64 k] (zjr (zr5 (ret1 (.int .i64 k) rfl rfl ⟨_, rfl, ?_, H.base⟩))))
   rw [firstIdx_some (k := k) (by omega) i1 ‹_›]
  refine qK (b_n (t_n (xH (sw (xX k 1 rfl rfl (by omega) (sp (.int .i64 (k + 1)) (xG (qR (m' := l.length - (k + 1)) (by omega) ⟨_, k + 1, uE4, ?_, ?_, rfl, H⟩))))))))
  · omega
  · exact noneTo_succ ‹_› ‹_›
 refine zx4 (zcr (sp (.int .i64 (-1)) (zjr (ret1 (.int .i64 (-1)) rfl rfl ⟨_, rfl, ?_, H.base⟩))))
 rw [firstIdx_none (fun j hj => i1 j (by omega))]

theorem containsFuncI_ok (w : World) (l : List Int) (f : FuncId) (capsf : Array Value) (gf : Nat → Bool) (hl : qB.rep w Fl [.slice al l.length cl] l) (hff : ∀ args w, (callFunc f args).run Tryz.prog w = .ok (.enter f args) w) (hoff : ∀ k w', k < l.length → Ext w w' → Calls Tryz.prog f (([.int .i64 (l[k]!)] : List Value) ++ capsf.toList).toArray w' (Ret (fun v _ => v = .bool (gf k)) w')) : Calls Tryz.prog 140 #[.slice al l.length cl, .func (.func f) #[] capsf] w (Ret (fun v w' => v = .bool (anyTo gf l.length)) w) := by
 refine en Tryz.func140 Tryz.ntmps140 ?_
 have H := (St.start w).arg hl
 have nhl := qx hl
 clear hl
 refine zcr (sp (.bool false) (zjc (sps [.slice al l.length cl, .func (.func f) #[] capsf] (sw (oq (indexFuncI_ok _ l f capsf gf (H.get 0 rfl).1 hff hoff) H fun w1 H => sps [.bool (decide ((firstIdx gf l.length : Int) ≥ 0)), .bool (decide ((firstIdx gf l.length : Int) ≥ 0))] (zjr (ret1 (.bool (decide ((firstIdx gf l.length : Int) ≥ 0))) rfl rfl ⟨_, rfl, ?_, H.base⟩)))))))
 rw [anyTo_first]

theorem validBag1_ok (w : World) (n : Int) : Calls Tryz.prog 141 #[.int .i64 n] w (Ret (fun v w' => v = .bool (!isCnt n)) w) := by
 refine en Tryz.func141 Tryz.ntmps141 ?_
 have H := St.start w
 refine zcr (sp (.bool false) (zjc (sp (.int .i64 n) (sw (oq (V4 w n 0 1000) H fun w1 H => sps [.bool (!(inR n 0 1000)), .bool (!(inR n 0 1000))] (zjr (ret1 (.bool (!(inR n 0 1000))) rfl rfl ⟨_, rfl, ?_, H.base⟩)))))))
 rfl

theorem sizeI_ok (w : World) (l : List Int) (hl : qB.rep w Fl [.slice al l.length cl] l) : Calls Tryz.prog 92 #[.slice al l.length cl] w (Ret (fun v w' => v = .int .i64 (l.length : Int)) w) := by
 refine en Tryz.func92 Tryz.ntmps92 ?_
 have H := (St.start w).arg hl
 have nhl := qx hl
 clear hl
 refine zcr (sp (.int .i64 0) (zjc (sp (.slice al l.length cl) (oN rfl (sp (.int .i64 l.length) (zjr (ret1 (.int .i64 l.length) rfl rfl ⟨_, rfl, ?_, H.base⟩)))))))
 rfl

theorem VP (w : World) (kinds : Int) (l : List Int) (hl : qB.rep w Fl [.slice al l.length cl] l) : Calls Tryz.prog 105 #[.int .i64 kinds, .slice al l.length cl] w (Ret (fun v w' => v = .bool (dec (zB kinds l))) w) := by
 refine en Tryz.func105 Tryz.ntmps105 ?_
 have H := (St.start w).arg hl
 have nhl := qx hl
 clear hl
 refine zcr (sp (.bool false) (zjc (sp (.int .i64 kinds) (sw (oq (V4 w kinds 1 8) H fun w1 H => sp (.bool (inR kinds 1 8)) ?_)))))
 cases h3 : (inR kinds 1 8)
 ·skip
  replace h3 := XI h3
  refine xJ [8, 9, 10, 11] (sps [.bool false, .bool false] (xJ [14, 15, 16] (sps [.bool false, .bool false] (zjr (ret1 (.bool false) rfl rfl ⟨_, rfl, ?_, H.base⟩)))))
  rw [qY (fun h => by have := h.1.2; have := h.2; omega)]
 replace h3 := QZ.1 h3
 refine qH 7 rfl rfl (sp (.slice al l.length cl) (qH 7 rfl rfl (sw (oq (sizeI_ok _ l (H.get 0 rfl).1) H fun w4 H => qH 7 rfl rfl (sp (.int .i64 kinds) (qH 7 rfl rfl (sps [.bool (((l.length : Int) : Int) == kinds), .bool (((l.length : Int) : Int) == kinds), .bool (((l.length : Int) : Int) == kinds)] ?_)))))))
 cases h6 : (((l.length : Int) : Int) == kinds)
 ·skip
  replace h6 := ne_of_beq_false h6
  refine xJ [14, 15, 16] (sps [.bool false, .bool false] (zjr (ret1 (.bool false) rfl rfl ⟨_, rfl, ?_, H.base⟩)))
  rw [qY (fun h => by have := h.1.2; have := h.2; omega)]
 replace h6 := eq_of_beq h6
 refine qH 13 rfl rfl (sp (.slice al l.length cl) (qH 13 rfl rfl (sw (oq (containsFuncI_ok _ l 141 #[] (fun k => !isCnt (l[k]!)) (H.get 0 rfl).1 Tryz.call141 (fun k w' hk e => validBag1_ok w' _)) H fun w7 H => qH 13 rfl rfl (sps [.bool (!(anyTo (fun k => !isCnt (l[k]!)) l.length)), .bool (!(anyTo (fun k => !isCnt (l[k]!)) l.length)), .bool (!(anyTo (fun k => !isCnt (l[k]!)) l.length))] (zjr (ret1 (.bool (!(anyTo (fun k => !isCnt (l[k]!)) l.length))) rfl rfl ⟨_, rfl, (congrArg Value.bool (dec_eq ?_)), H.base⟩)))))))
 rw [anyCnt_iff]
 exact ⟨fun h => ⟨⟨h, by omega, by omega⟩, by omega⟩, fun h => h.1.1⟩
theorem both_ok (w : World) (l : List Int) (m : List Int) (of : FuncId) (capsof : Array Value) (gof : Nat → Int) (hl : qB.rep w Fl [.slice al l.length cl] l) (hm : qB.rep w Fm [.slice am m.length cm] m) (p0 : l.length ≤ m.length) (p1 : l.length ≤ 1000000) (hfof : ∀ args w, (callFunc of args).run Tryz.prog w = .ok (.enter of args) w) (hofof : ∀ k w', k < l.length → Ext w w' → Calls Tryz.prog of (([.int .i64 (l[k]!), .int .i64 (m[k]!)] : List Value) ++ capsof.toList).toArray w' (Ret (fun v _ => v = .int .i64 (gof k)) w')) : Calls Tryz.prog 189 #[.slice al l.length cl, .slice am m.length cm, .func (.func of) #[] capsof] w (Ret (fun v w' => OwnNew w w' 2 v (tabTo gof l.length)) w) := by
 refine en Tryz.func189 Tryz.ntmps189 ?_
 have H := ((St.start w).arg hm).arg hl
 have nhl := qx hl
 have nhm := qx hm
 clear hl hm
 refine zcr (sp (.slice none 0 0) (zjc (sw (vI H Tryz.underlying22 ti2 fun b1 w2 H => sp (.slice (aa b1 0) 0 0) (zjcc (sp (.slice al l.length cl) (oN rfl (sp (.int .i64 0) (zjn (qM ?_))))))))))
 replace H := H.boxRow 0 rfl 1 0 rfl (by decide)
 replace H : St _ _ [rr (aa b1 0) 0 0 2 1 []] _ := H
 refine xQ (fun m' ρ w3 => ∃ (junk : Env) (k : Nat) (vr7 : Value), ρ = upd (upd (upd (upd (upd (upd (upd junk 1 (.slice am m.length cm)) 2 (.func (.func of) #[] capsof)) 6 (.slice none 0 0)) 7 (vr7)) 11 (.slice al l.length cl)) 12 (.int .i64 l.length)) 13 (.int .i64 k) ∧ (k ≤ l.length) ∧ m' = l.length - k ∧ St w w3 [.row vr7 2 1 k ((tabTo gof k).map (Value.int .i64))] [sF false Fl al cl l, sF false Fm am cm m]) (l.length - 0) ⟨_, 0, (.slice (aa b1 0) 0 0), uE7, (by omega), rfl, H⟩ ?_
 clear H
 rintro m' ρ w4 ⟨junk, k, vr7, rfl, i0, rfl, H⟩
 refine zcr (sp (.bool (decide ((k : Int) < l.length))) (zjn (xC (cD rfl (fun h5 => ?_) (fun h5 => ?_)))))
 ·skip
  refine qK (t_n (xC (qM (zcr (sp (.int .i64 k) ?_)))))
  obtain ⟨b6, o7, rfl⟩ := H.addr 0 rfl (by omega)
  refine oI rfl rfl (oL rfl (H.jd 0 rfl k (by omega) (by omega)) (sps [.int .i64 k, .int .i64 (l[k]!)] (zjn (xH (sps [vr7, .func (.func of) #[] capsof, .int .i64 (l[k]!), .slice am m.length cm, .int .i64 k] ?_)))))
  obtain ⟨b8, o9, rfl⟩ := H.addr 1 rfl (by omega)
  refine oI rfl rfl (oL rfl (H.jd 1 rfl k (by omega) (by omega)) (sw (o_callV [.int .i64 (l[k]!), .int .i64 (m[k]!)] rfl rfl hfof (hofof k _ (by omega) H.base) ?_)))
  rintro _ w10 rfl x11
  replace H := H.ext x11
  refine sw (o_build1 H Tryz.underlying22 ti2 (by decide) (by decide) (.int .i64 (gof k)) rfl rfl fun b12 w13 H => sw (o_append H 1 rfl 0 rfl Tryz.underlying22 ti2 rfl (by decide) rfl rfl rfl (by simp [Value.oneCell', Value.cells]) (by unfold maxLen; omega) (by omega) fun v14 w15 H => ?_))
  replace H : St _ _ [.box b12 [.int .i64 (gof k)] 2, .row v14 2 1 (k + 1) (((tabTo gof k).map (Value.int .i64)) ++ [.int .i64 (gof k)])] _ := H
  refine sp (v14) (xG (b_n (t_n (xH (sw (xX k 1 rfl rfl (by omega) (sp (.int .i64 (k + 1)) (xG ?_))))))))
  rw [show ((tabTo gof k).map (Value.int .i64)) ++ [.int .i64 (gof k)] = (tabTo gof (k + 1)).map (Value.int .i64) from by (rw [tabTo_succ]; simp)] at H
  refine qR (m' := l.length - (k + 1)) (by omega) ⟨_, k + 1, v14, uE7, ?_, rfl, H.sel _ (.cons _ (.refl _)) _ (by simp)⟩
  · omega
 refine zx4 (zcr (sps [vr7, vr7] (zjr (ret1 (vr7) rfl rfl ⟨_, rfl, ?_, H.base⟩))))
 obtain rfl : k = l.length := by omega
 exact H.newInts 0 rfl (by simp)

theorem plus1_ok (w : World) (x : Int) (y : Int) (t : Int) (bt ot : Nat) (hpt : zK w bt ot [.int .i64 t]) (p0 : -1000000000000000 ≤ x ∧ x ≤ 1000000000000000) (p1 : -1000000000000000 ≤ t * y ∧ t * y ≤ 1000000000000000) : Calls Tryz.prog 190 #[.int .i64 x, .int .i64 y, pp bt ot] w (Ret (fun v w' => v = .int .i64 (x + t * y)) w) := by
 refine en Tryz.func190 Tryz.ntmps190 ?_
 have H := (St.start w).XX hpt
 clear hpt
 refine zcr (sp (.int .i64 0) (zjc (sp (.int .i64 x) (oL rfl (H.xB 0 rfl 0 rfl) (sp (.int .i64 y) (sw (o_mul t y rfl rfl (by omega) (sw (xX x (t * y) rfl rfl (by omega) (sp (.int .i64 (x + (t * y))) (zjr (ret1 (.int .i64 (x + (t * y))) rfl rfl ⟨_, rfl, ?_, H.base⟩))))))))))))
 rfl

theorem plus_ok (w : World) (l : List Int) (m : List Int) (t : Int) (hl : qB.rep w Fl [.slice al l.length cl] l) (hm : qB.rep w Fm [.slice am m.length cm] m) (p0 : l.length ≤ m.length) (p1 : Mid l) (p2 : SmallT m t) : Calls Tryz.prog 152 #[.slice al l.length cl, .slice am m.length cm, .int .i64 t] w (Ret (fun v w' => OwnNew w w' 2 v (vk l m t)) w) := by
 refine en Tryz.func152 Tryz.ntmps152 ?_
 have H := ((St.start w).arg hm).arg hl
 have nhl := qx hl
 have nhm := qx hm
 clear hl hm
 have p3 := p1.1
 refine zcr (sw (o_box H (.int .i64 t) rfl fun b1 w2 H => ?_))
 replace H : St _ _ [.box b1 [.int .i64 t] 2] _ := H
 refine sp (.slice none 0 0) (zjc (sps [.slice al l.length cl, .slice am m.length cm, .func (.func 190) #[] #[pp b1 0]] ?_))
 have szx4 := H.base.size
 refine sw (oc (both_ok _ l m 190 #[pp b1 0] (fun k => l[k]! + t * m[k]!) (H.get 0 rfl).1 (H.get 1 rfl).1 (by omega) (by omega) Tryz.call190 (fun k w' hk e => plus1_ok w' _ _ t _ _ ((H.ext e).cells 0 rfl) (by have := p1.2 k hk; omega) (p2 k (by omega)))) ?_)
 rintro v5 w3 r5 x4
 replace H := H.xW x4 r5
 refine sp (v5) (zjr (ret1 (v5) rfl rfl ⟨_, rfl, (H.newInts 0 rfl (by simp [plusL_len])), H.base⟩))

theorem Xo (w : World) (l : List Int) (m : List Int) (t : Int) (hl : qB.rep w Fl [.slice al l.length cl] l) (hm : qB.rep w Fm [.slice am m.length cm] m) (p0 : l.length ≤ m.length) (p1 : Mid l) (p2 : SmallT m t) : Calls Tryz.prog 181 #[.slice al l.length cl, .slice am m.length cm, .int .i64 t] w (Ret (fun v w' => OwnNew w w' 2 v (vk l m t)) w) := by
 refine en Tryz.func181 Tryz.ntmps181 ?_
 have H := ((St.start w).arg hm).arg hl
 have nhl := qx hl
 have nhm := qx hm
 clear hl hm
 have p3 := p1.1
 refine zcr (sp (.slice none 0 0) (zjc (sw (vI H Tryz.underlying22 ti2 fun b1 w2 H => sp (.slice (aa b1 0) 0 0) (zjcc (sp (.int .i64 0) (zjn (qM ?_))))))))
 replace H := H.boxRow 0 rfl 1 0 rfl (by decide)
 replace H : St _ _ [rr (aa b1 0) 0 0 2 1 []] _ := H
 refine xQ (fun m' ρ w3 => ∃ (junk : Env) (k : Nat) (vr7 : Value), ρ = upd (upd (upd (upd (upd (upd junk 0 (.slice al l.length cl)) 1 (.slice am m.length cm)) 2 (.int .i64 t)) 6 (.slice none 0 0)) 7 (vr7)) 8 (.int .i64 k) ∧ (k ≤ l.length) ∧ m' = l.length - k ∧ St w w3 [.row vr7 2 1 k ((plusTo l m t k).map (Value.int .i64))] [sF false Fl al cl l, sF false Fm am cm m]) (l.length - 0) ⟨_, 0, (.slice (aa b1 0) 0 0), uE6, (by omega), rfl, H⟩ ?_
 clear H
 rintro m' ρ w4 ⟨junk, k, vr7, rfl, i0, rfl, H⟩
 refine zcc (sps [.int .i64 k, .slice al l.length cl] (oN rfl (sp (.bool (decide ((k : Int) < l.length))) (zjn (cD rfl (fun h5 => ?_) (fun h5 => ?_))))))
 ·skip
  refine qK (t_n (xC (qM ?_)))
  refine c_draw (fun w6 => St w w6 [] [sF false Fl al cl l, sF false Fm am cm m]) rfl ((H.ext (ext_drew _)).sel _ (.cons _ (.refl _)) _ (fun _ h => h)) ?_
  replace H := H.ext (ext_drew _)
  refine rtp 0 (vr7) (H.sel _ (.cons _ (.refl _)) _ (fun _ h => h)) ?_
  refine rtp 1 (.slice al l.length cl) (H.sel _ (.cons _ (.refl _)) _ (fun _ h => h)) ?_
  refine rtp 2 (.int .i64 k) (H.sel _ (.cons _ (.refl _)) _ (fun _ h => h)) ?_
  obtain ⟨b7, o8, rfl⟩ := H.addr 0 rfl (by omega)
  refine tI 3 rfl rfl rfl (H.sel _ (.cons _ (.refl _)) _ (fun _ h => h)) ?_
  refine tL 4 rfl rfl (fun _ h => h.jA 0 rfl k (by omega)) (H.sel _ (.cons _ (.refl _)) _ (fun _ h => h)) ?_
  refine rtp 5 (.slice am m.length cm) (H.sel _ (.cons _ (.refl _)) _ (fun _ h => h)) ?_
  refine rtp 6 (.int .i64 k) (H.sel _ (.cons _ (.refl _)) _ (fun _ h => h)) ?_
  obtain ⟨b9, o10, rfl⟩ := H.addr 1 rfl (by omega)
  refine tI 7 rfl rfl rfl (H.sel _ (.cons _ (.refl _)) _ (fun _ h => h)) ?_
  refine tL 8 rfl rfl (fun _ h => h.jA 1 rfl k (by omega)) (H.sel _ (.cons _ (.refl _)) _ (fun _ h => h)) ?_
  refine rtp 9 (.int .i64 t) (H.sel _ (.cons _ (.refl _)) _ (fun _ h => h)) ?_
  refine rt 10 (.int .i64 ((m[k]!) * t)) (y_mul (m[k]!) t rfl rfl (by (have := p1.2 k (by omega); have := p2 k (by omega); rw [Int.mul_comm] at this; omega))) (H.sel _ (.cons _ (.refl _)) _ (fun _ h => h)) ?_
  refine rt 11 (.int .i64 ((l[k]!) + ((m[k]!) * t))) (y_add (l[k]!) ((m[k]!) * t) rfl rfl (by (have := p1.2 k (by omega); have := p2 k (by omega); rw [Int.mul_comm] at this; omega))) (H.sel _ (.cons _ (.refl _)) _ (fun _ h => h)) ?_
  refine ro 12 rfl (o_build1 H Tryz.underlying22 ti2 (by decide) (by decide) (.int .i64 ((l[k]!) + ((m[k]!) * t))) rfl rfl fun b11 w12 H => ?_)
  replace H : St _ _ [.box b11 [.int .i64 ((l[k]!) + ((m[k]!) * t))] 2, .row vr7 2 1 k ((plusTo l m t k).map (Value.int .i64))] _ := H
  refine ⟨H.sel _ (.cons _ (.cons _ (.refl _))) _ (fun _ h => h), (ro 13 rfl (o_append H 1 rfl 0 rfl Tryz.underlying22 ti2 rfl (by decide) rfl rfl rfl (by simp [Value.oneCell', Value.cells]) (by unfold maxLen; omega) (by omega) fun v13 w14 H => ?_))⟩
  replace H : St _ _ [.box b11 [.int .i64 ((l[k]!) + ((m[k]!) * t))] 2, .row v13 2 1 (k + 1) (((plusTo l m t k).map (Value.int .i64)) ++ [.int .i64 ((l[k]!) + ((m[k]!) * t))])] _ := H
  refine ⟨H.sel _ (.cons _ (.cons _ (.refl _))) _ (fun _ h => h), (rtp 14 (v13) (H.sel _ (.cons _ (.cons _ (.refl _))) _ (fun _ h => h)) ?_)⟩
  refine xy (by kernel_rfl) (b_n (t_n (xH (sp (.int .i64 k) (sw (xX k 1 rfl rfl (by (have := p1.2 k (by omega); have := p2 k (by omega); rw [Int.mul_comm] at this; omega)) (sp (.int .i64 (k + 1)) (xG ?_))))))))
  rw [show ((plusTo l m t k).map (Value.int .i64)) ++ [.int .i64 ((l[k]!) + ((m[k]!) * t))] = (plusTo l m t (k + 1)).map (Value.int .i64) from by (rw [plusTo_succ, Int.mul_comm t]; simp)] at H
  refine qR (m' := l.length - (k + 1)) (by omega) ⟨_, k + 1, v13, uE6, ?_, rfl, H.sel _ (.cons _ (.refl _)) _ (by simp)⟩
  · omega
 refine zx4 (zcr (sps [vr7, vr7] (zjr (ret1 (vr7) rfl rfl ⟨_, rfl, ?_, H.base⟩))))
 obtain rfl : k = l.length := by omega
 exact H.newInts 0 rfl (by simp [vk, plusTo])

theorem Xm (w : World) (l : List Int) (hl : qB.rep w Fl [.slice al l.length cl] l) (p0 : l.length ≤ 1000000) : Calls Tryz.prog 101 #[.slice al l.length cl] w (Ret (fun v w' => OwnNew w w' 2 v l) w) := by
 refine en Tryz.func101 Tryz.ntmps101 ?_
 have H := (St.start w).arg hl
 have nhl := qx hl
 clear hl
 refine zcr (sp (.slice none 0 0) (zjc (sw (vI H Tryz.underlying22 ti2 fun b1 w2 H => sp (.slice al l.length cl) ?_))))
 replace H := H.boxRow 0 rfl 1 0 rfl (by decide)
 refine sw (o_appendInts H 0 rfl 0 rfl Tryz.underlying22 ti2 rfl rfl rfl (by unfold maxLen; omega) (by omega) fun v3 w4 H => ?_)
 replace H : St _ _ [.row v3 2 1 (0 + l.length) ([] ++ l.map (Value.int .i64))] _ := H
 refine sp (v3) (zjr (ret1 (v3) rfl rfl ⟨_, rfl, (H.newInts 0 rfl (by omega)), H.base⟩))

theorem cloneI_ok (w : World) (l : List Int) (hl : qB.rep w Fl [.slice al l.length cl] l) (p0 : l.length ≤ 1000000) : Calls Tryz.prog 108 #[.slice al l.length cl] w (Ret (fun v w' => OwnNew w w' 2 v l) w) := by
 refine en Tryz.func108 Tryz.ntmps108 ?_
 have H := (St.start w).arg hl
 have nhl := qx hl
 clear hl
 refine zcr (sp (.slice none 0 0) (zjcc (sp (.slice al l.length cl) (sw (o_eqnil Tryz.underlying22 al l.length cl rfl (zjn (xn (al.isNone) rfl (fun h1 => ?_) (fun h1 => ?_))))))))
 ·skip
  refine zcr (sp (.slice none 0 0) (zjr (t_r (ret1 (.slice none 0 0) rfl rfl ⟨_, rfl, ?_, H.base⟩))))
  obtain rfl := H.nilOf 0 rfl ‹_›
  exact ownNew_nil _ _ _
 refine qK (t_n (zcr (sw (vI H Tryz.underlying22 ti2 fun b2 w3 H => sp (.slice al l.length cl) ?_))))
 replace H := H.boxRow 0 rfl 1 0 rfl (by decide)
 refine sw (o_appendInts H 0 rfl 0 rfl Tryz.underlying22 ti2 rfl rfl rfl (by unfold maxLen; omega) (by omega) fun v4 w5 H => ?_)
 replace H : St _ _ [.row v4 2 1 (0 + l.length) ([] ++ l.map (Value.int .i64))] _ := H
 refine sp (v4) (zjr (ret1 (v4) rfl rfl ⟨_, rfl, (H.newInts 0 rfl (by omega)), H.base⟩))
theorem Q9 (w : World) (x : List Int) (left : Int) (hx : qB.rep w Fx [.slice ax x.length cx] x) (p0 : 0 ≤ left ∧ left ≤ 2000000) : Calls Tryz.prog 53 #[.slice ax x.length cx, .int .i64 left] w (Ret (fun v w' => v = .int .i64 (szR (tot x) left)) w) := by
 refine en Tryz.func53 Tryz.ntmps53 ?_
 have H := (St.start w).arg hx
 have nhx := qx hx
 clear hx
 refine zcr (sp (.int .i64 0) (zjc (sps [.int .i64 left, .slice ax x.length cx] (oN rfl (sw (o_sub left x.length rfl rfl (by omega) (sp (.int .i64 (left - x.length)) (zjcc (sps [.int .i64 (left - x.length), .bool (decide ((left - x.length : Int) < 0))] (zjn (cD rfl (fun h1 => ?_) (fun h1 => ?_))))))))))))
 ·skip
  refine zcr (sp (.int .i64 (-1)) (zjr (t_r (ret1 (.int .i64 (-1)) rfl rfl ⟨_, rfl, (congrArg (Value.int .i64) ?_), H.base⟩))))
  have := zh (tot x) left
  rw [tot_ints] at *
  try omega
 refine qK (t_n (zcr (sps [.int .i64 (left - x.length), .int .i64 (left - x.length)] (zjr (ret1 (.int .i64 (left - x.length)) rfl rfl ⟨_, rfl, (congrArg (Value.int .i64) ?_), H.base⟩)))))
 have := zh (tot x) left
 rw [tot_ints] at *
 try omega

theorem szBoolS_ok (w : World) (x : List Bool) (left : Int) (hx : qB.rep w Fx [.slice ax x.length cx] x) (p0 : 0 ≤ left ∧ left ≤ 2000000) : Calls Tryz.prog 55 #[.slice ax x.length cx, .int .i64 left] w (Ret (fun v w' => v = .int .i64 (szR (tot x) left)) w) := by
 refine en Tryz.func55 Tryz.ntmps55 ?_
 have H := (St.start w).arg hx
 have nhx := qx hx
 clear hx
 refine zcr (sp (.int .i64 0) (zjc (sps [.int .i64 left, .slice ax x.length cx] (oN rfl (sw (o_sub left x.length rfl rfl (by omega) (sp (.int .i64 (left - x.length)) (zjcc (sps [.int .i64 (left - x.length), .bool (decide ((left - x.length : Int) < 0))] (zjn (cD rfl (fun h1 => ?_) (fun h1 => ?_))))))))))))
 ·skip
  refine zcr (sp (.int .i64 (-1)) (zjr (t_r (ret1 (.int .i64 (-1)) rfl rfl ⟨_, rfl, (congrArg (Value.int .i64) ?_), H.base⟩))))
  have := zh (tot x) left
  rw [tot_bools] at *
  try omega
 refine qK (t_n (zcr (sps [.int .i64 (left - x.length), .int .i64 (left - x.length)] (zjr (ret1 (.int .i64 (left - x.length)) rfl rfl ⟨_, rfl, (congrArg (Value.int .i64) ?_), H.base⟩)))))
 have := zh (tot x) left
 rw [tot_bools] at *
 try omega

theorem szInt64SS_ok (w : World) (x : List (List Int)) (left : Int) (hx : qB.rep w Fx [.slice ax x.length cx] x) (p0 : 0 ≤ left ∧ left ≤ 2000000) : Calls Tryz.prog 56 #[.slice ax x.length cx, .int .i64 left] w (Ret (fun v w' => v = .int .i64 (szR (tot x) left)) w) := by
 refine en Tryz.func56 Tryz.ntmps56 ?_
 have H := (St.start w).arg hx
 have nhx := qx hx
 clear hx
 refine zcr (sp (.int .i64 0) (zjc (sps [.int .i64 left, .slice ax x.length cx] (oN rfl (sw (o_sub left x.length rfl rfl (by omega) (sp (.int .i64 (left - x.length)) (zjcc (sps [.int .i64 (left - x.length), .bool (decide ((left - x.length : Int) < 0))] (zjn (cD rfl (fun h1 => ?_) (fun h1 => ?_))))))))))))
 ·skip
  refine zcr (sp (.int .i64 (-1)) (zjr (t_r (ret1 (.int .i64 (-1)) rfl rfl ⟨_, rfl, (congrArg (Value.int .i64) ?_), H.base⟩))))
  have := zh (tot x) left
  have := len_tot x
  omega
 refine qK (t_n (zcc (sp (.int .i64 0) (zjn (qM ?_)))))
 refine xQ (fun m' ρ w2 => ∃ (junk : Env) (k : Nat) (r : Int), ρ = upd (upd (upd junk 0 (.slice ax x.length cx)) 1 (.int .i64 r)) 5 (.int .i64 k) ∧ (k ≤ x.length) ∧ (r = left - (x.length : Int) - (totTo x k : Nat)) ∧ (0 ≤ r) ∧ m' = x.length - k ∧ St w w2 [] [sF false Fx ax cx x]) (x.length - 0) ⟨_, 0, left - (x.length : Int), uE3, (by omega), (by rw [totTo_zero]; omega), (by omega), rfl, H⟩ ?_
 clear H
 rintro m' ρ w3 ⟨junk, k, r, rfl, i0, i1, i2, rfl, H⟩
 refine zcc (sps [.int .i64 k, .slice ax x.length cx] (oN rfl (sp (.bool (decide ((k : Int) < x.length))) (zjn (cD rfl (fun h4 => ?_) (fun h4 => ?_))))))
 ·skip
  refine qK (t_n (xC (qM (zcr (sps [.slice ax x.length cx, .int .i64 k] ?_)))))
  obtain ⟨b5, o6, rfl⟩ := H.addr 0 rfl (by omega)
  obtain ⟨ae7, ce7, Fe7, H⟩ := H.zU 0 rfl k k (by omega) (by omega) (by omega)
  refine oI rfl rfl (oL rfl (H.xB 1 rfl 0 rfl) (sp (.int .i64 r) (sw (oq (Q9 _ (x[k]!) r (H.get 0 rfl).1 (by omega)) H fun w8 H => ?_))))
  have := zh (tot (x[k]!)) r
  refine sp (.int .i64 (szR (tot (x[k]!)) r)) (zjc (sps [.int .i64 (szR (tot (x[k]!)) r), .bool (decide ((szR (tot (x[k]!)) r : Int) < 0))] (zjn (cD rfl (fun h10 => ?_) (fun h10 => ?_)))))
  ·skip
   refine zcr (sp (.int .i64 (-1)) (zjr (zr5 (ret1 (.int .i64 (-1)) rfl rfl ⟨_, rfl, (congrArg (Value.int .i64) ?_), H.base⟩))))
   have := zh (tot x) left
   have := tot_get (l := x) (k := k) (by omega)
   omega
  refine qK (b_n (t_n (xH (sp (.int .i64 k) (sw (xX k 1 rfl rfl (by omega) (sp (.int .i64 (k + 1)) (xG (qR (m' := x.length - (k + 1)) (by omega) ⟨_, k + 1, szR (tot (x[k]!)) r, uE3, ?_, ?_, ?_, rfl, H.sel _ (.refl _) _ (by simp)⟩)))))))))
  · omega
  · rw [totTo_succ]; omega
  · omega
 refine zx4 (zcr (sps [.int .i64 r, .int .i64 r] (zjr (ret1 (.int .i64 r) rfl rfl ⟨_, rfl, (congrArg (Value.int .i64) ?_), H.base⟩))))
 obtain rfl : k = x.length := by omega
 have := zh (tot x) left
 rw [tot_list] at *
 omega

theorem szInto_ok (w : World) (x : IntoD) (left : Int) (hxBag : qB.rep w FxBag [.slice axBag x.vS.length cxBag] x.vS) (p0 : 0 ≤ left ∧ left ≤ 2000000) : Calls Tryz.prog 169 #[.agg #[.int .i64 x.qp, .slice axBag x.vS.length cxBag], .int .i64 left] w (Ret (fun v w' => v = .int .i64 (szR (tot x) left)) w) := by
 refine en Tryz.func169 Tryz.ntmps169 ?_
 have H := (St.start w).arg hxBag
 have nhxBag := qx hxBag
 clear hxBag
 refine zcr (sw (o_box H (.agg #[.int .i64 x.qp, .slice axBag x.vS.length cxBag]) rfl fun b1 w2 H => ?_))
 replace H : St _ _ [.box b1 [.int .i64 x.qp, .slice axBag x.vS.length cxBag] 190] _ := H
 refine sp (.int .i64 0) (zjc (oF rfl (oL rfl (H.cell 0 rfl rfl) (sp (.int .i64 left) (sw (oq (Q9 _ x.vS left (H.get 0 rfl).1 (by omega)) H fun w3 H => ?_))))))
 have := zh (tot x.vS) left
 refine sp (.int .i64 (szR (tot x.vS) left)) (zjcc (sps [.int .i64 (szR (tot x.vS) left), .bool (decide ((szR (tot x.vS) left : Int) < 0))] (zjn (cD rfl (fun h5 => ?_) (fun h5 => ?_)))))
 ·skip
  refine zcr (sp (.int .i64 (-1)) (zjr (t_r (ret1 (.int .i64 (-1)) rfl rfl ⟨_, rfl, (congrArg (Value.int .i64) ?_), H.base⟩))))
  have := zh (tot x) left
  rw [tot_IntoD] at *
  try omega
 refine qK (t_n (zcr (sps [.int .i64 (szR (tot x.vS) left), .int .i64 (szR (tot x.vS) left)] (zjr (ret1 (.int .i64 (szR (tot x.vS) left)) rfl rfl ⟨_, rfl, (congrArg (Value.int .i64) ?_), H.base⟩)))))
 have := zh (tot x) left
 rw [tot_IntoD] at *
 try omega

theorem szIntoS_ok (w : World) (x : List IntoD) (left : Int) (hx : qB.rep w Fx [.slice ax x.length cx] x) (p0 : 0 ≤ left ∧ left ≤ 2000000) : Calls Tryz.prog 132 #[.slice ax x.length cx, .int .i64 left] w (Ret (fun v w' => v = .int .i64 (szR (tot x) left)) w) := by
 refine en Tryz.func132 Tryz.ntmps132 ?_
 have H := (St.start w).arg hx
 have nhx := qx hx
 clear hx
 refine zcr (sp (.int .i64 0) (zjc (sps [.int .i64 left, .slice ax x.length cx] (oN rfl (sw (o_sub left x.length rfl rfl (by omega) (sp (.int .i64 (left - x.length)) (zjcc (sps [.int .i64 (left - x.length), .bool (decide ((left - x.length : Int) < 0))] (zjn (cD rfl (fun h1 => ?_) (fun h1 => ?_))))))))))))
 ·skip
  refine zcr (sp (.int .i64 (-1)) (zjr (t_r (ret1 (.int .i64 (-1)) rfl rfl ⟨_, rfl, (congrArg (Value.int .i64) ?_), H.base⟩))))
  have := zh (tot x) left
  have := len_tot x
  omega
 refine qK (t_n (zcc (sp (.int .i64 0) (zjn (qM ?_)))))
 refine xQ (fun m' ρ w2 => ∃ (junk : Env) (k : Nat) (r : Int), ρ = upd (upd (upd junk 0 (.slice ax x.length cx)) 1 (.int .i64 r)) 5 (.int .i64 k) ∧ (k ≤ x.length) ∧ (r = left - (x.length : Int) - (totTo x k : Nat)) ∧ (0 ≤ r) ∧ m' = x.length - k ∧ St w w2 [] [sF false Fx ax cx x]) (x.length - 0) ⟨_, 0, left - (x.length : Int), uE3, (by omega), (by rw [totTo_zero]; omega), (by omega), rfl, H⟩ ?_
 clear H
 rintro m' ρ w3 ⟨junk, k, r, rfl, i0, i1, i2, rfl, H⟩
 refine zcc (sps [.int .i64 k, .slice ax x.length cx] (oN rfl (sp (.bool (decide ((k : Int) < x.length))) (zjn (cD rfl (fun h4 => ?_) (fun h4 => ?_))))))
 ·skip
  refine qK (t_n (xC (qM (zcr (sps [.slice ax x.length cx, .int .i64 k] ?_)))))
  obtain ⟨b5, o6, rfl⟩ := H.addr 0 rfl (by omega)
  obtain ⟨ae7Bag, ce7Bag, Fe7Bag, H⟩ := H.jh 0 rfl k k (by omega) (by omega) (by omega)
  refine oI rfl rfl (sw (xU [.int .i64 ((x[k]!).qp), .slice ae7Bag (((x[k]!).vS).length) ce7Bag] Tryz.isAgg190 Tryz.sizeOf190 rfl (qw (H.get 1 rfl) 0 2) (sp (.int .i64 r) (sw (oq (szInto_ok _ (x[k]!) r (H.get 0 rfl).1 (by omega)) H fun w8 H => ?_)))))
  have := zh (tot (x[k]!)) r
  refine sp (.int .i64 (szR (tot (x[k]!)) r)) (zjc (sps [.int .i64 (szR (tot (x[k]!)) r), .bool (decide ((szR (tot (x[k]!)) r : Int) < 0))] (zjn (cD rfl (fun h10 => ?_) (fun h10 => ?_)))))
  ·skip
   refine zcr (sp (.int .i64 (-1)) (zjr (zr5 (ret1 (.int .i64 (-1)) rfl rfl ⟨_, rfl, (congrArg (Value.int .i64) ?_), H.base⟩))))
   have := zh (tot x) left
   have := tot_get (l := x) (k := k) (by omega)
   omega
  refine qK (b_n (t_n (xH (sp (.int .i64 k) (sw (xX k 1 rfl rfl (by omega) (sp (.int .i64 (k + 1)) (xG (qR (m' := x.length - (k + 1)) (by omega) ⟨_, k + 1, szR (tot (x[k]!)) r, uE3, ?_, ?_, ?_, rfl, H.sel _ (.refl _) _ (by simp)⟩)))))))))
  · omega
  · rw [totTo_succ]; omega
  · omega
 refine zx4 (zcr (sps [.int .i64 r, .int .i64 r] (zjr (ret1 (.int .i64 r) rfl rfl ⟨_, rfl, (congrArg (Value.int .i64) ?_), H.base⟩))))
 obtain rfl : k = x.length := by omega
 have := zh (tot x) left
 rw [tot_list] at *
 omega

theorem szRule_ok (w : World) (x : Qr) (left : Int) (hxNeed : qB.rep w FxNeed [.slice Vr x.qV.length Vf] x.qV) (hxHave : qB.rep w FxHave [.slice Vw x.xg.length Vk] x.xg) (hxLack : qB.rep w FxLack [.slice Vs x.xm.length Vg] x.xm) (hxHere : qB.rep w FxHere [.slice Vu x.xq.length Vj] x.xq) (hxOut : qB.rep w FxOut [.slice axOut x.zq.length cxOut] x.zq) (hxInto : qB.rep w FxInto [.slice Vt x.qI.length Vh] x.qI) (p0 : 0 ≤ left ∧ left ≤ 2000000) : Calls Tryz.prog 97 #[.agg #[.int .i64 x.qp, .int .i64 x.zg, .slice Vr x.qV.length Vf, .slice Vw x.xg.length Vk, .slice Vs x.xm.length Vg, .slice Vu x.xq.length Vj, .slice axOut x.zq.length cxOut, .slice Vt x.qI.length Vh, .bool x.xO], .int .i64 left] w (Ret (fun v w' => v = .int .i64 (szR (tot x) left)) w) := by
 refine en Tryz.func97 Tryz.ntmps97 ?_
 have H := ((((((St.start w).arg hxInto).arg hxOut).arg hxHere).arg hxLack).arg hxHave).arg hxNeed
 have nhxNeed := qx hxNeed
 have nhxHave := qx hxHave
 have nhxLack := qx hxLack
 have nhxHere := qx hxHere
 have nhxOut := qx hxOut
 have nhxInto := qx hxInto
 clear hxNeed hxHave hxLack hxHere hxOut hxInto
 refine zcr (sw (o_box H (.agg #[.int .i64 x.qp, .int .i64 x.zg, .slice Vr x.qV.length Vf, .slice Vw x.xg.length Vk, .slice Vs x.xm.length Vg, .slice Vu x.xq.length Vj, .slice axOut x.zq.length cxOut, .slice Vt x.qI.length Vh, .bool x.xO]) rfl fun b1 w2 H => ?_))
 replace H : St _ _ [.box b1 [.int .i64 x.qp, .int .i64 x.zg, .slice Vr x.qV.length Vf, .slice Vw x.xg.length Vk, .slice Vs x.xm.length Vg, .slice Vu x.xq.length Vj, .slice axOut x.zq.length cxOut, .slice Vt x.qI.length Vh, .bool x.xO] 111] _ := H
 refine sp (.int .i64 0) (zjc (oF rfl (oL rfl (H.cell 0 rfl rfl) (sp (.int .i64 left) (sw (oq (Q9 _ x.qV left (H.get 0 rfl).1 (by omega)) H fun w3 H => ?_))))))
 have := zh (tot x.qV) left
 refine sp (.int .i64 (szR (tot x.qV) left)) (zjcc (sps [.int .i64 (szR (tot x.qV) left), .bool (decide ((szR (tot x.qV) left : Int) < 0))] (zjn (cD rfl (fun h5 => ?_) (fun h5 => ?_)))))
 ·skip
  refine zcr (sp (.int .i64 (-1)) (zjr (t_r (ret1 (.int .i64 (-1)) rfl rfl ⟨_, rfl, (congrArg (Value.int .i64) ?_), H.base⟩))))
  have := zh (tot x) left
  rw [tot_RuleD] at *
  try omega
 refine qK (t_n (zcr (oF rfl (oL rfl (H.cell 0 rfl rfl) (sp (.int .i64 (szR (tot x.qV) left)) (sw (oq (Q9 _ x.xg (szR (tot x.qV) left) (H.get 1 rfl).1 (by omega)) H fun w6 H => ?_)))))))
 have := zh (tot x.xg) (szR (tot x.qV) left)
 refine sp (.int .i64 (szR (tot x.xg) (szR (tot x.qV) left))) (zjcc (sps [.int .i64 (szR (tot x.xg) (szR (tot x.qV) left)), .bool (decide ((szR (tot x.xg) (szR (tot x.qV) left) : Int) < 0))] (zjn (cD rfl (fun h8 => ?_) (fun h8 => ?_)))))
 ·skip
  refine zcr (sp (.int .i64 (-1)) (zjr (t_r (ret1 (.int .i64 (-1)) rfl rfl ⟨_, rfl, (congrArg (Value.int .i64) ?_), H.base⟩))))
  have := zh (tot x) left
  rw [tot_RuleD] at *
  try omega
 refine qK (t_n (zcr (oF rfl (oL rfl (H.cell 0 rfl rfl) (sp (.int .i64 (szR (tot x.xg) (szR (tot x.qV) left))) (sw (oq (Q9 _ x.xm (szR (tot x.xg) (szR (tot x.qV) left)) (H.get 2 rfl).1 (by omega)) H fun w9 H => ?_)))))))
 have := zh (tot x.xm) (szR (tot x.xg) (szR (tot x.qV) left))
 refine sp (.int .i64 (szR (tot x.xm) (szR (tot x.xg) (szR (tot x.qV) left)))) (zjcc (sps [.int .i64 (szR (tot x.xm) (szR (tot x.xg) (szR (tot x.qV) left))), .bool (decide ((szR (tot x.xm) (szR (tot x.xg) (szR (tot x.qV) left)) : Int) < 0))] (zjn (cD rfl (fun h11 => ?_) (fun h11 => ?_)))))
 ·skip
  refine zcr (sp (.int .i64 (-1)) (zjr (t_r (ret1 (.int .i64 (-1)) rfl rfl ⟨_, rfl, (congrArg (Value.int .i64) ?_), H.base⟩))))
  have := zh (tot x) left
  rw [tot_RuleD] at *
  try omega
 refine qK (t_n (zcr (oF rfl (oL rfl (H.cell 0 rfl rfl) (sp (.int .i64 (szR (tot x.xm) (szR (tot x.xg) (szR (tot x.qV) left)))) (sw (oq (Q9 _ x.xq (szR (tot x.xm) (szR (tot x.xg) (szR (tot x.qV) left))) (H.get 3 rfl).1 (by omega)) H fun w12 H => ?_)))))))
 have := zh (tot x.xq) (szR (tot x.xm) (szR (tot x.xg) (szR (tot x.qV) left)))
 refine sp (.int .i64 (szR (tot x.xq) (szR (tot x.xm) (szR (tot x.xg) (szR (tot x.qV) left))))) (zjcc (sps [.int .i64 (szR (tot x.xq) (szR (tot x.xm) (szR (tot x.xg) (szR (tot x.qV) left)))), .bool (decide ((szR (tot x.xq) (szR (tot x.xm) (szR (tot x.xg) (szR (tot x.qV) left))) : Int) < 0))] (zjn (cD rfl (fun h14 => ?_) (fun h14 => ?_)))))
 ·skip
  refine zcr (sp (.int .i64 (-1)) (zjr (t_r (ret1 (.int .i64 (-1)) rfl rfl ⟨_, rfl, (congrArg (Value.int .i64) ?_), H.base⟩))))
  have := zh (tot x) left
  rw [tot_RuleD] at *
  try omega
 refine qK (t_n (zcr (oF rfl (oL rfl (H.cell 0 rfl rfl) (sp (.int .i64 (szR (tot x.xq) (szR (tot x.xm) (szR (tot x.xg) (szR (tot x.qV) left))))) (sw (oq (Q9 _ x.zq (szR (tot x.xq) (szR (tot x.xm) (szR (tot x.xg) (szR (tot x.qV) left)))) (H.get 4 rfl).1 (by omega)) H fun w15 H => ?_)))))))
 have := zh (tot x.zq) (szR (tot x.xq) (szR (tot x.xm) (szR (tot x.xg) (szR (tot x.qV) left))))
 refine sp (.int .i64 (szR (tot x.zq) (szR (tot x.xq) (szR (tot x.xm) (szR (tot x.xg) (szR (tot x.qV) left)))))) (zjcc (sps [.int .i64 (szR (tot x.zq) (szR (tot x.xq) (szR (tot x.xm) (szR (tot x.xg) (szR (tot x.qV) left))))), .bool (decide ((szR (tot x.zq) (szR (tot x.xq) (szR (tot x.xm) (szR (tot x.xg) (szR (tot x.qV) left)))) : Int) < 0))] (zjn (cD rfl (fun h17 => ?_) (fun h17 => ?_)))))
 ·skip
  refine zcr (sp (.int .i64 (-1)) (zjr (t_r (ret1 (.int .i64 (-1)) rfl rfl ⟨_, rfl, (congrArg (Value.int .i64) ?_), H.base⟩))))
  have := zh (tot x) left
  rw [tot_RuleD] at *
  try omega
 refine qK (t_n (zcr (oF rfl (oL rfl (H.cell 0 rfl rfl) (sp (.int .i64 (szR (tot x.zq) (szR (tot x.xq) (szR (tot x.xm) (szR (tot x.xg) (szR (tot x.qV) left)))))) (sw (oq (szIntoS_ok _ x.qI (szR (tot x.zq) (szR (tot x.xq) (szR (tot x.xm) (szR (tot x.xg) (szR (tot x.qV) left))))) (H.get 5 rfl).1 (by omega)) H fun w18 H => ?_)))))))
 have := zh (tot x.qI) (szR (tot x.zq) (szR (tot x.xq) (szR (tot x.xm) (szR (tot x.xg) (szR (tot x.qV) left)))))
 refine sp (.int .i64 (szR (tot x.qI) (szR (tot x.zq) (szR (tot x.xq) (szR (tot x.xm) (szR (tot x.xg) (szR (tot x.qV) left))))))) (zjcc (sps [.int .i64 (szR (tot x.qI) (szR (tot x.zq) (szR (tot x.xq) (szR (tot x.xm) (szR (tot x.xg) (szR (tot x.qV) left)))))), .bool (decide ((szR (tot x.qI) (szR (tot x.zq) (szR (tot x.xq) (szR (tot x.xm) (szR (tot x.xg) (szR (tot x.qV) left))))) : Int) < 0))] (zjn (cD rfl (fun h20 => ?_) (fun h20 => ?_)))))
 ·skip
  refine zcr (sp (.int .i64 (-1)) (zjr (t_r (ret1 (.int .i64 (-1)) rfl rfl ⟨_, rfl, (congrArg (Value.int .i64) ?_), H.base⟩))))
  have := zh (tot x) left
  rw [tot_RuleD] at *
  try omega
 refine qK (t_n (zcr (sps [.int .i64 (szR (tot x.qI) (szR (tot x.zq) (szR (tot x.xq) (szR (tot x.xm) (szR (tot x.xg) (szR (tot x.qV) left)))))), .int .i64 (szR (tot x.qI) (szR (tot x.zq) (szR (tot x.xq) (szR (tot x.xm) (szR (tot x.xg) (szR (tot x.qV) left))))))] (zjr (ret1 (.int .i64 (szR (tot x.qI) (szR (tot x.zq) (szR (tot x.xq) (szR (tot x.xm) (szR (tot x.xg) (szR (tot x.qV) left))))))) rfl rfl ⟨_, rfl, (congrArg (Value.int .i64) ?_), H.base⟩)))))
 have := zh (tot x) left
 rw [tot_RuleD] at *
 try omega

theorem szRuleS_ok (w : World) (x : List Qr) (left : Int) (hx : qB.rep w Fx [.slice ax x.length cx] x) (p0 : 0 ≤ left ∧ left ≤ 2000000) : Calls Tryz.prog 54 #[.slice ax x.length cx, .int .i64 left] w (Ret (fun v w' => v = .int .i64 (szR (tot x) left)) w) := by
 refine en Tryz.func54 Tryz.ntmps54 ?_
 have H := (St.start w).arg hx
 have nhx := qx hx
 clear hx
 refine zcr (sp (.int .i64 0) (zjc (sps [.int .i64 left, .slice ax x.length cx] (oN rfl (sw (o_sub left x.length rfl rfl (by omega) (sp (.int .i64 (left - x.length)) (zjcc (sps [.int .i64 (left - x.length), .bool (decide ((left - x.length : Int) < 0))] (zjn (cD rfl (fun h1 => ?_) (fun h1 => ?_))))))))))))
 ·skip
  refine zcr (sp (.int .i64 (-1)) (zjr (t_r (ret1 (.int .i64 (-1)) rfl rfl ⟨_, rfl, (congrArg (Value.int .i64) ?_), H.base⟩))))
  have := zh (tot x) left
  have := len_tot x
  omega
 refine qK (t_n (zcc (sp (.int .i64 0) (zjn (qM ?_)))))
 refine xQ (fun m' ρ w2 => ∃ (junk : Env) (k : Nat) (r : Int), ρ = upd (upd (upd junk 0 (.slice ax x.length cx)) 1 (.int .i64 r)) 5 (.int .i64 k) ∧ (k ≤ x.length) ∧ (r = left - (x.length : Int) - (totTo x k : Nat)) ∧ (0 ≤ r) ∧ m' = x.length - k ∧ St w w2 [] [sF false Fx ax cx x]) (x.length - 0) ⟨_, 0, left - (x.length : Int), uE3, (by omega), (by rw [totTo_zero]; omega), (by omega), rfl, H⟩ ?_
 clear H
 rintro m' ρ w3 ⟨junk, k, r, rfl, i0, i1, i2, rfl, H⟩
 refine zcc (sps [.int .i64 k, .slice ax x.length cx] (oN rfl (sp (.bool (decide ((k : Int) < x.length))) (zjn (cD rfl (fun h4 => ?_) (fun h4 => ?_))))))
 ·skip
  refine qK (t_n (xC (qM (zcr (sps [.slice ax x.length cx, .int .i64 k] ?_)))))
  obtain ⟨b5, o6, rfl⟩ := H.addr 0 rfl (by omega)
  obtain ⟨ae7Need, ce7Need, Fe7Need, ae7Have, ce7Have, Fe7Have, ae7Lack, ce7Lack, Fe7Lack, ae7Here, ce7Here, Fe7Here, ae7Out, ce7Out, Fe7Out, ae7Into, ce7Into, Fe7Into, H⟩ := H.jy 0 rfl k k (by omega) (by omega) (by omega)
  refine oI rfl rfl (sw (xU [.int .i64 ((x[k]!).qp), .int .i64 ((x[k]!).zg), .slice ae7Need (((x[k]!).qV).length) ce7Need, .slice ae7Have (((x[k]!).xg).length) ce7Have, .slice ae7Lack (((x[k]!).xm).length) ce7Lack, .slice ae7Here (((x[k]!).xq).length) ce7Here, .slice ae7Out (((x[k]!).zq).length) ce7Out, .slice ae7Into (((x[k]!).qI).length) ce7Into, .bool ((x[k]!).xO)] Tryz.isAgg111 Tryz.sizeOf111 rfl (qw (H.get 6 rfl) 0 9) (sp (.int .i64 r) (sw (oq (szRule_ok _ (x[k]!) r (H.get 0 rfl).1 (H.get 1 rfl).1 (H.get 2 rfl).1 (H.get 3 rfl).1 (H.get 4 rfl).1 (H.get 5 rfl).1 (by omega)) H fun w8 H => ?_)))))
  have := zh (tot (x[k]!)) r
  refine sp (.int .i64 (szR (tot (x[k]!)) r)) (zjc (sps [.int .i64 (szR (tot (x[k]!)) r), .bool (decide ((szR (tot (x[k]!)) r : Int) < 0))] (zjn (cD rfl (fun h10 => ?_) (fun h10 => ?_)))))
  ·skip
   refine zcr (sp (.int .i64 (-1)) (zjr (zr5 (ret1 (.int .i64 (-1)) rfl rfl ⟨_, rfl, (congrArg (Value.int .i64) ?_), H.base⟩))))
   have := zh (tot x) left
   have := tot_get (l := x) (k := k) (by omega)
   omega
  refine qK (b_n (t_n (xH (sp (.int .i64 k) (sw (xX k 1 rfl rfl (by omega) (sp (.int .i64 (k + 1)) (xG (qR (m' := x.length - (k + 1)) (by omega) ⟨_, k + 1, szR (tot (x[k]!)) r, uE3, ?_, ?_, ?_, rfl, H.sel _ (.refl _) _ (by simp)⟩)))))))))
  · omega
  · rw [totTo_succ]; omega
  · omega
 refine zx4 (zcr (sps [.int .i64 r, .int .i64 r] (zjr (ret1 (.int .i64 r) rfl rfl ⟨_, rfl, (congrArg (Value.int .i64) ?_), H.base⟩))))
 obtain rfl : k = x.length := by omega
 have := zh (tot x) left
 rw [tot_list] at *
 omega

theorem szSystem_ok (w : World) (x : qy) (left : Int) (Qi : qB.rep w yF [.slice vC x.qf.length vz] x.qf) (X7 : qB.rep w Xi [.slice yE x.qg.length yC] x.qg) (p0 : 0 ≤ left ∧ left ≤ 2000000) : Calls Tryz.prog 14 #[.agg #[.int .i64 x.qJ, .slice vC x.qf.length vz, .slice yE x.qg.length yC], .int .i64 left] w (Ret (fun v w' => v = .int .i64 (szR (tot x) left)) w) := by
 refine en Tryz.func14 Tryz.ntmps14 ?_
 have H := ((St.start w).arg X7).arg Qi
 have nhxParents := qx Qi
 have nhxRules := qx X7
 clear Qi X7
 refine zcr (sw (o_box H (.agg #[.int .i64 x.qJ, .slice vC x.qf.length vz, .slice yE x.qg.length yC]) rfl fun b1 w2 H => ?_))
 replace H : St _ _ [.box b1 [.int .i64 x.qJ, .slice vC x.qf.length vz, .slice yE x.qg.length yC] 25] _ := H
 refine sp (.int .i64 0) (zjc (oF rfl (oL rfl (H.cell 0 rfl rfl) (sp (.int .i64 left) (sw (oq (Q9 _ x.qf left (H.get 0 rfl).1 (by omega)) H fun w3 H => ?_))))))
 have := zh (tot x.qf) left
 refine sp (.int .i64 (szR (tot x.qf) left)) (zjcc (sps [.int .i64 (szR (tot x.qf) left), .bool (decide ((szR (tot x.qf) left : Int) < 0))] (zjn (cD rfl (fun h5 => ?_) (fun h5 => ?_)))))
 ·skip
  refine zcr (sp (.int .i64 (-1)) (zjr (t_r (ret1 (.int .i64 (-1)) rfl rfl ⟨_, rfl, (congrArg (Value.int .i64) ?_), H.base⟩))))
  have := zh (tot x) left
  rw [tot_SystemD] at *
  try omega
 refine qK (t_n (zcr (oF rfl (oL rfl (H.cell 0 rfl rfl) (sp (.int .i64 (szR (tot x.qf) left)) (sw (oq (szRuleS_ok _ x.qg (szR (tot x.qf) left) (H.get 1 rfl).1 (by omega)) H fun w6 H => ?_)))))))
 have := zh (tot x.qg) (szR (tot x.qf) left)
 refine sp (.int .i64 (szR (tot x.qg) (szR (tot x.qf) left))) (zjcc (sps [.int .i64 (szR (tot x.qg) (szR (tot x.qf) left)), .bool (decide ((szR (tot x.qg) (szR (tot x.qf) left) : Int) < 0))] (zjn (cD rfl (fun h8 => ?_) (fun h8 => ?_)))))
 ·skip
  refine zcr (sp (.int .i64 (-1)) (zjr (t_r (ret1 (.int .i64 (-1)) rfl rfl ⟨_, rfl, (congrArg (Value.int .i64) ?_), H.base⟩))))
  have := zh (tot x) left
  rw [tot_SystemD] at *
  try omega
 refine qK (t_n (zcr (sps [.int .i64 (szR (tot x.qg) (szR (tot x.qf) left)), .int .i64 (szR (tot x.qg) (szR (tot x.qf) left))] (zjr (ret1 (.int .i64 (szR (tot x.qg) (szR (tot x.qf) left))) rfl rfl ⟨_, rfl, (congrArg (Value.int .i64) ?_), H.base⟩)))))
 have := zh (tot x) left
 rw [tot_SystemD] at *
 try omega

theorem szState_ok (w : World) (x : qE) (left : Int) (X8 : qB.rep w Q4 [.slice jV x.qh.length jU] x.qh) (hxBags : qB.rep w V6 [.slice Qy x.ql.length Qx] x.ql) (QT : qB.rep w Qb [.slice vY x.qj.length vX] x.qj) (p0 : 0 ≤ left ∧ left ≤ 2000000) : Calls Tryz.prog 15 #[.agg #[.slice jV x.qh.length jU, .slice Qy x.ql.length Qx, .slice vY x.qj.length vX], .int .i64 left] w (Ret (fun v w' => v = .int .i64 (szR (tot x) left)) w) := by
 refine en Tryz.func15 Tryz.ntmps15 ?_
 have H := (((St.start w).arg QT).arg hxBags).arg X8
 have nhxAlive := qx X8
 have nhxBags := qx hxBags
 have nhxAround := qx QT
 clear X8 hxBags QT
 refine zcr (sw (o_box H (.agg #[.slice jV x.qh.length jU, .slice Qy x.ql.length Qx, .slice vY x.qj.length vX]) rfl fun b1 w2 H => ?_))
 replace H : St _ _ [.box b1 [.slice jV x.qh.length jU, .slice Qy x.ql.length Qx, .slice vY x.qj.length vX] 29] _ := H
 refine sp (.int .i64 0) (zjc (oF rfl (oL rfl (H.cell 0 rfl rfl) (sp (.int .i64 left) (sw (oq (szBoolS_ok _ x.qh left (H.get 0 rfl).1 (by omega)) H fun w3 H => ?_))))))
 have := zh (tot x.qh) left
 refine sp (.int .i64 (szR (tot x.qh) left)) (zjcc (sps [.int .i64 (szR (tot x.qh) left), .bool (decide ((szR (tot x.qh) left : Int) < 0))] (zjn (cD rfl (fun h5 => ?_) (fun h5 => ?_)))))
 ·skip
  refine zcr (sp (.int .i64 (-1)) (zjr (t_r (ret1 (.int .i64 (-1)) rfl rfl ⟨_, rfl, (congrArg (Value.int .i64) ?_), H.base⟩))))
  have := zh (tot x) left
  rw [tot_StateD] at *
  try omega
 refine qK (t_n (zcr (oF rfl (oL rfl (H.cell 0 rfl rfl) (sp (.int .i64 (szR (tot x.qh) left)) (sw (oq (szInt64SS_ok _ x.ql (szR (tot x.qh) left) (H.get 1 rfl).1 (by omega)) H fun w6 H => ?_)))))))
 have := zh (tot x.ql) (szR (tot x.qh) left)
 refine sp (.int .i64 (szR (tot x.ql) (szR (tot x.qh) left))) (zjcc (sps [.int .i64 (szR (tot x.ql) (szR (tot x.qh) left)), .bool (decide ((szR (tot x.ql) (szR (tot x.qh) left) : Int) < 0))] (zjn (cD rfl (fun h8 => ?_) (fun h8 => ?_)))))
 ·skip
  refine zcr (sp (.int .i64 (-1)) (zjr (t_r (ret1 (.int .i64 (-1)) rfl rfl ⟨_, rfl, (congrArg (Value.int .i64) ?_), H.base⟩))))
  have := zh (tot x) left
  rw [tot_StateD] at *
  try omega
 refine qK (t_n (zcr (oF rfl (oL rfl (H.cell 0 rfl rfl) (sp (.int .i64 (szR (tot x.ql) (szR (tot x.qh) left))) (sw (oq (Q9 _ x.qj (szR (tot x.ql) (szR (tot x.qh) left)) (H.get 2 rfl).1 (by omega)) H fun w9 H => ?_)))))))
 have := zh (tot x.qj) (szR (tot x.ql) (szR (tot x.qh) left))
 refine sp (.int .i64 (szR (tot x.qj) (szR (tot x.ql) (szR (tot x.qh) left)))) (zjcc (sps [.int .i64 (szR (tot x.qj) (szR (tot x.ql) (szR (tot x.qh) left))), .bool (decide ((szR (tot x.qj) (szR (tot x.ql) (szR (tot x.qh) left)) : Int) < 0))] (zjn (cD rfl (fun h11 => ?_) (fun h11 => ?_)))))
 ·skip
  refine zcr (sp (.int .i64 (-1)) (zjr (t_r (ret1 (.int .i64 (-1)) rfl rfl ⟨_, rfl, (congrArg (Value.int .i64) ?_), H.base⟩))))
  have := zh (tot x) left
  rw [tot_StateD] at *
  try omega
 refine qK (t_n (zcr (sps [.int .i64 (szR (tot x.qj) (szR (tot x.ql) (szR (tot x.qh) left))), .int .i64 (szR (tot x.qj) (szR (tot x.ql) (szR (tot x.qh) left)))] (zjr (ret1 (.int .i64 (szR (tot x.qj) (szR (tot x.ql) (szR (tot x.qh) left)))) rfl rfl ⟨_, rfl, (congrArg (Value.int .i64) ?_), H.base⟩)))))
 have := zh (tot x) left
 rw [tot_StateD] at *
 try omega

theorem Q8 (w : World) (x : List Int) (hx : qB.rep w Fx [.slice ax x.length cx] x) (p0 : tot x ≤ 2000000) : Calls Tryz.prog 59 #[.slice ax x.length cx] w (Ret (fun v w' => OwnNew w w' 2 v x) w) := by
 refine en Tryz.func59 Tryz.ntmps59 ?_
 have H := (St.start w).arg hx
 have nhx := qx hx
 clear hx
 have p1 := len_tot x
 refine zcr (sp (.slice none 0 0) (zjc (sp (.slice ax x.length cx) (oN rfl (sw (o_make1 H Tryz.underlying22 ti2 rfl x.length rfl rfl (by omega) (by omega) fun b1 w2 H => ?_))))))
 replace H : St _ _ [.box b1 (List.replicate x.length (.int .i64 0)) 2] _ := H
 refine sp (.slice (aa b1 0) x.length x.length) (zjcc (sp (.int .i64 0) (zjn (qM ?_))))
 refine xQ (fun m' ρ w3 => ∃ (junk : Env) (k : Nat), ρ = upd (upd (upd (upd junk 0 (.slice ax x.length cx)) 2 (.slice none 0 0)) 3 (.slice (aa b1 0) x.length x.length)) 4 (.int .i64 k) ∧ (k ≤ x.length) ∧ m' = x.length - k ∧ St w w3 [.box b1 ((x.take k).map (Value.int .i64) ++ List.replicate (x.length - (k)) (.int .i64 0)) 2] [sF false Fx ax cx x]) (x.length - 0) ⟨_, 0, uE4, (by omega), rfl, H⟩ ?_
 clear H
 rintro m' ρ w4 ⟨junk, k, rfl, i0, rfl, H⟩
 refine zcc (sps [.int .i64 k, .slice ax x.length cx] (oN rfl (sp (.bool (decide ((k : Int) < x.length))) (zjn (cD rfl (fun h5 => ?_) (fun h5 => ?_))))))
 ·skip
  refine qK (t_n (xC (qM (xH (sps [.slice (aa b1 0) x.length x.length, .int .i64 k, .slice ax x.length cx, .int .i64 k] ?_)))))
  obtain ⟨b6, o7, rfl⟩ := H.addr 0 rfl (by omega)
  refine oI rfl rfl (oL rfl (H.jd 0 rfl k (by omega) (by omega)) (oI rfl rfl (sw (yA H 0 rfl (.int .i64 (x[k]!)) Tryz.sizeOf2 rfl rfl rfl (by simp only [List.length_append, List.length_replicate]; have : ((x.take k).map (Value.int .i64)).length = k := (by (simp; omega)); omega) fun w9 H => ?_))))
  rw [fill_set (k := k) (by (simp; omega)) (by simp) (by omega)] at H
  replace H : St _ _ [.box b1 ((x.take k).map (Value.int .i64) ++ [.int .i64 (x[k]!)] ++ List.replicate (x.length - (k + 1)) (.int .i64 0)) 2] _ := H
  refine xG (b_n (t_n (xH (sp (.int .i64 k) (sw (xX k 1 rfl rfl (by omega) (sp (.int .i64 (k + 1)) (xG ?_))))))))
  rw [show (x.take k).map (Value.int .i64) ++ [.int .i64 (x[k]!)] = (x.take (k + 1)).map (Value.int .i64) from by exact map_take_snoc _ (by omega)] at H
  refine qR (m' := x.length - (k + 1)) (by omega) ⟨_, k + 1, uE4, ?_, rfl, H⟩
  · omega
 refine zx4 (zcr (sps [.slice (aa b1 0) x.length x.length, .slice (aa b1 0) x.length x.length] (zjr (ret1 (.slice (aa b1 0) x.length x.length) rfl rfl ⟨_, rfl, ?_, H.base⟩))))
 rw [List.take_of_length_le (by omega : x.length ≤ k)] at H
 rw [fill_end1 (by omega)] at H
 replace H := H.boxRow 0 rfl 1 x.length (by (first | omega | (simp; done) | (simp; omega))) (by unfold maxLen; omega)
 exact H.newInts 0 rfl (by omega)

theorem toBoolS_ok (w : World) (x : List Bool) (hx : qB.rep w Fx [.slice ax x.length cx] x) (p0 : tot x ≤ 2000000) : Calls Tryz.prog 61 #[.slice ax x.length cx] w (Ret (fun v w' => OwnNew w w' 4 v x) w) := by
 refine en Tryz.func61 Tryz.ntmps61 ?_
 have H := (St.start w).arg hx
 have nhx := qx hx
 clear hx
 have p1 := len_tot x
 refine zcr (sp (.slice none 0 0) (zjc (sp (.slice ax x.length cx) (oN rfl (sw (o_make1 H Tryz.underlying26 ti4 rfl x.length rfl rfl (by omega) (by omega) fun b1 w2 H => ?_))))))
 replace H : St _ _ [.box b1 (List.replicate x.length (.bool false)) 4] _ := H
 refine sp (.slice (aa b1 0) x.length x.length) (zjcc (sp (.int .i64 0) (zjn (qM ?_))))
 refine xQ (fun m' ρ w3 => ∃ (junk : Env) (k : Nat), ρ = upd (upd (upd (upd junk 0 (.slice ax x.length cx)) 2 (.slice none 0 0)) 3 (.slice (aa b1 0) x.length x.length)) 4 (.int .i64 k) ∧ (k ≤ x.length) ∧ m' = x.length - k ∧ St w w3 [.box b1 ((x.take k).map (Value.bool) ++ List.replicate (x.length - (k)) (.bool false)) 4] [sF false Fx ax cx x]) (x.length - 0) ⟨_, 0, uE4, (by omega), rfl, H⟩ ?_
 clear H
 rintro m' ρ w4 ⟨junk, k, rfl, i0, rfl, H⟩
 refine zcc (sps [.int .i64 k, .slice ax x.length cx] (oN rfl (sp (.bool (decide ((k : Int) < x.length))) (zjn (cD rfl (fun h5 => ?_) (fun h5 => ?_))))))
 ·skip
  refine qK (t_n (xC (qM (xH (sps [.slice (aa b1 0) x.length x.length, .int .i64 k, .slice ax x.length cx, .int .i64 k] ?_)))))
  obtain ⟨b6, o7, rfl⟩ := H.addr 0 rfl (by omega)
  refine oI rfl rfl (oL rfl (H.Xc 0 rfl k (by omega) (by omega)) (oI rfl rfl (sw (yA H 0 rfl (.bool (x[k]!)) Tryz.sizeOf4 rfl rfl rfl (by simp only [List.length_append, List.length_replicate]; have : ((x.take k).map (Value.bool)).length = k := (by (simp; omega)); omega) fun w9 H => ?_))))
  rw [fill_set (k := k) (by (simp; omega)) (by simp) (by omega)] at H
  replace H : St _ _ [.box b1 ((x.take k).map (Value.bool) ++ [.bool (x[k]!)] ++ List.replicate (x.length - (k + 1)) (.bool false)) 4] _ := H
  refine xG (b_n (t_n (xH (sp (.int .i64 k) (sw (xX k 1 rfl rfl (by omega) (sp (.int .i64 (k + 1)) (xG ?_))))))))
  rw [show (x.take k).map (Value.bool) ++ [.bool (x[k]!)] = (x.take (k + 1)).map (Value.bool) from by exact map_take_snoc _ (by omega)] at H
  refine qR (m' := x.length - (k + 1)) (by omega) ⟨_, k + 1, uE4, ?_, rfl, H⟩
  · omega
 refine zx4 (zcr (sps [.slice (aa b1 0) x.length x.length, .slice (aa b1 0) x.length x.length] (zjr (ret1 (.slice (aa b1 0) x.length x.length) rfl rfl ⟨_, rfl, ?_, H.base⟩))))
 rw [List.take_of_length_le (by omega : x.length ≤ k)] at H
 rw [fill_end1 (by omega)] at H
 replace H := H.boxRow 0 rfl 1 x.length (by (first | omega | (simp; done) | (simp; omega))) (by unfold maxLen; omega)
 exact H.newBools 0 rfl (by omega)

theorem toInt64SS_ok (w : World) (x : List (List Int)) (hx : qB.rep w Fx [.slice ax x.length cx] x) (p0 : tot x ≤ 2000000) : Calls Tryz.prog 62 #[.slice ax x.length cx] w (Ret (fun v w' => OwnNew w w' 22 v x) w) := by
 refine en Tryz.func62 Tryz.ntmps62 ?_
 have H := (St.start w).arg hx
 have nhx := qx hx
 clear hx
 have p1 := len_tot x
 refine zcr (sp (.slice none 0 0) (zjc (sp (.slice ax x.length cx) (oN rfl (sw (o_make1 H Tryz.underlying27 ti22 rfl x.length rfl rfl (by omega) (by omega) fun b1 w2 H => ?_))))))
 replace H : St _ _ [.box b1 (List.replicate x.length (.slice none 0 0)) 22] _ := H
 refine sp (.slice (aa b1 0) x.length x.length) (zjcc (sp (.int .i64 0) (zjn (qM ?_))))
 replace H := H.vw (α := List Int)
 refine xQ (fun m' ρ w3 => ∃ (junk : Env) (k : Nat) (xs3 : List Value) (Fr3 : List Nat), ρ = upd (upd (upd (upd junk 0 (.slice ax x.length cx)) 2 (.slice none 0 0)) 3 (.slice (aa b1 0) x.length x.length)) 4 (.int .i64 k) ∧ (k ≤ x.length) ∧ (xs3.length = k * 1) ∧ (∀ b ∈ Fr3, w.heap.size ≤ b) ∧ (Fr3.Nodup) ∧ m' = x.length - k ∧ St w w3 [.box b1 (xs3 ++ List.replicate (x.length - (k)) (.slice none 0 0)) 22] [xN true Fr3 xs3 (x.take k), sF false Fx ax cx x]) (x.length - 0) ⟨_, 0, [], [], uE4, (by omega), (by rfl), (by simp), (by simp), rfl, H⟩ ?_
 clear H
 rintro m' ρ w4 ⟨junk, k, xs3, Fr3, rfl, i0, hl3, nf3, nd3, rfl, H⟩
 have p2 := fun h => tot_get (l := x) (k := k) h
 refine zcc (sps [.int .i64 k, .slice ax x.length cx] (oN rfl (sp (.bool (decide ((k : Int) < x.length))) (zjn (cD rfl (fun h5 => ?_) (fun h5 => ?_))))))
 ·skip
  refine qK (t_n (xC (qM (xH (sps [.slice (aa b1 0) x.length x.length, .int .i64 k, .slice ax x.length cx, .int .i64 k] ?_)))))
  obtain ⟨b6, o7, rfl⟩ := H.addr 1 rfl (by omega)
  obtain ⟨ae8, ce8, Fe8, H⟩ := H.zU 1 rfl k k (by omega) (by omega) (by omega)
  refine oI rfl rfl (oL rfl (H.xB 1 rfl 0 rfl) ?_)
  have szx10 := H.base.size
  have lt11 := H.repsLt 2 rfl
  refine sw (oc (Q8 _ (x[k]!) (H.get 0 rfl).1 (by first | omega | (have := p2 (by omega); omega))) ?_)
  rintro v12 w9 r12 x10
  obtain ⟨a12, c12, F12, rfl, f12, H⟩ := H.add_is x10 r12.isNew
  have d12 := f12.2
  have q12 := f12.1
  replace f12 : ∀ b ∈ F12, w.heap.size ≤ b := fun b hb => Nat.le_trans szx10 (f12.1 b hb)
  refine oI rfl rfl (sw (yA H 0 rfl (.slice a12 ((x[k]!).length) c12) Tryz.sizeOf22 rfl rfl rfl (by simp only [List.length_append, List.length_replicate]; have : (xs3).length = k := (by (omega)); omega) fun w14 H => ?_))
  rw [fill_set (k := k) (by (omega)) (by simp) (by omega)] at H
  replace H : St _ _ [.box b1 (xs3 ++ [.slice a12 ((x[k]!).length) c12] ++ List.replicate (x.length - (k + 1)) (.slice none 0 0)) 22] _ := H
  refine xG (b_n (t_n (xH (sp (.int .i64 k) (sw (xX k 1 rfl rfl (by omega) (sp (.int .i64 (k + 1)) (xG ?_))))))))
  replace H := H.yl 3 rfl 0 rfl
  rw [show (x.take k) ++ [(x[k]!)] = x.take (k + 1) from by exact take_snoc (by omega)] at H
  refine qR (m' := x.length - (k + 1)) (by omega) ⟨_, k + 1, (xs3 ++ [.slice a12 ((x[k]!).length) c12]), (Fr3 ++ F12), uE4, ?_, ?_, ?_, ?_, rfl, H.sel _ (.refl _) _ (by simp)⟩
  · omega
  · first | (simp only [List.length_append, List.length_cons, List.length_nil]; omega) | (simp [hl3]; done) | (simp; omega)
  · exact Q3 nf3 f12
  · exact QY nd3 d12 lt11 q12
 refine zx4 (zcr (sps [.slice (aa b1 0) x.length x.length, .slice (aa b1 0) x.length x.length] (zjr (ret1 (.slice (aa b1 0) x.length x.length) rfl rfl ⟨_, rfl, ?_, H.base⟩))))
 rw [List.take_of_length_le (by omega : x.length ≤ k)] at H
 rw [fill_end1 (by omega)] at H
 replace H := H.boxRow 0 rfl 1 x.length (by omega) (by unfold maxLen; omega)
 exact H.newRow 0 rfl 0 rfl (by omega) (by assumption) (by assumption)

theorem toInto_ok (w : World) (x : IntoD) (hxBag : qB.rep w FxBag [.slice axBag x.vS.length cxBag] x.vS) (p0 : tot x ≤ 2000000) : Calls Tryz.prog 172 #[.agg #[.int .i64 x.qp, .slice axBag x.vS.length cxBag]] w (Ret (fun v w' => New_IntoD w w' v x) w) := by
 refine en Tryz.func172 Tryz.ntmps172 ?_
 have H := (St.start w).arg hxBag
 have nhxBag := qx hxBag
 clear hxBag
 have p1 := tot_IntoD x
 refine zcr (sw (o_box H (.agg #[.int .i64 x.qp, .slice axBag x.vS.length cxBag]) rfl fun b1 w2 H => sw (o_alloc H ti164 fun b3 w4 H => zjc (sw (o_alloc H ti164 fun b5 w6 H => zjc (oF rfl (oL rfl (H.cell 2 rfl rfl) (oF rfl (sw (yA H 0 rfl (.int .i64 x.qp) Tryz.sizeOf2 rfl rfl rfl (Nat.le_of_ble_eq_true rfl) fun w7 H => ?_))))))))))
 replace H : St _ _ [.box b5 [.int .i64 x.qp, .slice none 0 0] 164, .box b3 [.int .i64 0, .slice none 0 0] 164, .box b1 [.int .i64 x.qp, .slice axBag x.vS.length cxBag] 190] _ := H
 refine zjc (oF rfl (oL rfl (H.cell 2 rfl rfl) ?_))
 have szx9 := H.base.size
 refine sw (oc (Q8 _ x.vS (H.get 0 rfl).1 (by first | omega | (have := p2 (by omega); omega))) ?_)
 rintro v10 w8 r10 x9
 obtain ⟨a10, c10, F10, rfl, f10, H⟩ := H.add_is x9 r10.isNew
 have d10 := f10.2
 have q10 := f10.1
 replace f10 : ∀ b ∈ F10, w.heap.size ≤ b := fun b hb => Nat.le_trans szx9 (f10.1 b hb)
 refine oF rfl (sw (yA H 0 rfl (.slice a10 x.vS.length c10) Tryz.sizeOf22 rfl rfl rfl (Nat.le_of_ble_eq_true rfl) fun w11 H => ?_))
 replace H : St _ _ [.box b5 [.int .i64 x.qp, .slice a10 x.vS.length c10] 164, .box b3 [.int .i64 0, .slice none 0 0] 164, .box b1 [.int .i64 x.qp, .slice axBag x.vS.length cxBag] 190] _ := H
 refine zjc (sw (xU [.int .i64 x.qp, .slice a10 x.vS.length c10] Tryz.isAgg164 Tryz.sizeOf164 rfl (qw (H.cells 0 rfl) 0 2) (sw (o_store H 1 rfl (.agg #[.int .i64 x.qp, .slice a10 x.vS.length c10]) Tryz.sizeOf164 rfl rfl (by simp [Value.oneCell', Value.cells]) (Nat.le_of_ble_eq_true rfl) fun w12 H => ?_))))
 replace H : St _ _ [.box b5 [.int .i64 x.qp, .slice a10 x.vS.length c10] 164, .box b3 [.int .i64 x.qp, .slice a10 x.vS.length c10] 164, .box b1 [.int .i64 x.qp, .slice axBag x.vS.length cxBag] 190] _ := H
 refine zjr (retC H 1 rfl rfl Tryz.isAgg164 Tryz.sizeOf164 rfl ⟨_, rfl, (⟨_, _, _, rfl, (H.get 0 rfl).1, f10, d10, ((H.get 0 rfl).2 rfl)⟩), H.base⟩)

theorem toIntoS_ok (w : World) (x : List IntoD) (hx : qB.rep w Fx [.slice ax x.length cx] x) (p0 : tot x ≤ 2000000) : Calls Tryz.prog 137 #[.slice ax x.length cx] w (Ret (fun v w' => OwnNew w w' 164 v x) w) := by
 refine en Tryz.func137 Tryz.ntmps137 ?_
 have H := (St.start w).arg hx
 have nhx := qx hx
 clear hx
 have p1 := len_tot x
 refine zcr (sp (.slice none 0 0) (zjc (sp (.slice ax x.length cx) (oN rfl (sw (o_makeN H Tryz.underlying119 ti164 rfl (by decide) x.length rfl rfl (by omega) (by omega) fun b1 w2 H => ?_))))))
 replace H : St _ _ [.box b1 ((List.replicate x.length [.int .i64 0, .slice none 0 0]).flatten) 164] _ := H
 refine sp (.slice (aa b1 0) x.length x.length) (zjcc (sp (.int .i64 0) (zjn (qM ?_))))
 replace H := H.vw (α := IntoD)
 refine xQ (fun m' ρ w3 => ∃ (junk : Env) (k : Nat) (xs3 : List Value) (Fr3 : List Nat), ρ = upd (upd (upd (upd junk 0 (.slice ax x.length cx)) 2 (.slice none 0 0)) 3 (.slice (aa b1 0) x.length x.length)) 4 (.int .i64 k) ∧ (k ≤ x.length) ∧ (xs3.length = k * 2) ∧ (∀ b ∈ Fr3, w.heap.size ≤ b) ∧ (Fr3.Nodup) ∧ m' = x.length - k ∧ St w w3 [.box b1 (xs3 ++ (List.replicate (x.length - (k)) [.int .i64 0, .slice none 0 0]).flatten) 164] [xN true Fr3 xs3 (x.take k), sF false Fx ax cx x]) (x.length - 0) ⟨_, 0, [], [], uE4, (by omega), (by rfl), (by simp), (by simp), rfl, H⟩ ?_
 clear H
 rintro m' ρ w4 ⟨junk, k, xs3, Fr3, rfl, i0, hl3, nf3, nd3, rfl, H⟩
 have p2 := fun h => tot_get (l := x) (k := k) h
 refine zcc (sps [.int .i64 k, .slice ax x.length cx] (oN rfl (sp (.bool (decide ((k : Int) < x.length))) (zjn (cD rfl (fun h5 => ?_) (fun h5 => ?_))))))
 ·skip
  refine qK (t_n (xC (qM (xH (sps [.slice (aa b1 0) x.length x.length, .int .i64 k, .slice ax x.length cx, .int .i64 k] ?_)))))
  obtain ⟨b6, o7, rfl⟩ := H.addr 1 rfl (by omega)
  obtain ⟨ae8Bag, ce8Bag, Fe8Bag, H⟩ := H.jh 1 rfl k k (by omega) (by omega) (by omega)
  refine oI rfl rfl (sw (xU [.int .i64 ((x[k]!).qp), .slice ae8Bag (((x[k]!).vS).length) ce8Bag] Tryz.isAgg190 Tryz.sizeOf190 rfl (qw (H.get 1 rfl) 0 2) ?_))
  have szx10 := H.base.size
  have lt11 := H.repsLt 2 rfl
  refine sw (oc (toInto_ok _ (x[k]!) (H.get 0 rfl).1 (by omega)) ?_)
  rintro v12 w9 r12 x10
  obtain ⟨a12Bag, c12Bag, F12Bag, rfl, f12, H⟩ := H.add_IntoD x10 r12
  have d12 := f12.2
  have q12 := f12.1
  replace f12 : ∀ b ∈ F12Bag, w.heap.size ≤ b := fun b hb => Nat.le_trans szx10 (f12.1 b hb)
  refine oI rfl rfl (sw (o_store H 0 rfl (.agg #[.int .i64 ((x[k]!).qp), .slice a12Bag (((x[k]!).vS).length) c12Bag]) Tryz.sizeOf164 rfl rfl (by simp [Value.oneCell', Value.cells]) (by have : (xs3).length = k * 2 := (by (exact hl3)); simp [Value.cells]; have := fill_room (n := x.length) (k := k) (s := 2) (by omega); simp at this; omega) fun w14 H => ?_))
  replace H : St _ _ [.box b1 (xs3 ++ [.int .i64 ((x[k]!).qp), .slice a12Bag (((x[k]!).vS).length) c12Bag] ++ (List.replicate (x.length - (k + 1)) [.int .i64 0, .slice none 0 0]).flatten) 164] _ := (fill_put (vs := [.int .i64 ((x[k]!).qp), .slice a12Bag (((x[k]!).vS).length) c12Bag]) (zs := [.int .i64 0, .slice none 0 0]) (off := 0 + (k : Int).toNat * 2) (xs := xs3) (k := k) (s := 2) (n := x.length) (by (exact hl3)) (by simp) rfl rfl (by omega)) ▸ H
  replace H : St _ _ [.box b1 (xs3 ++ [.int .i64 ((x[k]!).qp), .slice a12Bag (((x[k]!).vS).length) c12Bag] ++ (List.replicate (x.length - (k + 1)) [.int .i64 0, .slice none 0 0]).flatten) 164] _ := H
  refine xG (b_n (t_n (xH (sp (.int .i64 k) (sw (xX k 1 rfl rfl (by omega) (sp (.int .i64 (k + 1)) (xG ?_))))))))
  replace H := H.snoc_IntoD 3 rfl ((x[k]!).qp) 0 rfl
  rw [show (x.take k) ++ [⟨(x[k]!).qp, (x[k]!).vS⟩] = x.take (k + 1) from by exact take_snoc (by omega)] at H
  refine qR (m' := x.length - (k + 1)) (by omega) ⟨_, k + 1, (xs3 ++ [.int .i64 ((x[k]!).qp), .slice a12Bag (((x[k]!).vS).length) c12Bag]), (Fr3 ++ F12Bag), uE4, ?_, ?_, ?_, ?_, rfl, H.sel _ (.refl _) _ (by simp)⟩
  · omega
  · first | (simp only [List.length_append, List.length_cons, List.length_nil]; omega) | (simp [hl3]; done) | (simp; omega)
  · exact Q3 nf3 f12
  · exact QY nd3 d12 lt11 q12
 refine zx4 (zcr (sps [.slice (aa b1 0) x.length x.length, .slice (aa b1 0) x.length x.length] (zjr (ret1 (.slice (aa b1 0) x.length x.length) rfl rfl ⟨_, rfl, ?_, H.base⟩))))
 rw [List.take_of_length_le (by omega : x.length ≤ k)] at H
 rw [fill_endN (by omega)] at H
 replace H := H.boxRow 0 rfl 2 x.length (by omega) (by unfold maxLen; omega)
 exact H.newRow 0 rfl 0 rfl (by omega) (by assumption) (by assumption)

theorem toRule_ok (w : World) (x : Qr) (hxNeed : qB.rep w FxNeed [.slice Vr x.qV.length Vf] x.qV) (hxHave : qB.rep w FxHave [.slice Vw x.xg.length Vk] x.xg) (hxLack : qB.rep w FxLack [.slice Vs x.xm.length Vg] x.xm) (hxHere : qB.rep w FxHere [.slice Vu x.xq.length Vj] x.xq) (hxOut : qB.rep w FxOut [.slice axOut x.zq.length cxOut] x.zq) (hxInto : qB.rep w FxInto [.slice Vt x.qI.length Vh] x.qI) (p0 : tot x ≤ 2000000) : Calls Tryz.prog 103 #[.agg #[.int .i64 x.qp, .int .i64 x.zg, .slice Vr x.qV.length Vf, .slice Vw x.xg.length Vk, .slice Vs x.xm.length Vg, .slice Vu x.xq.length Vj, .slice axOut x.zq.length cxOut, .slice Vt x.qI.length Vh, .bool x.xO]] w (Ret (fun v w' => New_RuleD w w' v x) w) := by
 refine en Tryz.func103 Tryz.ntmps103 ?_
 have H := ((((((St.start w).arg hxInto).arg hxOut).arg hxHere).arg hxLack).arg hxHave).arg hxNeed
 have nhxNeed := qx hxNeed
 have nhxHave := qx hxHave
 have nhxLack := qx hxLack
 have nhxHere := qx hxHere
 have nhxOut := qx hxOut
 have nhxInto := qx hxInto
 clear hxNeed hxHave hxLack hxHere hxOut hxInto
 have p1 := tot_RuleD x
 refine zcr (sw (o_box H (.agg #[.int .i64 x.qp, .int .i64 x.zg, .slice Vr x.qV.length Vf, .slice Vw x.xg.length Vk, .slice Vs x.xm.length Vg, .slice Vu x.xq.length Vj, .slice axOut x.zq.length cxOut, .slice Vt x.qI.length Vh, .bool x.xO]) rfl fun b1 w2 H => sw (o_alloc H ti121 fun b3 w4 H => zjc (sw (o_alloc H ti121 fun b5 w6 H => zjc (oF rfl (oL rfl (H.cell 2 rfl rfl) (oF rfl (sw (yA H 0 rfl (.int .i64 x.qp) Tryz.sizeOf2 rfl rfl rfl (Nat.le_of_ble_eq_true rfl) fun w7 H => zjc (oF rfl (oL rfl (H.cell 2 rfl rfl) (oF rfl ?_)))))))))))))
 refine sw (yA H 0 rfl (.int .i64 x.zg) Tryz.sizeOf2 rfl rfl rfl (Nat.le_of_ble_eq_true rfl) fun w8 H => ?_)
 replace H : St _ _ [.box b5 [.int .i64 x.qp, .int .i64 x.zg, .slice none 0 0, .slice none 0 0, .slice none 0 0, .slice none 0 0, .slice none 0 0, .slice none 0 0, .bool false] 121, .box b3 [.int .i64 0, .int .i64 0, .slice none 0 0, .slice none 0 0, .slice none 0 0, .slice none 0 0, .slice none 0 0, .slice none 0 0, .bool false] 121, .box b1 [.int .i64 x.qp, .int .i64 x.zg, .slice Vr x.qV.length Vf, .slice Vw x.xg.length Vk, .slice Vs x.xm.length Vg, .slice Vu x.xq.length Vj, .slice axOut x.zq.length cxOut, .slice Vt x.qI.length Vh, .bool x.xO] 111] _ := H
 refine zjc (oF rfl (oL rfl (H.cell 2 rfl rfl) ?_))
 have szx10 := H.base.size
 refine sw (oc (Q8 _ x.qV (H.get 0 rfl).1 (by first | omega | (have := p2 (by omega); omega))) ?_)
 rintro v11 w9 r11 x10
 obtain ⟨a11, c11, F11, rfl, f11, H⟩ := H.add_is x10 r11.isNew
 have d11 := f11.2
 have q11 := f11.1
 replace f11 : ∀ b ∈ F11, w.heap.size ≤ b := fun b hb => Nat.le_trans szx10 (f11.1 b hb)
 refine oF rfl (sw (yA H 0 rfl (.slice a11 x.qV.length c11) Tryz.sizeOf22 rfl rfl rfl (Nat.le_of_ble_eq_true rfl) fun w12 H => ?_))
 replace H : St _ _ [.box b5 [.int .i64 x.qp, .int .i64 x.zg, .slice a11 x.qV.length c11, .slice none 0 0, .slice none 0 0, .slice none 0 0, .slice none 0 0, .slice none 0 0, .bool false] 121, .box b3 [.int .i64 0, .int .i64 0, .slice none 0 0, .slice none 0 0, .slice none 0 0, .slice none 0 0, .slice none 0 0, .slice none 0 0, .bool false] 121, .box b1 [.int .i64 x.qp, .int .i64 x.zg, .slice Vr x.qV.length Vf, .slice Vw x.xg.length Vk, .slice Vs x.xm.length Vg, .slice Vu x.xq.length Vj, .slice axOut x.zq.length cxOut, .slice Vt x.qI.length Vh, .bool x.xO] 111] _ := H
 refine zjc (oF rfl (oL rfl (H.cell 2 rfl rfl) ?_))
 have szx14 := H.base.size
 have lt15 := H.isLt 0 rfl
 refine sw (oc (Q8 _ x.xg (H.get 2 rfl).1 (by first | omega | (have := p2 (by omega); omega))) ?_)
 rintro v16 w13 r16 x14
 obtain ⟨a16, c16, F16, rfl, f16, H⟩ := H.add_is x14 r16.isNew
 have d16 := f16.2
 have q16 := f16.1
 replace f16 : ∀ b ∈ F16, w.heap.size ≤ b := fun b hb => Nat.le_trans szx14 (f16.1 b hb)
 refine oF rfl (sw (yA H 0 rfl (.slice a16 x.xg.length c16) Tryz.sizeOf22 rfl rfl rfl (Nat.le_of_ble_eq_true rfl) fun w17 H => ?_))
 replace H : St _ _ [.box b5 [.int .i64 x.qp, .int .i64 x.zg, .slice a11 x.qV.length c11, .slice a16 x.xg.length c16, .slice none 0 0, .slice none 0 0, .slice none 0 0, .slice none 0 0, .bool false] 121, .box b3 [.int .i64 0, .int .i64 0, .slice none 0 0, .slice none 0 0, .slice none 0 0, .slice none 0 0, .slice none 0 0, .slice none 0 0, .bool false] 121, .box b1 [.int .i64 x.qp, .int .i64 x.zg, .slice Vr x.qV.length Vf, .slice Vw x.xg.length Vk, .slice Vs x.xm.length Vg, .slice Vu x.xq.length Vj, .slice axOut x.zq.length cxOut, .slice Vt x.qI.length Vh, .bool x.xO] 111] _ := H
 refine zjc (oF rfl (oL rfl (H.cell 2 rfl rfl) ?_))
 have szx19 := H.base.size
 have lt20 := H.isLt 0 rfl
 have lt21 := H.isLt 1 rfl
 refine sw (oc (Q8 _ x.xm (H.get 4 rfl).1 (by first | omega | (have := p2 (by omega); omega))) ?_)
 rintro v22 w18 r22 x19
 obtain ⟨a22, c22, F22, rfl, f22, H⟩ := H.add_is x19 r22.isNew
 have d22 := f22.2
 have q22 := f22.1
 replace f22 : ∀ b ∈ F22, w.heap.size ≤ b := fun b hb => Nat.le_trans szx19 (f22.1 b hb)
 refine oF rfl (sw (yA H 0 rfl (.slice a22 x.xm.length c22) Tryz.sizeOf22 rfl rfl rfl (Nat.le_of_ble_eq_true rfl) fun w23 H => ?_))
 replace H : St _ _ [.box b5 [.int .i64 x.qp, .int .i64 x.zg, .slice a11 x.qV.length c11, .slice a16 x.xg.length c16, .slice a22 x.xm.length c22, .slice none 0 0, .slice none 0 0, .slice none 0 0, .bool false] 121, .box b3 [.int .i64 0, .int .i64 0, .slice none 0 0, .slice none 0 0, .slice none 0 0, .slice none 0 0, .slice none 0 0, .slice none 0 0, .bool false] 121, .box b1 [.int .i64 x.qp, .int .i64 x.zg, .slice Vr x.qV.length Vf, .slice Vw x.xg.length Vk, .slice Vs x.xm.length Vg, .slice Vu x.xq.length Vj, .slice axOut x.zq.length cxOut, .slice Vt x.qI.length Vh, .bool x.xO] 111] _ := H
 refine zjc (oF rfl (oL rfl (H.cell 2 rfl rfl) ?_))
 have szx25 := H.base.size
 have lt26 := H.isLt 0 rfl
 have lt27 := H.isLt 1 rfl
 have lt28 := H.isLt 2 rfl
 refine sw (oc (Q8 _ x.xq (H.get 6 rfl).1 (by first | omega | (have := p2 (by omega); omega))) ?_)
 rintro v29 w24 r29 x25
 obtain ⟨a29, c29, F29, rfl, f29, H⟩ := H.add_is x25 r29.isNew
 have d29 := f29.2
 have q29 := f29.1
 replace f29 : ∀ b ∈ F29, w.heap.size ≤ b := fun b hb => Nat.le_trans szx25 (f29.1 b hb)
 refine oF rfl (sw (yA H 0 rfl (.slice a29 x.xq.length c29) Tryz.sizeOf22 rfl rfl rfl (Nat.le_of_ble_eq_true rfl) fun w30 H => ?_))
 replace H : St _ _ [.box b5 [.int .i64 x.qp, .int .i64 x.zg, .slice a11 x.qV.length c11, .slice a16 x.xg.length c16, .slice a22 x.xm.length c22, .slice a29 x.xq.length c29, .slice none 0 0, .slice none 0 0, .bool false] 121, .box b3 [.int .i64 0, .int .i64 0, .slice none 0 0, .slice none 0 0, .slice none 0 0, .slice none 0 0, .slice none 0 0, .slice none 0 0, .bool false] 121, .box b1 [.int .i64 x.qp, .int .i64 x.zg, .slice Vr x.qV.length Vf, .slice Vw x.xg.length Vk, .slice Vs x.xm.length Vg, .slice Vu x.xq.length Vj, .slice axOut x.zq.length cxOut, .slice Vt x.qI.length Vh, .bool x.xO] 111] _ := H
 refine zjc (oF rfl (oL rfl (H.cell 2 rfl rfl) ?_))
 have szx32 := H.base.size
 have lt33 := H.isLt 0 rfl
 have lt34 := H.isLt 1 rfl
 have lt35 := H.isLt 2 rfl
 have lt36 := H.isLt 3 rfl
 refine sw (oc (Q8 _ x.zq (H.get 8 rfl).1 (by first | omega | (have := p2 (by omega); omega))) ?_)
 rintro v37 w31 r37 x32
 obtain ⟨a37, c37, F37, rfl, f37, H⟩ := H.add_is x32 r37.isNew
 have d37 := f37.2
 have q37 := f37.1
 replace f37 : ∀ b ∈ F37, w.heap.size ≤ b := fun b hb => Nat.le_trans szx32 (f37.1 b hb)
 refine oF rfl (sw (yA H 0 rfl (.slice a37 x.zq.length c37) Tryz.sizeOf22 rfl rfl rfl (Nat.le_of_ble_eq_true rfl) fun w38 H => ?_))
 replace H : St _ _ [.box b5 [.int .i64 x.qp, .int .i64 x.zg, .slice a11 x.qV.length c11, .slice a16 x.xg.length c16, .slice a22 x.xm.length c22, .slice a29 x.xq.length c29, .slice a37 x.zq.length c37, .slice none 0 0, .bool false] 121, .box b3 [.int .i64 0, .int .i64 0, .slice none 0 0, .slice none 0 0, .slice none 0 0, .slice none 0 0, .slice none 0 0, .slice none 0 0, .bool false] 121, .box b1 [.int .i64 x.qp, .int .i64 x.zg, .slice Vr x.qV.length Vf, .slice Vw x.xg.length Vk, .slice Vs x.xm.length Vg, .slice Vu x.xq.length Vj, .slice axOut x.zq.length cxOut, .slice Vt x.qI.length Vh, .bool x.xO] 111] _ := H
 refine zjc (oF rfl (oL rfl (H.cell 2 rfl rfl) ?_))
 have szx40 := H.base.size
 have lt41 := H.isLt 0 rfl
 have lt42 := H.isLt 1 rfl
 have lt43 := H.isLt 2 rfl
 have lt44 := H.isLt 3 rfl
 have lt45 := H.isLt 4 rfl
 refine sw (oc (toIntoS_ok _ x.qI (H.get 10 rfl).1 (by first | omega | (have := p2 (by omega); omega))) ?_)
 rintro v46 w39 r46 x40
 obtain ⟨a46, c46, F46, rfl, f46, H⟩ := H.add_is x40 r46.isNew
 have d46 := f46.2
 have q46 := f46.1
 replace f46 : ∀ b ∈ F46, w.heap.size ≤ b := fun b hb => Nat.le_trans szx40 (f46.1 b hb)
 refine oF rfl (sw (yA H 0 rfl (.slice a46 x.qI.length c46) Tryz.sizeOf119 rfl rfl rfl (Nat.le_of_ble_eq_true rfl) fun w47 H => zjc (oF rfl (oL rfl (H.cell 2 rfl rfl) (oF rfl (sw (yA H 0 rfl (.bool x.xO) Tryz.sizeOf4 rfl rfl rfl (Nat.le_of_ble_eq_true rfl) fun w48 H => ?_)))))))
 replace H : St _ _ [.box b5 [.int .i64 x.qp, .int .i64 x.zg, .slice a11 x.qV.length c11, .slice a16 x.xg.length c16, .slice a22 x.xm.length c22, .slice a29 x.xq.length c29, .slice a37 x.zq.length c37, .slice a46 x.qI.length c46, .bool x.xO] 121, .box b3 [.int .i64 0, .int .i64 0, .slice none 0 0, .slice none 0 0, .slice none 0 0, .slice none 0 0, .slice none 0 0, .slice none 0 0, .bool false] 121, .box b1 [.int .i64 x.qp, .int .i64 x.zg, .slice Vr x.qV.length Vf, .slice Vw x.xg.length Vk, .slice Vs x.xm.length Vg, .slice Vu x.xq.length Vj, .slice axOut x.zq.length cxOut, .slice Vt x.qI.length Vh, .bool x.xO] 111] _ := H
 refine zjc (sw (xU [.int .i64 x.qp, .int .i64 x.zg, .slice a11 x.qV.length c11, .slice a16 x.xg.length c16, .slice a22 x.xm.length c22, .slice a29 x.xq.length c29, .slice a37 x.zq.length c37, .slice a46 x.qI.length c46, .bool x.xO] Tryz.isAgg121 Tryz.sizeOf121 rfl (qw (H.cells 0 rfl) 0 9) ?_))
 refine sw (o_store H 1 rfl (.agg #[.int .i64 x.qp, .int .i64 x.zg, .slice a11 x.qV.length c11, .slice a16 x.xg.length c16, .slice a22 x.xm.length c22, .slice a29 x.xq.length c29, .slice a37 x.zq.length c37, .slice a46 x.qI.length c46, .bool x.xO]) Tryz.sizeOf121 rfl rfl (by simp [Value.oneCell', Value.cells]) (Nat.le_of_ble_eq_true rfl) fun w49 H => ?_)
 replace H : St _ _ [.box b5 [.int .i64 x.qp, .int .i64 x.zg, .slice a11 x.qV.length c11, .slice a16 x.xg.length c16, .slice a22 x.xm.length c22, .slice a29 x.xq.length c29, .slice a37 x.zq.length c37, .slice a46 x.qI.length c46, .bool x.xO] 121, .box b3 [.int .i64 x.qp, .int .i64 x.zg, .slice a11 x.qV.length c11, .slice a16 x.xg.length c16, .slice a22 x.xm.length c22, .slice a29 x.xq.length c29, .slice a37 x.zq.length c37, .slice a46 x.qI.length c46, .bool x.xO] 121, .box b1 [.int .i64 x.qp, .int .i64 x.zg, .slice Vr x.qV.length Vf, .slice Vw x.xg.length Vk, .slice Vs x.xm.length Vg, .slice Vu x.xq.length Vj, .slice axOut x.zq.length cxOut, .slice Vt x.qI.length Vh, .bool x.xO] 111] _ := H
 refine zjr (retC H 1 rfl rfl Tryz.isAgg121 Tryz.sizeOf121 rfl ⟨_, rfl, ?_, H.base⟩)
 exact ⟨_, _, _, _, _, _, _, _, _, _, _, _, _, _, _, _, _, _, rfl, (H.get 5 rfl).1, (H.get 4 rfl).1, (H.get 3 rfl).1, (H.get 2 rfl).1, (H.get 1 rfl).1, (H.get 0 rfl).1, (Q3 (Q3 (Q3 (Q3 (Q3 f11 f16) f22) f29) f37) f46), (QY (QY (QY (QY (QY d11 d16 lt15 q16) d22 (Xt lt21 lt20) q22) d29 (Xt (Xt lt28 lt27) lt26) q29) d37 (Xt (Xt (Xt lt36 lt35) lt34) lt33) q37) d46 (Xt (Xt (Xt (Xt lt45 lt44) lt43) lt42) lt41) q46), (((((((H.get 5 rfl).2 rfl).app ((H.get 4 rfl).2 rfl)).app ((H.get 3 rfl).2 rfl)).app ((H.get 2 rfl).2 rfl)).app ((H.get 1 rfl).2 rfl)).app ((H.get 0 rfl).2 rfl))⟩

theorem toRuleS_ok (w : World) (x : List Qr) (hx : qB.rep w Fx [.slice ax x.length cx] x) (p0 : tot x ≤ 2000000) : Calls Tryz.prog 60 #[.slice ax x.length cx] w (Ret (fun v w' => OwnNew w w' 121 v x) w) := by
 refine en Tryz.func60 Tryz.ntmps60 ?_
 have H := (St.start w).arg hx
 have nhx := qx hx
 clear hx
 have p1 := len_tot x
 refine zcr (sp (.slice none 0 0) (zjc (sp (.slice ax x.length cx) (oN rfl (sw (o_makeN H Tryz.underlying34 ti121 rfl (by decide) x.length rfl rfl (by omega) (by omega) fun b1 w2 H => ?_))))))
 replace H : St _ _ [.box b1 ((List.replicate x.length [.int .i64 0, .int .i64 0, .slice none 0 0, .slice none 0 0, .slice none 0 0, .slice none 0 0, .slice none 0 0, .slice none 0 0, .bool false]).flatten) 121] _ := H
 refine sp (.slice (aa b1 0) x.length x.length) (zjcc (sp (.int .i64 0) (zjn (qM ?_))))
 replace H := H.vw (α := Qr)
 refine xQ (fun m' ρ w3 => ∃ (junk : Env) (k : Nat) (xs3 : List Value) (Fr3 : List Nat), ρ = upd (upd (upd (upd junk 0 (.slice ax x.length cx)) 2 (.slice none 0 0)) 3 (.slice (aa b1 0) x.length x.length)) 4 (.int .i64 k) ∧ (k ≤ x.length) ∧ (xs3.length = k * 9) ∧ (∀ b ∈ Fr3, w.heap.size ≤ b) ∧ (Fr3.Nodup) ∧ m' = x.length - k ∧ St w w3 [.box b1 (xs3 ++ (List.replicate (x.length - (k)) [.int .i64 0, .int .i64 0, .slice none 0 0, .slice none 0 0, .slice none 0 0, .slice none 0 0, .slice none 0 0, .slice none 0 0, .bool false]).flatten) 121] [xN true Fr3 xs3 (x.take k), sF false Fx ax cx x]) (x.length - 0) ⟨_, 0, [], [], uE4, (by omega), (by rfl), (by simp), (by simp), rfl, H⟩ ?_
 clear H
 rintro m' ρ w4 ⟨junk, k, xs3, Fr3, rfl, i0, hl3, nf3, nd3, rfl, H⟩
 have p2 := fun h => tot_get (l := x) (k := k) h
 refine zcc (sps [.int .i64 k, .slice ax x.length cx] (oN rfl (sp (.bool (decide ((k : Int) < x.length))) (zjn (cD rfl (fun h5 => ?_) (fun h5 => ?_))))))
 ·skip
  refine qK (t_n (xC (qM (xH (sps [.slice (aa b1 0) x.length x.length, .int .i64 k, .slice ax x.length cx, .int .i64 k] ?_)))))
  obtain ⟨b6, o7, rfl⟩ := H.addr 1 rfl (by omega)
  obtain ⟨ae8Need, ce8Need, Fe8Need, ae8Have, ce8Have, Fe8Have, ae8Lack, ce8Lack, Fe8Lack, ae8Here, ce8Here, Fe8Here, ae8Out, ce8Out, Fe8Out, ae8Into, ce8Into, Fe8Into, H⟩ := H.jy 1 rfl k k (by omega) (by omega) (by omega)
  refine oI rfl rfl (sw (xU [.int .i64 ((x[k]!).qp), .int .i64 ((x[k]!).zg), .slice ae8Need (((x[k]!).qV).length) ce8Need, .slice ae8Have (((x[k]!).xg).length) ce8Have, .slice ae8Lack (((x[k]!).xm).length) ce8Lack, .slice ae8Here (((x[k]!).xq).length) ce8Here, .slice ae8Out (((x[k]!).zq).length) ce8Out, .slice ae8Into (((x[k]!).qI).length) ce8Into, .bool ((x[k]!).xO)] Tryz.isAgg111 Tryz.sizeOf111 rfl (qw (H.get 6 rfl) 0 9) ?_))
  have szx10 := H.base.size
  have lt11 := H.repsLt 7 rfl
  refine sw (oc (toRule_ok _ (x[k]!) (H.get 0 rfl).1 (H.get 1 rfl).1 (H.get 2 rfl).1 (H.get 3 rfl).1 (H.get 4 rfl).1 (H.get 5 rfl).1 (by omega)) ?_)
  rintro v12 w9 r12 x10
  obtain ⟨a12Need, c12Need, F12Need, a12Have, c12Have, F12Have, a12Lack, c12Lack, F12Lack, a12Here, c12Here, F12Here, a12Out, c12Out, F12Out, a12Into, c12Into, F12Into, rfl, f12, H⟩ := H.add_RuleD x10 r12
  have d12 := f12.2
  have q12 := f12.1
  replace f12 : ∀ b ∈ (F12Need ++ F12Have ++ F12Lack ++ F12Here ++ F12Out ++ F12Into), w.heap.size ≤ b := fun b hb => Nat.le_trans szx10 (f12.1 b hb)
  refine oI rfl rfl (sw (o_store H 0 rfl (.agg #[.int .i64 ((x[k]!).qp), .int .i64 ((x[k]!).zg), .slice a12Need (((x[k]!).qV).length) c12Need, .slice a12Have (((x[k]!).xg).length) c12Have, .slice a12Lack (((x[k]!).xm).length) c12Lack, .slice a12Here (((x[k]!).xq).length) c12Here, .slice a12Out (((x[k]!).zq).length) c12Out, .slice a12Into (((x[k]!).qI).length) c12Into, .bool ((x[k]!).xO)]) Tryz.sizeOf121 rfl rfl (by simp [Value.oneCell', Value.cells]) (by have : (xs3).length = k * 9 := (by (exact hl3)); simp [Value.cells]; have := fill_room (n := x.length) (k := k) (s := 9) (by omega); simp at this; omega) fun w14 H => ?_))
  replace H : St _ _ [.box b1 (xs3 ++ [.int .i64 ((x[k]!).qp), .int .i64 ((x[k]!).zg), .slice a12Need (((x[k]!).qV).length) c12Need, .slice a12Have (((x[k]!).xg).length) c12Have, .slice a12Lack (((x[k]!).xm).length) c12Lack, .slice a12Here (((x[k]!).xq).length) c12Here, .slice a12Out (((x[k]!).zq).length) c12Out, .slice a12Into (((x[k]!).qI).length) c12Into, .bool ((x[k]!).xO)] ++ (List.replicate (x.length - (k + 1)) [.int .i64 0, .int .i64 0, .slice none 0 0, .slice none 0 0, .slice none 0 0, .slice none 0 0, .slice none 0 0, .slice none 0 0, .bool false]).flatten) 121] _ := (fill_put (vs := [.int .i64 ((x[k]!).qp), .int .i64 ((x[k]!).zg), .slice a12Need (((x[k]!).qV).length) c12Need, .slice a12Have (((x[k]!).xg).length) c12Have, .slice a12Lack (((x[k]!).xm).length) c12Lack, .slice a12Here (((x[k]!).xq).length) c12Here, .slice a12Out (((x[k]!).zq).length) c12Out, .slice a12Into (((x[k]!).qI).length) c12Into, .bool ((x[k]!).xO)]) (zs := [.int .i64 0, .int .i64 0, .slice none 0 0, .slice none 0 0, .slice none 0 0, .slice none 0 0, .slice none 0 0, .slice none 0 0, .bool false]) (off := 0 + (k : Int).toNat * 9) (xs := xs3) (k := k) (s := 9) (n := x.length) (by (exact hl3)) (by simp) rfl rfl (by omega)) ▸ H
  replace H : St _ _ [.box b1 (xs3 ++ [.int .i64 ((x[k]!).qp), .int .i64 ((x[k]!).zg), .slice a12Need (((x[k]!).qV).length) c12Need, .slice a12Have (((x[k]!).xg).length) c12Have, .slice a12Lack (((x[k]!).xm).length) c12Lack, .slice a12Here (((x[k]!).xq).length) c12Here, .slice a12Out (((x[k]!).zq).length) c12Out, .slice a12Into (((x[k]!).qI).length) c12Into, .bool ((x[k]!).xO)] ++ (List.replicate (x.length - (k + 1)) [.int .i64 0, .int .i64 0, .slice none 0 0, .slice none 0 0, .slice none 0 0, .slice none 0 0, .slice none 0 0, .slice none 0 0, .bool false]).flatten) 121] _ := H
  refine xG (b_n (t_n (xH (sp (.int .i64 k) (sw (xX k 1 rfl rfl (by omega) (sp (.int .i64 (k + 1)) (xG ?_))))))))
  replace H := H.snoc_RuleD 13 rfl ((x[k]!).qp) ((x[k]!).zg) 0 rfl 1 rfl 2 rfl 3 rfl 4 rfl 5 rfl ((x[k]!).xO)
  rw [show (x.take k) ++ [⟨(x[k]!).qp, (x[k]!).zg, (x[k]!).qV, (x[k]!).xg, (x[k]!).xm, (x[k]!).xq, (x[k]!).zq, (x[k]!).qI, (x[k]!).xO⟩] = x.take (k + 1) from by exact take_snoc (by omega)] at H
  refine qR (m' := x.length - (k + 1)) (by omega) ⟨_, k + 1, (xs3 ++ [.int .i64 ((x[k]!).qp), .int .i64 ((x[k]!).zg), .slice a12Need (((x[k]!).qV).length) c12Need, .slice a12Have (((x[k]!).xg).length) c12Have, .slice a12Lack (((x[k]!).xm).length) c12Lack, .slice a12Here (((x[k]!).xq).length) c12Here, .slice a12Out (((x[k]!).zq).length) c12Out, .slice a12Into (((x[k]!).qI).length) c12Into, .bool ((x[k]!).xO)]), (Fr3 ++ (F12Need ++ F12Have ++ F12Lack ++ F12Here ++ F12Out ++ F12Into)), uE4, ?_, ?_, ?_, ?_, rfl, H.sel _ (.refl _) _ (by simp)⟩
  · omega
  · first | (simp only [List.length_append, List.length_cons, List.length_nil]; omega) | (simp [hl3]; done) | (simp; omega)
  · exact Q3 nf3 f12
  · exact QY nd3 d12 lt11 q12
 refine zx4 (zcr (sps [.slice (aa b1 0) x.length x.length, .slice (aa b1 0) x.length x.length] (zjr (ret1 (.slice (aa b1 0) x.length x.length) rfl rfl ⟨_, rfl, ?_, H.base⟩))))
 rw [List.take_of_length_le (by omega : x.length ≤ k)] at H
 rw [fill_endN (by omega)] at H
 replace H := H.boxRow 0 rfl 9 x.length (by omega) (by unfold maxLen; omega)
 exact H.newRow 0 rfl 0 rfl (by omega) (by assumption) (by assumption)

theorem toSystem_ok (w : World) (x : qy) (Qi : qB.rep w yF [.slice vC x.qf.length vz] x.qf) (X7 : qB.rep w Xi [.slice yE x.qg.length yC] x.qg) (p0 : tot x ≤ 2000000) : Calls Tryz.prog 17 #[.agg #[.int .i64 x.qJ, .slice vC x.qf.length vz, .slice yE x.qg.length yC]] w (Ret (fun v w' => New_SystemD w w' v x) w) := by
 refine en Tryz.func17 Tryz.ntmps17 ?_
 have H := ((St.start w).arg X7).arg Qi
 have nhxParents := qx Qi
 have nhxRules := qx X7
 clear Qi X7
 have p1 := tot_SystemD x
 refine zcr (sw (o_box H (.agg #[.int .i64 x.qJ, .slice vC x.qf.length vz, .slice yE x.qg.length yC]) rfl fun b1 w2 H => sw (o_alloc H ti36 fun b3 w4 H => zjc (sw (o_alloc H ti36 fun b5 w6 H => zjc (oF rfl (oL rfl (H.cell 2 rfl rfl) (oF rfl (sw (yA H 0 rfl (.int .i64 x.qJ) Tryz.sizeOf2 rfl rfl rfl (Nat.le_of_ble_eq_true rfl) fun w7 H => ?_))))))))))
 replace H : St _ _ [.box b5 [.int .i64 x.qJ, .slice none 0 0, .slice none 0 0] 36, .box b3 [.int .i64 0, .slice none 0 0, .slice none 0 0] 36, .box b1 [.int .i64 x.qJ, .slice vC x.qf.length vz, .slice yE x.qg.length yC] 25] _ := H
 refine zjc (oF rfl (oL rfl (H.cell 2 rfl rfl) ?_))
 have szx9 := H.base.size
 refine sw (oc (Q8 _ x.qf (H.get 0 rfl).1 (by first | omega | (have := p2 (by omega); omega))) ?_)
 rintro v10 w8 r10 x9
 obtain ⟨a10, c10, F10, rfl, f10, H⟩ := H.add_is x9 r10.isNew
 have d10 := f10.2
 have q10 := f10.1
 replace f10 : ∀ b ∈ F10, w.heap.size ≤ b := fun b hb => Nat.le_trans szx9 (f10.1 b hb)
 refine oF rfl (sw (yA H 0 rfl (.slice a10 x.qf.length c10) Tryz.sizeOf22 rfl rfl rfl (Nat.le_of_ble_eq_true rfl) fun w11 H => ?_))
 replace H : St _ _ [.box b5 [.int .i64 x.qJ, .slice a10 x.qf.length c10, .slice none 0 0] 36, .box b3 [.int .i64 0, .slice none 0 0, .slice none 0 0] 36, .box b1 [.int .i64 x.qJ, .slice vC x.qf.length vz, .slice yE x.qg.length yC] 25] _ := H
 refine zjc (oF rfl (oL rfl (H.cell 2 rfl rfl) ?_))
 have szx13 := H.base.size
 have lt14 := H.isLt 0 rfl
 refine sw (oc (toRuleS_ok _ x.qg (H.get 2 rfl).1 (by first | omega | (have := p2 (by omega); omega))) ?_)
 rintro v15 w12 r15 x13
 obtain ⟨a15, c15, F15, rfl, f15, H⟩ := H.add_is x13 r15.isNew
 have d15 := f15.2
 have q15 := f15.1
 replace f15 : ∀ b ∈ F15, w.heap.size ≤ b := fun b hb => Nat.le_trans szx13 (f15.1 b hb)
 refine oF rfl (sw (yA H 0 rfl (.slice a15 x.qg.length c15) Tryz.sizeOf34 rfl rfl rfl (Nat.le_of_ble_eq_true rfl) fun w16 H => ?_))
 replace H : St _ _ [.box b5 [.int .i64 x.qJ, .slice a10 x.qf.length c10, .slice a15 x.qg.length c15] 36, .box b3 [.int .i64 0, .slice none 0 0, .slice none 0 0] 36, .box b1 [.int .i64 x.qJ, .slice vC x.qf.length vz, .slice yE x.qg.length yC] 25] _ := H
 refine zjc (sw (xU [.int .i64 x.qJ, .slice a10 x.qf.length c10, .slice a15 x.qg.length c15] Tryz.isAgg36 Tryz.sizeOf36 rfl (qw (H.cells 0 rfl) 0 3) (sw (o_store H 1 rfl (.agg #[.int .i64 x.qJ, .slice a10 x.qf.length c10, .slice a15 x.qg.length c15]) Tryz.sizeOf36 rfl rfl (by simp [Value.oneCell', Value.cells]) (Nat.le_of_ble_eq_true rfl) fun w17 H => ?_))))
 replace H : St _ _ [.box b5 [.int .i64 x.qJ, .slice a10 x.qf.length c10, .slice a15 x.qg.length c15] 36, .box b3 [.int .i64 x.qJ, .slice a10 x.qf.length c10, .slice a15 x.qg.length c15] 36, .box b1 [.int .i64 x.qJ, .slice vC x.qf.length vz, .slice yE x.qg.length yC] 25] _ := H
 refine zjr (retC H 1 rfl rfl Tryz.isAgg36 Tryz.sizeOf36 rfl ⟨_, rfl, (⟨_, _, _, _, _, _, rfl, (H.get 1 rfl).1, (H.get 0 rfl).1, (Q3 f10 f15), (QY d10 d15 lt14 q15), (((H.get 1 rfl).2 rfl).app ((H.get 0 rfl).2 rfl))⟩), H.base⟩)

theorem toState_ok (w : World) (x : qE) (X8 : qB.rep w Q4 [.slice jV x.qh.length jU] x.qh) (hxBags : qB.rep w V6 [.slice Qy x.ql.length Qx] x.ql) (QT : qB.rep w Qb [.slice vY x.qj.length vX] x.qj) (p0 : tot x ≤ 2000000) : Calls Tryz.prog 18 #[.agg #[.slice jV x.qh.length jU, .slice Qy x.ql.length Qx, .slice vY x.qj.length vX]] w (Ret (fun v w' => New_StateD w w' v x) w) := by
 refine en Tryz.func18 Tryz.ntmps18 ?_
 have H := (((St.start w).arg QT).arg hxBags).arg X8
 have nhxAlive := qx X8
 have nhxBags := qx hxBags
 have nhxAround := qx QT
 clear X8 hxBags QT
 have p1 := tot_StateD x
 refine zcr (sw (o_box H (.agg #[.slice jV x.qh.length jU, .slice Qy x.ql.length Qx, .slice vY x.qj.length vX]) rfl fun b1 w2 H => sw (o_alloc H ti38 fun b3 w4 H => zjc (sw (o_alloc H ti38 fun b5 w6 H => ?_)))))
 replace H : St _ _ [.box b5 [.slice none 0 0, .slice none 0 0, .slice none 0 0] 38, .box b3 [.slice none 0 0, .slice none 0 0, .slice none 0 0] 38, .box b1 [.slice jV x.qh.length jU, .slice Qy x.ql.length Qx, .slice vY x.qj.length vX] 29] _ := H
 refine zjc (oF rfl (oL rfl (H.cell 2 rfl rfl) ?_))
 have szx8 := H.base.size
 refine sw (oc (toBoolS_ok _ x.qh (H.get 0 rfl).1 (by first | omega | (have := p2 (by omega); omega))) ?_)
 rintro v9 w7 r9 x8
 obtain ⟨a9, c9, F9, rfl, f9, H⟩ := H.add_is x8 r9.isNew
 have d9 := f9.2
 have q9 := f9.1
 replace f9 : ∀ b ∈ F9, w.heap.size ≤ b := fun b hb => Nat.le_trans szx8 (f9.1 b hb)
 refine oF rfl (sw (yA H 0 rfl (.slice a9 x.qh.length c9) Tryz.sizeOf26 rfl rfl rfl (Nat.le_of_ble_eq_true rfl) fun w10 H => ?_))
 replace H : St _ _ [.box b5 [.slice a9 x.qh.length c9, .slice none 0 0, .slice none 0 0] 38, .box b3 [.slice none 0 0, .slice none 0 0, .slice none 0 0] 38, .box b1 [.slice jV x.qh.length jU, .slice Qy x.ql.length Qx, .slice vY x.qj.length vX] 29] _ := H
 refine zjc (oF rfl (oL rfl (H.cell 2 rfl rfl) ?_))
 have szx12 := H.base.size
 have lt13 := H.isLt 0 rfl
 refine sw (oc (toInt64SS_ok _ x.ql (H.get 2 rfl).1 (by first | omega | (have := p2 (by omega); omega))) ?_)
 rintro v14 w11 r14 x12
 obtain ⟨a14, c14, F14, rfl, f14, H⟩ := H.add_is x12 r14.isNew
 have d14 := f14.2
 have q14 := f14.1
 replace f14 : ∀ b ∈ F14, w.heap.size ≤ b := fun b hb => Nat.le_trans szx12 (f14.1 b hb)
 refine oF rfl (sw (yA H 0 rfl (.slice a14 x.ql.length c14) Tryz.sizeOf27 rfl rfl rfl (Nat.le_of_ble_eq_true rfl) fun w15 H => ?_))
 replace H : St _ _ [.box b5 [.slice a9 x.qh.length c9, .slice a14 x.ql.length c14, .slice none 0 0] 38, .box b3 [.slice none 0 0, .slice none 0 0, .slice none 0 0] 38, .box b1 [.slice jV x.qh.length jU, .slice Qy x.ql.length Qx, .slice vY x.qj.length vX] 29] _ := H
 refine zjc (oF rfl (oL rfl (H.cell 2 rfl rfl) ?_))
 have szx17 := H.base.size
 have lt18 := H.isLt 0 rfl
 have lt19 := H.isLt 1 rfl
 refine sw (oc (Q8 _ x.qj (H.get 4 rfl).1 (by first | omega | (have := p2 (by omega); omega))) ?_)
 rintro v20 w16 r20 x17
 obtain ⟨a20, c20, F20, rfl, f20, H⟩ := H.add_is x17 r20.isNew
 have d20 := f20.2
 have q20 := f20.1
 replace f20 : ∀ b ∈ F20, w.heap.size ≤ b := fun b hb => Nat.le_trans szx17 (f20.1 b hb)
 refine oF rfl (sw (yA H 0 rfl (.slice a20 x.qj.length c20) Tryz.sizeOf22 rfl rfl rfl (Nat.le_of_ble_eq_true rfl) fun w21 H => ?_))
 replace H : St _ _ [.box b5 [.slice a9 x.qh.length c9, .slice a14 x.ql.length c14, .slice a20 x.qj.length c20] 38, .box b3 [.slice none 0 0, .slice none 0 0, .slice none 0 0] 38, .box b1 [.slice jV x.qh.length jU, .slice Qy x.ql.length Qx, .slice vY x.qj.length vX] 29] _ := H
 refine zjc (sw (xU [.slice a9 x.qh.length c9, .slice a14 x.ql.length c14, .slice a20 x.qj.length c20] Tryz.isAgg38 Tryz.sizeOf38 rfl (qw (H.cells 0 rfl) 0 3) (sw (o_store H 1 rfl (.agg #[.slice a9 x.qh.length c9, .slice a14 x.ql.length c14, .slice a20 x.qj.length c20]) Tryz.sizeOf38 rfl rfl (by simp [Value.oneCell', Value.cells]) (Nat.le_of_ble_eq_true rfl) fun w22 H => ?_))))
 replace H : St _ _ [.box b5 [.slice a9 x.qh.length c9, .slice a14 x.ql.length c14, .slice a20 x.qj.length c20] 38, .box b3 [.slice a9 x.qh.length c9, .slice a14 x.ql.length c14, .slice a20 x.qj.length c20] 38, .box b1 [.slice jV x.qh.length jU, .slice Qy x.ql.length Qx, .slice vY x.qj.length vX] 29] _ := H
 refine zjr (retC H 1 rfl rfl Tryz.isAgg38 Tryz.sizeOf38 rfl ⟨_, rfl, (⟨_, _, _, _, _, _, _, _, _, rfl, (H.get 2 rfl).1, (H.get 1 rfl).1, (H.get 0 rfl).1, (Q3 (Q3 f9 f14) f20), (QY (QY d9 d14 lt13 q14) d20 (Xt lt19 lt18) q20), ((((H.get 2 rfl).2 rfl).app ((H.get 1 rfl).2 rfl)).app ((H.get 0 rfl).2 rfl))⟩), H.base⟩)

theorem QP (w : World) (x : List Int) (y : List Int) (hx : qB.rep w Fx [.slice ax x.length cx] x) (hy : qB.rep w Fy [.slice ay y.length cy] y) : Calls Tryz.prog 65 #[.slice ax x.length cx, .slice ay y.length cy] w (Ret (fun v w' => v = .bool (decide (x = y))) w) := by
 refine en Tryz.func65 Tryz.ntmps65 ?_
 have H := ((St.start w).arg hy).arg hx
 have nhx := qx hx
 have nhy := qx hy
 clear hx hy
 refine zcr (sp (.bool false) (zjcc (sp (.slice ax x.length cx) (oN rfl (sp (.slice ay y.length cy) (oN rfl (sp (.bool ((x.length : Int) != y.length)) (zjn (xn ((x.length : Int) != y.length) rfl (fun h1 => ?_) (fun h1 => ?_))))))))))
 ·skip
  replace h1 := bne_iff_ne.1 h1
  refine zcr (sp (.bool false) (zjr (t_r (ret1 (.bool false) rfl rfl ⟨_, rfl, ?_, H.base⟩))))
  first | rw [decide_eq_false (fun e => by subst e; omega)] | rw [decide_eq_false (zN (k := k) ‹_›)] | rw [decide_eq_true (zQ (k := k) (by omega) (by omega) ‹_›)]
 replace h1 := xf h1
 refine qK (t_n (zcc (sp (.int .i64 0) (zjn (qM ?_)))))
 refine xQ (fun m' ρ w2 => ∃ (junk : Env) (k : Nat), ρ = upd (upd (upd junk 0 (.slice ax x.length cx)) 1 (.slice ay y.length cy)) 5 (.int .i64 k) ∧ (k ≤ x.length) ∧ (x.take k = y.take k) ∧ m' = x.length - k ∧ St w w2 [] [sF false Fx ax cx x, sF false Fy ay cy y]) (x.length - 0) ⟨_, 0, uE3, (by omega), (by rfl), rfl, H⟩ ?_
 clear H
 rintro m' ρ w3 ⟨junk, k, rfl, i0, i1, rfl, H⟩
 refine zcc (sps [.int .i64 k, .slice ax x.length cx] (oN rfl (sp (.bool (decide ((k : Int) < x.length))) (zjn (cD rfl (fun h4 => ?_) (fun h4 => ?_))))))
 ·skip
  refine qK (t_n (xC (qM (xC ?_))))
  refine vH rfl H fun H => rtp 0 (.slice ax x.length cx) H ?_
  refine rtp 1 (.int .i64 k) H ?_
  obtain ⟨b6, o7, rfl⟩ := H.addr 0 rfl (by omega)
  refine tI 2 rfl rfl rfl H ?_
  refine tL 3 rfl rfl (fun _ h => h.jA 0 rfl k (by omega)) H ?_
  refine rtp 4 (.slice ay y.length cy) H ?_
  refine rtp 5 (.int .i64 k) H ?_
  obtain ⟨b8, o9, rfl⟩ := H.addr 1 rfl (by omega)
  refine tI 6 rfl rfl rfl H ?_
  refine tL 7 rfl rfl (fun _ h => h.jA 1 rfl k (by omega)) H ?_
  refine rtp 8 (.bool ((x[k]! : Int) != (y[k]!))) H ?_
  refine xy (by kernel_rfl) (t_n (xn ((x[k]! : Int) != (y[k]!)) rfl (fun h10 => ?_) (fun h10 => ?_)))
  ·skip
   replace h10 := bne_iff_ne.1 h10
   refine zcr (sp (.bool false) (zjr (zr5 (ret1 (.bool false) rfl rfl ⟨_, rfl, ?_, H.base⟩))))
   first | rw [decide_eq_false (fun e => by subst e; omega)] | rw [decide_eq_false (zN (k := k) ‹_›)] | rw [decide_eq_true (zQ (k := k) (by omega) (by omega) ‹_›)]
  replace h10 := xf h10
  refine qK (b_n (t_n (xH (sp (.int .i64 k) (sw (xX k 1 rfl rfl (by omega) (sp (.int .i64 (k + 1)) (xG (qR (m' := x.length - (k + 1)) (by omega) ⟨_, k + 1, uE3, ?_, ?_, rfl, H⟩)))))))))
  · omega
  · exact Qj (by omega) (by omega) ‹_› (by first | assumption | omega)
 refine zx4 (zcr (sp (.bool true) (zjr (ret1 (.bool true) rfl rfl ⟨_, rfl, ?_, H.base⟩))))
 first | rw [decide_eq_false (fun e => by subst e; omega)] | rw [decide_eq_false (zN (k := k) ‹_›)] | rw [decide_eq_true (zQ (k := k) (by omega) (by omega) ‹_›)]

theorem eqBoolS_ok (w : World) (x : List Bool) (y : List Bool) (hx : qB.rep w Fx [.slice ax x.length cx] x) (hy : qB.rep w Fy [.slice ay y.length cy] y) : Calls Tryz.prog 67 #[.slice ax x.length cx, .slice ay y.length cy] w (Ret (fun v w' => v = .bool (decide (x = y))) w) := by
 refine en Tryz.func67 Tryz.ntmps67 ?_
 have H := ((St.start w).arg hy).arg hx
 have nhx := qx hx
 have nhy := qx hy
 clear hx hy
 refine zcr (sp (.bool false) (zjcc (sp (.slice ax x.length cx) (oN rfl (sp (.slice ay y.length cy) (oN rfl (sp (.bool ((x.length : Int) != y.length)) (zjn (xn ((x.length : Int) != y.length) rfl (fun h1 => ?_) (fun h1 => ?_))))))))))
 ·skip
  replace h1 := bne_iff_ne.1 h1
  refine zcr (sp (.bool false) (zjr (t_r (ret1 (.bool false) rfl rfl ⟨_, rfl, ?_, H.base⟩))))
  first | rw [decide_eq_false (fun e => by subst e; omega)] | rw [decide_eq_false (zN (k := k) ‹_›)] | rw [decide_eq_true (zQ (k := k) (by omega) (by omega) ‹_›)]
 replace h1 := xf h1
 refine qK (t_n (zcc (sp (.int .i64 0) (zjn (qM ?_)))))
 refine xQ (fun m' ρ w2 => ∃ (junk : Env) (k : Nat), ρ = upd (upd (upd junk 0 (.slice ax x.length cx)) 1 (.slice ay y.length cy)) 5 (.int .i64 k) ∧ (k ≤ x.length) ∧ (x.take k = y.take k) ∧ m' = x.length - k ∧ St w w2 [] [sF false Fx ax cx x, sF false Fy ay cy y]) (x.length - 0) ⟨_, 0, uE3, (by omega), (by rfl), rfl, H⟩ ?_
 clear H
 rintro m' ρ w3 ⟨junk, k, rfl, i0, i1, rfl, H⟩
 refine zcc (sps [.int .i64 k, .slice ax x.length cx] (oN rfl (sp (.bool (decide ((k : Int) < x.length))) (zjn (cD rfl (fun h4 => ?_) (fun h4 => ?_))))))
 ·skip
  refine qK (t_n (xC (qM (xC ?_))))
  refine vH rfl H fun H => rtp 0 (.slice ax x.length cx) H ?_
  refine rtp 1 (.int .i64 k) H ?_
  obtain ⟨b6, o7, rfl⟩ := H.addr 0 rfl (by omega)
  refine tI 2 rfl rfl rfl H ?_
  refine tL 3 rfl rfl (fun _ h => h.elemBoolN 0 rfl k (by omega)) H ?_
  refine rtp 4 (.slice ay y.length cy) H ?_
  refine rtp 5 (.int .i64 k) H ?_
  obtain ⟨b8, o9, rfl⟩ := H.addr 1 rfl (by omega)
  refine tI 6 rfl rfl rfl H ?_
  refine tL 7 rfl rfl (fun _ h => h.elemBoolN 1 rfl k (by omega)) H ?_
  refine rt 8 (.bool ((x[k]!) != (y[k]!))) (y_neB Tryz.underlying4 (x[k]!) (y[k]!) rfl rfl) H ?_
  refine xy (by kernel_rfl) (t_n (xn ((x[k]!) != (y[k]!)) rfl (fun h10 => ?_) (fun h10 => ?_)))
  ·skip
   replace h10 := bne_iff_ne.1 h10
   refine zcr (sp (.bool false) (zjr (zr5 (ret1 (.bool false) rfl rfl ⟨_, rfl, ?_, H.base⟩))))
   first | rw [decide_eq_false (fun e => by subst e; omega)] | rw [decide_eq_false (zN (k := k) ‹_›)] | rw [decide_eq_true (zQ (k := k) (by omega) (by omega) ‹_›)]
  replace h10 := xf h10
  refine qK (b_n (t_n (xH (sp (.int .i64 k) (sw (xX k 1 rfl rfl (by omega) (sp (.int .i64 (k + 1)) (xG (qR (m' := x.length - (k + 1)) (by omega) ⟨_, k + 1, uE3, ?_, ?_, rfl, H⟩)))))))))
  · omega
  · exact Qj (by omega) (by omega) ‹_› (by first | assumption | omega)
 refine zx4 (zcr (sp (.bool true) (zjr (ret1 (.bool true) rfl rfl ⟨_, rfl, ?_, H.base⟩))))
 first | rw [decide_eq_false (fun e => by subst e; omega)] | rw [decide_eq_false (zN (k := k) ‹_›)] | rw [decide_eq_true (zQ (k := k) (by omega) (by omega) ‹_›)]

theorem eqInt64SS_ok (w : World) (x : List (List Int)) (y : List (List Int)) (hx : qB.rep w Fx [.slice ax x.length cx] x) (hy : qB.rep w Fy [.slice ay y.length cy] y) : Calls Tryz.prog 20 #[.slice ax x.length cx, .slice ay y.length cy] w (Ret (fun v w' => v = .bool (decide (x = y))) w) := by
 refine en Tryz.func20 Tryz.ntmps20 ?_
 have H := ((St.start w).arg hy).arg hx
 have nhx := qx hx
 have nhy := qx hy
 clear hx hy
 refine zcr (sp (.bool false) (zjcc (sp (.slice ax x.length cx) (oN rfl (sp (.slice ay y.length cy) (oN rfl (sp (.bool ((x.length : Int) != y.length)) (zjn (xn ((x.length : Int) != y.length) rfl (fun h1 => ?_) (fun h1 => ?_))))))))))
 ·skip
  replace h1 := bne_iff_ne.1 h1
  refine zcr (sp (.bool false) (zjr (t_r (ret1 (.bool false) rfl rfl ⟨_, rfl, ?_, H.base⟩))))
  first | rw [decide_eq_false (fun e => by subst e; omega)] | rw [decide_eq_false (zN (k := k) ‹_›)] | rw [decide_eq_true (zQ (k := k) (by omega) (by omega) ‹_›)]
 replace h1 := xf h1
 refine qK (t_n (zcc (sp (.int .i64 0) (zjn (qM ?_)))))
 refine xQ (fun m' ρ w2 => ∃ (junk : Env) (k : Nat), ρ = upd (upd (upd junk 0 (.slice ax x.length cx)) 1 (.slice ay y.length cy)) 5 (.int .i64 k) ∧ (k ≤ x.length) ∧ (x.take k = y.take k) ∧ m' = x.length - k ∧ St w w2 [] [sF false Fx ax cx x, sF false Fy ay cy y]) (x.length - 0) ⟨_, 0, uE3, (by omega), (by rfl), rfl, H⟩ ?_
 clear H
 rintro m' ρ w3 ⟨junk, k, rfl, i0, i1, rfl, H⟩
 refine zcc (sps [.int .i64 k, .slice ax x.length cx] (oN rfl (sp (.bool (decide ((k : Int) < x.length))) (zjn (cD rfl (fun h4 => ?_) (fun h4 => ?_))))))
 ·skip
  refine qK (t_n (xC (qM (xC ?_))))
  refine vH rfl H fun H => rtp 0 (.slice ax x.length cx) H ?_
  refine rtp 1 (.int .i64 k) H ?_
  obtain ⟨b6, o7, rfl⟩ := H.addr 0 rfl (by omega)
  obtain ⟨ae8, ce8, Fe8, H⟩ := H.zU 0 rfl k k (by omega) (by omega) (by omega)
  refine tI 2 rfl rfl rfl (H.sel _ (.refl _) _ (fun _ h => List.mem_cons_of_mem _ (List.mem_cons_of_mem _ (h)))) ?_
  refine rtp 4 (.slice ay y.length cy) (H.sel _ (.refl _) _ (fun _ h => List.mem_cons_of_mem _ (List.mem_cons_of_mem _ (h)))) ?_
  refine rtp 5 (.int .i64 k) (H.sel _ (.refl _) _ (fun _ h => List.mem_cons_of_mem _ (List.mem_cons_of_mem _ (h)))) ?_
  obtain ⟨b9, o10, rfl⟩ := H.addr 3 rfl (by omega)
  obtain ⟨ae11, ce11, Fe11, H⟩ := H.zU 3 rfl k k (by omega) (by omega) (by omega)
  refine tI 6 rfl rfl rfl (H.sel _ (.refl _) _ (fun _ h => List.mem_cons_of_mem _ (List.mem_cons_of_mem _ (List.mem_cons_of_mem _ (List.mem_cons_of_mem _ (h)))))) ?_
  refine vT [3, 7] (by kernel_rfl) (by simp) (yx rfl ?_ (yx rfl ?_ vU))
  ·skip
   refine zl (.slice ae8 ((x[k]!).length) ce8) Tryz.isAgg22 rfl (H.xB 3 rfl 0 rfl) (⟨H.dF 4, (ro 7 rfl (zl (.slice ae11 ((y[k]!).length) ce11) Tryz.isAgg22 rfl (H.xB 1 rfl 0 rfl) (⟨H.dF 4, (ro 8 rfl (oq (QP _ (x[k]!) (y[k]!) (H.get 2 rfl).1 (H.get 0 rfl).1) H fun w12 H => ⟨H.dF 4, (rtp 9 (.bool (!(decide ((x[k]!) = (y[k]!))))) (H.sel _ (.refl _) _ (fun _ h => List.mem_cons_of_mem _ (List.mem_cons_of_mem _ (List.mem_cons_of_mem _ (List.mem_cons_of_mem _ (h)))))) ?_)⟩))⟩)))⟩)
   refine xy (by kernel_rfl) (t_n (xn (!(decide ((x[k]!) = (y[k]!)))) rfl (fun h14 => ?_) (fun h14 => ?_)))
   ·skip
    replace h14 := qW h14
    replace h14 := of_decide_eq_false h14
    refine zcr (sp (.bool false) (zjr (zr5 (ret1 (.bool false) rfl rfl ⟨_, rfl, ?_, H.base⟩))))
    first | rw [decide_eq_false (fun e => by subst e; omega)] | rw [decide_eq_false (zN (k := k) ‹_›)] | rw [decide_eq_true (zQ (k := k) (by omega) (by omega) ‹_›)]
   replace h14 := qQ h14
   replace h14 := of_decide_eq_true h14
   refine qK (b_n (t_n (xH (sp (.int .i64 k) (sw (xX k 1 rfl rfl (by omega) (sp (.int .i64 (k + 1)) (xG (qR (m' := x.length - (k + 1)) (by omega) ⟨_, k + 1, uE3, ?_, ?_, rfl, H.sel _ (.refl _) _ (by simp)⟩)))))))))
   · omega
   · exact Qj (by omega) (by omega) ‹_› (by first | assumption | omega)
  refine zl (.slice ae11 ((y[k]!).length) ce11) Tryz.isAgg22 rfl (H.xB 1 rfl 0 rfl) (⟨H.dF 4, (ro 3 rfl (zl (.slice ae8 ((x[k]!).length) ce8) Tryz.isAgg22 rfl (H.xB 3 rfl 0 rfl) (⟨H.dF 4, (ro 8 rfl (oq (QP _ (x[k]!) (y[k]!) (H.get 2 rfl).1 (H.get 0 rfl).1) H fun w15 H => ⟨H.dF 4, (rtp 9 (.bool (!(decide ((x[k]!) = (y[k]!))))) (H.sel _ (.refl _) _ (fun _ h => List.mem_cons_of_mem _ (List.mem_cons_of_mem _ (List.mem_cons_of_mem _ (List.mem_cons_of_mem _ (h)))))) ?_)⟩))⟩)))⟩)
  refine xy (by kernel_rfl) (t_n (xn (!(decide ((x[k]!) = (y[k]!)))) rfl (fun h17 => ?_) (fun h17 => ?_)))
  ·skip
   replace h17 := qW h17
   replace h17 := of_decide_eq_false h17
   refine zcr (sp (.bool false) (zjr (zr5 (ret1 (.bool false) rfl rfl ⟨_, rfl, ?_, H.base⟩))))
   first | rw [decide_eq_false (fun e => by subst e; omega)] | rw [decide_eq_false (zN (k := k) ‹_›)] | rw [decide_eq_true (zQ (k := k) (by omega) (by omega) ‹_›)]
  replace h17 := qQ h17
  replace h17 := of_decide_eq_true h17
  refine qK (b_n (t_n (xH (sp (.int .i64 k) (sw (xX k 1 rfl rfl (by omega) (sp (.int .i64 (k + 1)) (xG (qR (m' := x.length - (k + 1)) (by omega) ⟨_, k + 1, uE3, ?_, ?_, rfl, H.sel _ (.refl _) _ (by simp)⟩)))))))))
  · omega
  · exact Qj (by omega) (by omega) ‹_› (by first | assumption | omega)
 refine zx4 (zcr (sp (.bool true) (zjr (ret1 (.bool true) rfl rfl ⟨_, rfl, ?_, H.base⟩))))
 first | rw [decide_eq_false (fun e => by subst e; omega)] | rw [decide_eq_false (zN (k := k) ‹_›)] | rw [decide_eq_true (zQ (k := k) (by omega) (by omega) ‹_›)]

theorem eqInto_ok (w : World) (x : IntoD) (y : IntoD) {ayBag : Option Addr} {cyBag : Nat} {FyBag : List Nat} (hxBag : qB.rep w FxBag [.slice axBag x.vS.length cxBag] x.vS) (hyBag : qB.rep w FyBag [.slice ayBag y.vS.length cyBag] y.vS) : Calls Tryz.prog 179 #[.agg #[.int .i64 x.qp, .slice axBag x.vS.length cxBag], .agg #[.int .i64 y.qp, .slice ayBag y.vS.length cyBag]] w (Ret (fun v w' => v = .bool (decide (x = y))) w) := by
 refine en Tryz.func179 Tryz.ntmps179 ?_
 have H := ((St.start w).arg hyBag).arg hxBag
 have nhxBag := qx hxBag
 have nhyBag := qx hyBag
 clear hxBag hyBag
 refine zcr (sw (o_box H (.agg #[.int .i64 x.qp, .slice axBag x.vS.length cxBag]) rfl fun b1 w2 H => sw (o_box H (.agg #[.int .i64 y.qp, .slice ayBag y.vS.length cyBag]) rfl fun b3 w4 H => ?_)))
 replace H : St _ _ [.box b3 [.int .i64 y.qp, .slice ayBag y.vS.length cyBag] 164, .box b1 [.int .i64 x.qp, .slice axBag x.vS.length cxBag] 164] _ := H
 refine sp (.bool false) (zjcc (oF rfl (oL rfl (H.cell 1 rfl rfl) (oF rfl (oL rfl (H.cell 0 rfl rfl) (sp (.bool ((x.qp : Int) != y.qp)) (zjn (xn ((x.qp : Int) != y.qp) rfl (fun h5 => ?_) (fun h5 => ?_)))))))))
 ·skip
  replace h5 := bne_iff_ne.1 h5
  refine zcr (sp (.bool false) (zjr (t_r (ret1 (.bool false) rfl rfl ⟨_, rfl, ?_, H.base⟩))))
  rw [decide_eq_false (fun e => by subst e; simp_all)]
 replace h5 := xf h5
 refine qK (t_n (zcc (oF rfl (oL rfl (H.cell 1 rfl rfl) (oF rfl (oL rfl (H.cell 0 rfl rfl) (sw (oq (QP _ x.vS y.vS (H.get 0 rfl).1 (H.get 1 rfl).1) H fun w6 H => sp (.bool (!(decide (x.vS = y.vS)))) (zjn (xn (!(decide (x.vS = y.vS))) rfl (fun h8 => ?_) (fun h8 => ?_)))))))))))
 ·skip
  replace h8 := qW h8
  replace h8 := of_decide_eq_false h8
  refine zcr (sp (.bool false) (zjr (t_r (ret1 (.bool false) rfl rfl ⟨_, rfl, ?_, H.base⟩))))
  rw [decide_eq_false (fun e => by subst e; simp_all)]
 replace h8 := qQ h8
 replace h8 := of_decide_eq_true h8
 refine qK (t_n (zcr (sp (.bool true) (zjr (ret1 (.bool true) rfl rfl ⟨_, rfl, ?_, H.base⟩)))))
 rw [decide_eq_true (by cases x; cases y; simp_all)]

theorem eqIntoS_ok (w : World) (x : List IntoD) (y : List IntoD) (hx : qB.rep w Fx [.slice ax x.length cx] x) (hy : qB.rep w Fy [.slice ay y.length cy] y) : Calls Tryz.prog 143 #[.slice ax x.length cx, .slice ay y.length cy] w (Ret (fun v w' => v = .bool (decide (x = y))) w) := by
 refine en Tryz.func143 Tryz.ntmps143 ?_
 have H := ((St.start w).arg hy).arg hx
 have nhx := qx hx
 have nhy := qx hy
 clear hx hy
 refine zcr (sp (.bool false) (zjcc (sp (.slice ax x.length cx) (oN rfl (sp (.slice ay y.length cy) (oN rfl (sp (.bool ((x.length : Int) != y.length)) (zjn (xn ((x.length : Int) != y.length) rfl (fun h1 => ?_) (fun h1 => ?_))))))))))
 ·skip
  replace h1 := bne_iff_ne.1 h1
  refine zcr (sp (.bool false) (zjr (t_r (ret1 (.bool false) rfl rfl ⟨_, rfl, ?_, H.base⟩))))
  first | rw [decide_eq_false (fun e => by subst e; omega)] | rw [decide_eq_false (zN (k := k) ‹_›)] | rw [decide_eq_true (zQ (k := k) (by omega) (by omega) ‹_›)]
 replace h1 := xf h1
 refine qK (t_n (zcc (sp (.int .i64 0) (zjn (qM ?_)))))
 refine xQ (fun m' ρ w2 => ∃ (junk : Env) (k : Nat), ρ = upd (upd (upd junk 0 (.slice ax x.length cx)) 1 (.slice ay y.length cy)) 5 (.int .i64 k) ∧ (k ≤ x.length) ∧ (x.take k = y.take k) ∧ m' = x.length - k ∧ St w w2 [] [sF false Fx ax cx x, sF false Fy ay cy y]) (x.length - 0) ⟨_, 0, uE3, (by omega), (by rfl), rfl, H⟩ ?_
 clear H
 rintro m' ρ w3 ⟨junk, k, rfl, i0, i1, rfl, H⟩
 refine zcc (sps [.int .i64 k, .slice ax x.length cx] (oN rfl (sp (.bool (decide ((k : Int) < x.length))) (zjn (cD rfl (fun h4 => ?_) (fun h4 => ?_))))))
 ·skip
  refine qK (t_n (xC (qM (xC ?_))))
  refine vH rfl H fun H => rtp 0 (.slice ax x.length cx) H ?_
  refine rtp 1 (.int .i64 k) H ?_
  obtain ⟨b6, o7, rfl⟩ := H.addr 0 rfl (by omega)
  obtain ⟨ae8Bag, ce8Bag, Fe8Bag, H⟩ := H.jh 0 rfl k k (by omega) (by omega) (by omega)
  refine tI 2 rfl rfl rfl (H.sel _ (.refl _) _ (fun _ h => List.mem_cons_of_mem _ (List.mem_cons_of_mem _ (h)))) ?_
  refine rtp 4 (.slice ay y.length cy) (H.sel _ (.refl _) _ (fun _ h => List.mem_cons_of_mem _ (List.mem_cons_of_mem _ (h)))) ?_
  refine rtp 5 (.int .i64 k) (H.sel _ (.refl _) _ (fun _ h => List.mem_cons_of_mem _ (List.mem_cons_of_mem _ (h)))) ?_
  obtain ⟨b9, o10, rfl⟩ := H.addr 3 rfl (by omega)
  obtain ⟨ae11Bag, ce11Bag, Fe11Bag, H⟩ := H.jh 3 rfl k k (by omega) (by omega) (by omega)
  refine tI 6 rfl rfl rfl (H.sel _ (.refl _) _ (fun _ h => List.mem_cons_of_mem _ (List.mem_cons_of_mem _ (List.mem_cons_of_mem _ (List.mem_cons_of_mem _ (h)))))) ?_
  refine vT [3, 7] (by kernel_rfl) (by simp) (yx rfl ?_ (yx rfl ?_ vU))
  ·skip
   refine xU [.int .i64 ((x[k]!).qp), .slice ae8Bag (((x[k]!).vS).length) ce8Bag] Tryz.isAgg164 Tryz.sizeOf164 rfl (qw (H.get 3 rfl) 0 2) (⟨H.dF 4, (ro 7 rfl (xU [.int .i64 ((y[k]!).qp), .slice ae11Bag (((y[k]!).vS).length) ce11Bag] Tryz.isAgg164 Tryz.sizeOf164 rfl (qw (H.get 1 rfl) 0 2) (⟨H.dF 4, (ro 8 rfl (oq (eqInto_ok _ (x[k]!) (y[k]!) (H.get 2 rfl).1 (H.get 0 rfl).1) H fun w12 H => ⟨H.dF 4, (rtp 9 (.bool (!(decide ((x[k]!) = (y[k]!))))) (H.sel _ (.refl _) _ (fun _ h => List.mem_cons_of_mem _ (List.mem_cons_of_mem _ (List.mem_cons_of_mem _ (List.mem_cons_of_mem _ (h)))))) ?_)⟩))⟩)))⟩)
   refine xy (by kernel_rfl) (t_n (xn (!(decide ((x[k]!) = (y[k]!)))) rfl (fun h14 => ?_) (fun h14 => ?_)))
   ·skip
    replace h14 := qW h14
    replace h14 := of_decide_eq_false h14
    refine zcr (sp (.bool false) (zjr (zr5 (ret1 (.bool false) rfl rfl ⟨_, rfl, ?_, H.base⟩))))
    first | rw [decide_eq_false (fun e => by subst e; omega)] | rw [decide_eq_false (zN (k := k) ‹_›)] | rw [decide_eq_true (zQ (k := k) (by omega) (by omega) ‹_›)]
   replace h14 := qQ h14
   replace h14 := of_decide_eq_true h14
   refine qK (b_n (t_n (xH (sp (.int .i64 k) (sw (xX k 1 rfl rfl (by omega) (sp (.int .i64 (k + 1)) (xG (qR (m' := x.length - (k + 1)) (by omega) ⟨_, k + 1, uE3, ?_, ?_, rfl, H.sel _ (.refl _) _ (by simp)⟩)))))))))
   · omega
   · exact Qj (by omega) (by omega) ‹_› (by first | assumption | omega)
  refine xU [.int .i64 ((y[k]!).qp), .slice ae11Bag (((y[k]!).vS).length) ce11Bag] Tryz.isAgg164 Tryz.sizeOf164 rfl (qw (H.get 1 rfl) 0 2) (⟨H.dF 4, (ro 3 rfl (xU [.int .i64 ((x[k]!).qp), .slice ae8Bag (((x[k]!).vS).length) ce8Bag] Tryz.isAgg164 Tryz.sizeOf164 rfl (qw (H.get 3 rfl) 0 2) (⟨H.dF 4, (ro 8 rfl (oq (eqInto_ok _ (x[k]!) (y[k]!) (H.get 2 rfl).1 (H.get 0 rfl).1) H fun w15 H => ⟨H.dF 4, (rtp 9 (.bool (!(decide ((x[k]!) = (y[k]!))))) (H.sel _ (.refl _) _ (fun _ h => List.mem_cons_of_mem _ (List.mem_cons_of_mem _ (List.mem_cons_of_mem _ (List.mem_cons_of_mem _ (h)))))) ?_)⟩))⟩)))⟩)
  refine xy (by kernel_rfl) (t_n (xn (!(decide ((x[k]!) = (y[k]!)))) rfl (fun h17 => ?_) (fun h17 => ?_)))
  ·skip
   replace h17 := qW h17
   replace h17 := of_decide_eq_false h17
   refine zcr (sp (.bool false) (zjr (zr5 (ret1 (.bool false) rfl rfl ⟨_, rfl, ?_, H.base⟩))))
   first | rw [decide_eq_false (fun e => by subst e; omega)] | rw [decide_eq_false (zN (k := k) ‹_›)] | rw [decide_eq_true (zQ (k := k) (by omega) (by omega) ‹_›)]
  replace h17 := qQ h17
  replace h17 := of_decide_eq_true h17
  refine qK (b_n (t_n (xH (sp (.int .i64 k) (sw (xX k 1 rfl rfl (by omega) (sp (.int .i64 (k + 1)) (xG (qR (m' := x.length - (k + 1)) (by omega) ⟨_, k + 1, uE3, ?_, ?_, rfl, H.sel _ (.refl _) _ (by simp)⟩)))))))))
  · omega
  · exact Qj (by omega) (by omega) ‹_› (by first | assumption | omega)
 refine zx4 (zcr (sp (.bool true) (zjr (ret1 (.bool true) rfl rfl ⟨_, rfl, ?_, H.base⟩))))
 first | rw [decide_eq_false (fun e => by subst e; omega)] | rw [decide_eq_false (zN (k := k) ‹_›)] | rw [decide_eq_true (zQ (k := k) (by omega) (by omega) ‹_›)]

theorem eqRule_ok (w : World) (x : Qr) (y : Qr) {ayNeed : Option Addr} {cyNeed : Nat} {FyNeed : List Nat} {ayHave : Option Addr} {cyHave : Nat} {FyHave : List Nat} {ayLack : Option Addr} {cyLack : Nat} {FyLack : List Nat} {ayHere : Option Addr} {cyHere : Nat} {FyHere : List Nat} {ayOut : Option Addr} {cyOut : Nat} {FyOut : List Nat} {ayInto : Option Addr} {cyInto : Nat} {FyInto : List Nat} (hxNeed : qB.rep w FxNeed [.slice Vr x.qV.length Vf] x.qV) (hxHave : qB.rep w FxHave [.slice Vw x.xg.length Vk] x.xg) (hxLack : qB.rep w FxLack [.slice Vs x.xm.length Vg] x.xm) (hxHere : qB.rep w FxHere [.slice Vu x.xq.length Vj] x.xq) (hxOut : qB.rep w FxOut [.slice axOut x.zq.length cxOut] x.zq) (hxInto : qB.rep w FxInto [.slice Vt x.qI.length Vh] x.qI) (hyNeed : qB.rep w FyNeed [.slice ayNeed y.qV.length cyNeed] y.qV) (hyHave : qB.rep w FyHave [.slice ayHave y.xg.length cyHave] y.xg) (hyLack : qB.rep w FyLack [.slice ayLack y.xm.length cyLack] y.xm) (hyHere : qB.rep w FyHere [.slice ayHere y.xq.length cyHere] y.xq) (hyOut : qB.rep w FyOut [.slice ayOut y.zq.length cyOut] y.zq) (hyInto : qB.rep w FyInto [.slice ayInto y.qI.length cyInto] y.qI) : Calls Tryz.prog 109 #[.agg #[.int .i64 x.qp, .int .i64 x.zg, .slice Vr x.qV.length Vf, .slice Vw x.xg.length Vk, .slice Vs x.xm.length Vg, .slice Vu x.xq.length Vj, .slice axOut x.zq.length cxOut, .slice Vt x.qI.length Vh, .bool x.xO], .agg #[.int .i64 y.qp, .int .i64 y.zg, .slice ayNeed y.qV.length cyNeed, .slice ayHave y.xg.length cyHave, .slice ayLack y.xm.length cyLack, .slice ayHere y.xq.length cyHere, .slice ayOut y.zq.length cyOut, .slice ayInto y.qI.length cyInto, .bool y.xO]] w (Ret (fun v w' => v = .bool (decide (x = y))) w) := by
 refine en Tryz.func109 Tryz.ntmps109 ?_
 have H := ((((((((((((St.start w).arg hyInto).arg hyOut).arg hyHere).arg hyLack).arg hyHave).arg hyNeed).arg hxInto).arg hxOut).arg hxHere).arg hxLack).arg hxHave).arg hxNeed
 have nhxNeed := qx hxNeed
 have nhxHave := qx hxHave
 have nhxLack := qx hxLack
 have nhxHere := qx hxHere
 have nhxOut := qx hxOut
 have nhxInto := qx hxInto
 have nhyNeed := qx hyNeed
 have nhyHave := qx hyHave
 have nhyLack := qx hyLack
 have nhyHere := qx hyHere
 have nhyOut := qx hyOut
 have nhyInto := qx hyInto
 clear hxNeed hxHave hxLack hxHere hxOut hxInto hyNeed hyHave hyLack hyHere hyOut hyInto
 refine zcr (sw (o_box H (.agg #[.int .i64 x.qp, .int .i64 x.zg, .slice Vr x.qV.length Vf, .slice Vw x.xg.length Vk, .slice Vs x.xm.length Vg, .slice Vu x.xq.length Vj, .slice axOut x.zq.length cxOut, .slice Vt x.qI.length Vh, .bool x.xO]) rfl fun b1 w2 H => sw (o_box H (.agg #[.int .i64 y.qp, .int .i64 y.zg, .slice ayNeed y.qV.length cyNeed, .slice ayHave y.xg.length cyHave, .slice ayLack y.xm.length cyLack, .slice ayHere y.xq.length cyHere, .slice ayOut y.zq.length cyOut, .slice ayInto y.qI.length cyInto, .bool y.xO]) rfl fun b3 w4 H => ?_)))
 replace H : St _ _ [.box b3 [.int .i64 y.qp, .int .i64 y.zg, .slice ayNeed y.qV.length cyNeed, .slice ayHave y.xg.length cyHave, .slice ayLack y.xm.length cyLack, .slice ayHere y.xq.length cyHere, .slice ayOut y.zq.length cyOut, .slice ayInto y.qI.length cyInto, .bool y.xO] 121, .box b1 [.int .i64 x.qp, .int .i64 x.zg, .slice Vr x.qV.length Vf, .slice Vw x.xg.length Vk, .slice Vs x.xm.length Vg, .slice Vu x.xq.length Vj, .slice axOut x.zq.length cxOut, .slice Vt x.qI.length Vh, .bool x.xO] 121] _ := H
 refine sp (.bool false) (zjcc (oF rfl (oL rfl (H.cell 1 rfl rfl) (oF rfl (oL rfl (H.cell 0 rfl rfl) (sp (.bool ((x.qp : Int) != y.qp)) (zjn (xn ((x.qp : Int) != y.qp) rfl (fun h5 => ?_) (fun h5 => ?_)))))))))
 ·skip
  replace h5 := bne_iff_ne.1 h5
  refine zcr (sp (.bool false) (zjr (t_r (ret1 (.bool false) rfl rfl ⟨_, rfl, ?_, H.base⟩))))
  rw [decide_eq_false (fun e => by subst e; simp_all)]
 replace h5 := xf h5
 refine qK (t_n (zcc (oF rfl (oL rfl (H.cell 1 rfl rfl) (oF rfl (oL rfl (H.cell 0 rfl rfl) (sp (.bool ((x.zg : Int) != y.zg)) (zjn (xn ((x.zg : Int) != y.zg) rfl (fun h6 => ?_) (fun h6 => ?_))))))))))
 ·skip
  replace h6 := bne_iff_ne.1 h6
  refine zcr (sp (.bool false) (zjr (t_r (ret1 (.bool false) rfl rfl ⟨_, rfl, ?_, H.base⟩))))
  rw [decide_eq_false (fun e => by subst e; simp_all)]
 replace h6 := xf h6
 refine qK (t_n (zcc (oF rfl (oL rfl (H.cell 1 rfl rfl) (oF rfl (oL rfl (H.cell 0 rfl rfl) (sw (oq (QP _ x.qV y.qV (H.get 0 rfl).1 (H.get 6 rfl).1) H fun w7 H => sp (.bool (!(decide (x.qV = y.qV)))) (zjn (xn (!(decide (x.qV = y.qV))) rfl (fun h9 => ?_) (fun h9 => ?_)))))))))))
 ·skip
  replace h9 := qW h9
  replace h9 := of_decide_eq_false h9
  refine zcr (sp (.bool false) (zjr (t_r (ret1 (.bool false) rfl rfl ⟨_, rfl, ?_, H.base⟩))))
  rw [decide_eq_false (fun e => by subst e; simp_all)]
 replace h9 := qQ h9
 replace h9 := of_decide_eq_true h9
 refine qK (t_n (zcc (oF rfl (oL rfl (H.cell 1 rfl rfl) (oF rfl (oL rfl (H.cell 0 rfl rfl) (sw (oq (QP _ x.xg y.xg (H.get 1 rfl).1 (H.get 7 rfl).1) H fun w10 H => sp (.bool (!(decide (x.xg = y.xg)))) (zjn (xn (!(decide (x.xg = y.xg))) rfl (fun h12 => ?_) (fun h12 => ?_)))))))))))
 ·skip
  replace h12 := qW h12
  replace h12 := of_decide_eq_false h12
  refine zcr (sp (.bool false) (zjr (t_r (ret1 (.bool false) rfl rfl ⟨_, rfl, ?_, H.base⟩))))
  rw [decide_eq_false (fun e => by subst e; simp_all)]
 replace h12 := qQ h12
 replace h12 := of_decide_eq_true h12
 refine qK (t_n (zcc (oF rfl (oL rfl (H.cell 1 rfl rfl) (oF rfl (oL rfl (H.cell 0 rfl rfl) (sw (oq (QP _ x.xm y.xm (H.get 2 rfl).1 (H.get 8 rfl).1) H fun w13 H => sp (.bool (!(decide (x.xm = y.xm)))) (zjn (xn (!(decide (x.xm = y.xm))) rfl (fun h15 => ?_) (fun h15 => ?_)))))))))))
 ·skip
  replace h15 := qW h15
  replace h15 := of_decide_eq_false h15
  refine zcr (sp (.bool false) (zjr (t_r (ret1 (.bool false) rfl rfl ⟨_, rfl, ?_, H.base⟩))))
  rw [decide_eq_false (fun e => by subst e; simp_all)]
 replace h15 := qQ h15
 replace h15 := of_decide_eq_true h15
 refine qK (t_n (zcc (oF rfl (oL rfl (H.cell 1 rfl rfl) (oF rfl (oL rfl (H.cell 0 rfl rfl) (sw (oq (QP _ x.xq y.xq (H.get 3 rfl).1 (H.get 9 rfl).1) H fun w16 H => sp (.bool (!(decide (x.xq = y.xq)))) (zjn (xn (!(decide (x.xq = y.xq))) rfl (fun h18 => ?_) (fun h18 => ?_)))))))))))
 ·skip
  replace h18 := qW h18
  replace h18 := of_decide_eq_false h18
  refine zcr (sp (.bool false) (zjr (t_r (ret1 (.bool false) rfl rfl ⟨_, rfl, ?_, H.base⟩))))
  rw [decide_eq_false (fun e => by subst e; simp_all)]
 replace h18 := qQ h18
 replace h18 := of_decide_eq_true h18
 refine qK (t_n (zcc (oF rfl (oL rfl (H.cell 1 rfl rfl) (oF rfl (oL rfl (H.cell 0 rfl rfl) (sw (oq (QP _ x.zq y.zq (H.get 4 rfl).1 (H.get 10 rfl).1) H fun w19 H => sp (.bool (!(decide (x.zq = y.zq)))) (zjn (xn (!(decide (x.zq = y.zq))) rfl (fun h21 => ?_) (fun h21 => ?_)))))))))))
 ·skip
  replace h21 := qW h21
  replace h21 := of_decide_eq_false h21
  refine zcr (sp (.bool false) (zjr (t_r (ret1 (.bool false) rfl rfl ⟨_, rfl, ?_, H.base⟩))))
  rw [decide_eq_false (fun e => by subst e; simp_all)]
 replace h21 := qQ h21
 replace h21 := of_decide_eq_true h21
 refine qK (t_n (zcc (oF rfl (oL rfl (H.cell 1 rfl rfl) (oF rfl (oL rfl (H.cell 0 rfl rfl) (sw (oq (eqIntoS_ok _ x.qI y.qI (H.get 5 rfl).1 (H.get 11 rfl).1) H fun w22 H => sp (.bool (!(decide (x.qI = y.qI)))) (zjn (xn (!(decide (x.qI = y.qI))) rfl (fun h24 => ?_) (fun h24 => ?_)))))))))))
 ·skip
  replace h24 := qW h24
  replace h24 := of_decide_eq_false h24
  refine zcr (sp (.bool false) (zjr (t_r (ret1 (.bool false) rfl rfl ⟨_, rfl, ?_, H.base⟩))))
  rw [decide_eq_false (fun e => by subst e; simp_all)]
 replace h24 := qQ h24
 replace h24 := of_decide_eq_true h24
 refine qK (t_n (zcc (oF rfl (oL rfl (H.cell 1 rfl rfl) (oF rfl (oL rfl (H.cell 0 rfl rfl) (sw (o_neB Tryz.underlying4 x.xO y.xO rfl rfl (zjn (xn (x.xO != y.xO) rfl (fun h25 => ?_) (fun h25 => ?_)))))))))))
 ·skip
  replace h25 := bne_iff_ne.1 h25
  refine zcr (sp (.bool false) (zjr (t_r (ret1 (.bool false) rfl rfl ⟨_, rfl, ?_, H.base⟩))))
  rw [decide_eq_false (fun e => by subst e; simp_all)]
 replace h25 := xf h25
 refine qK (t_n (zcr (sp (.bool true) (zjr (ret1 (.bool true) rfl rfl ⟨_, rfl, ?_, H.base⟩)))))
 rw [decide_eq_true (by cases x; cases y; simp_all)]

theorem eqRuleS_ok (w : World) (x : List Qr) (y : List Qr) (hx : qB.rep w Fx [.slice ax x.length cx] x) (hy : qB.rep w Fy [.slice ay y.length cy] y) : Calls Tryz.prog 66 #[.slice ax x.length cx, .slice ay y.length cy] w (Ret (fun v w' => v = .bool (decide (x = y))) w) := by
 refine en Tryz.func66 Tryz.ntmps66 ?_
 have H := ((St.start w).arg hy).arg hx
 have nhx := qx hx
 have nhy := qx hy
 clear hx hy
 refine zcr (sp (.bool false) (zjcc (sp (.slice ax x.length cx) (oN rfl (sp (.slice ay y.length cy) (oN rfl (sp (.bool ((x.length : Int) != y.length)) (zjn (xn ((x.length : Int) != y.length) rfl (fun h1 => ?_) (fun h1 => ?_))))))))))
 ·skip
  replace h1 := bne_iff_ne.1 h1
  refine zcr (sp (.bool false) (zjr (t_r (ret1 (.bool false) rfl rfl ⟨_, rfl, ?_, H.base⟩))))
  first | rw [decide_eq_false (fun e => by subst e; omega)] | rw [decide_eq_false (zN (k := k) ‹_›)] | rw [decide_eq_true (zQ (k := k) (by omega) (by omega) ‹_›)]
 replace h1 := xf h1
 refine qK (t_n (zcc (sp (.int .i64 0) (zjn (qM ?_)))))
 refine xQ (fun m' ρ w2 => ∃ (junk : Env) (k : Nat), ρ = upd (upd (upd junk 0 (.slice ax x.length cx)) 1 (.slice ay y.length cy)) 5 (.int .i64 k) ∧ (k ≤ x.length) ∧ (x.take k = y.take k) ∧ m' = x.length - k ∧ St w w2 [] [sF false Fx ax cx x, sF false Fy ay cy y]) (x.length - 0) ⟨_, 0, uE3, (by omega), (by rfl), rfl, H⟩ ?_
 clear H
 rintro m' ρ w3 ⟨junk, k, rfl, i0, i1, rfl, H⟩
 refine zcc (sps [.int .i64 k, .slice ax x.length cx] (oN rfl (sp (.bool (decide ((k : Int) < x.length))) (zjn (cD rfl (fun h4 => ?_) (fun h4 => ?_))))))
 ·skip
  refine qK (t_n (xC (qM (xC ?_))))
  refine vH rfl H fun H => rtp 0 (.slice ax x.length cx) H ?_
  refine rtp 1 (.int .i64 k) H ?_
  obtain ⟨b6, o7, rfl⟩ := H.addr 0 rfl (by omega)
  obtain ⟨ae8Need, ce8Need, Fe8Need, ae8Have, ce8Have, Fe8Have, ae8Lack, ce8Lack, Fe8Lack, ae8Here, ce8Here, Fe8Here, ae8Out, ce8Out, Fe8Out, ae8Into, ce8Into, Fe8Into, H⟩ := H.jy 0 rfl k k (by omega) (by omega) (by omega)
  refine tI 2 rfl rfl rfl (H.sel _ (.refl _) _ (fun _ h => List.mem_cons_of_mem _ (List.mem_cons_of_mem _ (List.mem_cons_of_mem _ (List.mem_cons_of_mem _ (List.mem_cons_of_mem _ (List.mem_cons_of_mem _ (List.mem_cons_of_mem _ (h))))))))) ?_
  refine rtp 4 (.slice ay y.length cy) (H.sel _ (.refl _) _ (fun _ h => List.mem_cons_of_mem _ (List.mem_cons_of_mem _ (List.mem_cons_of_mem _ (List.mem_cons_of_mem _ (List.mem_cons_of_mem _ (List.mem_cons_of_mem _ (List.mem_cons_of_mem _ (h))))))))) ?_
  refine rtp 5 (.int .i64 k) (H.sel _ (.refl _) _ (fun _ h => List.mem_cons_of_mem _ (List.mem_cons_of_mem _ (List.mem_cons_of_mem _ (List.mem_cons_of_mem _ (List.mem_cons_of_mem _ (List.mem_cons_of_mem _ (List.mem_cons_of_mem _ (h))))))))) ?_
  obtain ⟨b9, o10, rfl⟩ := H.addr 8 rfl (by omega)
  obtain ⟨ae11Need, ce11Need, Fe11Need, ae11Have, ce11Have, Fe11Have, ae11Lack, ce11Lack, Fe11Lack, ae11Here, ce11Here, Fe11Here, ae11Out, ce11Out, Fe11Out, ae11Into, ce11Into, Fe11Into, H⟩ := H.jy 8 rfl k k (by omega) (by omega) (by omega)
  refine tI 6 rfl rfl rfl (H.sel _ (.refl _) _ (fun _ h => List.mem_cons_of_mem _ (List.mem_cons_of_mem _ (List.mem_cons_of_mem _ (List.mem_cons_of_mem _ (List.mem_cons_of_mem _ (List.mem_cons_of_mem _ (List.mem_cons_of_mem _ (List.mem_cons_of_mem _ (List.mem_cons_of_mem _ (List.mem_cons_of_mem _ (List.mem_cons_of_mem _ (List.mem_cons_of_mem _ (List.mem_cons_of_mem _ (List.mem_cons_of_mem _ (h)))))))))))))))) ?_
  refine vT [3, 7] (by kernel_rfl) (by simp) (yx rfl ?_ (yx rfl ?_ vU))
  ·skip
   refine xU [.int .i64 ((x[k]!).qp), .int .i64 ((x[k]!).zg), .slice ae8Need (((x[k]!).qV).length) ce8Need, .slice ae8Have (((x[k]!).xg).length) ce8Have, .slice ae8Lack (((x[k]!).xm).length) ce8Lack, .slice ae8Here (((x[k]!).xq).length) ce8Here, .slice ae8Out (((x[k]!).zq).length) ce8Out, .slice ae8Into (((x[k]!).qI).length) ce8Into, .bool ((x[k]!).xO)] Tryz.isAgg121 Tryz.sizeOf121 rfl (qw (H.get 13 rfl) 0 9) (⟨H.dF 14, (ro 7 rfl ?_)⟩)
   refine xU [.int .i64 ((y[k]!).qp), .int .i64 ((y[k]!).zg), .slice ae11Need (((y[k]!).qV).length) ce11Need, .slice ae11Have (((y[k]!).xg).length) ce11Have, .slice ae11Lack (((y[k]!).xm).length) ce11Lack, .slice ae11Here (((y[k]!).xq).length) ce11Here, .slice ae11Out (((y[k]!).zq).length) ce11Out, .slice ae11Into (((y[k]!).qI).length) ce11Into, .bool ((y[k]!).xO)] Tryz.isAgg121 Tryz.sizeOf121 rfl (qw (H.get 6 rfl) 0 9) (⟨H.dF 14, (ro 8 rfl ?_)⟩)
   refine oq (eqRule_ok _ (x[k]!) (y[k]!) (H.get 7 rfl).1 (H.get 8 rfl).1 (H.get 9 rfl).1 (H.get 10 rfl).1 (H.get 11 rfl).1 (H.get 12 rfl).1 (H.get 0 rfl).1 (H.get 1 rfl).1 (H.get 2 rfl).1 (H.get 3 rfl).1 (H.get 4 rfl).1 (H.get 5 rfl).1) H fun w12 H => ⟨H.dF 14, ?_⟩
   refine rtp 9 (.bool (!(decide ((x[k]!) = (y[k]!))))) (H.sel _ (.refl _) _ (fun _ h => List.mem_cons_of_mem _ (List.mem_cons_of_mem _ (List.mem_cons_of_mem _ (List.mem_cons_of_mem _ (List.mem_cons_of_mem _ (List.mem_cons_of_mem _ (List.mem_cons_of_mem _ (List.mem_cons_of_mem _ (List.mem_cons_of_mem _ (List.mem_cons_of_mem _ (List.mem_cons_of_mem _ (List.mem_cons_of_mem _ (List.mem_cons_of_mem _ (List.mem_cons_of_mem _ (h)))))))))))))))) ?_
   refine xy (by kernel_rfl) (t_n (xn (!(decide ((x[k]!) = (y[k]!)))) rfl (fun h14 => ?_) (fun h14 => ?_)))
   ·skip
    replace h14 := qW h14
    replace h14 := of_decide_eq_false h14
    refine zcr (sp (.bool false) (zjr (zr5 (ret1 (.bool false) rfl rfl ⟨_, rfl, ?_, H.base⟩))))
    first | rw [decide_eq_false (fun e => by subst e; omega)] | rw [decide_eq_false (zN (k := k) ‹_›)] | rw [decide_eq_true (zQ (k := k) (by omega) (by omega) ‹_›)]
   replace h14 := qQ h14
   replace h14 := of_decide_eq_true h14
   refine qK (b_n (t_n (xH (sp (.int .i64 k) (sw (xX k 1 rfl rfl (by omega) (sp (.int .i64 (k + 1)) (xG (qR (m' := x.length - (k + 1)) (by omega) ⟨_, k + 1, uE3, ?_, ?_, rfl, H.sel _ (.refl _) _ (by simp)⟩)))))))))
   · omega
   · exact Qj (by omega) (by omega) ‹_› (by first | assumption | omega)
  refine xU [.int .i64 ((y[k]!).qp), .int .i64 ((y[k]!).zg), .slice ae11Need (((y[k]!).qV).length) ce11Need, .slice ae11Have (((y[k]!).xg).length) ce11Have, .slice ae11Lack (((y[k]!).xm).length) ce11Lack, .slice ae11Here (((y[k]!).xq).length) ce11Here, .slice ae11Out (((y[k]!).zq).length) ce11Out, .slice ae11Into (((y[k]!).qI).length) ce11Into, .bool ((y[k]!).xO)] Tryz.isAgg121 Tryz.sizeOf121 rfl (qw (H.get 6 rfl) 0 9) (⟨H.dF 14, (ro 3 rfl ?_)⟩)
  refine xU [.int .i64 ((x[k]!).qp), .int .i64 ((x[k]!).zg), .slice ae8Need (((x[k]!).qV).length) ce8Need, .slice ae8Have (((x[k]!).xg).length) ce8Have, .slice ae8Lack (((x[k]!).xm).length) ce8Lack, .slice ae8Here (((x[k]!).xq).length) ce8Here, .slice ae8Out (((x[k]!).zq).length) ce8Out, .slice ae8Into (((x[k]!).qI).length) ce8Into, .bool ((x[k]!).xO)] Tryz.isAgg121 Tryz.sizeOf121 rfl (qw (H.get 13 rfl) 0 9) (⟨H.dF 14, (ro 8 rfl ?_)⟩)
  refine oq (eqRule_ok _ (x[k]!) (y[k]!) (H.get 7 rfl).1 (H.get 8 rfl).1 (H.get 9 rfl).1 (H.get 10 rfl).1 (H.get 11 rfl).1 (H.get 12 rfl).1 (H.get 0 rfl).1 (H.get 1 rfl).1 (H.get 2 rfl).1 (H.get 3 rfl).1 (H.get 4 rfl).1 (H.get 5 rfl).1) H fun w15 H => ⟨H.dF 14, ?_⟩
  refine rtp 9 (.bool (!(decide ((x[k]!) = (y[k]!))))) (H.sel _ (.refl _) _ (fun _ h => List.mem_cons_of_mem _ (List.mem_cons_of_mem _ (List.mem_cons_of_mem _ (List.mem_cons_of_mem _ (List.mem_cons_of_mem _ (List.mem_cons_of_mem _ (List.mem_cons_of_mem _ (List.mem_cons_of_mem _ (List.mem_cons_of_mem _ (List.mem_cons_of_mem _ (List.mem_cons_of_mem _ (List.mem_cons_of_mem _ (List.mem_cons_of_mem _ (List.mem_cons_of_mem _ (h)))))))))))))))) ?_
  refine xy (by kernel_rfl) (t_n (xn (!(decide ((x[k]!) = (y[k]!)))) rfl (fun h17 => ?_) (fun h17 => ?_)))
  ·skip
   replace h17 := qW h17
   replace h17 := of_decide_eq_false h17
   refine zcr (sp (.bool false) (zjr (zr5 (ret1 (.bool false) rfl rfl ⟨_, rfl, ?_, H.base⟩))))
   first | rw [decide_eq_false (fun e => by subst e; omega)] | rw [decide_eq_false (zN (k := k) ‹_›)] | rw [decide_eq_true (zQ (k := k) (by omega) (by omega) ‹_›)]
  replace h17 := qQ h17
  replace h17 := of_decide_eq_true h17
  refine qK (b_n (t_n (xH (sp (.int .i64 k) (sw (xX k 1 rfl rfl (by omega) (sp (.int .i64 (k + 1)) (xG (qR (m' := x.length - (k + 1)) (by omega) ⟨_, k + 1, uE3, ?_, ?_, rfl, H.sel _ (.refl _) _ (by simp)⟩)))))))))
  · omega
  · exact Qj (by omega) (by omega) ‹_› (by first | assumption | omega)
 refine zx4 (zcr (sp (.bool true) (zjr (ret1 (.bool true) rfl rfl ⟨_, rfl, ?_, H.base⟩))))
 first | rw [decide_eq_false (fun e => by subst e; omega)] | rw [decide_eq_false (zN (k := k) ‹_›)] | rw [decide_eq_true (zQ (k := k) (by omega) (by omega) ‹_›)]

theorem eqSystem_ok (w : World) (x : qy) (y : qy) {ayParents : Option Addr} {cyParents : Nat} {FyParents : List Nat} {ayRules : Option Addr} {cyRules : Nat} {FyRules : List Nat} (Qi : qB.rep w yF [.slice vC x.qf.length vz] x.qf) (X7 : qB.rep w Xi [.slice yE x.qg.length yC] x.qg) (hyParents : qB.rep w FyParents [.slice ayParents y.qf.length cyParents] y.qf) (hyRules : qB.rep w FyRules [.slice ayRules y.qg.length cyRules] y.qg) : Calls Tryz.prog 21 #[.agg #[.int .i64 x.qJ, .slice vC x.qf.length vz, .slice yE x.qg.length yC], .agg #[.int .i64 y.qJ, .slice ayParents y.qf.length cyParents, .slice ayRules y.qg.length cyRules]] w (Ret (fun v w' => v = .bool (decide (x = y))) w) := by
 refine en Tryz.func21 Tryz.ntmps21 ?_
 have H := ((((St.start w).arg hyRules).arg hyParents).arg X7).arg Qi
 have nhxParents := qx Qi
 have nhxRules := qx X7
 have nhyParents := qx hyParents
 have nhyRules := qx hyRules
 clear Qi X7 hyParents hyRules
 refine zcr (sw (o_box H (.agg #[.int .i64 x.qJ, .slice vC x.qf.length vz, .slice yE x.qg.length yC]) rfl fun b1 w2 H => sw (o_box H (.agg #[.int .i64 y.qJ, .slice ayParents y.qf.length cyParents, .slice ayRules y.qg.length cyRules]) rfl fun b3 w4 H => ?_)))
 replace H : St _ _ [.box b3 [.int .i64 y.qJ, .slice ayParents y.qf.length cyParents, .slice ayRules y.qg.length cyRules] 36, .box b1 [.int .i64 x.qJ, .slice vC x.qf.length vz, .slice yE x.qg.length yC] 36] _ := H
 refine sp (.bool false) (zjcc (oF rfl (oL rfl (H.cell 1 rfl rfl) (oF rfl (oL rfl (H.cell 0 rfl rfl) (sp (.bool ((x.qJ : Int) != y.qJ)) (zjn (xn ((x.qJ : Int) != y.qJ) rfl (fun h5 => ?_) (fun h5 => ?_)))))))))
 ·skip
  replace h5 := bne_iff_ne.1 h5
  refine zcr (sp (.bool false) (zjr (t_r (ret1 (.bool false) rfl rfl ⟨_, rfl, ?_, H.base⟩))))
  rw [decide_eq_false (fun e => by subst e; simp_all)]
 replace h5 := xf h5
 refine qK (t_n (zcc (oF rfl (oL rfl (H.cell 1 rfl rfl) (oF rfl (oL rfl (H.cell 0 rfl rfl) (sw (oq (QP _ x.qf y.qf (H.get 0 rfl).1 (H.get 2 rfl).1) H fun w6 H => sp (.bool (!(decide (x.qf = y.qf)))) (zjn (xn (!(decide (x.qf = y.qf))) rfl (fun h8 => ?_) (fun h8 => ?_)))))))))))
 ·skip
  replace h8 := qW h8
  replace h8 := of_decide_eq_false h8
  refine zcr (sp (.bool false) (zjr (t_r (ret1 (.bool false) rfl rfl ⟨_, rfl, ?_, H.base⟩))))
  rw [decide_eq_false (fun e => by subst e; simp_all)]
 replace h8 := qQ h8
 replace h8 := of_decide_eq_true h8
 refine qK (t_n (zcc (oF rfl (oL rfl (H.cell 1 rfl rfl) (oF rfl (oL rfl (H.cell 0 rfl rfl) (sw (oq (eqRuleS_ok _ x.qg y.qg (H.get 1 rfl).1 (H.get 3 rfl).1) H fun w9 H => sp (.bool (!(decide (x.qg = y.qg)))) (zjn (xn (!(decide (x.qg = y.qg))) rfl (fun h11 => ?_) (fun h11 => ?_)))))))))))
 ·skip
  replace h11 := qW h11
  replace h11 := of_decide_eq_false h11
  refine zcr (sp (.bool false) (zjr (t_r (ret1 (.bool false) rfl rfl ⟨_, rfl, ?_, H.base⟩))))
  rw [decide_eq_false (fun e => by subst e; simp_all)]
 replace h11 := qQ h11
 replace h11 := of_decide_eq_true h11
 refine qK (t_n (zcr (sp (.bool true) (zjr (ret1 (.bool true) rfl rfl ⟨_, rfl, ?_, H.base⟩)))))
 rw [decide_eq_true (by cases x; cases y; simp_all)]

theorem eqState_ok (w : World) (x : qE) (y : qE) {ayAlive : Option Addr} {cyAlive : Nat} {FyAlive : List Nat} {ayBags : Option Addr} {cyBags : Nat} {FyBags : List Nat} {ayAround : Option Addr} {cyAround : Nat} {FyAround : List Nat} (X8 : qB.rep w Q4 [.slice jV x.qh.length jU] x.qh) (hxBags : qB.rep w V6 [.slice Qy x.ql.length Qx] x.ql) (QT : qB.rep w Qb [.slice vY x.qj.length vX] x.qj) (hyAlive : qB.rep w FyAlive [.slice ayAlive y.qh.length cyAlive] y.qh) (hyBags : qB.rep w FyBags [.slice ayBags y.ql.length cyBags] y.ql) (hyAround : qB.rep w FyAround [.slice ayAround y.qj.length cyAround] y.qj) : Calls Tryz.prog 22 #[.agg #[.slice jV x.qh.length jU, .slice Qy x.ql.length Qx, .slice vY x.qj.length vX], .agg #[.slice ayAlive y.qh.length cyAlive, .slice ayBags y.ql.length cyBags, .slice ayAround y.qj.length cyAround]] w (Ret (fun v w' => v = .bool (decide (x = y))) w) := by
 refine en Tryz.func22 Tryz.ntmps22 ?_
 have H := ((((((St.start w).arg hyAround).arg hyBags).arg hyAlive).arg QT).arg hxBags).arg X8
 have nhxAlive := qx X8
 have nhxBags := qx hxBags
 have nhxAround := qx QT
 have nhyAlive := qx hyAlive
 have nhyBags := qx hyBags
 have nhyAround := qx hyAround
 clear X8 hxBags QT hyAlive hyBags hyAround
 refine zcr (sw (o_box H (.agg #[.slice jV x.qh.length jU, .slice Qy x.ql.length Qx, .slice vY x.qj.length vX]) rfl fun b1 w2 H => sw (o_box H (.agg #[.slice ayAlive y.qh.length cyAlive, .slice ayBags y.ql.length cyBags, .slice ayAround y.qj.length cyAround]) rfl fun b3 w4 H => ?_)))
 replace H : St _ _ [.box b3 [.slice ayAlive y.qh.length cyAlive, .slice ayBags y.ql.length cyBags, .slice ayAround y.qj.length cyAround] 38, .box b1 [.slice jV x.qh.length jU, .slice Qy x.ql.length Qx, .slice vY x.qj.length vX] 38] _ := H
 refine sp (.bool false) (zjcc (oF rfl (oL rfl (H.cell 1 rfl rfl) (oF rfl (oL rfl (H.cell 0 rfl rfl) (sw (oq (eqBoolS_ok _ x.qh y.qh (H.get 0 rfl).1 (H.get 3 rfl).1) H fun w5 H => sp (.bool (!(decide (x.qh = y.qh)))) (zjn (xn (!(decide (x.qh = y.qh))) rfl (fun h7 => ?_) (fun h7 => ?_))))))))))
 ·skip
  replace h7 := qW h7
  replace h7 := of_decide_eq_false h7
  refine zcr (sp (.bool false) (zjr (t_r (ret1 (.bool false) rfl rfl ⟨_, rfl, ?_, H.base⟩))))
  rw [decide_eq_false (fun e => by subst e; simp_all)]
 replace h7 := qQ h7
 replace h7 := of_decide_eq_true h7
 refine qK (t_n (zcc (oF rfl (oL rfl (H.cell 1 rfl rfl) (oF rfl (oL rfl (H.cell 0 rfl rfl) (sw (oq (eqInt64SS_ok _ x.ql y.ql (H.get 1 rfl).1 (H.get 4 rfl).1) H fun w8 H => sp (.bool (!(decide (x.ql = y.ql)))) (zjn (xn (!(decide (x.ql = y.ql))) rfl (fun h10 => ?_) (fun h10 => ?_)))))))))))
 ·skip
  replace h10 := qW h10
  replace h10 := of_decide_eq_false h10
  refine zcr (sp (.bool false) (zjr (t_r (ret1 (.bool false) rfl rfl ⟨_, rfl, ?_, H.base⟩))))
  rw [decide_eq_false (fun e => by subst e; simp_all)]
 replace h10 := qQ h10
 replace h10 := of_decide_eq_true h10
 refine qK (t_n (zcc (oF rfl (oL rfl (H.cell 1 rfl rfl) (oF rfl (oL rfl (H.cell 0 rfl rfl) (sw (oq (QP _ x.qj y.qj (H.get 2 rfl).1 (H.get 5 rfl).1) H fun w11 H => sp (.bool (!(decide (x.qj = y.qj)))) (zjn (xn (!(decide (x.qj = y.qj))) rfl (fun h13 => ?_) (fun h13 => ?_)))))))))))
 ·skip
  replace h13 := qW h13
  replace h13 := of_decide_eq_false h13
  refine zcr (sp (.bool false) (zjr (t_r (ret1 (.bool false) rfl rfl ⟨_, rfl, ?_, H.base⟩))))
  rw [decide_eq_false (fun e => by subst e; simp_all)]
 replace h13 := qQ h13
 replace h13 := of_decide_eq_true h13
 refine qK (t_n (zcr (sp (.bool true) (zjr (ret1 (.bool true) rfl rfl ⟨_, rfl, ?_, H.base⟩)))))
 rw [decide_eq_true (by cases x; cases y; simp_all)]
theorem St.open_Int {W w : World} {ps : List Prv} {F : List Nat} {b o m c : Nat} {l : List Int} (H : St W w ps [isF true F (.slice (some ⟨b, o, none⟩) m c) l]) (N : F.Nodup) (k : Nat) (hk : k < l.length) {y : Int} (hy : l[k]! = y) :
    ∃ (xs1 xs2 : List Value) (F1 F2 : List Nat) , F = b :: (F1 ++ [] ++ F2) ∧ xs1.length = k * 1 ∧ St W w ps [XE b o xs1 [.int .i64 y] xs2 F1 F2 (l.take k) (l.drop (k + 1))] ∧
      ([b :: (F1 ++ F2)] : List (List Nat)).flatten.Nodup := by
  obtain ⟨cs, xs1, xs2, F1, Fk, F2, rfl, hx, hr, hfr, hlt, H⟩ := H.openAt k hk
  rw [hy] at hr
  obtain ⟨hFF, rfl⟩ := hr
  exact ⟨xs1, xs2, F1, F2, by rw [hFF], hx, H, by have N' := nodup_hole N; rw [hFF] at N'; simpa using N'⟩

theorem St.open_Bool {W w : World} {ps : List Prv} {F : List Nat} {b o m c : Nat} {l : List Bool} (H : St W w ps [isF true F (.slice (some ⟨b, o, none⟩) m c) l]) (N : F.Nodup) (k : Nat) (hk : k < l.length) {y : Bool} (hy : l[k]! = y) :
    ∃ (xs1 xs2 : List Value) (F1 F2 : List Nat) , F = b :: (F1 ++ [] ++ F2) ∧ xs1.length = k * 1 ∧ St W w ps [XE b o xs1 [.bool y] xs2 F1 F2 (l.take k) (l.drop (k + 1))] ∧
      ([b :: (F1 ++ F2)] : List (List Nat)).flatten.Nodup := by
  obtain ⟨cs, xs1, xs2, F1, Fk, F2, rfl, hx, hr, hfr, hlt, H⟩ := H.openAt k hk
  rw [hy] at hr
  obtain ⟨hFF, rfl⟩ := hr
  exact ⟨xs1, xs2, F1, F2, by rw [hFF], hx, H, by have N' := nodup_hole N; rw [hFF] at N'; simpa using N'⟩

theorem St.open_List {α : Type} [qB α] {W w : World} {ps : List Prv} {F : List Nat} {b o m c : Nat} {l : List (List α)} (H : St W w ps [isF true F (.slice (some ⟨b, o, none⟩) m c) l]) (N : F.Nodup) (k : Nat) (hk : k < l.length) {y : List α} (hy : l[k]! = y) :
    ∃ (xs1 xs2 : List Value) (F1 F2 : List Nat) (a : Option Addr) (c' : Nat) (Fk : List Nat), F = b :: (F1 ++ Fk ++ F2) ∧ xs1.length = k * 1 ∧ St W w ps [XE b o xs1 [.slice a y.length c'] xs2 F1 F2 (l.take k) (l.drop (k + 1)), isF true Fk (.slice a y.length c') y] ∧
      ([b :: (F1 ++ F2), Fk] : List (List Nat)).flatten.Nodup := by
  obtain ⟨cs, xs1, xs2, F1, Fk, F2, rfl, hx, hr, hfr, hlt, H⟩ := H.openAt k hk
  rw [hy] at hr
  obtain ⟨a, c', rfl, _⟩ := id hr
  exact ⟨xs1, xs2, F1, F2, a, c', Fk, rfl, hx, (H.add (isF true Fk (.slice a y.length c') y) ⟨hr, fun _ => hfr⟩ hlt).sel _ (.refl _) _ (all_of ⟨.tail _ (.head _), ⟨.head _, trivial⟩⟩), by simpa using nodup_hole N⟩

instance : Mark IntoD where
  cnt x := 1 + cnt x.vS
  mrk x k := ⟨mrk x.qp (k), mrk x.vS (k + 1)⟩
  mkd x k := mkd x.qp (k) ∧ mkd x.vS (k + 1)
  mkd_mark x k := by
    simp only [cnt_mark]
    exact ⟨mkd_mark _ _, mkd_mark _ _⟩
  cnt_mark x k := by simp only [cnt_mark]
theorem cnt_IntoD (x : IntoD) : cnt x = 1 + cnt x.vS := rfl

theorem St.open_IntoD {W w : World} {ps : List Prv} {F : List Nat} {b o m c : Nat} {l : List IntoD} (H : St W w ps [isF true F (.slice (some ⟨b, o, none⟩) m c) l]) (N : F.Nodup) (k : Nat) (hk : k < l.length) {y : IntoD} (hy : l[k]! = y) :
    ∃ (xs1 xs2 : List Value) (F1 F2 : List Nat) (aBag : Option Addr) (cBag : Nat) (FBag : List Nat), F = b :: (F1 ++ (FBag) ++ F2) ∧ xs1.length = k * 2 ∧ St W w ps [XE b o xs1 [.int .i64 y.qp, .slice aBag y.vS.length cBag] xs2 F1 F2 (l.take k) (l.drop (k + 1)), isF true FBag (.slice aBag y.vS.length cBag) y.vS] ∧
      ([b :: (F1 ++ F2), FBag] : List (List Nat)).flatten.Nodup := by
  obtain ⟨cs, xs1, xs2, F1, Fk, F2, rfl, hx, hr, hfr, hlt, H⟩ := H.openAt k hk
  rw [hy] at hr
  obtain ⟨vBag, FBag, rfl, hFF, hBag⟩ := hr
  obtain ⟨aBag, cBag, rfl⟩ := slice_form hBag
  exact ⟨xs1, xs2, F1, F2, _, _, _, by rw [hFF], hx, (H.add (isF true FBag (.slice aBag y.vS.length cBag) y.vS) ⟨hBag, fun _ => hfr.sub (by rw [hFF]; intro z hz; simp [hz])⟩ (fun z hz => hlt z (by rw [hFF]; have hz : z ∈ FBag := hz; simp [hz]))).sel _ (.refl _) _ (all_of ⟨.tail _ (.head _), ⟨.head _, trivial⟩⟩), by have N' := nodup_hole N; rw [hFF] at N'; simpa using N'⟩

instance : Mark Qr where
  cnt x := 1 + 1 + cnt x.qV + cnt x.xg + cnt x.xm + cnt x.xq + cnt x.zq + cnt x.qI + 1
  mrk x k := ⟨mrk x.qp (k), mrk x.zg (k + 1), mrk x.qV (k + 1 + 1), mrk x.xg (k + 1 + 1 + (cnt x.qV : Nat)), mrk x.xm (k + 1 + 1 + (cnt x.qV : Nat) + (cnt x.xg : Nat)), mrk x.xq (k + 1 + 1 + (cnt x.qV : Nat) + (cnt x.xg : Nat) + (cnt x.xm : Nat)), mrk x.zq (k + 1 + 1 + (cnt x.qV : Nat) + (cnt x.xg : Nat) + (cnt x.xm : Nat) + (cnt x.xq : Nat)), mrk x.qI (k + 1 + 1 + (cnt x.qV : Nat) + (cnt x.xg : Nat) + (cnt x.xm : Nat) + (cnt x.xq : Nat) + (cnt x.zq : Nat)), mrk x.xO (k + 1 + 1 + (cnt x.qV : Nat) + (cnt x.xg : Nat) + (cnt x.xm : Nat) + (cnt x.xq : Nat) + (cnt x.zq : Nat) + (cnt x.qI : Nat))⟩
  mkd x k := mkd x.qp (k) ∧ mkd x.zg (k + 1) ∧ mkd x.qV (k + 1 + 1) ∧ mkd x.xg (k + 1 + 1 + (cnt x.qV : Nat)) ∧ mkd x.xm (k + 1 + 1 + (cnt x.qV : Nat) + (cnt x.xg : Nat)) ∧ mkd x.xq (k + 1 + 1 + (cnt x.qV : Nat) + (cnt x.xg : Nat) + (cnt x.xm : Nat)) ∧ mkd x.zq (k + 1 + 1 + (cnt x.qV : Nat) + (cnt x.xg : Nat) + (cnt x.xm : Nat) + (cnt x.xq : Nat)) ∧ mkd x.qI (k + 1 + 1 + (cnt x.qV : Nat) + (cnt x.xg : Nat) + (cnt x.xm : Nat) + (cnt x.xq : Nat) + (cnt x.zq : Nat)) ∧ mkd x.xO (k + 1 + 1 + (cnt x.qV : Nat) + (cnt x.xg : Nat) + (cnt x.xm : Nat) + (cnt x.xq : Nat) + (cnt x.zq : Nat) + (cnt x.qI : Nat))
  mkd_mark x k := by
    simp only [cnt_mark]
    exact ⟨mkd_mark _ _, mkd_mark _ _, mkd_mark _ _, mkd_mark _ _, mkd_mark _ _, mkd_mark _ _, mkd_mark _ _, mkd_mark _ _, mkd_mark _ _⟩
  cnt_mark x k := by simp only [cnt_mark]
theorem yf (x : Qr) : cnt x = 1 + 1 + cnt x.qV + cnt x.xg + cnt x.xm + cnt x.xq + cnt x.zq + cnt x.qI + 1 := rfl

theorem St.open_RuleD {W w : World} {ps : List Prv} {F : List Nat} {b o m c : Nat} {l : List Qr} (H : St W w ps [isF true F (.slice (some ⟨b, o, none⟩) m c) l]) (N : F.Nodup) (k : Nat) (hk : k < l.length) {y : Qr} (hy : l[k]! = y) :
    ∃ (xs1 xs2 : List Value) (F1 F2 : List Nat) (aNeed : Option Addr) (cNeed : Nat) (Ya : List Nat) (aHave : Option Addr) (cHave : Nat) (Ye : List Nat) (aLack : Option Addr) (cLack : Nat) (Yb : List Nat) (aHere : Option Addr) (cHere : Nat) (Yd : List Nat) (aOut : Option Addr) (cOut : Nat) (FOut : List Nat) (aInto : Option Addr) (cInto : Nat) (Yc : List Nat), F = b :: (F1 ++ (Ya ++ Ye ++ Yb ++ Yd ++ FOut ++ Yc) ++ F2) ∧ xs1.length = k * 9 ∧ St W w ps [XE b o xs1 [.int .i64 y.qp, .int .i64 y.zg, .slice aNeed y.qV.length cNeed, .slice aHave y.xg.length cHave, .slice aLack y.xm.length cLack, .slice aHere y.xq.length cHere, .slice aOut y.zq.length cOut, .slice aInto y.qI.length cInto, .bool y.xO] xs2 F1 F2 (l.take k) (l.drop (k + 1)), isF true Ya (.slice aNeed y.qV.length cNeed) y.qV, isF true Ye (.slice aHave y.xg.length cHave) y.xg, isF true Yb (.slice aLack y.xm.length cLack) y.xm, isF true Yd (.slice aHere y.xq.length cHere) y.xq, isF true FOut (.slice aOut y.zq.length cOut) y.zq, isF true Yc (.slice aInto y.qI.length cInto) y.qI] ∧
      ([b :: (F1 ++ F2), Ya, Ye, Yb, Yd, FOut, Yc] : List (List Nat)).flatten.Nodup := by
  obtain ⟨cs, xs1, xs2, F1, Fk, F2, rfl, hx, hr, hfr, hlt, H⟩ := H.openAt k hk
  rw [hy] at hr
  obtain ⟨vNeed, vHave, vLack, vHere, vOut, vInto, Ya, Ye, Yb, Yd, FOut, Yc, rfl, hFF, hNeed, hHave, hLack, hHere, hOut, hInto⟩ := hr
  obtain ⟨aNeed, cNeed, rfl⟩ := slice_form hNeed
  obtain ⟨aHave, cHave, rfl⟩ := slice_form hHave
  obtain ⟨aLack, cLack, rfl⟩ := slice_form hLack
  obtain ⟨aHere, cHere, rfl⟩ := slice_form hHere
  obtain ⟨aOut, cOut, rfl⟩ := slice_form hOut
  obtain ⟨aInto, cInto, rfl⟩ := slice_form hInto
  exact ⟨xs1, xs2, F1, F2, _, _, _, _, _, _, _, _, _, _, _, _, _, _, _, _, _, _, by rw [hFF], hx, ((((((H.add (isF true Yc (.slice aInto y.qI.length cInto) y.qI) ⟨hInto, fun _ => hfr.sub (by rw [hFF]; intro z hz; simp [hz])⟩ (fun z hz => hlt z (by rw [hFF]; have hz : z ∈ Yc := hz; simp [hz]))).add (isF true FOut (.slice aOut y.zq.length cOut) y.zq) ⟨hOut, fun _ => hfr.sub (by rw [hFF]; intro z hz; simp [hz])⟩ (fun z hz => hlt z (by rw [hFF]; have hz : z ∈ FOut := hz; simp [hz]))).add (isF true Yd (.slice aHere y.xq.length cHere) y.xq) ⟨hHere, fun _ => hfr.sub (by rw [hFF]; intro z hz; simp [hz])⟩ (fun z hz => hlt z (by rw [hFF]; have hz : z ∈ Yd := hz; simp [hz]))).add (isF true Yb (.slice aLack y.xm.length cLack) y.xm) ⟨hLack, fun _ => hfr.sub (by rw [hFF]; intro z hz; simp [hz])⟩ (fun z hz => hlt z (by rw [hFF]; have hz : z ∈ Yb := hz; simp [hz]))).add (isF true Ye (.slice aHave y.xg.length cHave) y.xg) ⟨hHave, fun _ => hfr.sub (by rw [hFF]; intro z hz; simp [hz])⟩ (fun z hz => hlt z (by rw [hFF]; have hz : z ∈ Ye := hz; simp [hz]))).add (isF true Ya (.slice aNeed y.qV.length cNeed) y.qV) ⟨hNeed, fun _ => hfr.sub (by rw [hFF]; intro z hz; simp [hz])⟩ (fun z hz => hlt z (by rw [hFF]; have hz : z ∈ Ya := hz; simp [hz]))).sel _ (.refl _) _ (all_of ⟨.tail _ (.tail _ (.tail _ (.tail _ (.tail _ (.tail _ (.head _)))))), ⟨.head _, ⟨.tail _ (.head _), ⟨.tail _ (.tail _ (.head _)), ⟨.tail _ (.tail _ (.tail _ (.head _))), ⟨.tail _ (.tail _ (.tail _ (.tail _ (.head _)))), ⟨.tail _ (.tail _ (.tail _ (.tail _ (.tail _ (.head _))))), trivial⟩⟩⟩⟩⟩⟩⟩), by have N' := nodup_hole N; rw [hFF] at N'; simpa using N'⟩

instance : Mark qE where
  cnt x := cnt x.qh + cnt x.ql + cnt x.qj
  mrk x k := ⟨mrk x.qh (k), mrk x.ql (k + (cnt x.qh : Nat)), mrk x.qj (k + (cnt x.qh : Nat) + (cnt x.ql : Nat))⟩
  mkd x k := mkd x.qh (k) ∧ mkd x.ql (k + (cnt x.qh : Nat)) ∧ mkd x.qj (k + (cnt x.qh : Nat) + (cnt x.ql : Nat))
  mkd_mark x k := by
    simp only [cnt_mark]
    exact ⟨mkd_mark _ _, mkd_mark _ _, mkd_mark _ _⟩
  cnt_mark x k := by simp only [cnt_mark]
theorem yc (x : qE) : cnt x = cnt x.qh + cnt x.ql + cnt x.qj := rfl

theorem St.open_StateD {W w : World} {ps : List Prv} {F : List Nat} {b o m c : Nat} {l : List qE} (H : St W w ps [isF true F (.slice (some ⟨b, o, none⟩) m c) l]) (N : F.Nodup) (k : Nat) (hk : k < l.length) {y : qE} (hy : l[k]! = y) :
    ∃ (xs1 xs2 : List Value) (F1 F2 : List Nat) (aAlive : Option Addr) (cAlive : Nat) (QB : List Nat) (aBags : Option Addr) (cBags : Nat) (Yf : List Nat) (Vd : Option Addr) (Vb : Nat) (yw : List Nat), F = b :: (F1 ++ (QB ++ Yf ++ yw) ++ F2) ∧ xs1.length = k * 3 ∧ St W w ps [XE b o xs1 [.slice aAlive y.qh.length cAlive, .slice aBags y.ql.length cBags, .slice Vd y.qj.length Vb] xs2 F1 F2 (l.take k) (l.drop (k + 1)), isF true QB (.slice aAlive y.qh.length cAlive) y.qh, isF true Yf (.slice aBags y.ql.length cBags) y.ql, isF true yw (.slice Vd y.qj.length Vb) y.qj] ∧
      ([b :: (F1 ++ F2), QB, Yf, yw] : List (List Nat)).flatten.Nodup := by
  obtain ⟨cs, xs1, xs2, F1, Fk, F2, rfl, hx, hr, hfr, hlt, H⟩ := H.openAt k hk
  rw [hy] at hr
  obtain ⟨vAlive, vBags, vAround, QB, Yf, yw, rfl, hFF, hAlive, hBags, Xr⟩ := hr
  obtain ⟨aAlive, cAlive, rfl⟩ := slice_form hAlive
  obtain ⟨aBags, cBags, rfl⟩ := slice_form hBags
  obtain ⟨Vd, Vb, rfl⟩ := slice_form Xr
  exact ⟨xs1, xs2, F1, F2, _, _, _, _, _, _, _, _, _, by rw [hFF], hx, (((H.add (isF true yw (.slice Vd y.qj.length Vb) y.qj) ⟨Xr, fun _ => hfr.sub (by rw [hFF]; intro z hz; simp [hz])⟩ (fun z hz => hlt z (by rw [hFF]; have hz : z ∈ yw := hz; simp [hz]))).add (isF true Yf (.slice aBags y.ql.length cBags) y.ql) ⟨hBags, fun _ => hfr.sub (by rw [hFF]; intro z hz; simp [hz])⟩ (fun z hz => hlt z (by rw [hFF]; have hz : z ∈ Yf := hz; simp [hz]))).add (isF true QB (.slice aAlive y.qh.length cAlive) y.qh) ⟨hAlive, fun _ => hfr.sub (by rw [hFF]; intro z hz; simp [hz])⟩ (fun z hz => hlt z (by rw [hFF]; have hz : z ∈ QB := hz; simp [hz]))).sel _ (.refl _) _ (all_of ⟨.tail _ (.tail _ (.tail _ (.head _))), ⟨.head _, ⟨.tail _ (.head _), ⟨.tail _ (.tail _ (.head _)), trivial⟩⟩⟩⟩), by have N' := nodup_hole N; rw [hFF] at N'; simpa using N'⟩
end
section

class CntTot (α : Type) [Mark α] [Tot α] : Prop where
  le : ∀ x : α, cnt x ≤ 10 + 10 * tot x
instance : CntTot Int := ⟨fun _ => by show 1 ≤ _; omega⟩
instance : CntTot Bool := ⟨fun _ => by show 1 ≤ _; omega⟩
section
variable {α : Type} [Mark α] [Tot α] [Inhabited α] [CntTot α]
theorem cntTo_tot (l : List α) : ∀ k, X9 l k ≤ 10 * k + 10 * totTo l k
  | 0 => Nat.zero_le _
  | k + 1 => by
    have h1 := cntTo_tot l k
    have h2 := CntTot.le (l[k]!)
    rw [yg, totTo_succ]
    omega
theorem XR (l : List α) : cnt l ≤ 10 * tot l := by
  have := cntTo_tot l l.length
  rw [XQ, tot_list]
  omega
instance : CntTot (List α) := ⟨fun l => by have := XR l; omega⟩
end
instance : CntTot IntoD := ⟨fun x => by
  have h1 := XR x.vS
  have h2 := tot_IntoD x
  have h3 := cnt_IntoD x
  omega⟩
instance : CntTot Qr := ⟨fun x => by
  have h1 := XR x.qV
  have h2 := XR x.xg
  have h3 := XR x.xm
  have h4 := XR x.xq
  have h5 := XR x.zq
  have h6 := XR x.qI
  have h7 := tot_RuleD x
  have h8 := yf x
  omega⟩
theorem cntTo_one {α : Type} [Mark α] [Inhabited α] (l : List α) (n : Nat) (h : ∀ k, k < l.length → cnt (l[k]!) ≤ n) : ∀ k, k ≤ l.length → X9 l k ≤ n * k
  | 0, _ => Nat.zero_le _
  | k + 1, hk => by
    have h1 := cntTo_one l n h k (by omega)
    have h2 := h k (by omega)
    rw [yg, Nat.mul_add]
    omega
theorem cnt_ints (l : List Int) : cnt l = l.length := by
  have : ∀ k, X9 l k = k := fun k => by
    induction k with
    | zero => rfl
    | succ k ih => rw [yg, ih]; rfl
  rw [XQ, this]
theorem cnt_bools (l : List Bool) : cnt l = l.length := by
  have : ∀ k, X9 l k = k := fun k => by
    induction k with
    | zero => rfl
    | succ k ih => rw [yg, ih]; rfl
  rw [XQ, this]
def FewState (t : qE) : Prop := cnt t.qh ≤ 6 ∧ cnt t.ql ≤ 48 ∧ cnt t.qj ≤ 8
theorem few_default : FewState default := ⟨Nat.zero_le _, Nat.zero_le _, Nat.zero_le _⟩
theorem few_state {s : qy} {t : qE} (hs : jg s) (h : zt s t) : FewState t := by
  obtain ⟨h1, h2, h3, h4⟩ := h.sizes hs
  refine ⟨by rw [cnt_bools]; omega, ?_, by rw [cnt_ints]; omega⟩
  rw [XQ]
  have := cntTo_one t.ql 8 (fun k hk => by rw [cnt_ints]; exact h4 k hk) _ (Nat.le_refl _)
  omega
theorem few_told {s : qy} {t : qE} (hs : jg s) : FewState (told s t).1 := by
  by_cases h : zt s t
  · rw [told_yes h]; exact few_state hs h
  · rw [told_no h]; exact few_default
theorem ft {b : Bool} (h : b = true) (h' : b = false) : False := by rw [h] at h'; cases h'

theorem getset {α : Type} [Inhabited α] {l : List α} {c p : Nat} {v : α} (hc : c < l.length) : (l.set c v)[p]! = if p = c then v else l[p]! := by
  by_cases hp : p < l.length
  · rw [getElem!_pos _ _ (by simpa using hp), getElem!_pos l p hp, List.getElem_set]
    by_cases e : c = p
    · rw [if_pos e, if_pos e.symm]
    · rw [if_neg e, if_neg (fun h => e h.symm)]
  · rw [if_neg (by omega), getElem!_neg (l.set c v) p (by simpa using hp), getElem!_neg l p hp]
theorem plus_get {l m : List Int} {t : Int} {k : Nat} (hk : k < l.length) : (vk l m t)[k]! = l[k]! + t * m[k]! := by
  rw [getElem!_pos (vk l m t) k (by rw [plusL_len]; exact hk)]
  simp [vk, plusTo]
theorem ext_get {α : Type} [Inhabited α] {l m : List α} (hl : l.length = m.length) (h : ∀ k, k < l.length → l[k]! = m[k]!) : l = m := by
  apply List.ext_getElem hl
  intro i h1 h2
  have := h i h1
  rwa [getElem!_pos l i h1, getElem!_pos m i h2] at this
def Shape (n K : Nat) (B : Int) (b : List (List Int)) : Prop := b.length = n ∧ ∀ p, p < n → (b[p]!).length = K ∧ ∀ k, k < K → -B ≤ (b[p]!)[k]! ∧ (b[p]!)[k]! ≤ B
structure Ent (n K : Nat) (f : Nat → Nat → Int) (B : Int) (b : List (List Int)) : Prop where
  sh : Shape n K B b
  eq : ∀ p k, p < n → k < K → (b[p]!)[k]! = f p k
def at' (p c : Nat) (x : Int) : Int := if p = c then x else 0
theorem Shape.set {n K : Nat} {B D : Int} {b : List (List Int)} (h : Shape n K B b) {c : Nat} {v : List Int} (hc : c < n) (hv : v.length = K) (hb : ∀ k, k < K → -D ≤ v[k]! ∧ v[k]! ≤ D) (hD : B ≤ D) : Shape n K D (b.set c v) := by
  refine ⟨by simp [h.1], fun p hp => ?_⟩
  rw [getset (by rw [h.1]; exact hc)]
  by_cases e : p = c
  · rw [if_pos e]; exact ⟨hv, hb⟩
  · rw [if_neg e]
    refine ⟨(h.2 p hp).1, fun k hk => ?_⟩
    have := (h.2 p hp).2 k hk
    omega
theorem Shape.plus {n K : Nat} {B D : Int} {b : List (List Int)} (h : Shape n K B b) {c : Nat} {m : List Int} {t : Int} (hc : c < n) (ht : ∀ k, k < K → -D ≤ t * m[k]! ∧ t * m[k]! ≤ D) (hD : 0 ≤ D) :
    Shape n K (B + D) (b.set c (vk (b[c]!) m t)) := by
  have h1 := h.2 c hc
  refine h.set hc (by rw [plusL_len]; exact h1.1) (fun k hk => ?_) (by omega)
  rw [plus_get (by rw [h1.1]; exact hk)]
  have := h1.2 k hk
  have := ht k hk
  omega
theorem Shape.row {n K : Nat} {B : Int} {b : List (List Int)} (h : Shape n K B b) (hB : B ≤ 1000000000000000) (hK : K ≤ 8) {c : Nat} (hc : c < n) : (b[c]!).length = K ∧ Mid (b[c]!) := by
  have h1 := h.2 c hc
  refine ⟨h1.1, by have := h1.1; omega, fun k hk => ?_⟩
  have := h1.2 k (by have := h1.1; omega)
  omega
theorem Ent.add {n K : Nat} {f : Nat → Nat → Int} {B : Int} {b : List (List Int)} (h : Ent n K f B b) {c : Nat} {m : List Int} {t : Int} {D : Int} {b' : List (List Int)} (e : b' = b.set c (vk (b[c]!) m t)) (hc : c < n) (ht : ∀ k, k < K → -D ≤ t * m[k]! ∧ t * m[k]! ≤ D) (hD : 0 ≤ D) :
    Ent n K (fun p k => f p k + at' p c (t * m[k]!)) (B + D) b' := by
  subst e
  refine ⟨h.sh.plus hc ht hD, fun p k hp hk => ?_⟩
  rw [getset (by rw [h.sh.1]; exact hc)]
  unfold at'
  by_cases e : p = c
  · subst e
    rw [if_pos rfl, if_pos rfl, plus_get (by rw [(h.sh.2 p hp).1]; exact hk), h.eq p k hp hk]
  · rw [if_neg e, if_neg e, h.eq p k hp hk]; omega
theorem Shape.mono {n K : Nat} {B D : Int} {b : List (List Int)} (h : Shape n K B b) (hD : B ≤ D) : Shape n K D b := ⟨h.1, fun p hp => ⟨(h.2 p hp).1, fun k hk => by have := (h.2 p hp).2 k hk; omega⟩⟩
theorem Ent.to {n K : Nat} {f g : Nat → Nat → Int} {B D : Int} {b : List (List Int)} (h : Ent n K f B b) (e : ∀ p k, f p k = g p k) (hD : B ≤ D) : Ent n K g D b := ⟨h.sh.mono hD, fun p k hp hk => (h.eq p k hp hk).trans (e p k)⟩
theorem Ent.same {n K : Nat} {f g : Nat → Nat → Int} {B D : Int} {b c : List (List Int)} (h : Ent n K f B b) (h' : Ent n K g D c) (e : ∀ p k, p < n → k < K → f p k = g p k) : b = c := by
  refine ext_get (by rw [h.sh.1, h'.sh.1]) fun p hp => ?_
  rw [h.sh.1] at hp
  refine ext_get (by rw [(h.sh.2 p hp).1, (h'.sh.2 p hp).1]) fun k hk => ?_
  rw [(h.sh.2 p hp).1] at hk
  rw [h.eq p k hp hk, h'.eq p k hp hk, e p k hp hk]
def tab2 (n K : Nat) (f : Nat → Nat → Int) : List (List Int) := (List.range n).map fun p => (List.range K).map (f p)
theorem tab2_len (n K : Nat) (f : Nat → Nat → Int) : (tab2 n K f).length = n := by simp [tab2]
theorem tab2_row {n K : Nat} {f : Nat → Nat → Int} {p : Nat} (hp : p < n) : (tab2 n K f)[p]! = (List.range K).map (f p) := by
  rw [getElem!_pos (tab2 n K f) p (by rw [tab2_len]; exact hp)]; simp [tab2]
theorem Ent.tab {n K : Nat} {f : Nat → Nat → Int} {B : Int} {b : List (List Int)} (h : Ent n K f B b) : b = tab2 n K f := by
  refine ext_get (by rw [h.sh.1, tab2_len]) fun p hp => ?_
  rw [h.sh.1] at hp
  rw [tab2_row hp]
  refine ext_get (by rw [(h.sh.2 p hp).1]; simp) fun k hk => ?_
  rw [(h.sh.2 p hp).1] at hk
  rw [h.eq p k hp hk, getElem!_pos ((List.range K).map (f p)) k (by simpa using hk)]; simp
theorem Ent.snoc {n K : Nat} {f : Nat → Nat → Int} {B : Int} {b : List (List Int)} {a : List Int} (h : Ent n K f B b) (ha : a.length = K) (hb : ∀ k, k < K → -B ≤ a[k]! ∧ a[k]! ≤ B) (he : ∀ k, k < K → a[k]! = f n k) : Ent (n + 1) K f B (b ++ [a]) := by
  have hl : (b ++ [a]).length = n + 1 := by simp [h.sh.1]
  have h1 : ∀ p, p < n → (b ++ [a])[p]! = b[p]! := fun p hp => by
    rw [getElem!_pos (b ++ [a]) p (by omega), getElem!_pos b p (by rw [h.sh.1]; exact hp), List.getElem_append_left]
  have h2 : (b ++ [a])[n]! = a := by
    rw [getElem!_pos (b ++ [a]) n (by omega), List.getElem_append_right (by rw [h.sh.1]; exact Nat.le_refl _)]; simp
  refine ⟨⟨hl, fun p hp => ?_⟩, fun p k hp hk => ?_⟩
  · by_cases e : p = n
    · subst e; rw [h2]; exact ⟨ha, hb⟩
    · rw [h1 p (by omega)]; exact h.sh.2 p (by omega)
  · by_cases e : p = n
    · subst e; rw [h2]; exact he k hk
    · rw [h1 p (by omega)]; exact h.eq p k (by omega) hk

def yZ (s : qy) : Nat := s.qJ.toNat
abbrev vJ (s : qy) : Nat := s.qf.length
def IntoUp (s : qy) (t : qE) (r : Qr) (k : Nat) : Prop := ∀ j, j < k → t.qh[(r.qI[j]!).qp.toNat]! = true ∧ xe s t (r.qI[j]!).qp = r.qp
theorem IntoUp.succ {s : qy} {t : qE} {r : Qr} {k : Nat} (h : IntoUp s t r k) (h1 : t.qh[(r.qI[k]!).qp.toNat]! = true) (h2 : xe s t (r.qI[k]!).qp = r.qp) : IntoUp s t r (k + 1) := fun j hj => by
  by_cases e : j = k
  · subst e; exact ⟨h1, h2⟩
  · exact h j (by omega)
def EnOk (s : qy) (t : qE) (r : Qr) : Prop :=
  t.qh[r.qp.toNat]! = true ∧ within r.qV (t.ql[r.qp.toNat]!) = true ∧ within r.xg (t.ql[r.qp.toNat]!) = true ∧ ¬ (0 < X4 r.xm ∧ within r.xm (t.ql[r.qp.toNat]!) = true) ∧ IntoUp s t r r.qI.length
open Classical in
noncomputable def bestOf (s : qy) (t : qE) (z : Int) (c : Nat) : Nat → Int
  | 0 => z
  | k + 1 => if EnOk s t (s.qg[k]!) ∧ (s.qg[k]!).qp.toNat = c then max (bestOf s t z c k) (s.qg[k]!).zg else bestOf s t z c k
noncomputable def bests (s : qy) (t : qE) (z : Int) (n k : Nat) : List Int := tabTo (fun c => bestOf s t z c k) n
theorem Xn (s : qy) (t : qE) (z : Int) (n k : Nat) : (bests s t z n k).length = n := tabTo_len _ _
theorem tab_get {g : Nat → Int} {n c : Nat} (h : c < n) : (tabTo g n)[c]! = g c := by
  rw [getElem!_pos (tabTo g n) c (by rw [tabTo_len]; exact h)]; simp [tabTo]
theorem bests_zero (s : qy) (t : qE) (z : Int) (n : Nat) : List.replicate n z = bests s t z n 0 := by
  refine ext_get (by simp [Xn]) fun k hk => ?_
  rw [List.length_replicate] at hk
  rw [bests, tab_get hk, getElem!_pos (List.replicate n z) k (by simpa using hk)]; simp [bestOf]
theorem bests_get {s : qy} {t : qE} {z : Int} {n k c : Nat} (h : c < n) : (bests s t z n k)[c]! = bestOf s t z c k := tab_get h
theorem bests_set {s : qy} {t : qE} {z : Int} {n k : Nat} (h : EnOk s t (s.qg[k]!)) (hc : (s.qg[k]!).qp.toNat < n) :
    (bests s t z n k).set (s.qg[k]!).qp.toNat (max ((bests s t z n k)[(s.qg[k]!).qp.toNat]!) (s.qg[k]!).zg) = bests s t z n (k + 1) := by
  refine ext_get (by simp [Xn]) fun p hp => ?_
  rw [List.length_set, Xn] at hp
  rw [getset (by rw [Xn]; exact hc), bests_get hc, bests_get hp, bests_get hp, bestOf]
  by_cases e : p = (s.qg[k]!).qp.toNat
  · rw [if_pos e, if_pos ⟨h, e.symm⟩, e]
  · rw [if_neg e, if_neg fun x => e x.2.symm]
theorem bests_skip {s : qy} {t : qE} {z : Int} {n k : Nat} (h : ¬ EnOk s t (s.qg[k]!)) : bests s t z n k = bests s t z n (k + 1) := by
  refine ext_get (by simp [Xn]) fun p hp => ?_
  rw [Xn] at hp
  rw [bests_get hp, bests_get hp, bestOf, if_neg fun x => h x.1]
def Appl (s : qy) (t : qE) (i : Nat) : Prop :=
  EnOk s t (s.qg[i]!) ∧ ∀ j, j < s.qg.length → EnOk s t (s.qg[j]!) → (s.qg[j]!).qp.toNat = (s.qg[i]!).qp.toNat → (s.qg[j]!).zg ≤ (s.qg[i]!).zg
theorem best_ge {s : qy} {t : qE} {z : Int} {c : Nat} : ∀ {k j : Nat}, j < k → EnOk s t (s.qg[j]!) → (s.qg[j]!).qp.toNat = c → (s.qg[j]!).zg ≤ bestOf s t z c k
  | k + 1, j, h, h1, h2 => by
    rw [bestOf]
    by_cases e : j = k
    · subst e; rw [if_pos ⟨h1, h2⟩]; omega
    · have := best_ge (z := z) (show j < k by omega) h1 h2
      split <;> omega
theorem best_le {s : qy} {t : qE} {z : Int} {c : Nat} {x : Int} (hz : z ≤ x) : ∀ {k : Nat}, (∀ j, j < k → EnOk s t (s.qg[j]!) → (s.qg[j]!).qp.toNat = c → (s.qg[j]!).zg ≤ x) → bestOf s t z c k ≤ x
  | 0, _ => hz
  | k + 1, h => by
    rw [bestOf]
    have h1 := best_le hz (k := k) fun j hj => h j (by omega)
    split
    · next h2 => have := h k (by omega) h2.1 h2.2; omega
    · exact h1
theorem appl_iff {s : qy} {t : qE} {z : Int} {i : Nat} (hi : i < s.qg.length) (hz : z ≤ (s.qg[i]!).zg) :
    Appl s t i ↔ EnOk s t (s.qg[i]!) ∧ (s.qg[i]!).zg = bestOf s t z (s.qg[i]!).qp.toNat s.qg.length := by
  constructor
  · rintro ⟨h1, h2⟩
    refine ⟨h1, ?_⟩
    have h3 := best_ge (z := z) hi h1 rfl
    have h4 := best_le (c := (s.qg[i]!).qp.toNat) hz (k := s.qg.length) h2
    omega
  · rintro ⟨h1, h2⟩
    exact ⟨h1, fun j hj h3 h4 => by rw [h2]; exact best_ge hj h3 h4⟩
noncomputable def applB (s : qy) (t : qE) (k m : Nat) : List Bool := (List.range m).map fun j => if j < k then dec (Appl s t j) else dec (EnOk s t (s.qg[j]!))
theorem applB_len (s : qy) (t : qE) (k m : Nat) : (applB s t k m).length = m := by simp [applB]
theorem applB_get {s : qy} {t : qE} {k m j : Nat} (h : j < m) : (applB s t k m)[j]! = if j < k then dec (Appl s t j) else dec (EnOk s t (s.qg[j]!)) := by
  rw [getElem!_pos (applB s t k m) j (by rw [applB_len]; exact h)]; simp [applB]
theorem applB_snoc (s : qy) (t : qE) (m : Nat) : applB s t 0 m ++ [dec (EnOk s t (s.qg[m]!))] = applB s t 0 (m + 1) := by simp [applB, List.range_succ]
theorem applB_set {s : qy} {t : qE} {k m : Nat} {x : Bool} (hk : k < m) (hx : x = dec (Appl s t k)) : (applB s t k m).set k x = applB s t (k + 1) m := by
  refine ext_get (by simp [applB_len]) fun p hp => ?_
  rw [List.length_set, applB_len] at hp
  rw [getset (by rw [applB_len]; exact hk), applB_get hp, applB_get hp]
  by_cases e : p = k
  · subst e; rw [if_pos rfl, if_pos (by omega), hx]
  · rw [if_neg e]
    by_cases e1 : p < k
    · rw [if_pos e1, if_pos (by omega)]
    · rw [if_neg e1, if_neg (by omega)]
theorem applB_step0 {s : qy} {t : qE} {k m : Nat} (hk : k < m) (h : (applB s t k m)[k]! = false) : false = dec (Appl s t k) := by
  rw [applB_get hk, if_neg (by omega)] at h
  exact (qY fun x => zA h x.1).symm
theorem applB_step1 {s : qy} {t : qE} {k m n i : Nat} {z : Int} (hk : k < m) (h : (applB s t k m)[k]! = true) (hm : m = s.qg.length) (hc : (s.qg[k]!).qp.toNat < n) (hz : z ≤ (s.qg[k]!).zg) (hi : i = s.qg.length) :
    ((s.qg[k]!).zg == (bests s t z n i)[(s.qg[k]!).qp.toNat]!) = dec (Appl s t k) := by
  rw [applB_get hk, if_neg (by omega)] at h
  refine dec_eq ?_
  rw [beq_iff_eq, bests_get hc, hi, appl_iff (by omega) hz]
  exact ⟨fun e => ⟨yU h, e⟩, fun e => e.2⟩
noncomputable def appl (s : qy) (t : qE) : List Bool := applB s t s.qg.length s.qg.length
theorem appl_len (s : qy) (t : qE) : (appl s t).length = s.qg.length := applB_len _ _ _ _
theorem appl_get {s : qy} {t : qE} {j : Nat} (h : j < s.qg.length) : (appl s t)[j]! = dec (Appl s t j) := by rw [appl, applB_get h, if_pos h]
theorem Qz {s : qy} {t : qE} {j : Nat} (h : j < s.qg.length) (h1 : (appl s t)[j]! = true) : Appl s t j := yU (appl_get (s := s) (t := t) h ▸ h1)
theorem yP {s : qy} {t : qE} {j : Nat} (h : j < s.qg.length) (h1 : (appl s t)[j]! = false) : ¬ Appl s t j := zA (appl_get (s := s) (t := t) h ▸ h1)
def HaltTo (s : qy) (t : qE) (k : Nat) : Prop := ∀ j, j < k → ¬ Appl s t j
theorem HaltTo.succ {s : qy} {t : qE} {k : Nat} (h : HaltTo s t k) (h1 : ¬ Appl s t k) : HaltTo s t (k + 1) := fun j hj => by
  by_cases e : j = k
  · subst e; exact h1
  · exact h j (by omega)
abbrev Halted (s : qy) (t : qE) : Prop := HaltTo s t s.qg.length
noncomputable def applL (s : qy) (t : qE) (k : Nat) : List Int := ((List.range k).filter fun j => dec (Appl s t j)).map Int.ofNat
theorem applL_yes {s : qy} {t : qE} {k : Nat} (h : Appl s t k) : applL s t k ++ [(k : Int)] = applL s t (k + 1) := by simp [applL, List.range_succ, List.filter_append, jF h]
theorem applL_no {s : qy} {t : qE} {k : Nat} (h : ¬ Appl s t k) : applL s t k = applL s t (k + 1) := by simp [applL, List.range_succ, List.filter_append, qY h]
noncomputable def appls (s : qy) (t : qE) : List Int := applL s t s.qg.length
theorem applL_le (s : qy) (t : qE) (k : Nat) : (applL s t k).length ≤ k := by
  have := List.length_filter_le (fun j => dec (Appl s t j)) (List.range k)
  simpa [applL] using this
theorem mem_applL {s : qy} {t : qE} {k : Nat} {x : Int} : x ∈ applL s t k ↔ 0 ≤ x ∧ x.toNat < k ∧ Appl s t x.toNat := by
  simp only [applL, List.mem_map, List.mem_filter, List.mem_range]
  constructor
  · rintro ⟨j, ⟨h1, h2⟩, rfl⟩
    exact ⟨Int.natCast_nonneg j, h1, yU h2⟩
  · rintro ⟨h0, h1, h2⟩
    exact ⟨x.toNat, ⟨h1, jF h2⟩, by show ((x.toNat : Nat) : Int) = x; omega⟩
theorem jG.rule {s : qy} (h : jG s) {i : Nat} (hi : i < s.qg.length) : RuleOk s (s.qg[i]!) := (h.2.2 i hi).1
theorem RuleOk.cell {s : qy} {r : Qr} (h : RuleOk s r) : r.qp.toNat < vJ s := by have := h.1.1; have := h.1.2; unfold vJ; omega
theorem zB.len {s : qy} {l : List Int} (h : zB s.qJ l) : l.length = yZ s := by have := h.2; unfold yZ; omega
theorem zB.get {n : Int} {l : List Int} (h : zB n l) {k : Nat} (hk : k < l.length) : 0 ≤ l[k]! ∧ l[k]! ≤ 1000 := h.1.1 k hk
theorem zB.mul {s : qy} {m : List Int} (h : zB s.qJ m) {t : Int} (ht : -1000 ≤ t ∧ t ≤ 1000) : ∀ k, k < yZ s → -1000000 ≤ t * m[k]! ∧ t * m[k]! ≤ 1000000 := fun k hk => by
  have h1 := h.1.1 k (by rw [h.len]; exact hk)
  rcases Int.le_total 0 t with h0 | h0
  · have h2 := Int.mul_nonneg h0 h1.1
    have h3 := Int.mul_le_mul_of_nonneg_left h1.2 h0
    omega
  · have h2 := Int.mul_nonneg (show 0 ≤ -t by omega) h1.1
    have h3 := Int.mul_le_mul_of_nonneg_left h1.2 (show 0 ≤ -t by omega)
    have h4 : -t * m[k]! = -(t * m[k]!) := Int.neg_mul ..
    omega
theorem zB.jW {s : qy} {m : List Int} (h : zB s.qJ m) {t : Int} (ht : -1000 ≤ t ∧ t ≤ 1000) : SmallT m t := bagOk_smallT h (by omega)
theorem kinds_le {s : qy} (h : jG s) : yZ s ≤ 8 := by have := h.1.1.2; unfold yZ; omega
theorem zt.shape {s : qy} {t : qE} (h : zt s t) : Shape (vJ s) (yZ s) 1000 t.ql := by
  refine ⟨h.2.1, fun p hp => ?_⟩
  have hb := h.bagLen (k := p) (by rw [h.2.1]; exact hp)
  refine ⟨hb.len, fun k hk => ?_⟩
  have := hb.get (k := k) (by rw [hb.len]; exact hk)
  omega
def CntOk (s : qy) (counts : List Int) : Prop := counts.length = s.qg.length ∧ ∀ i, i < counts.length → 0 ≤ counts[i]! ∧ counts[i]! ≤ 1000
theorem CntOk.bd {s : qy} {counts : List Int} (h : CntOk s counts) {i : Nat} (hi : i < s.qg.length) : 0 ≤ counts[i]! ∧ counts[i]! ≤ 1000 := h.2 i (by rw [h.1]; exact hi)

def yz (s : qy) (t : qE) (counts : List Int) : Nat → List (List Int)
  | 0 => t.ql
  | k + 1 => (yz s t counts k).set (s.qg[k]!).qp.toNat (vk ((yz s t counts k)[(s.qg[k]!).qp.toNat]!) (s.qg[k]!).qV (-(counts[k]!)))
def needF (s : qy) (counts : List Int) (i p k : Nat) : Int := at' p (s.qg[i]!).qp.toNat (-(counts[i]!) * ((s.qg[i]!).qV)[k]!)
def needS (s : qy) (counts : List Int) : Nat → Nat → Nat → Int
  | 0, _, _ => 0
  | i + 1, p, k => needS s counts i p k + needF s counts i p k
theorem restR_ent {s : qy} {t : qE} {counts : List Int} (hs : jG s) (ht : zt s t) (hc : CntOk s counts) : ∀ k, k ≤ s.qg.length →
    Ent (vJ s) (yZ s) (fun p q => (t.ql[p]!)[q]! + needS s counts k p q) (1000 + 1000000 * k) (yz s t counts k)
  | 0, _ => ⟨by simpa [yz] using ht.shape, fun p k hp hk => by simp [yz, needS]⟩
  | k + 1, h => by
    have hr := hs.rule (i := k) (by omega)
    have hcb := hc.bd (i := k) (by omega)
    refine ((restR_ent hs ht hc k (by omega)).add (D := 1000000) rfl hr.cell (hr.2.2.2.2.1.mul (by omega)) (by omega)).to (fun p q => ?_) (by omega)
    show _ = _ + (needS s counts k p q + needF s counts k p q)
    unfold needF; omega
theorem restR_row {s : qy} {t : qE} {counts : List Int} (hs : jG s) (ht : zt s t) (hc : CntOk s counts) {k c : Nat} (hk : k ≤ s.qg.length) (h : c < vJ s) :
    ((yz s t counts k)[c]!).length = yZ s ∧ Mid ((yz s t counts k)[c]!) := (restR_ent hs ht hc k hk).sh.row (by have := hs.2.1; omega) (kinds_le hs) h
theorem restR_len {s : qy} {t : qE} {counts : List Int} : ∀ k, (yz s t counts k).length = t.ql.length
  | 0 => rfl
  | k + 1 => by rw [yz, List.length_set]; exact restR_len k
open Classical in
noncomputable def Qh (P : Nat → Prop) : Nat → Nat
  | 0 => 0
  | n + 1 => if Qh P n < n then Qh P n else if P n then n else n + 1
theorem stop_none {P : Nat → Prop} : ∀ {n : Nat}, (∀ j, j < n → ¬ P j) → Qh P n = n
  | 0, _ => rfl
  | n + 1, h => by rw [Qh, stop_none (n := n) (fun j hj => h j (by omega)), if_neg (by omega), if_neg (h n (by omega))]
theorem stop_first {P : Nat → Prop} : ∀ {n k : Nat}, (∀ j, j < k → ¬ P j) → k < n → P k → Qh P n = k
  | n + 1, k, h, hk, hp => by
    rw [Qh]
    by_cases e : k = n
    · subst e; rw [stop_none h, if_neg (by omega), if_pos hp]
    · rw [stop_first (n := n) h (by omega) hp, if_pos (by omega)]
def BadAt (s : qy) (t : qE) (counts : List Int) (i : Nat) : Prop := 0 < counts[i]! ∧ ¬ Appl s t i
def GoodTo (s : qy) (t : qE) (counts : List Int) (k : Nat) : Prop := ∀ i, i < k → ¬ BadAt s t counts i
theorem GoodTo.succ {s : qy} {t : qE} {counts : List Int} {k : Nat} (h : GoodTo s t counts k) (h1 : ¬ BadAt s t counts k) : GoodTo s t counts (k + 1) := fun j hj => by
  by_cases e : j = k
  · subst e; exact h1
  · exact h j (by omega)
def NonNeg (b : List (List Int)) (n : Nat) : Prop := ∀ p, p < n → ∀ k, k < (b[p]!).length → 0 ≤ (b[p]!)[k]!
theorem NonNeg.succ {b : List (List Int)} {n : Nat} (h : NonNeg b n) (h1 : ∀ k, k < (b[n]!).length → 0 ≤ (b[n]!)[k]!) : NonNeg b (n + 1) := fun j hj => by
  by_cases e : j = n
  · subst e; exact h1
  · exact h j (by omega)
def IsCh (s : qy) (t : qE) (counts : List Int) : Prop := GoodTo s t counts counts.length ∧ NonNeg (yz s t counts counts.length) t.ql.length
def jT (l m : List Int) : Nat → Int
  | 0 => 1000
  | k + 1 => if 0 < l[k]! then min (jT l m k) (m[k]! / l[k]!) else jT l m k
def vM (l m : List Int) : Int := jT l m l.length
theorem timesTo_pos {l m : List Int} {k : Nat} (h : 0 < l[k]!) : jT l m (k + 1) = min (jT l m k) (m[k]! / l[k]!) := by rw [jT, if_pos h]
theorem timesTo_skip {l m : List Int} {k : Nat} (h : ¬ 0 < l[k]!) : jT l m (k + 1) = jT l m k := by rw [jT, if_neg h]
theorem timesTo_bd {l m : List Int} (hm : ∀ k, k < l.length → 0 ≤ m[k]!) : ∀ k, k ≤ l.length → 0 ≤ jT l m k ∧ jT l m k ≤ 1000
  | 0, _ => by simp [jT]
  | k + 1, h => by
    have := timesTo_bd hm k (by omega)
    rw [jT]
    split
    · next h1 => have := Int.ediv_nonneg (hm k (by omega)) (show 0 ≤ l[k]! by omega); omega
    · exact this
theorem timesTo_le {l m : List Int} : ∀ {k j : Nat}, j < k → 0 < l[j]! → jT l m k ≤ m[j]! / l[j]!
  | k + 1, j, h, h1 => by
    rw [jT]
    by_cases e : j = k
    · subst e; rw [if_pos h1]; omega
    · have := timesTo_le (m := m) (show j < k by omega) h1
      split <;> omega
theorem timesL_left {l m : List Int} (hl : ∀ k, k < l.length → 0 ≤ l[k]!) (hm : ∀ k, k < l.length → 0 ≤ m[k]!) {k : Nat} (hk : k < l.length) : 0 ≤ m[k]! + -(vM l m) * l[k]! := by
  have h0 := timesTo_bd hm l.length (Nat.le_refl _)
  rcases Int.lt_or_eq_of_le (hl k hk) with h | h
  · have h1 := timesTo_le (m := m) hk h
    have h2 : m[k]! / l[k]! * l[k]! ≤ m[k]! := Int.ediv_mul_le _ (by omega)
    have h3 := Int.mul_le_mul_of_nonneg_right h1 (show 0 ≤ l[k]! by omega)
    have h4 : -(vM l m) * l[k]! = -(vM l m * l[k]!) := Int.neg_mul ..
    unfold vM at *
    omega
  · rw [← h]; have := hm k hk; omega
def QW (l m : List Int) (i : Nat) (best : Int) : Prop := (best = jT l m i ∧ ∃ j, j < i ∧ 0 < l[j]!) ∨ (best = -1 ∧ jT l m i = 1000 ∧ ∀ j, j < i → l[j]! ≤ 0)
theorem QW.zero (l m : List Int) : QW l m 0 (-1) := .inr ⟨rfl, rfl, fun j hj => by omega⟩
theorem QW.take {l m : List Int} {i : Nat} {best : Int} (h : QW l m i best) (hm : 0 ≤ m[i]! ∧ m[i]! ≤ 1000) (hl : 0 < l[i]!) (hb : best < 0 ∨ m[i]! / l[i]! < best) (hn : 0 ≤ jT l m i) : QW l m (i + 1) (m[i]! / l[i]!) := by
  refine .inl ⟨?_, i, by omega, hl⟩
  rw [timesTo_pos hl]
  have h1 : m[i]! / l[i]! ≤ m[i]! := Int.ediv_le_self _ hm.1
  rcases h with ⟨h, _⟩ | ⟨h, h2, _⟩ <;> omega
theorem QW.keep {l m : List Int} {i : Nat} {best : Int} (h : QW l m i best) (hl : ¬ 0 < l[i]!) : QW l m (i + 1) best := by
  unfold QW
  rw [timesTo_skip hl]
  rcases h with ⟨h, j, h1, h2⟩ | ⟨h, h2, h3⟩
  · exact .inl ⟨h, j, by omega, h2⟩
  · refine .inr ⟨h, h2, fun j hj => ?_⟩
    by_cases e : j = i
    · subst e; omega
    · exact h3 j (by omega)
theorem QW.keep2 {l m : List Int} {i : Nat} {best : Int} (h : QW l m i best) (hl : 0 < l[i]!) (hb : ¬ best < 0) (hn : ¬ m[i]! / l[i]! < best) : QW l m (i + 1) best := by
  refine .inl ⟨?_, i, by omega, hl⟩
  rw [timesTo_pos hl]
  rcases h with ⟨h, _⟩ | ⟨h, _⟩ <;> omega
theorem QW.done {l m : List Int} {i : Nat} {best : Int} (h : QW l m i best) (hp : ∃ j, j < i ∧ 0 < l[j]!) : best = jT l m i := by
  rcases h with ⟨h, _⟩ | ⟨_, _, h3⟩
  · exact h
  · obtain ⟨j, h1, h2⟩ := hp
    have := h3 j h1; omega
theorem sum_pos {l : List Int} (h : X6 l) (h1 : X4 l ≠ 0) : ∃ j, j < l.length ∧ 0 < l[j]! := by
  apply Classical.byContradiction
  intro hn
  have h0 : ∀ k, k ≤ l.length → sumTo l k = 0 := by
    intro k
    induction k with
    | zero => intro _; rfl
    | succ k ih =>
      intro hk
      have h2 := h.1 k (by omega)
      have h3 : ¬ 0 < l[k]! := fun h4 => hn ⟨k, by omega, h4⟩
      rw [sumTo, ih (by omega)]; omega
  exact h1 (h0 _ (Nat.le_refl _))
def Box (n K : Nat) (b : List (List Int)) : Prop := b.length = n ∧ ∀ p, p < n → (b[p]!).length = K ∧ ∀ k, k < K → 0 ≤ (b[p]!)[k]! ∧ (b[p]!)[k]! ≤ 1000
theorem zt.box {s : qy} {t : qE} (h : zt s t) : Box (vJ s) (yZ s) t.ql := by
  refine ⟨h.2.1, fun p hp => ?_⟩
  have hb := h.bagLen (k := p) (by rw [h.2.1]; exact hp)
  exact ⟨hb.len, fun k hk => hb.get (by rw [hb.len]; exact hk)⟩
theorem parentNow_root {s : qy} {t : qE} (hs : jg s) : xe s t 0 = -1 := by
  unfold xe
  rw [show s.qf[(0 : Int).toNat]! = -1 from hs.2.2.1]
  exact climb_end fun h => by omega
def outPl (s : qy) (t : qE) (r : Qr) : Nat := if r.qp = 0 then vJ s else (xe s t r.qp).toNat
theorem outPl_root {s : qy} {t : qE} {r : Qr} (h : r.qp = 0) : outPl s t r = vJ s := by rw [outPl, if_pos h]
theorem outPl_up {s : qy} {t : qE} {r : Qr} (h : r.qp ≠ 0) : outPl s t r = (xe s t r.qp).toNat := by rw [outPl, if_neg h]
def intoF (r : Qr) (c : Int) : Nat → Nat → Nat → Int
  | 0, _, _ => 0
  | j + 1, p, k => intoF r c j p k + at' p (r.qI[j]!).qp.toNat (c * ((r.qI[j]!).vS)[k]!)
def putF (s : qy) (t : qE) (r : Qr) (c : Int) (p k : Nat) : Int := at' p r.qp.toNat (c * r.xq[k]!) + at' p (outPl s t r) (c * r.zq[k]!) + intoF r c r.qI.length p k
def putS (s : qy) (t : qE) (counts : List Int) : Nat → Nat → Nat → Int
  | 0, _, _ => 0
  | i + 1, p, k => putS s t counts i p k + putF s t (s.qg[i]!) (counts[i]!) p k
def allS (s : qy) (t : qE) (counts : List Int) : Nat → Nat → Nat → Int
  | 0, _, _ => 0
  | i + 1, p, k => allS s t counts i p k + needF s counts i p k + putF s t (s.qg[i]!) (counts[i]!) p k
theorem allS_eq (s : qy) (t : qE) (counts : List Int) (p k : Nat) : ∀ i, allS s t counts i p k = needS s counts i p k + putS s t counts i p k
  | 0 => rfl
  | i + 1 => by
    have := allS_eq s t counts p k i
    simp only [allS, needS, putS]
    omega
theorem at_zero (p c : Nat) (x : Int) : at' p c (0 * x) = 0 := by unfold at'; split <;> simp
theorem intoF_zero (r : Qr) (p k : Nat) : ∀ j, intoF r 0 j p k = 0
  | 0 => rfl
  | j + 1 => by rw [intoF, intoF_zero r p k j, at_zero]; rfl
theorem putF_zero (s : qy) (t : qE) (r : Qr) {c : Int} (h : c = 0) (p k : Nat) : putF s t r c p k = 0 := by
  subst h; rw [putF, at_zero, at_zero, intoF_zero]; rfl
theorem putS_skip {s : qy} {t : qE} {counts : List Int} {i : Nat} (h : counts[i]! = 0) (p k : Nat) : putS s t counts (i + 1) p k = putS s t counts i p k := by
  rw [putS, putF_zero s t _ h]; omega
def base0 (s : qy) (t : qE) (p k : Nat) : Int := if p < vJ s then (t.ql[p]!)[k]! else t.qj[k]!
def stepF (s : qy) (t : qE) (counts : List Int) (p k : Nat) : Int := base0 s t p k + allS s t counts s.qg.length p k
noncomputable def stepped (s : qy) (t : qE) (counts : List Int) : qE :=
  ⟨t.qh, (tab2 (vJ s + 1) (yZ s) (stepF s t counts)).take (vJ s), (tab2 (vJ s + 1) (yZ s) (stepF s t counts))[vJ s]!⟩
theorem zt.around {s : qy} {t : qE} (h : zt s t) : t.qj.length = yZ s ∧ ∀ k, k < yZ s → 0 ≤ t.qj[k]! ∧ t.qj[k]! ≤ 1000 := by
  have hb := h.2.2.2.1
  exact ⟨hb.len, fun k hk => hb.get (by rw [hb.len]; exact hk)⟩
theorem start_ent {s : qy} {t : qE} {counts : List Int} (ht : zt s t) : Ent (vJ s + 1) (yZ s) (fun p k => base0 s t p k + allS s t counts 0 p k) 1000 (t.ql ++ [t.qj]) := by
  have h1 : Ent (vJ s) (yZ s) (fun p k => base0 s t p k + allS s t counts 0 p k) 1000 t.ql := ⟨ht.shape, fun p k hp hk => by simp [base0, hp, allS]⟩
  refine h1.snoc ht.around.1 (fun k hk => by have := ht.around.2 k hk; omega) fun k hk => ?_
  simp [base0, allS]
theorem rest_ent {s : qy} {t : qE} {counts : List Int} (hs : jG s) (ht : zt s t) (hc : CntOk s counts) :
    Ent (vJ s + 1) (yZ s) (fun p k => base0 s t p k + needS s counts s.qg.length p k + putS s t counts 0 p k) (1000 + 1000000 * s.qg.length) (yz s t counts s.qg.length ++ [t.qj]) := by
  have h1 : Ent (vJ s) (yZ s) (fun p k => base0 s t p k + needS s counts s.qg.length p k + putS s t counts 0 p k) (1000 + 1000000 * s.qg.length) (yz s t counts s.qg.length) := by
    have h0 := restR_ent hs ht hc _ (Nat.le_refl _)
    exact ⟨h0.sh, fun p k hp hk => by rw [h0.eq p k hp hk]; simp [base0, hp, putS]⟩
  refine h1.snoc ht.around.1 (fun k hk => by have := ht.around.2 k hk; omega) fun k hk => ?_
  have h2 : ∀ i, i ≤ s.qg.length → needS s counts i (vJ s) k = 0 := by
    intro i
    induction i with
    | zero => intro _; rfl
    | succ i ih =>
      intro hi
      have := (hs.rule (i := i) (by omega)).cell
      rw [needS, ih (by omega), needF, at', if_neg (by omega)]; rfl
  rw [h2 _ (Nat.le_refl _)]
  simp [base0, putS]
theorem step_tab {s : qy} {t : qE} {counts : List Int} {B : Int} {b : List (List Int)} (h : Ent (vJ s + 1) (yZ s) (fun p k => base0 s t p k + allS s t counts s.qg.length p k) B b) :
    b.take (vJ s) = (stepped s t counts).ql ∧ b[vJ s]! = (stepped s t counts).qj := by
  have e := h.tab
  constructor
  · show _ = (tab2 _ _ _).take _
    rw [e]; rfl
  · show _ = (tab2 _ _ _)[_]!
    rw [e]; rfl
theorem step_tab2 {s : qy} {t : qE} {counts : List Int} {B : Int} {b : List (List Int)} {a : List Int} (hb : b.length = vJ s) (h : Ent (vJ s + 1) (yZ s) (fun p k => base0 s t p k + needS s counts s.qg.length p k + putS s t counts s.qg.length p k) B (b ++ [a])) :
    b = (stepped s t counts).ql ∧ a = (stepped s t counts).qj := by
  have h1 := step_tab (h.to (g := fun p k => base0 s t p k + allS s t counts s.qg.length p k) (fun p k => by rw [allS_eq]; omega) (Int.le_refl _))
  rw [← hb, List.take_left] at h1
  refine ⟨h1.1, ?_⟩
  rw [← h1.2, getElem!_pos (b ++ [a]) b.length (by simp), List.getElem_append_right (Nat.le_refl _)]; simp
theorem cat_set {b : List (List Int)} {a v : List Int} {c : Nat} (hc : c < b.length) : (b ++ [a]).set c v = b.set c v ++ [a] := List.set_append_left c v hc
theorem cat_setN {b : List (List Int)} {a v : List Int} {n : Nat} (h : b.length = n) : (b ++ [a]).set n v = b ++ [v] := by
  rw [List.set_append_right _ _ (by omega), h]; simp
theorem cat_get {b : List (List Int)} {a : List Int} {c : Nat} (hc : c < b.length) : (b ++ [a])[c]! = b[c]! := by
  rw [getElem!_pos (b ++ [a]) c (by simp; omega), getElem!_pos b c hc, List.getElem_append_left hc]
theorem cat_getN {b : List (List Int)} {a : List Int} {n : Nat} (h : b.length = n) : (b ++ [a])[n]! = a := by
  rw [getElem!_pos (b ++ [a]) n (by simp; omega), List.getElem_append_right (by omega)]; simp [h]
theorem Ent.addL {n K : Nat} {f : Nat → Nat → Int} {B D : Int} {b : List (List Int)} {a : List Int} (h : Ent (n + 1) K f B (b ++ [a])) {c : Nat} {m : List Int} {t : Int} {b' : List (List Int)} (e : b' = b.set c (vk (b[c]!) m t)) (hb : b.length = n) (hc : c < n) (ht : ∀ k, k < K → -D ≤ t * m[k]! ∧ t * m[k]! ≤ D) (hD : 0 ≤ D) :
    Ent (n + 1) K (fun p k => f p k + at' p c (t * m[k]!)) (B + D) (b' ++ [a]) :=
  h.add (by rw [e, ← cat_set (by omega), cat_get (by omega)]) (by omega) ht hD
theorem Ent.addN {n K : Nat} {f : Nat → Nat → Int} {B D : Int} {b : List (List Int)} {a : List Int} (h : Ent (n + 1) K f B (b ++ [a])) {m : List Int} {t : Int} {a' : List Int} (e : a' = vk a m t) (hb : b.length = n) (ht : ∀ k, k < K → -D ≤ t * m[k]! ∧ t * m[k]! ≤ D) (hD : 0 ≤ D) :
    Ent (n + 1) K (fun p k => f p k + at' p n (t * m[k]!)) (B + D) (b ++ [a']) :=
  h.add (by rw [e, cat_setN hb, cat_getN hb]) (by omega) ht hD
theorem Ent.rowL {n K : Nat} {f : Nat → Nat → Int} {B : Int} {b : List (List Int)} {a : List Int} (h : Ent (n + 1) K f B (b ++ [a])) (hb : b.length = n) (hB : B ≤ 1000000000000000) (hK : K ≤ 8) {c : Nat} (hc : c < n) : (b[c]!).length = K ∧ Mid (b[c]!) := by
  have := h.sh.row hB hK (c := c) (by omega)
  rwa [cat_get (by omega)] at this
theorem Ent.rowN {n K : Nat} {f : Nat → Nat → Int} {B : Int} {b : List (List Int)} {a : List Int} (h : Ent (n + 1) K f B (b ++ [a])) (hb : b.length = n) (hB : B ≤ 1000000000000000) (hK : K ≤ 8) : a.length = K ∧ Mid a := by
  have := h.sh.row hB hK (c := n) (by omega)
  rwa [cat_getN hb] at this

def QE (s : qy) (counts : List Int) (c : Int) (k : Nat) : Prop := ∃ i, i < k ∧ 0 < counts[i]! ∧ (s.qg[i]!).xO = true ∧ (s.qg[i]!).qp = c
theorem melts_zero (s : qy) (counts : List Int) (c : Int) : ¬ QE s counts c 0 := fun ⟨i, h, _⟩ => by omega
theorem melts_succ {s : qy} {counts : List Int} {c : Int} {k : Nat} : QE s counts c (k + 1) ↔ QE s counts c k ∨ (0 < counts[k]! ∧ (s.qg[k]!).xO = true ∧ (s.qg[k]!).qp = c) := by
  constructor
  · rintro ⟨i, h, h1⟩
    by_cases e : i = k
    · subst e; exact .inr h1
    · exact .inl ⟨i, by omega, h1⟩
  · rintro (⟨i, h, h1⟩ | h)
    · exact ⟨i, by omega, h1⟩
    · exact ⟨k, by omega, h⟩
theorem melts_1 {s : qy} {counts : List Int} {c : Int} {k : Nat} (h : dec (QE s counts c k) = true) : true = dec (QE s counts c (k + 1)) := (jF (melts_succ.2 (.inl (yU h)))).symm
theorem melts_2 {s : qy} {counts : List Int} {c : Int} {k : Nat} (h : dec (QE s counts c k) = false) (h1 : ¬ counts[k]! > 0) : false = dec (QE s counts c (k + 1)) :=
  (qY fun x => (melts_succ.1 x).elim (zA h) fun y => h1 y.1).symm
theorem melts_3 {s : qy} {counts : List Int} {c : Int} {k : Nat} (h : dec (QE s counts c k) = false) (h1 : (s.qg[k]!).xO = false) : false = dec (QE s counts c (k + 1)) :=
  (qY fun x => (melts_succ.1 x).elim (zA h) fun y => ft y.2.1 h1).symm
theorem melts_4 {s : qy} {counts : List Int} {c : Int} {k : Nat} (h : dec (QE s counts c k) = false) (h1 : counts[k]! > 0) (h2 : (s.qg[k]!).xO = true) : ((s.qg[k]!).qp == c) = dec (QE s counts c (k + 1)) := by
  refine dec_eq ?_
  rw [beq_iff_eq, melts_succ]
  exact ⟨fun e => .inr ⟨h1, h2, e⟩, fun x => x.elim (fun y => absurd y (zA h)) fun y => y.2.2⟩
abbrev Melts (s : qy) (counts : List Int) (c : Int) : Prop := QE s counts c s.qg.length
noncomputable def jH (s : qy) (counts : List Int) (n k : Nat) : List Bool := (List.range n).map fun c : Nat => dec (QE s counts (c : Int) k)
theorem meltsL_len (s : qy) (counts : List Int) (n k : Nat) : (jH s counts n k).length = n := by simp [jH]
theorem meltsL_get {s : qy} {counts : List Int} {n k c : Nat} (h : c < n) : (jH s counts n k)[c]! = dec (QE s counts (c : Int) k) := by
  rw [getElem!_pos (jH s counts n k) c (by rw [meltsL_len]; exact h)]; simp [jH]
theorem meltsL_zero (s : qy) (counts : List Int) (n : Nat) : List.replicate n false = jH s counts n 0 := by
  refine ext_get (by simp [meltsL_len]) fun k hk => ?_
  rw [List.length_replicate] at hk
  rw [meltsL_get hk, qY (melts_zero _ _ _), getElem!_pos (List.replicate n false) k (by simpa using hk)]; simp
theorem meltsL_set {s : qy} {counts : List Int} {n k : Nat} (h0 : 0 ≤ (s.qg[k]!).qp) (h : (s.qg[k]!).qp.toNat < n) {x : Bool} (hx : x = true ↔ ((jH s counts n k)[(s.qg[k]!).qp.toNat]! = true ∨ (0 < counts[k]! ∧ (s.qg[k]!).xO = true))) :
    (jH s counts n k).set (s.qg[k]!).qp.toNat x = jH s counts n (k + 1) := by
  refine ext_get (by simp [meltsL_len]) fun p hp => ?_
  rw [List.length_set, meltsL_len] at hp
  rw [getset (by rw [meltsL_len]; exact h), meltsL_get hp, meltsL_get hp]
  rw [meltsL_get h] at hx
  by_cases e : p = (s.qg[k]!).qp.toNat
  · rw [if_pos e]
    refine dec_eq (hx.trans ?_)
    rw [melts_succ, e, show (((s.qg[k]!).qp.toNat : Nat) : Int) = (s.qg[k]!).qp by omega]
    constructor
    · rintro (h1 | h1)
      · exact .inl (yU h1)
      · exact .inr ⟨h1.1, h1.2, rfl⟩
    · rintro (h1 | h1)
      · exact .inl (jF h1)
      · exact .inr ⟨h1.1, h1.2.1⟩
  · rw [if_neg e]
    refine dec_congr ?_
    rw [melts_succ]
    constructor
    · exact .inl
    · rintro (h1 | ⟨_, _, h1⟩)
      · exact h1
      · exfalso; omega
open Classical in
noncomputable def qX (s : qy) (counts : List Int) (u : qE) : Nat → qE
  | 0 => u
  | j + 1 => if Melts s counts ((vJ s : Int) - 1 - j) then melted s (qX s counts u j) ((vJ s : Int) - 1 - j) else qX s counts u j
theorem meltDown_yes {s : qy} {counts : List Int} {u : qE} {j : Nat} {c : Int} (h : Melts s counts c) (hc : c = (vJ s : Int) - 1 - j) : qX s counts u (j + 1) = melted s (qX s counts u j) c := by subst hc; rw [qX, if_pos h]
theorem meltDown_no {s : qy} {counts : List Int} {u : qE} {j : Nat} {c : Int} (h : ¬ Melts s counts c) (hc : c = (vJ s : Int) - 1 - j) : qX s counts u (j + 1) = qX s counts u j := by subst hc; rw [qX, if_neg h]
theorem Qp {s : qy} {counts : List Int} {u : qE} {j i : Nat} {c : Int} (h : dec (QE s counts c i) = true) (hi : i = s.qg.length) (hc : c = (vJ s : Int) - 1 - j) : qX s counts u (j + 1) = melted s (qX s counts u j) c := by subst hi; exact meltDown_yes (yU h) hc
theorem meltDown_no' {s : qy} {counts : List Int} {u : qE} {j i : Nat} {c : Int} (h : dec (QE s counts c i) = false) (hi : i = s.qg.length) (hc : c = (vJ s : Int) - 1 - j) : qX s counts u (j + 1) = qX s counts u j := by subst hi; exact meltDown_no (zA h) hc
theorem yV (s : qy) (counts : List Int) (u : qE) : ∀ j, (qX s counts u j).qj = u.qj
  | 0 => rfl
  | j + 1 => by
    rw [qX]
    split
    · exact yV s counts u j
    · exact yV s counts u j
structure Live (s : qy) (B : Int) (u : qE) : Prop where
  alive : u.qh.length = vJ s
  root : u.qh[0]! = true
  bags : Shape (vJ s) (yZ s) B u.ql
  around : u.qj.length = yZ s
theorem Live.melt {s : qy} {B : Int} {u : qE} (hs : jG s) (h : Live s B u) (hB : 0 ≤ B) {c : Int} (h0 : 0 < c) (h1 : c ≤ (vJ s : Int) - 1) : Live s (2 * B) (melted s u c) := by
  have hp := VZ (t := u) hs.1 h.root h0 h1
  have hpc : (xe s u c).toNat < vJ s := by omega
  have hcc : c.toNat < vJ s := by omega
  refine ⟨by simp [melted, h.alive], ?_, ?_, h.around⟩
  · show (u.qh.set c.toNat false)[0]! = true
    rw [getset (by rw [h.alive]; exact hcc), if_neg (by omega)]; exact h.root
  · have hr := (h.bags.2 _ hcc).2
    have hk := (h.bags.2 _ hcc).1
    have h2 := h.bags.plus (m := u.ql[c.toNat]!) (t := 1) (D := B) hpc (fun k hk => by have := hr k hk; omega) hB
    refine (h2.set (D := B + B) hcc (by simp [yZ]) (fun k hk => ?_) (by omega)).mono (by omega)
    rw [getElem!_pos (List.replicate s.qJ.toNat (0 : Int)) k (by simpa [yZ] using hk)]
    simp; omega
def bnd : Nat → Int
  | 0 => 200000000
  | j + 1 => 2 * bnd j
theorem bnd_pos : ∀ j, 0 ≤ bnd j
  | 0 => by simp [bnd]
  | j + 1 => by have := bnd_pos j; simp only [bnd]; omega
theorem bnd_mono : ∀ {i j : Nat}, i ≤ j → bnd i ≤ bnd j
  | i, 0, h => by obtain rfl : i = 0 := by omega
                  exact Int.le_refl _
  | i, j + 1, h => by
    by_cases e : i = j + 1
    · subst e; exact Int.le_refl _
    · have := bnd_mono (show i ≤ j by omega)
      have := bnd_pos j
      simp only [bnd]; omega
theorem bnd_le {j : Nat} (h : j ≤ 6) : bnd j ≤ 12800000000 := Int.le_trans (bnd_mono h) (by simp [bnd])
theorem Live.mono {s : qy} {B D : Int} {u : qE} (h : Live s B u) (hD : B ≤ D) : Live s D u := ⟨h.alive, h.root, h.bags.mono hD, h.around⟩
theorem stepped_live {s : qy} {t : qE} {counts : List Int} {B : Int} {b : List (List Int)} (ht : zt s t) (h : Ent (vJ s + 1) (yZ s) (fun p k => base0 s t p k + allS s t counts s.qg.length p k) B b) (hB : B ≤ 200000000) : Live s (bnd 0) (stepped s t counts) := by
  have h1 := step_tab h
  have hr := h.sh.2 (vJ s) (by omega)
  refine ⟨ht.1, ht.2.2.1, ?_, by rw [← h1.2]; exact hr.1⟩
  rw [← h1.1]
  refine ⟨by rw [List.length_take, h.sh.1]; omega, fun p hp => ?_⟩
  have e : (b.take (vJ s))[p]! = b[p]! := by
    rw [getElem!_pos (b.take (vJ s)) p (by rw [List.length_take, h.sh.1]; omega), getElem!_pos b p (by rw [h.sh.1]; omega)]; simp
  rw [e]
  have := h.sh.2 p (by omega)
  exact ⟨this.1, fun k hk => by have := this.2 k hk; simp only [bnd]; omega⟩
theorem meltDown_live {s : qy} {counts : List Int} {u : qE} (hs : jG s) (h : Live s (bnd 0) u) : ∀ j, j + 1 ≤ vJ s → Live s (bnd j) (qX s counts u j)
  | 0, _ => h
  | j + 1, hj => by
    have ih := meltDown_live (counts := counts) hs h j (by omega)
    by_cases hm : Melts s counts ((vJ s : Int) - 1 - j)
    · rw [meltDown_yes hm rfl]; exact ih.melt hs (bnd_pos j) (by omega) (by omega)
    · rw [meltDown_no hm rfl]; exact ih.mono (bnd_mono (by omega))
theorem Live.rows {s : qy} {B : Int} {u : qE} (hs : jG s) (h : Live s B u) (hB : B ≤ 12800000000) {p c : Nat} (hp : p < vJ s) (hc : c < vJ s) :
    (u.ql[p]!).length ≤ (u.ql[c]!).length ∧ Mid (u.ql[p]!) ∧ SmallT (u.ql[c]!) 1 := by
  have h1 := h.bags.row (by omega) (kinds_le hs) hp
  have h2 := h.bags.row (by omega) (kinds_le hs) hc
  refine ⟨by omega, h1.2, fun k hk => ?_⟩
  have := h2.2.2 k hk
  omega
noncomputable def stepRes (s : qy) (t : qE) (counts : List Int) : qE × Int := told s (qX s counts (stepped s t counts) (vJ s - 1))
open Classical in
noncomputable def xR (s : qy) (t : qE) (counts : List Int) : qE × Int := if IsCh s t counts then stepRes s t counts else (default, 4)
theorem stepBy_yes {s : qy} {t : qE} {counts : List Int} (h : IsCh s t counts) : xR s t counts = stepRes s t counts := by rw [xR, if_pos h]
theorem stepBy_no {s : qy} {t : qE} {counts : List Int} (h : ¬ IsCh s t counts) : xR s t counts = (default, 4) := by rw [xR, if_neg h]
def minus (k : Nat) : List Int := (List.range 6).map fun j => if j < k then -1 else 0
theorem minus_len (k : Nat) : (minus k).length = 6 := by simp [minus]
theorem minus_get {k j : Nat} (h : j < 6) : (minus k)[j]! = if j < k then -1 else 0 := by
  rw [getElem!_pos (minus k) j (by rw [minus_len]; exact h)]; simp [minus]
theorem minus_set {k : Nat} (h : k < 6) : (minus k).set k (-1) = minus (k + 1) := by
  refine ext_get (by simp [minus_len]) fun p hp => ?_
  rw [List.length_set, minus_len] at hp
  rw [getset (by rw [minus_len]; exact h), minus_get hp, minus_get hp]
  by_cases e : p = k
  · rw [if_pos e, if_pos (by omega)]
  · rw [if_neg e]
    by_cases h1 : p < k
    · rw [if_pos h1, if_pos (by omega)]
    · rw [if_neg h1, if_neg (by omega)]
theorem minus_six {k : Nat} (h : k = 6) (s : qy) (t : qE) : minus k = bests s t (-1) 6 0 := by
  subst h
  rw [← bests_zero]; rfl
theorem appl_yes {s : qy} {t : qE} {i k n : Nat} {z : Int} (hk : k = s.qg.length) (hi : i < s.qg.length) (hz : z ≤ (s.qg[i]!).zg) (hc : (s.qg[i]!).qp.toNat < n) (h1 : (s.qg[i]!).zg = (bests s t z n k)[(s.qg[i]!).qp.toNat]!) (h2 : EnOk s t (s.qg[i]!)) : Appl s t i := by
  rw [bests_get hc, hk] at h1
  exact (appl_iff hi hz).2 ⟨h2, h1⟩
theorem appl_no {s : qy} {t : qE} {i k n : Nat} {z : Int} (hk : k = s.qg.length) (hi : i < s.qg.length) (hz : z ≤ (s.qg[i]!).zg) (hc : (s.qg[i]!).qp.toNat < n) (h1 : (s.qg[i]!).zg ≠ (bests s t z n k)[(s.qg[i]!).qp.toNat]!) : ¬ Appl s t i := fun h => by
  rw [bests_get hc, hk] at h1
  exact h1 ((appl_iff hi hz).1 h).2
theorem appls_halt {s : qy} {t : qE} : (appls s t).length = 0 ↔ Halted s t := by
  constructor
  · intro h j hj ha
    have : (j : Int) ∈ appls s t := mem_applL.2 ⟨Int.natCast_nonneg j, by simpa using hj, by simpa using ha⟩
    rw [List.length_eq_zero_iff.1 h] at this; cases this
  · intro h
    rw [List.length_eq_zero_iff]
    apply List.eq_nil_iff_forall_not_mem.2
    intro x hx
    obtain ⟨h0, h1, h2⟩ := mem_applL.1 hx
    exact h _ h1 h2
theorem outPl_in {s : qy} {t : qE} {r : Qr} (hs : jg s) (h : 0 ≤ xe s t r.qp) : outPl s t r = (xe s t r.qp).toNat := by
  refine outPl_up fun e => ?_
  rw [e, parentNow_root hs] at h; omega
theorem outPl_out {s : qy} {t : qE} {r : Qr} (hs : jg s) (h0 : t.qh[0]! = true) (hc : CellIn s r.qp) (h : ¬ 0 ≤ xe s t r.qp) : outPl s t r = s.qf.length := by
  refine outPl_root ?_
  rcases Int.lt_or_eq_of_le hc.1 with h1 | h1
  · exact absurd (VZ hs h0 h1 hc.2).1 h
  · exact h1.symm
theorem parentNow_lt {s : qy} {t : qE} (hs : jg s) (h0 : t.qh[0]! = true) {c : Int} (hc : CellIn s c) : xe s t c ≤ (s.qf.length : Int) - 1 := by
  rcases Int.lt_or_eq_of_le hc.1 with h1 | h1
  · have := VZ hs h0 h1 hc.2; have := hc.2; omega
  · rw [← h1, parentNow_root hs]; have := hs.2.1; omega
theorem meltsL_1 {s : qy} {counts : List Int} {n k : Nat} (h0 : 0 ≤ (s.qg[k]!).qp) (h : (s.qg[k]!).qp.toNat < n) (h1 : (jH s counts n k)[(s.qg[k]!).qp.toNat]! = true) : (jH s counts n k).set (s.qg[k]!).qp.toNat true = jH s counts n (k + 1) :=
  meltsL_set h0 h ⟨fun _ => .inl h1, fun _ => rfl⟩
theorem meltsL_2 {s : qy} {counts : List Int} {n k : Nat} (h0 : 0 ≤ (s.qg[k]!).qp) (h : (s.qg[k]!).qp.toNat < n) (h1 : (jH s counts n k)[(s.qg[k]!).qp.toNat]! = false) (h2 : ¬ counts[k]! > 0) : (jH s counts n k).set (s.qg[k]!).qp.toNat false = jH s counts n (k + 1) :=
  meltsL_set h0 h ⟨fun h => (by cases h), fun h => h.elim (fun h => (ft h h1).elim) fun h => (h2 h.1).elim⟩
theorem meltsL_3 {s : qy} {counts : List Int} {n k : Nat} (h0 : 0 ≤ (s.qg[k]!).qp) (h : (s.qg[k]!).qp.toNat < n) (h1 : (jH s counts n k)[(s.qg[k]!).qp.toNat]! = false) (h2 : counts[k]! > 0) : (jH s counts n k).set (s.qg[k]!).qp.toNat (s.qg[k]!).xO = jH s counts n (k + 1) :=
  meltsL_set h0 h ⟨fun h => .inr ⟨h2, h⟩, fun h => h.elim (fun h => (ft h h1).elim) fun h => h.2⟩
theorem meltDown_yesL {s : qy} {counts : List Int} {u : qE} {j i n : Nat} {c : Int} (h : (jH s counts n i)[c.toNat]! = true) (hn : c.toNat < n) (h0 : 0 ≤ c) (hi : i = s.qg.length) (hc : c = (vJ s : Int) - 1 - j) : qX s counts u (j + 1) = melted s (qX s counts u j) c := by
  rw [meltsL_get hn, show ((c.toNat : Nat) : Int) = c by omega] at h
  exact Qp h hi hc
theorem meltDown_noL {s : qy} {counts : List Int} {u : qE} {j i n : Nat} {c : Int} (h : (jH s counts n i)[c.toNat]! = false) (hn : c.toNat < n) (h0 : 0 ≤ c) (hi : i = s.qg.length) (hc : c = (vJ s : Int) - 1 - j) : qX s counts u (j + 1) = qX s counts u j := by
  rw [meltsL_get hn, show ((c.toNat : Nat) : Int) = c by omega] at h
  exact meltDown_no' h hi hc
theorem copy_pre {n K : Nat} {f : Nat → Nat → Int} {B : Int} {b : List (List Int)} {al : List Bool} (h : Ent (n + 1) K f B b) (hK : K ≤ 8) (hn : n ≤ 6) (ha : al.length = n) :
    (⟨al, b.take n, b[n]!⟩ : qE).qh.length ≤ 1000000 ∧ (⟨al, b.take n, b[n]!⟩ : qE).qj.length ≤ 1000000 ∧ (⟨al, b.take n, b[n]!⟩ : qE).ql.length ≤ 1000000 ∧
      ∀ j, j < (⟨al, b.take n, b[n]!⟩ : qE).ql.length → ((⟨al, b.take n, b[n]!⟩ : qE).ql[j]!).length ≤ 1000000 := by
  have hl : (b.take n).length = n := by rw [List.length_take, h.sh.1]; omega
  have hr := h.sh.2 n (by omega)
  refine ⟨?_, ?_, ?_, fun j hj => ?_⟩
  · show al.length ≤ 1000000; omega
  · show (b[n]!).length ≤ 1000000; omega
  · show (b.take n).length ≤ 1000000; omega
  · have hj : j < (b.take n).length := hj
    show ((b.take n)[j]!).length ≤ 1000000
    rw [getElem!_pos (b.take n) j hj, List.getElem_take, ← getElem!_pos b j (by rw [h.sh.1]; omega)]
    have := (h.sh.2 j (by omega)).1; omega
theorem few_stepBy {s : qy} {t : qE} {counts : List Int} (hs : jg s) : FewState (xR s t counts).1 := by
  by_cases h : IsCh s t counts
  · rw [stepBy_yes h]; exact few_told hs
  · rw [stepBy_no h]; exact few_default
def single (s : qy) (i : Nat) : List Int := (List.replicate s.qg.length (0 : Int)).set i 1
theorem state_eq {a b : qE} (h1 : a.qh = b.qh) (h2 : a.ql = b.ql) (h3 : a.qj = b.qj) : a = b := by
  cases a; cases b; simp only at h1 h2 h3; subst h1 h2 h3; rfl
open Classical in
noncomputable def jw (s : qy) (t : qE) (cs : List (List Int)) : Nat → List qE
  | 0 => []
  | k + 1 => if (xR s t (cs[k]!)).1 ∈ jw s t cs k then jw s t cs k else jw s t cs k ++ [(xR s t (cs[k]!)).1]
theorem nextTo_in {s : qy} {t : qE} {cs : List (List Int)} {k : Nat} (h : (xR s t (cs[k]!)).1 ∈ jw s t cs k) : jw s t cs k = jw s t cs (k + 1) := by rw [jw, if_pos h]
theorem nextTo_new {s : qy} {t : qE} {cs : List (List Int)} {k : Nat} (h : ¬ (xR s t (cs[k]!)).1 ∈ jw s t cs k) : jw s t cs k ++ [(xR s t (cs[k]!)).1] = jw s t cs (k + 1) := by rw [jw, if_neg h]
theorem nextTo_len {s : qy} {t : qE} {cs : List (List Int)} : ∀ k, (jw s t cs k).length ≤ k
  | 0 => by simp [jw]
  | k + 1 => by
    have := nextTo_len (s := s) (t := t) (cs := cs) k
    rw [jw]
    split
    · omega
    · simp; omega
theorem nextTo_few {s : qy} {t : qE} {cs : List (List Int)} (hs : jg s) : ∀ k u, u ∈ jw s t cs k → FewState u
  | 0, u, h => by simp [jw] at h
  | k + 1, u, h => by
    rw [jw] at h
    split at h
    · exact nextTo_few hs k u h
    · rcases List.mem_append.1 h with h | h
      · exact nextTo_few hs k u h
      · obtain rfl := List.mem_singleton.1 h; exact few_stepBy hs
def CodeBad (s : qy) (t : qE) (cs : List (List Int)) (k : Nat) : Prop := (xR s t (cs[k]!)).2 ≠ 0
def NoBad (s : qy) (t : qE) (cs : List (List Int)) (k : Nat) : Prop := ∀ j, j < k → ¬ CodeBad s t cs j
theorem NoBad.succ {s : qy} {t : qE} {cs : List (List Int)} {k : Nat} (h : NoBad s t cs k) (h1 : (xR s t (cs[k]!)).2 = 0) : NoBad s t cs (k + 1) := fun j hj => by
  by_cases e : j = k
  · subst e; exact fun x => x h1
  · exact h j (by omega)
open Classical in
noncomputable def yN (s : qy) (t : qE) (cs : List (List Int)) : List qE × Int :=
  if NoBad s t cs cs.length then (jw s t cs cs.length, 0) else ([], (xR s t (cs[Qh (CodeBad s t cs) cs.length]!)).2)
theorem next_ok {s : qy} {t : qE} {cs : List (List Int)} (h : NoBad s t cs cs.length) : yN s t cs = (jw s t cs cs.length, 0) := by rw [yN, if_pos h]
theorem next_bad {s : qy} {t : qE} {cs : List (List Int)} {k : Nat} (h : NoBad s t cs k) (hk : k < cs.length) (h1 : (xR s t (cs[k]!)).2 ≠ 0) : yN s t cs = ([], (xR s t (cs[k]!)).2) := by
  rw [yN, if_neg (fun x => x k hk h1), stop_first h hk h1]
theorem find_mem {l : List qE} {u : qE} : firstIdx (fun k => decide (l[k]! = u)) l.length < 0 ↔ ¬ u ∈ l := by
  have h := anyTo_first (fun k => decide (l[k]! = u)) l.length
  constructor
  · intro h1 hm
    obtain ⟨k, hk, e⟩ := List.mem_iff_getElem.1 hm
    have : anyTo (fun k => decide (l[k]! = u)) l.length = true := anyTo_iff.2 ⟨k, hk, by rw [getElem!_pos l k hk]; simpa using e⟩
    rw [this] at h
    have := of_decide_eq_true h
    omega
  · intro hm
    apply Classical.byContradiction
    intro h1
    rw [decide_eq_true (by omega)] at h
    obtain ⟨k, hk, e⟩ := anyTo_iff.1 h.symm
    rw [getElem!_pos l k hk] at e
    exact hm ((of_decide_eq_true e) ▸ List.getElem_mem hk)
theorem mem_at {l : List qE} {u : qE} {k : Nat} (hk : k < l.length) (h : l[k]! = u) : u ∈ l := by
  rw [getElem!_pos l k hk] at h; rw [← h]; exact List.getElem_mem hk
def NotIn (l : List qE) (u : qE) (k : Nat) : Prop := ∀ j, j < k → l[j]! ≠ u
theorem NotIn.succ {l : List qE} {u : qE} {k : Nat} (h : NotIn l u k) (h1 : l[k]! ≠ u) : NotIn l u (k + 1) := fun j hj => by
  by_cases e : j = k
  · subst e; exact h1
  · exact h j (by omega)
theorem NotIn.out {l : List qE} {u : qE} (h : NotIn l u l.length) : ¬ u ∈ l := fun hm => by
  obtain ⟨k, hk, e⟩ := List.mem_iff_getElem.1 hm
  exact h k hk (by rw [getElem!_pos l k hk]; exact e)
theorem cnt_StateD' (x : qE) (h : FewState x) : cnt x ≤ 62 := by
  have := yc x
  have := h.1; have := h.2.1; have := h.2.2
  omega
def FullOk (parts : List (List Int)) (rest : List Int) : Prop := ∀ i, i < parts.length → within (parts[i]!) rest = false
def FullTo (parts : List (List Int)) (rest : List Int) (k : Nat) : Prop := ∀ i, i < k → within (parts[i]!) rest = false
theorem FullTo.succ {parts : List (List Int)} {rest : List Int} {k : Nat} (h : FullTo parts rest k) (h1 : within (parts[k]!) rest = false) : FullTo parts rest (k + 1) := fun j hj => by
  by_cases e : j = k
  · subst e; exact h1
  · exact h j (by omega)
open Classical in
noncomputable def packs (parts : List (List Int)) : Nat → Nat → List Int → List (List Int)
  | 0, _, rest => if FullOk parts rest then [[]] else []
  | f + 1, k, rest => (List.range ((vM (parts[k]!) rest).toNat + 1)).flatMap fun (n : Nat) => (packs parts f (k + 1) (vk rest (parts[k]!) (-(n : Int)))).map ((n : Int) :: ·)
noncomputable def vV (parts : List (List Int)) (f k : Nat) (rest : List Int) (m : Nat) : List (List Int) :=
  (List.range m).flatMap fun (n : Nat) => (packs parts f (k + 1) (vk rest (parts[k]!) (-(n : Int)))).map ((n : Int) :: ·)
theorem packs_succ (parts : List (List Int)) (f k : Nat) (rest : List Int) : packs parts (f + 1) k rest = vV parts f k rest ((vM (parts[k]!) rest).toNat + 1) := rfl
theorem packsTo_zero (parts : List (List Int)) (f k : Nat) (rest : List Int) : vV parts f k rest 0 = [] := rfl
theorem packsTo_succ (parts : List (List Int)) (f k : Nat) (rest : List Int) (m : Nat) :
    vV parts f k rest (m + 1) = vV parts f k rest m ++ (packs parts f (k + 1) (vk rest (parts[k]!) (-(m : Int)))).map ((m : Int) :: ·) := by
  simp [vV, List.range_succ]
theorem packs_full {parts : List (List Int)} {k : Nat} {rest : List Int} (h : FullOk parts rest) : packs parts 0 k rest = [[]] := by rw [packs, if_pos h]
theorem packs_none {parts : List (List Int)} {k : Nat} {rest : List Int} (h : ¬ FullOk parts rest) : packs parts 0 k rest = [] := by rw [packs, if_neg h]
def gath (out more : List (List Int)) : List (List Int) := (out ++ more).take 2001
theorem gath_nil {out : List (List Int)} (h : out.length ≤ 2001) : gath out [] = out := by unfold gath; rw [List.append_nil]; exact List.take_of_length_le h
theorem gath_one {out : List (List Int)} {x : List Int} (h : out.length ≤ 2000) : gath out [x] = out ++ [x] := by
  unfold gath; rw [List.take_of_length_le]; simp; omega
theorem gath_len (out more : List (List Int)) : (gath out more).length ≤ 2001 := by simp [gath]; omega
theorem gath_room {out more : List (List Int)} (h : (gath out more).length ≤ 2000) : gath out more = out ++ more := by
  unfold gath at *
  rw [List.length_take] at h
  exact List.take_of_length_le (by omega)
theorem gath_cat {out a b : List (List Int)} (h : (gath out a).length ≤ 2000) : gath (gath out a) b = gath out (a ++ b) := by
  rw [gath_room h]; simp [gath]
theorem gath_stop {out a b : List (List Int)} (h : ¬ (gath out a).length ≤ 2000) : gath out a = gath out (a ++ b) := by
  unfold gath at *
  rw [List.length_take] at h
  rw [← List.append_assoc]
  exact (List.take_append_of_le_length (l₁ := out ++ a) (l₂ := b) (by omega)).symm
def begins (b : List Int) (l : List (List Int)) : List (List Int) := l.map (b ++ ·)
theorem begins_cat (b : List Int) (l m : List (List Int)) : begins b (l ++ m) = begins b l ++ begins b m := by simp [begins]
theorem begins_cons (b : List Int) (n : Int) (l : List (List Int)) : begins b (l.map (n :: ·)) = begins (b ++ [n]) l := by simp [begins]
theorem begins_nil (l : List (List Int)) : begins [] l = l := by simp [begins]
theorem begins_one (b : List Int) : begins b [[]] = [b] := by simp [begins]
theorem gath_step {parts : List (List Int)} {f k m : Nat} {rest b : List Int} {out : List (List Int)} (h : (gath out (begins b (vV parts f k rest m))).length ≤ 2000) :
    gath (gath out (begins b (vV parts f k rest m))) (begins (b ++ [(m : Int)]) (packs parts f (k + 1) (vk rest (parts[k]!) (-(m : Int))))) = gath out (begins b (vV parts f k rest (m + 1))) := by
  rw [gath_cat h, packsTo_succ, begins_cat, begins_cons]
theorem packsTo_more {parts : List (List Int)} {f k : Nat} {rest : List Int} : ∀ {m M : Nat}, m ≤ M → ∃ more, vV parts f k rest M = vV parts f k rest m ++ more
  | m, 0, h => ⟨[], by obtain rfl : m = 0 := by omega
                       simp⟩
  | m, M + 1, h => by
    by_cases e : m = M + 1
    · subst e; exact ⟨[], by simp⟩
    · obtain ⟨more, hm⟩ := packsTo_more (parts := parts) (f := f) (k := k) (rest := rest) (show m ≤ M by omega)
      exact ⟨_, by rw [packsTo_succ, hm, List.append_assoc]⟩
theorem gath_end {parts : List (List Int)} {f k m : Nat} {rest b : List Int} {out : List (List Int)} (hm : m ≤ (vM (parts[k]!) rest).toNat + 1) (h : m = (vM (parts[k]!) rest).toNat + 1 ∨ ¬ (gath out (begins b (vV parts f k rest m))).length ≤ 2000) :
    gath out (begins b (vV parts f k rest m)) = gath out (begins b (packs parts (f + 1) k rest)) := by
  rw [packs_succ]
  rcases h with h | h
  · rw [h]
  · obtain ⟨more, e⟩ := packsTo_more (parts := parts) (f := f) (k := k) (rest := rest) hm
    rw [e, begins_cat]
    exact gath_stop h
open Classical in
noncomputable def zu (b : List Int) (parts : List (List Int)) : List (List Int) × Int :=
  if X4 b > 16 then ([], 3) else if (packs parts parts.length 0 b).length > 2000 then ([], 3) else (packs parts parts.length 0 b, 0)
theorem gath_all {l : List (List Int)} : (gath [] l).length > 2000 ↔ l.length > 2000 := by unfold gath; rw [List.nil_append, List.length_take]; omega
theorem gath_few {l : List (List Int)} (h : ¬ l.length > 2000) : gath [] l = l := by unfold gath; rw [List.nil_append]; exact List.take_of_length_le (by omega)
theorem packs_len {parts : List (List Int)} : ∀ {f k : Nat} {rest x : List Int}, x ∈ packs parts f k rest → x.length = f
  | 0, k, rest, x, h => by
    rw [packs] at h
    split at h
    · obtain rfl := List.mem_singleton.1 h; rfl
    · simp at h
  | f + 1, k, rest, x, h => by
    rw [packs, List.mem_flatMap] at h
    obtain ⟨n, _, h⟩ := h
    obtain ⟨y, hy, rfl⟩ := List.mem_map.1 h
    rw [List.length_cons, packs_len hy]
def ahead (a b : List Int) : Prop := ∃ i, i < a.length ∧ (∀ j, j < i → a[j]! = b[j]!) ∧ a[i]! < b[i]!
def SameTo (a b : List Int) (k : Nat) : Prop := ∀ j, j < k → a[j]! = b[j]!
theorem SameTo.succ {a b : List Int} {k : Nat} (h : SameTo a b k) (h1 : a[k]! = b[k]!) : SameTo a b (k + 1) := fun j hj => by
  by_cases e : j = k
  · subst e; exact h1
  · exact h j (by omega)
theorem ahead_yes {a b : List Int} {k : Nat} (h : SameTo a b k) (hk : k < a.length) (h1 : a[k]! < b[k]!) : ahead a b := ⟨k, hk, h, h1⟩
theorem ahead_no {a b : List Int} {k : Nat} (h : SameTo a b k) (h1 : ¬ a[k]! < b[k]!) (h2 : a[k]! ≠ b[k]!) : ¬ ahead a b := by
  rintro ⟨i, hi, hs, hl⟩
  rcases Nat.lt_or_ge i k with hik | hik
  · rw [h i hik] at hl; omega
  · rcases Nat.lt_or_eq_of_le hik with hki | hki
    · exact h2 (hs k hki)
    · subst hki; exact h1 hl
theorem ahead_same {a b : List Int} (h : SameTo a b a.length) : ¬ ahead a b := by
  rintro ⟨i, hi, _, hl⟩
  rw [h i hi] at hl; omega
theorem ahead_irr (a : List Int) : ¬ ahead a a := ahead_same fun _ _ => rfl
theorem ahead_trans {a b c : List Int} (hab : a.length = b.length) (h1 : ahead a b) (h2 : ahead b c) : ahead a c := by
  obtain ⟨i, hi, hs, hl⟩ := h1
  obtain ⟨k, hk, ht, hm⟩ := h2
  rcases Nat.lt_or_ge i k with h | h
  · exact ⟨i, hi, fun j hj => (hs j hj).trans (ht j (by omega)), by rw [← ht i h]; exact hl⟩
  · rcases Nat.lt_or_eq_of_le h with h' | h'
    · exact ⟨k, by omega, fun j hj => (hs j (by omega)).trans (ht j hj), by rw [hs k h']; exact hm⟩
    · subst h'
      exact ⟨k, hi, fun j hj => (hs j hj).trans (ht j hj), by omega⟩
theorem ahead_tri {a b : List Int} (hl : a.length = b.length) (h1 : ¬ ahead a b) (h2 : ¬ ahead b a) : a = b := by
  have key : ∀ k, k ≤ a.length → SameTo a b k := by
    intro k
    induction k with
    | zero => intro _ j hj; omega
    | succ k ih =>
      intro hk
      have hs := ih (by omega)
      refine hs.succ ?_
      apply Classical.byContradiction
      intro hne
      rcases Int.lt_or_gt_of_ne hne with h | h
      · exact h1 ⟨k, by omega, hs, h⟩
      · exact h2 ⟨k, by omega, fun j hj => (hs j hj).symm, h⟩
  exact ext_get hl fun k hk => key _ (Nat.le_refl _) k hk
def InOrder (l : List (List Int)) : Prop := l.Pairwise fun a b => ¬ ahead b a
theorem order_one {n : Nat} : ∀ {l m : List (List Int)}, (∀ x ∈ l, x.length = n) → l.Perm m → InOrder l → InOrder m → l = m
  | [], m, _, hp, _, _ => (List.Perm.nil_eq hp)
  | x :: l, m, hn, hp, hl, hm => by
    cases m with
    | nil => exact absurd hp.length_eq (by simp)
    | cons y m =>
      have hl' := List.pairwise_cons.1 hl
      have hm' := List.pairwise_cons.1 hm
      have hy : y ∈ x :: l := hp.symm.subset (List.mem_cons_self ..)
      have hx : x ∈ y :: m := hp.subset (List.mem_cons_self ..)
      have e : x = y := by
        rcases List.mem_cons.1 hx with h | h
        · exact h
        · rcases List.mem_cons.1 hy with h' | h'
          · exact h'.symm
          · exact ahead_tri ((hn x (List.mem_cons_self ..)).trans (hn y (List.mem_cons_of_mem _ h')).symm) (hm'.1 x h) (hl'.1 y h')
      subst e
      rw [order_one (fun z hz => hn z (List.mem_cons_of_mem _ hz)) (List.Perm.cons_inv hp) hl'.2 hm'.2]
def swapAt (l : List (List Int)) (k : Nat) : List (List Int) := (l.set k (l[k - 1]!)).set (k - 1) (l[k]!)
def OrderTo (l : List (List Int)) (k : Nat) : Prop := InOrder (l.take k)
theorem orderTo_iff {l : List (List Int)} {k : Nat} (hk : k ≤ l.length) : OrderTo l k ↔ ∀ i j, i < j → j < k → ¬ ahead (l[j]!) (l[i]!) := by
  unfold OrderTo InOrder
  rw [List.pairwise_iff_getElem]
  constructor
  · intro h i j hij hj
    have := h i j (by rw [List.length_take]; omega) (by rw [List.length_take]; omega) hij
    rw [List.getElem_take, List.getElem_take] at this
    rwa [getElem!_pos l i (by omega), getElem!_pos l j (by omega)]
  · intro h i j hi hj hij
    rw [List.length_take] at hi hj
    rw [List.getElem_take, List.getElem_take, ← getElem!_pos l i (by omega), ← getElem!_pos l j (by omega)]
    exact h i j hij (by omega)
theorem swap_len (l : List (List Int)) (k : Nat) : (swapAt l k).length = l.length := by simp [swapAt]
theorem swap_get {l : List (List Int)} {k p : Nat} (hk : 0 < k) (hl : k < l.length) : (swapAt l k)[p]! = if p = k - 1 then l[k]! else if p = k then l[k - 1]! else l[p]! := by
  unfold swapAt
  rw [getset (by rw [List.length_set]; omega), getset hl]
theorem swap_perm {l : List (List Int)} {k : Nat} (hk : 0 < k) (hl : k < l.length) : (swapAt l k).Perm l := by
  obtain ⟨j, rfl⟩ : ∃ j, k = j + 1 := ⟨k - 1, by omega⟩
  have e1 : l = l.take j ++ (l[j]! :: l[j + 1]! :: l.drop (j + 2)) := by
    rw [getElem!_pos l j (by omega), getElem!_pos l (j + 1) hl]
    conv => lhs; rw [← List.take_append_drop j l]
    rw [List.drop_eq_getElem_cons (show j < l.length by omega), List.drop_eq_getElem_cons hl]
  have e2 : swapAt l (j + 1) = l.take j ++ (l[j + 1]! :: l[j]! :: l.drop (j + 2)) := by
    have hlen : (l.take j).length = j := List.length_take_of_le (by omega)
    refine ext_get (by rw [swap_len]; simp; omega) fun p hp => ?_
    rw [swap_len] at hp
    rw [swap_get hk hl]
    have hp' : p < (l.take j ++ (l[j + 1]! :: l[j]! :: l.drop (j + 2))).length := by simp; omega
    rw [getElem!_pos (l.take j ++ (l[j + 1]! :: l[j]! :: l.drop (j + 2))) p hp']
    by_cases h1 : p < j
    · rw [if_neg (by omega), if_neg (by omega), List.getElem_append_left (by omega), List.getElem_take, getElem!_pos l p hp]
    · rw [List.getElem_append_right (by omega)]
      simp only [hlen]
      by_cases h2 : p = j
      · subst h2; simp
      · by_cases h3 : p = j + 1
        · subst h3; simp
        · rw [if_neg (by omega), if_neg (by omega)]
          obtain ⟨q, rfl⟩ : ∃ q, p = j + 2 + q := ⟨p - (j + 2), by omega⟩
          rw [getElem!_pos l _ hp]
          have : j + 2 + q - j = q + 1 + 1 := by omega
          simp only [this, List.getElem_cons_succ, List.getElem_drop]
  rw [e2]
  conv => rhs; rw [e1]
  exact List.Perm.append_left _ (List.Perm.swap ..)
def InsTo (l : List (List Int)) (i k : Nat) : Prop := ∀ a b, a < b → b ≤ i → b ≠ k → ¬ ahead (l[b]!) (l[a]!)
theorem InsTo.start {l : List (List Int)} {i : Nat} (h : ∀ a b, a < b → b < i → ¬ ahead (l[b]!) (l[a]!)) : InsTo l i i := fun a b hab hb hne => h a b hab (by omega)
theorem InsTo.down {l : List (List Int)} {i k n : Nat} (h : InsTo l i k) (hn : ∀ j, j < l.length → (l[j]!).length = n) (hk : 0 < k) (hki : k ≤ i) (hi : i < l.length) (h1 : ahead (l[k]!) (l[k - 1]!)) : InsTo (swapAt l k) i (k - 1) := by
  intro a b hab hb hne
  have hlk := hn k (by omega)
  have hlk1 := hn (k - 1) (by omega)
  rw [swap_get hk (by omega), swap_get hk (by omega), if_neg hne]
  by_cases hbk : b = k
  · subst hbk
    rw [if_pos rfl]
    by_cases ha : a = b - 1
    · rw [if_pos ha]
      intro h2
      exact ahead_irr _ (ahead_trans (by omega) h1 h2)
    · rw [if_neg ha, if_neg (by omega)]
      exact h a (b - 1) (by omega) (by omega) (by omega)
  · rw [if_neg hbk]
    by_cases ha : a = k - 1
    · rw [if_pos ha]; exact h k b (by omega) hb hbk
    · rw [if_neg ha]
      by_cases hak : a = k
      · rw [if_pos hak]; exact h (k - 1) b (by omega) hb hbk
      · rw [if_neg hak]; exact h a b hab hb hbk
theorem InsTo.stop {l : List (List Int)} {i k n : Nat} (h : InsTo l i k) (hn : ∀ j, j < l.length → (l[j]!).length = n) (hki : k ≤ i) (hi : i < l.length) (h1 : k = 0 ∨ ¬ ahead (l[k]!) (l[k - 1]!)) : ∀ a b, a < b → b < i + 1 → ¬ ahead (l[b]!) (l[a]!) := by
  intro a b hab hb
  by_cases hbk : b = k
  · subst hbk
    have h1 : ¬ ahead (l[b]!) (l[b - 1]!) := h1.resolve_left (by omega)
    by_cases ha : a = b - 1
    · subst ha; exact h1
    · intro h2
      have h3 := h a (b - 1) (by omega) (by omega) (by omega)
      have hla := hn a (by omega)
      have hlb := hn b (by omega)
      have hlb1 := hn (b - 1) (by omega)
      by_cases h4 : ahead (l[a]!) (l[b - 1]!)
      · exact h1 (ahead_trans (by omega) h2 h4)
      · have e := ahead_tri (by omega) h4 h3
        rw [e] at h2; exact h1 h2
  · exact h a b hab (by omega) hbk
end
end Go.Proofs.YtgjnaocffdhnbaaGreat
