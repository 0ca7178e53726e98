/- Walks, printed by program (wip/tools/gv.py): what each function comes to, for all arguments. -/
import Derived.Test.YtkmlihdacnfhdaaGreatA
import Derived.Test.YtkmlihdacnfhdaaGreatP0
namespace Go.Proofs.YtkmlihdacnfhdaaGreat
open Go.Proofs.YtkmlihdacnfhdaaGreat.Tot (tot)
open Go.RowKit
set_option linter.unusedVariables false
set_option linter.unusedSimpArgs false
set_option maxRecDepth 100000
set_option maxHeartbeats 4000000


theorem slice_form {α : Type} [qQ α] {w : World} {F : List Nat} {v : Value} {l : List α} (h : qQ.rep w F [v] l) : ∃ a c, v = .slice a l.length c := by
  obtain ⟨a, c, hc, _⟩ := h
  simp only [List.cons.injEq, and_true] at hc
  exact ⟨a, c, hc⟩

theorem one_of {α : Type} [qQ α] {w : World} {F : List Nat} {v : Value} {x : α} (h : qQ.rep w F [v] x) : v.oneCell' = true := qQ.one h v (List.mem_singleton.2 rfl)

theorem St.Qg {α : Type} [qQ α] {W0 w : World} {ps : List Prv} {Γ : List Fact} (H : St W0 w ps Γ) (i : Nat) {fr : Bool} {F : List Nat} {b o m c : Nat} {l : List (List α)} (hf : Γ[i]? = some (isF fr F (.slice (some ⟨b, o, none⟩) m c) l)) (iv : Int) (k : Nat) (hk : iv.toNat = k) (h0 : 0 ≤ iv) (h1 : iv < l.length) :
    ∃ (a' : Option Addr) (c' : Nat) (Fk : List Nat), St W0 w ps (isF fr Fk (.slice a' (l[k]!).length c') (l[k]!) :: atF b (o + iv.toNat * 1) [.slice a' (l[k]!).length c'] :: Γ) := by
  obtain ⟨cs, Fk, hc, hr, hsub⟩ := H.elem i hf iv h0 h1
  have hfr : fr = true → vw w Fk := fun e => ((H.get i hf).2 e).sub fun x hx => hsub x (List.mem_cons_of_mem _ hx)
  rw [hk] at hr
  obtain ⟨a', c', rfl, _⟩ := id hr
  exact ⟨a', c', Fk, (H.XP i hf (atF b (o + iv.toNat * 1) _) hc (fun x hx => hsub x (by simp only [atF, List.mem_singleton] at hx; subst hx; exact List.mem_cons_self ..))).XP (i + 1) hf (isF fr Fk _ _) ⟨hr, hfr⟩ (fun x hx => hsub x (List.mem_cons_of_mem _ hx))⟩

structure IntoD where
  qy : Int
  vz : List Int
  deriving DecidableEq
instance : Inhabited IntoD := ⟨⟨0, []⟩⟩
instance : Tot IntoD := ⟨fun x => tot x.vz⟩
theorem tot_IntoD (x : IntoD) : tot x = tot x.vz := rfl

instance : qQ IntoD where
  size := 2
  rep := fun w F cs x => ∃ (vBag : Value) (FBag : List Nat), cs = [.int .i64 x.qy, vBag] ∧ F = FBag ∧ qQ.rep w FBag [vBag] x.vz
  len := by rintro w F cs x ⟨vBag, FBag, rfl, _, hBag⟩; rfl
  one := by
    rintro w F cs x ⟨vBag, FBag, rfl, rfl, hBag⟩ u hu
    simp only [List.mem_cons, List.not_mem_nil, or_false] at hu
    rcases hu with rfl | rfl <;> first | rfl | exact one_of (by assumption)
  stay := by
    rintro w w' F cs x ⟨vBag, FBag, rfl, rfl, hBag⟩ hs
    exact ⟨_, _, rfl, rfl, qQ.stay hBag fun b hb => hs b (by simp [hb])⟩
  lt := by
    rintro w F cs x ⟨vBag, FBag, rfl, rfl, hBag⟩ b hb
    exact qQ.lt hBag b hb

theorem St.jJ {W0 w : World} {ps : List Prv} {Γ : List Fact} (H : St W0 w ps Γ) (i : Nat) {fr : Bool} {F : List Nat} {b o m c : Nat} {l : List IntoD} (hf : Γ[i]? = some (isF fr F (.slice (some ⟨b, o, none⟩) m c) l)) (iv : Int) (k : Nat) (hk : iv.toNat = k) (h0 : 0 ≤ iv) (h1 : iv < l.length) :
    ∃ (aBag : Option Addr) (cBag : Nat) (FBag : List Nat), St W0 w ps (isF fr FBag (.slice aBag (l[k]!).vz.length cBag) (l[k]!).vz :: atF b (o + iv.toNat * 2) [.int .i64 (l[k]!).qy, .slice aBag (l[k]!).vz.length cBag] :: Γ) := by
  obtain ⟨cs, Fk, hc, hr, hsub⟩ := H.elem i hf iv h0 h1
  have hfr : fr = true → vw w Fk := fun e => ((H.get i hf).2 e).sub fun x hx => hsub x (List.mem_cons_of_mem _ hx)
  rw [hk] at hr
  obtain ⟨vBag, FBag, rfl, hFF, hBag⟩ := hr
  obtain ⟨aBag, cBag, rfl⟩ := slice_form hBag
  exact ⟨_, _, _, ((H.XP i hf (atF b (o + iv.toNat * 2) [.int .i64 (l[k]!).qy, .slice aBag (l[k]!).vz.length cBag]) hc (fun x hx => hsub x (by simp only [atF, List.mem_singleton] at hx; subst hx; exact List.mem_cons_self ..))).XP (i + 1) hf (isF fr FBag _ (l[k]!).vz) ⟨hBag, fun e => (hfr e).sub (by rw [hFF]; intro x hx; simp [hx])⟩ (fun x hx => hsub x (List.mem_cons_of_mem _ (hFF.symm ▸ (by have hx : x ∈ FBag := hx; simp [hx])))))⟩

def New_IntoD (w0 w : World) (v : Value) (x : IntoD) : Prop :=
  ∃ (aBag : Option Addr) (cBag : Nat) (FBag : List Nat), v = .agg #[.int .i64 x.qy, .slice aBag x.vz.length cBag] ∧ qQ.rep w FBag [.slice aBag x.vz.length cBag] x.vz ∧ (∀ b ∈ (FBag), w0.heap.size ≤ b) ∧ (FBag).Nodup ∧ vw w (FBag)
theorem St.add_IntoD {W0 w w' : World} {ps : List Prv} {Γ : List Fact} (H : St W0 w ps Γ) (e : Ext w w') {v : Value} {x : IntoD} (h : New_IntoD w w' v x) :
    ∃ (aBag : Option Addr) (cBag : Nat) (FBag : List Nat), v = .agg #[.int .i64 x.qy, .slice aBag x.vz.length cBag] ∧ ((∀ b ∈ (FBag), w.heap.size ≤ b) ∧ (FBag).Nodup) ∧ St W0 w' ps (isF true FBag (.slice aBag x.vz.length cBag) x.vz :: Γ) := by
  obtain ⟨aBag, cBag, FBag, rfl, hBag, hF, hd, hfr⟩ := h
  refine ⟨_, _, _, rfl, ⟨hF, hd⟩, ?_⟩
  exact ((H.ext e).add (isF true FBag _ x.vz) ⟨hBag, fun _ => hfr.sub (by intro b hb; simp [hb])⟩ (fun b hb => ⟨qQ.lt hBag b hb, fun i hi => by have h1 := (yz H hi).2; have h2 := hF b (by have hb : b ∈ FBag := hb; simp [hb]); omega⟩))

theorem St.snoc_IntoD {W0 w : World} {ps : List Prv} {Γ : List Fact} (H : St W0 w ps Γ) (i : Nat) {fr : Bool} {F : List Nat} {xs : List Value} {l : List IntoD} (hf : Γ[i]? = some (jk fr F xs l)) (xCell : Int) (iBag : Nat) {GBag : List Nat} {vBag : Value} {xBag : List Int} (hBag : Γ[iBag]? = some (isF fr GBag vBag xBag)) :
    St W0 w ps (jk fr (F ++ (GBag)) (xs ++ [.int .i64 xCell, vBag]) (l ++ [⟨xCell, xBag⟩]) :: Γ) := by
  have hr : qQ.rep w (GBag) [.int .i64 xCell, vBag] (⟨xCell, xBag⟩ : IntoD) := ⟨vBag, GBag, rfl, rfl, (H.get iBag hBag).1⟩
  refine H.add _ ⟨QR (H.get i hf).1 (reps_one hr), fun e => ((H.get i hf).2 e).app (((H.get iBag hBag).2 e))⟩ fun b hb => ?_
  rcases List.mem_append.1 hb with h | h
  · exact (H.facts _ (List.mem_of_getElem? hf)).2 b h
  · exact (H.facts _ (List.mem_of_getElem? hBag)).2 b h

structure QB where
  qy : Int
  xZ : Int
  qV : List Int
  xh : List Int
  xk : List Int
  xm : List Int
  zg : List Int
  qB : List IntoD
  xO : Bool
  deriving DecidableEq
instance : Inhabited QB := ⟨⟨0, 0, [], [], [], [], [], [], false⟩⟩
instance : Tot QB := ⟨fun x => tot x.qV + tot x.xh + tot x.xk + tot x.xm + tot x.zg + tot x.qB⟩
theorem tot_RuleD (x : QB) : tot x = tot x.qV + tot x.xh + tot x.xk + tot x.xm + tot x.zg + tot x.qB := rfl

instance : qQ QB where
  size := 9
  rep := fun w F cs x => ∃ (vNeed vHave vLack vHere vOut vInto : Value) (Ve Vj Vf Vh FOut Vg : List Nat), cs = [.int .i64 x.qy, .int .i64 x.xZ, vNeed, vHave, vLack, vHere, vOut, vInto, .bool x.xO] ∧ F = Ve ++ Vj ++ Vf ++ Vh ++ FOut ++ Vg ∧ qQ.rep w Ve [vNeed] x.qV ∧ qQ.rep w Vj [vHave] x.xh ∧ qQ.rep w Vf [vLack] x.xk ∧ qQ.rep w Vh [vHere] x.xm ∧ qQ.rep w FOut [vOut] x.zg ∧ qQ.rep w Vg [vInto] x.qB
  len := by rintro w F cs x ⟨vNeed, vHave, vLack, vHere, vOut, vInto, Ve, Vj, Vf, Vh, FOut, Vg, rfl, _, hNeed, hHave, hLack, hHere, hOut, hInto⟩; rfl
  one := by
    rintro w F cs x ⟨vNeed, vHave, vLack, vHere, vOut, vInto, Ve, Vj, Vf, Vh, FOut, Vg, rfl, rfl, hNeed, hHave, hLack, hHere, hOut, hInto⟩ u hu
    simp only [List.mem_cons, List.not_mem_nil, or_false] at hu
    rcases hu with rfl | rfl | rfl | rfl | rfl | rfl | rfl | rfl | rfl <;> first | rfl | exact one_of (by assumption)
  stay := by
    rintro w w' F cs x ⟨vNeed, vHave, vLack, vHere, vOut, vInto, Ve, Vj, Vf, Vh, FOut, Vg, rfl, rfl, hNeed, hHave, hLack, hHere, hOut, hInto⟩ hs
    exact ⟨_, _, _, _, _, _, _, _, _, _, _, _, rfl, rfl, qQ.stay hNeed fun b hb => hs b (by simp [hb]), qQ.stay hHave fun b hb => hs b (by simp [hb]), qQ.stay hLack fun b hb => hs b (by simp [hb]), qQ.stay hHere fun b hb => hs b (by simp [hb]), qQ.stay hOut fun b hb => hs b (by simp [hb]), qQ.stay hInto fun b hb => hs b (by simp [hb])⟩
  lt := by
    rintro w F cs x ⟨vNeed, vHave, vLack, vHere, vOut, vInto, Ve, Vj, Vf, Vh, FOut, Vg, rfl, rfl, hNeed, hHave, hLack, hHere, hOut, hInto⟩ b hb
    simp only [List.mem_append] at hb
    rcases hb with (((((hb | hb) | hb) | hb) | hb) | hb)
    · exact qQ.lt hNeed b hb
    · exact qQ.lt hHave b hb
    · exact qQ.lt hLack b hb
    · exact qQ.lt hHere b hb
    · exact qQ.lt hOut b hb
    · exact qQ.lt hInto b hb

theorem St.yI {W0 w : World} {ps : List Prv} {Γ : List Fact} (H : St W0 w ps Γ) (i : Nat) {fr : Bool} {F : List Nat} {b o m c : Nat} {l : List QB} (hf : Γ[i]? = some (isF fr F (.slice (some ⟨b, o, none⟩) m c) l)) (iv : Int) (k : Nat) (hk : iv.toNat = k) (h0 : 0 ≤ iv) (h1 : iv < l.length) :
    ∃ (aNeed : Option Addr) (cNeed : Nat) (Ve : List Nat) (aHave : Option Addr) (cHave : Nat) (Vj : List Nat) (aLack : Option Addr) (cLack : Nat) (Vf : List Nat) (aHere : Option Addr) (cHere : Nat) (Vh : List Nat) (aOut : Option Addr) (cOut : Nat) (FOut : List Nat) (aInto : Option Addr) (cInto : Nat) (Vg : List Nat), St W0 w ps (isF fr Ve (.slice aNeed (l[k]!).qV.length cNeed) (l[k]!).qV :: isF fr Vj (.slice aHave (l[k]!).xh.length cHave) (l[k]!).xh :: isF fr Vf (.slice aLack (l[k]!).xk.length cLack) (l[k]!).xk :: isF fr Vh (.slice aHere (l[k]!).xm.length cHere) (l[k]!).xm :: isF fr FOut (.slice aOut (l[k]!).zg.length cOut) (l[k]!).zg :: isF fr Vg (.slice aInto (l[k]!).qB.length cInto) (l[k]!).qB :: atF b (o + iv.toNat * 9) [.int .i64 (l[k]!).qy, .int .i64 (l[k]!).xZ, .slice aNeed (l[k]!).qV.length cNeed, .slice aHave (l[k]!).xh.length cHave, .slice aLack (l[k]!).xk.length cLack, .slice aHere (l[k]!).xm.length cHere, .slice aOut (l[k]!).zg.length cOut, .slice aInto (l[k]!).qB.length cInto, .bool (l[k]!).xO] :: Γ) := by
  obtain ⟨cs, Fk, hc, hr, hsub⟩ := H.elem i hf iv h0 h1
  have hfr : fr = true → vw w Fk := fun e => ((H.get i hf).2 e).sub fun x hx => hsub x (List.mem_cons_of_mem _ hx)
  rw [hk] at hr
  obtain ⟨vNeed, vHave, vLack, vHere, vOut, vInto, Ve, Vj, Vf, Vh, FOut, Vg, rfl, hFF, hNeed, hHave, hLack, hHere, hOut, hInto⟩ := hr
  obtain ⟨aNeed, cNeed, rfl⟩ := slice_form hNeed
  obtain ⟨aHave, cHave, rfl⟩ := slice_form hHave
  obtain ⟨aLack, cLack, rfl⟩ := slice_form hLack
  obtain ⟨aHere, cHere, rfl⟩ := slice_form hHere
  obtain ⟨aOut, cOut, rfl⟩ := slice_form hOut
  obtain ⟨aInto, cInto, rfl⟩ := slice_form hInto
  exact ⟨_, _, _, _, _, _, _, _, _, _, _, _, _, _, _, _, _, _, (((((((H.XP i hf (atF b (o + iv.toNat * 9) [.int .i64 (l[k]!).qy, .int .i64 (l[k]!).xZ, .slice aNeed (l[k]!).qV.length cNeed, .slice aHave (l[k]!).xh.length cHave, .slice aLack (l[k]!).xk.length cLack, .slice aHere (l[k]!).xm.length cHere, .slice aOut (l[k]!).zg.length cOut, .slice aInto (l[k]!).qB.length cInto, .bool (l[k]!).xO]) hc (fun x hx => hsub x (by simp only [atF, List.mem_singleton] at hx; subst hx; exact List.mem_cons_self ..))).XP (i + 1) hf (isF fr Vg _ (l[k]!).qB) ⟨hInto, fun e => (hfr e).sub (by rw [hFF]; intro x hx; simp [hx])⟩ (fun x hx => hsub x (List.mem_cons_of_mem _ (hFF.symm ▸ (by have hx : x ∈ Vg := hx; simp [hx]))))).XP (i + 2) hf (isF fr FOut _ (l[k]!).zg) ⟨hOut, fun e => (hfr e).sub (by rw [hFF]; intro x hx; simp [hx])⟩ (fun x hx => hsub x (List.mem_cons_of_mem _ (hFF.symm ▸ (by have hx : x ∈ FOut := hx; simp [hx]))))).XP (i + 3) hf (isF fr Vh _ (l[k]!).xm) ⟨hHere, fun e => (hfr e).sub (by rw [hFF]; intro x hx; simp [hx])⟩ (fun x hx => hsub x (List.mem_cons_of_mem _ (hFF.symm ▸ (by have hx : x ∈ Vh := hx; simp [hx]))))).XP (i + 4) hf (isF fr Vf _ (l[k]!).xk) ⟨hLack, fun e => (hfr e).sub (by rw [hFF]; intro x hx; simp [hx])⟩ (fun x hx => hsub x (List.mem_cons_of_mem _ (hFF.symm ▸ (by have hx : x ∈ Vf := hx; simp [hx]))))).XP (i + 5) hf (isF fr Vj _ (l[k]!).xh) ⟨hHave, fun e => (hfr e).sub (by rw [hFF]; intro x hx; simp [hx])⟩ (fun x hx => hsub x (List.mem_cons_of_mem _ (hFF.symm ▸ (by have hx : x ∈ Vj := hx; simp [hx]))))).XP (i + 6) hf (isF fr Ve _ (l[k]!).qV) ⟨hNeed, fun e => (hfr e).sub (by rw [hFF]; intro x hx; simp [hx])⟩ (fun x hx => hsub x (List.mem_cons_of_mem _ (hFF.symm ▸ (by have hx : x ∈ Ve := hx; simp [hx])))))⟩

def New_RuleD (w0 w : World) (v : Value) (x : QB) : Prop :=
  ∃ (aNeed : Option Addr) (cNeed : Nat) (Ve : List Nat) (aHave : Option Addr) (cHave : Nat) (Vj : List Nat) (aLack : Option Addr) (cLack : Nat) (Vf : List Nat) (aHere : Option Addr) (cHere : Nat) (Vh : List Nat) (aOut : Option Addr) (cOut : Nat) (FOut : List Nat) (aInto : Option Addr) (cInto : Nat) (Vg : List Nat), v = .agg #[.int .i64 x.qy, .int .i64 x.xZ, .slice aNeed x.qV.length cNeed, .slice aHave x.xh.length cHave, .slice aLack x.xk.length cLack, .slice aHere x.xm.length cHere, .slice aOut x.zg.length cOut, .slice aInto x.qB.length cInto, .bool x.xO] ∧ qQ.rep w Ve [.slice aNeed x.qV.length cNeed] x.qV ∧ qQ.rep w Vj [.slice aHave x.xh.length cHave] x.xh ∧ qQ.rep w Vf [.slice aLack x.xk.length cLack] x.xk ∧ qQ.rep w Vh [.slice aHere x.xm.length cHere] x.xm ∧ qQ.rep w FOut [.slice aOut x.zg.length cOut] x.zg ∧ qQ.rep w Vg [.slice aInto x.qB.length cInto] x.qB ∧ (∀ b ∈ (Ve ++ Vj ++ Vf ++ Vh ++ FOut ++ Vg), w0.heap.size ≤ b) ∧ (Ve ++ Vj ++ Vf ++ Vh ++ FOut ++ Vg).Nodup ∧ vw w (Ve ++ Vj ++ Vf ++ Vh ++ FOut ++ Vg)
theorem St.add_RuleD {W0 w w' : World} {ps : List Prv} {Γ : List Fact} (H : St W0 w ps Γ) (e : Ext w w') {v : Value} {x : QB} (h : New_RuleD w w' v x) :
    ∃ (aNeed : Option Addr) (cNeed : Nat) (Ve : List Nat) (aHave : Option Addr) (cHave : Nat) (Vj : List Nat) (aLack : Option Addr) (cLack : Nat) (Vf : List Nat) (aHere : Option Addr) (cHere : Nat) (Vh : List Nat) (aOut : Option Addr) (cOut : Nat) (FOut : List Nat) (aInto : Option Addr) (cInto : Nat) (Vg : List Nat), v = .agg #[.int .i64 x.qy, .int .i64 x.xZ, .slice aNeed x.qV.length cNeed, .slice aHave x.xh.length cHave, .slice aLack x.xk.length cLack, .slice aHere x.xm.length cHere, .slice aOut x.zg.length cOut, .slice aInto x.qB.length cInto, .bool x.xO] ∧ ((∀ b ∈ (Ve ++ Vj ++ Vf ++ Vh ++ FOut ++ Vg), w.heap.size ≤ b) ∧ (Ve ++ Vj ++ Vf ++ Vh ++ FOut ++ Vg).Nodup) ∧ St W0 w' ps (isF true Ve (.slice aNeed x.qV.length cNeed) x.qV :: isF true Vj (.slice aHave x.xh.length cHave) x.xh :: isF true Vf (.slice aLack x.xk.length cLack) x.xk :: isF true Vh (.slice aHere x.xm.length cHere) x.xm :: isF true FOut (.slice aOut x.zg.length cOut) x.zg :: isF true Vg (.slice aInto x.qB.length cInto) x.qB :: Γ) := by
  obtain ⟨aNeed, cNeed, Ve, aHave, cHave, Vj, aLack, cLack, Vf, aHere, cHere, Vh, aOut, cOut, FOut, aInto, cInto, Vg, rfl, hNeed, hHave, hLack, hHere, hOut, hInto, hF, hd, hfr⟩ := h
  refine ⟨_, _, _, _, _, _, _, _, _, _, _, _, _, _, _, _, _, _, rfl, ⟨hF, hd⟩, ?_⟩
  exact (((((((H.ext e).add (isF true Vg _ x.qB) ⟨hInto, fun _ => hfr.sub (by intro b hb; simp [hb])⟩ (fun b hb => ⟨qQ.lt hInto b hb, fun i hi => by have h1 := (yz H hi).2; have h2 := hF b (by have hb : b ∈ Vg := hb; simp [hb]); omega⟩)).add (isF true FOut _ x.zg) ⟨hOut, fun _ => hfr.sub (by intro b hb; simp [hb])⟩ (fun b hb => ⟨qQ.lt hOut b hb, fun i hi => by have h1 := (yz H hi).2; have h2 := hF b (by have hb : b ∈ FOut := hb; simp [hb]); omega⟩)).add (isF true Vh _ x.xm) ⟨hHere, fun _ => hfr.sub (by intro b hb; simp [hb])⟩ (fun b hb => ⟨qQ.lt hHere b hb, fun i hi => by have h1 := (yz H hi).2; have h2 := hF b (by have hb : b ∈ Vh := hb; simp [hb]); omega⟩)).add (isF true Vf _ x.xk) ⟨hLack, fun _ => hfr.sub (by intro b hb; simp [hb])⟩ (fun b hb => ⟨qQ.lt hLack b hb, fun i hi => by have h1 := (yz H hi).2; have h2 := hF b (by have hb : b ∈ Vf := hb; simp [hb]); omega⟩)).add (isF true Vj _ x.xh) ⟨hHave, fun _ => hfr.sub (by intro b hb; simp [hb])⟩ (fun b hb => ⟨qQ.lt hHave b hb, fun i hi => by have h1 := (yz H hi).2; have h2 := hF b (by have hb : b ∈ Vj := hb; simp [hb]); omega⟩)).add (isF true Ve _ x.qV) ⟨hNeed, fun _ => hfr.sub (by intro b hb; simp [hb])⟩ (fun b hb => ⟨qQ.lt hNeed b hb, fun i hi => by have h1 := (yz H hi).2; have h2 := hF b (by have hb : b ∈ Ve := hb; simp [hb]); omega⟩))

theorem St.snoc_RuleD {W0 w : World} {ps : List Prv} {Γ : List Fact} (H : St W0 w ps Γ) (i : Nat) {fr : Bool} {F : List Nat} {xs : List Value} {l : List QB} (hf : Γ[i]? = some (jk fr F xs l)) (xCell : Int) (xRank : Int) (iNeed : Nat) {GNeed : List Nat} {vNeed : Value} {xNeed : List Int} (hNeed : Γ[iNeed]? = some (isF fr GNeed vNeed xNeed)) (iHave : Nat) {GHave : List Nat} {vHave : Value} {xHave : List Int} (hHave : Γ[iHave]? = some (isF fr GHave vHave xHave)) (iLack : Nat) {GLack : List Nat} {vLack : Value} {xLack : List Int} (hLack : Γ[iLack]? = some (isF fr GLack vLack xLack)) (iHere : Nat) {GHere : List Nat} {vHere : Value} {xHere : List Int} (hHere : Γ[iHere]? = some (isF fr GHere vHere xHere)) (iOut : Nat) {GOut : List Nat} {vOut : Value} {xOut : List Int} (hOut : Γ[iOut]? = some (isF fr GOut vOut xOut)) (iInto : Nat) {GInto : List Nat} {vInto : Value} {xInto : List IntoD} (hInto : Γ[iInto]? = some (isF fr GInto vInto xInto)) (xMelts : Bool) :
    St W0 w ps (jk fr (F ++ (GNeed ++ GHave ++ GLack ++ GHere ++ GOut ++ GInto)) (xs ++ [.int .i64 xCell, .int .i64 xRank, vNeed, vHave, vLack, vHere, vOut, vInto, .bool xMelts]) (l ++ [⟨xCell, xRank, xNeed, xHave, xLack, xHere, xOut, xInto, xMelts⟩]) :: Γ) := by
  have hr : qQ.rep w (GNeed ++ GHave ++ GLack ++ GHere ++ GOut ++ GInto) [.int .i64 xCell, .int .i64 xRank, vNeed, vHave, vLack, vHere, vOut, vInto, .bool xMelts] (⟨xCell, xRank, xNeed, xHave, xLack, xHere, xOut, xInto, xMelts⟩ : QB) := ⟨vNeed, vHave, vLack, vHere, vOut, vInto, GNeed, GHave, GLack, GHere, GOut, GInto, rfl, rfl, (H.get iNeed hNeed).1, (H.get iHave hHave).1, (H.get iLack hLack).1, (H.get iHere hHere).1, (H.get iOut hOut).1, (H.get iInto hInto).1⟩
  refine H.add _ ⟨QR (H.get i hf).1 (reps_one hr), fun e => ((H.get i hf).2 e).app ((((((((H.get iNeed hNeed).2 e).app ((H.get iHave hHave).2 e)).app ((H.get iLack hLack).2 e)).app ((H.get iHere hHere).2 e)).app ((H.get iOut hOut).2 e)).app ((H.get iInto hInto).2 e)))⟩ fun b hb => ?_
  rcases List.mem_append.1 hb with h | h
  · exact (H.facts _ (List.mem_of_getElem? hf)).2 b h
  · simp only [List.mem_append] at h
    rcases h with (((((h | h) | h) | h) | h) | h)
    · exact (H.facts _ (List.mem_of_getElem? hNeed)).2 b h
    · exact (H.facts _ (List.mem_of_getElem? hHave)).2 b h
    · exact (H.facts _ (List.mem_of_getElem? hLack)).2 b h
    · exact (H.facts _ (List.mem_of_getElem? hHere)).2 b h
    · exact (H.facts _ (List.mem_of_getElem? hOut)).2 b h
    · exact (H.facts _ (List.mem_of_getElem? hInto)).2 b h

structure qY where
  qH : Int
  qf : List Int
  qg : List QB
  deriving DecidableEq
instance : Inhabited qY := ⟨⟨0, [], []⟩⟩
instance : Tot qY := ⟨fun x => tot x.qf + tot x.qg⟩
theorem tot_SystemD (x : qY) : tot x = tot x.qf + tot x.qg := rfl

instance : qQ qY where
  size := 3
  rep := fun w F cs x => ∃ (vParents vRules : Value) (QJ FRules : List Nat), cs = [.int .i64 x.qH, vParents, vRules] ∧ F = QJ ++ FRules ∧ qQ.rep w QJ [vParents] x.qf ∧ qQ.rep w FRules [vRules] x.qg
  len := by rintro w F cs x ⟨vParents, vRules, QJ, FRules, rfl, _, hParents, hRules⟩; rfl
  one := by
    rintro w F cs x ⟨vParents, vRules, QJ, FRules, rfl, rfl, hParents, hRules⟩ u hu
    simp only [List.mem_cons, List.not_mem_nil, or_false] at hu
    rcases hu with rfl | rfl | rfl <;> first | rfl | exact one_of (by assumption)
  stay := by
    rintro w w' F cs x ⟨vParents, vRules, QJ, FRules, rfl, rfl, hParents, hRules⟩ hs
    exact ⟨_, _, _, _, rfl, rfl, qQ.stay hParents fun b hb => hs b (by simp [hb]), qQ.stay hRules fun b hb => hs b (by simp [hb])⟩
  lt := by
    rintro w F cs x ⟨vParents, vRules, QJ, FRules, rfl, rfl, hParents, hRules⟩ b hb
    simp only [List.mem_append] at hb
    rcases hb with (hb | hb)
    · exact qQ.lt hParents b hb
    · exact qQ.lt hRules b hb

def New_SystemD (w0 w : World) (v : Value) (x : qY) : Prop :=
  ∃ (aParents : Option Addr) (cParents : Nat) (QJ : List Nat) (aRules : Option Addr) (cRules : Nat) (FRules : List Nat), v = .agg #[.int .i64 x.qH, .slice aParents x.qf.length cParents, .slice aRules x.qg.length cRules] ∧ qQ.rep w QJ [.slice aParents x.qf.length cParents] x.qf ∧ qQ.rep w FRules [.slice aRules x.qg.length cRules] x.qg ∧ (∀ b ∈ (QJ ++ FRules), w0.heap.size ≤ b) ∧ (QJ ++ FRules).Nodup ∧ vw w (QJ ++ FRules)
theorem St.add_SystemD {W0 w w' : World} {ps : List Prv} {Γ : List Fact} (H : St W0 w ps Γ) (e : Ext w w') {v : Value} {x : qY} (h : New_SystemD w w' v x) :
    ∃ (aParents : Option Addr) (cParents : Nat) (QJ : List Nat) (aRules : Option Addr) (cRules : Nat) (FRules : List Nat), v = .agg #[.int .i64 x.qH, .slice aParents x.qf.length cParents, .slice aRules x.qg.length cRules] ∧ ((∀ b ∈ (QJ ++ FRules), w.heap.size ≤ b) ∧ (QJ ++ FRules).Nodup) ∧ St W0 w' ps (isF true QJ (.slice aParents x.qf.length cParents) x.qf :: isF true FRules (.slice aRules x.qg.length cRules) x.qg :: Γ) := by
  obtain ⟨aParents, cParents, QJ, aRules, cRules, FRules, rfl, hParents, hRules, hF, hd, hfr⟩ := h
  refine ⟨_, _, _, _, _, _, rfl, ⟨hF, hd⟩, ?_⟩
  exact (((H.ext e).add (isF true FRules _ x.qg) ⟨hRules, fun _ => hfr.sub (by intro b hb; simp [hb])⟩ (fun b hb => ⟨qQ.lt hRules b hb, fun i hi => by have h1 := (yz H hi).2; have h2 := hF b (by have hb : b ∈ FRules := hb; simp [hb]); omega⟩)).add (isF true QJ _ x.qf) ⟨hParents, fun _ => hfr.sub (by intro b hb; simp [hb])⟩ (fun b hb => ⟨qQ.lt hParents b hb, fun i hi => by have h1 := (yz H hi).2; have h2 := hF b (by have hb : b ∈ QJ := hb; simp [hb]); omega⟩))

structure qU where
  qh : List Bool
  qo : List (List Int)
  ql : List Int
  deriving DecidableEq
instance : Inhabited qU := ⟨⟨[], [], []⟩⟩
instance : Tot qU := ⟨fun x => tot x.qh + tot x.qo + tot x.ql⟩
theorem tot_StateD (x : qU) : tot x = tot x.qh + tot x.qo + tot x.ql := rfl

instance : qQ qU where
  size := 3
  rep := fun w F cs x => ∃ (vAlive vBags vAround : Value) (FAlive FBags Xj : List Nat), cs = [vAlive, vBags, vAround] ∧ F = FAlive ++ FBags ++ Xj ∧ qQ.rep w FAlive [vAlive] x.qh ∧ qQ.rep w FBags [vBags] x.qo ∧ qQ.rep w Xj [vAround] x.ql
  len := by rintro w F cs x ⟨vAlive, vBags, vAround, FAlive, FBags, Xj, rfl, _, hAlive, hBags, hAround⟩; rfl
  one := by
    rintro w F cs x ⟨vAlive, vBags, vAround, FAlive, FBags, Xj, rfl, rfl, hAlive, hBags, hAround⟩ u hu
    simp only [List.mem_cons, List.not_mem_nil, or_false] at hu
    rcases hu with rfl | rfl | rfl <;> first | rfl | exact one_of (by assumption)
  stay := by
    rintro w w' F cs x ⟨vAlive, vBags, vAround, FAlive, FBags, Xj, rfl, rfl, hAlive, hBags, hAround⟩ hs
    exact ⟨_, _, _, _, _, _, rfl, rfl, qQ.stay hAlive fun b hb => hs b (by simp [hb]), qQ.stay hBags fun b hb => hs b (by simp [hb]), qQ.stay hAround fun b hb => hs b (by simp [hb])⟩
  lt := by
    rintro w F cs x ⟨vAlive, vBags, vAround, FAlive, FBags, Xj, rfl, rfl, hAlive, hBags, hAround⟩ b hb
    simp only [List.mem_append] at hb
    rcases hb with ((hb | hb) | hb)
    · exact qQ.lt hAlive b hb
    · exact qQ.lt hBags b hb
    · exact qQ.lt hAround b hb

def New_StateD (w0 w : World) (v : Value) (x : qU) : Prop :=
  ∃ (aAlive : Option Addr) (cAlive : Nat) (FAlive : List Nat) (aBags : Option Addr) (cBags : Nat) (FBags : List Nat) (aAround : Option Addr) (cAround : Nat) (Xj : List Nat), v = .agg #[.slice aAlive x.qh.length cAlive, .slice aBags x.qo.length cBags, .slice aAround x.ql.length cAround] ∧ qQ.rep w FAlive [.slice aAlive x.qh.length cAlive] x.qh ∧ qQ.rep w FBags [.slice aBags x.qo.length cBags] x.qo ∧ qQ.rep w Xj [.slice aAround x.ql.length cAround] x.ql ∧ (∀ b ∈ (FAlive ++ FBags ++ Xj), w0.heap.size ≤ b) ∧ (FAlive ++ FBags ++ Xj).Nodup ∧ vw w (FAlive ++ FBags ++ Xj)
theorem St.Va {W0 w w' : World} {ps : List Prv} {Γ : List Fact} (H : St W0 w ps Γ) (e : Ext w w') {v : Value} {x : qU} (h : New_StateD w w' v x) :
    ∃ (aAlive : Option Addr) (cAlive : Nat) (FAlive : List Nat) (aBags : Option Addr) (cBags : Nat) (FBags : List Nat) (aAround : Option Addr) (cAround : Nat) (Xj : List Nat), v = .agg #[.slice aAlive x.qh.length cAlive, .slice aBags x.qo.length cBags, .slice aAround x.ql.length cAround] ∧ ((∀ b ∈ (FAlive ++ FBags ++ Xj), w.heap.size ≤ b) ∧ (FAlive ++ FBags ++ Xj).Nodup) ∧ St W0 w' ps (isF true FAlive (.slice aAlive x.qh.length cAlive) x.qh :: isF true FBags (.slice aBags x.qo.length cBags) x.qo :: isF true Xj (.slice aAround x.ql.length cAround) x.ql :: Γ) := by
  obtain ⟨aAlive, cAlive, FAlive, aBags, cBags, FBags, aAround, cAround, Xj, rfl, hAlive, hBags, hAround, hF, hd, hfr⟩ := h
  refine ⟨_, _, _, _, _, _, _, _, _, rfl, ⟨hF, hd⟩, ?_⟩
  exact ((((H.ext e).add (isF true Xj _ x.ql) ⟨hAround, fun _ => hfr.sub (by intro b hb; simp [hb])⟩ (fun b hb => ⟨qQ.lt hAround b hb, fun i hi => by have h1 := (yz H hi).2; have h2 := hF b (by have hb : b ∈ Xj := hb; simp [hb]); omega⟩)).add (isF true FBags _ x.qo) ⟨hBags, fun _ => hfr.sub (by intro b hb; simp [hb])⟩ (fun b hb => ⟨qQ.lt hBags b hb, fun i hi => by have h1 := (yz H hi).2; have h2 := hF b (by have hb : b ∈ FBags := hb; simp [hb]); omega⟩)).add (isF true FAlive _ x.qh) ⟨hAlive, fun _ => hfr.sub (by intro b hb; simp [hb])⟩ (fun b hb => ⟨qQ.lt hAlive b hb, fun i hi => by have h1 := (yz H hi).2; have h2 := hF b (by have hb : b ∈ FAlive := hb; simp [hb]); omega⟩))

end Go.Proofs.YtkmlihdacnfhdaaGreat
