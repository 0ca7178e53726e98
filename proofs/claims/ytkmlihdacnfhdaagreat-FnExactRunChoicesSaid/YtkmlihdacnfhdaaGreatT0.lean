/- Walks, printed by program (wip/tools/gv.py): what each function comes to, for all arguments. -/
import Derived.Test.YtkmlihdacnfhdaaGreatA
import Derived.Test.YtkmlihdacnfhdaaGreatP0
namespace Go.Proofs.YtkmlihdacnfhdaaGreat
open Go.Proofs.YtkmlihdacnfhdaaGreat.Tot (tot)
open Go.RowKit
set_option linter.unusedVariables false
set_option linter.unusedSimpArgs false
set_option maxRecDepth 100000
set_option maxHeartbeats 4000000


theorem slice_form {α : Type} [qV α] {w : World} {F : List Nat} {v : Value} {l : List α} (h : qV.rep w F [v] l) : ∃ a c, v = .slice a l.length c := by
  obtain ⟨a, c, hc, _⟩ := h
  simp only [List.cons.injEq, and_true] at hc
  exact ⟨a, c, hc⟩

theorem one_of {α : Type} [qV α] {w : World} {F : List Nat} {v : Value} {x : α} (h : qV.rep w F [v] x) : v.oneCell' = true := qV.one h v (List.mem_singleton.2 rfl)

theorem St.yH {α : Type} [qV α] {W0 w : World} {ps : List Prv} {Γ : List Fact} (H : St W0 w ps Γ) (i : Nat) {fr : Bool} {F : List Nat} {b o m c : Nat} {l : List (List α)} (hf : Γ[i]? = some (isF fr F (.slice (some ⟨b, o, none⟩) m c) l)) (iv : Int) (k : Nat) (hk : iv.toNat = k) (h0 : 0 ≤ iv) (h1 : iv < l.length) :
    ∃ (a' : Option Addr) (c' : Nat) (Fk : List Nat), St W0 w ps (isF fr Fk (.slice a' (l[k]!).length c') (l[k]!) :: atF b (o + iv.toNat * 1) [.slice a' (l[k]!).length c'] :: Γ) := by
  obtain ⟨cs, Fk, hc, hr, hsub⟩ := H.elem i hf iv h0 h1
  have hfr : fr = true → vG w Fk := fun e => ((H.get i hf).2 e).sub fun x hx => hsub x (List.mem_cons_of_mem _ hx)
  rw [hk] at hr
  obtain ⟨a', c', rfl, _⟩ := id hr
  exact ⟨a', c', Fk, (H.Ve i hf (atF b (o + iv.toNat * 1) _) hc (fun x hx => hsub x (by simp only [atF, List.mem_singleton] at hx; subst hx; exact List.mem_cons_self ..))).Ve (i + 1) hf (isF fr Fk _ _) ⟨hr, hfr⟩ (fun x hx => hsub x (List.mem_cons_of_mem _ hx))⟩

structure IntoD where
  qy : Int
  vH : List Int
  deriving DecidableEq
instance : Inhabited IntoD := ⟨⟨0, []⟩⟩
instance : Tot IntoD := ⟨fun x => tot x.vH⟩
theorem tot_IntoD (x : IntoD) : tot x = tot x.vH := rfl

instance : qV IntoD where
  size := 2
  rep := fun w F cs x => ∃ (vBag : Value) (FBag : List Nat), cs = [.int .i64 x.qy, vBag] ∧ F = FBag ∧ qV.rep w FBag [vBag] x.vH
  len := by rintro w F cs x ⟨vBag, FBag, rfl, _, hBag⟩; rfl
  one := by
    rintro w F cs x ⟨vBag, FBag, rfl, rfl, hBag⟩ u hu
    simp only [List.mem_cons, List.not_mem_nil, or_false] at hu
    rcases hu with rfl | rfl <;> first | rfl | exact one_of (by assumption)
  stay := by
    rintro w w' F cs x ⟨vBag, FBag, rfl, rfl, hBag⟩ hs
    exact ⟨_, _, rfl, rfl, qV.stay hBag fun b hb => hs b (by simp [hb])⟩
  lt := by
    rintro w F cs x ⟨vBag, FBag, rfl, rfl, hBag⟩ b hb
    exact qV.lt hBag b hb

theorem St.jT {W0 w : World} {ps : List Prv} {Γ : List Fact} (H : St W0 w ps Γ) (i : Nat) {fr : Bool} {F : List Nat} {b o m c : Nat} {l : List IntoD} (hf : Γ[i]? = some (isF fr F (.slice (some ⟨b, o, none⟩) m c) l)) (iv : Int) (k : Nat) (hk : iv.toNat = k) (h0 : 0 ≤ iv) (h1 : iv < l.length) :
    ∃ (aBag : Option Addr) (cBag : Nat) (FBag : List Nat), St W0 w ps (isF fr FBag (.slice aBag (l[k]!).vH.length cBag) (l[k]!).vH :: atF b (o + iv.toNat * 2) [.int .i64 (l[k]!).qy, .slice aBag (l[k]!).vH.length cBag] :: Γ) := by
  obtain ⟨cs, Fk, hc, hr, hsub⟩ := H.elem i hf iv h0 h1
  have hfr : fr = true → vG w Fk := fun e => ((H.get i hf).2 e).sub fun x hx => hsub x (List.mem_cons_of_mem _ hx)
  rw [hk] at hr
  obtain ⟨vBag, FBag, rfl, hFF, hBag⟩ := hr
  obtain ⟨aBag, cBag, rfl⟩ := slice_form hBag
  exact ⟨_, _, _, ((H.Ve i hf (atF b (o + iv.toNat * 2) [.int .i64 (l[k]!).qy, .slice aBag (l[k]!).vH.length cBag]) hc (fun x hx => hsub x (by simp only [atF, List.mem_singleton] at hx; subst hx; exact List.mem_cons_self ..))).Ve (i + 1) hf (isF fr FBag _ (l[k]!).vH) ⟨hBag, fun e => (hfr e).sub (by rw [hFF]; intro x hx; simp [hx])⟩ (fun x hx => hsub x (List.mem_cons_of_mem _ (hFF.symm ▸ (by have hx : x ∈ FBag := hx; simp [hx])))))⟩

def New_IntoD (w0 w : World) (v : Value) (x : IntoD) : Prop :=
  ∃ (aBag : Option Addr) (cBag : Nat) (FBag : List Nat), v = .agg #[.int .i64 x.qy, .slice aBag x.vH.length cBag] ∧ qV.rep w FBag [.slice aBag x.vH.length cBag] x.vH ∧ (∀ b ∈ (FBag), w0.heap.size ≤ b) ∧ (FBag).Nodup ∧ vG w (FBag)
theorem St.add_IntoD {W0 w w' : World} {ps : List Prv} {Γ : List Fact} (H : St W0 w ps Γ) (e : Ext w w') {v : Value} {x : IntoD} (h : New_IntoD w w' v x) :
    ∃ (aBag : Option Addr) (cBag : Nat) (FBag : List Nat), v = .agg #[.int .i64 x.qy, .slice aBag x.vH.length cBag] ∧ ((∀ b ∈ (FBag), w.heap.size ≤ b) ∧ (FBag).Nodup) ∧ St W0 w' ps (isF true FBag (.slice aBag x.vH.length cBag) x.vH :: Γ) := by
  obtain ⟨aBag, cBag, FBag, rfl, hBag, hF, hd, hfr⟩ := h
  refine ⟨_, _, _, rfl, ⟨hF, hd⟩, ?_⟩
  exact ((H.ext e).add (isF true FBag _ x.vH) ⟨hBag, fun _ => hfr.sub (by intro b hb; simp [hb])⟩ (fun b hb => ⟨qV.lt hBag b hb, fun i hi => by have h1 := (yC H hi).2; have h2 := hF b (by have hb : b ∈ FBag := hb; simp [hb]); omega⟩))

theorem St.snoc_IntoD {W0 w : World} {ps : List Prv} {Γ : List Fact} (H : St W0 w ps Γ) (i : Nat) {fr : Bool} {F : List Nat} {xs : List Value} {l : List IntoD} (hf : Γ[i]? = some (vX fr F xs l)) (xCell : Int) (iBag : Nat) {GBag : List Nat} {vBag : Value} {xBag : List Int} (hBag : Γ[iBag]? = some (isF fr GBag vBag xBag)) :
    St W0 w ps (vX fr (F ++ (GBag)) (xs ++ [.int .i64 xCell, vBag]) (l ++ [⟨xCell, xBag⟩]) :: Γ) := by
  have hr : qV.rep w (GBag) [.int .i64 xCell, vBag] (⟨xCell, xBag⟩ : IntoD) := ⟨vBag, GBag, rfl, rfl, (H.get iBag hBag).1⟩
  refine H.add _ ⟨Q3 (H.get i hf).1 (reps_one hr), fun e => ((H.get i hf).2 e).app (((H.get iBag hBag).2 e))⟩ fun b hb => ?_
  rcases List.mem_append.1 hb with h | h
  · exact (H.facts _ (List.mem_of_getElem? hf)).2 b h
  · exact (H.facts _ (List.mem_of_getElem? hBag)).2 b h

structure QG where
  qy : Int
  zh : Int
  qR : List Int
  xh : List Int
  xm : List Int
  xB : List Int
  zk : List Int
  qC : List IntoD
  xQ : Bool
  deriving DecidableEq
instance : Inhabited QG := ⟨⟨0, 0, [], [], [], [], [], [], false⟩⟩
instance : Tot QG := ⟨fun x => tot x.qR + tot x.xh + tot x.xm + tot x.xB + tot x.zk + tot x.qC⟩
theorem tot_RuleD (x : QG) : tot x = tot x.qR + tot x.xh + tot x.xm + tot x.xB + tot x.zk + tot x.qC := rfl

instance : qV QG where
  size := 9
  rep := fun w F cs x => ∃ (vNeed vHave vLack vHere vOut vInto : Value) (VF VJ VG VI FOut VH : List Nat), cs = [.int .i64 x.qy, .int .i64 x.zh, vNeed, vHave, vLack, vHere, vOut, vInto, .bool x.xQ] ∧ F = VF ++ VJ ++ VG ++ VI ++ FOut ++ VH ∧ qV.rep w VF [vNeed] x.qR ∧ qV.rep w VJ [vHave] x.xh ∧ qV.rep w VG [vLack] x.xm ∧ qV.rep w VI [vHere] x.xB ∧ qV.rep w FOut [vOut] x.zk ∧ qV.rep w VH [vInto] x.qC
  len := by rintro w F cs x ⟨vNeed, vHave, vLack, vHere, vOut, vInto, VF, VJ, VG, VI, FOut, VH, rfl, _, hNeed, hHave, hLack, hHere, hOut, hInto⟩; rfl
  one := by
    rintro w F cs x ⟨vNeed, vHave, vLack, vHere, vOut, vInto, VF, VJ, VG, VI, FOut, VH, rfl, rfl, hNeed, hHave, hLack, hHere, hOut, hInto⟩ u hu
    simp only [List.mem_cons, List.not_mem_nil, or_false] at hu
    rcases hu with rfl | rfl | rfl | rfl | rfl | rfl | rfl | rfl | rfl <;> first | rfl | exact one_of (by assumption)
  stay := by
    rintro w w' F cs x ⟨vNeed, vHave, vLack, vHere, vOut, vInto, VF, VJ, VG, VI, FOut, VH, rfl, rfl, hNeed, hHave, hLack, hHere, hOut, hInto⟩ hs
    exact ⟨_, _, _, _, _, _, _, _, _, _, _, _, rfl, rfl, qV.stay hNeed fun b hb => hs b (by simp [hb]), qV.stay hHave fun b hb => hs b (by simp [hb]), qV.stay hLack fun b hb => hs b (by simp [hb]), qV.stay hHere fun b hb => hs b (by simp [hb]), qV.stay hOut fun b hb => hs b (by simp [hb]), qV.stay hInto fun b hb => hs b (by simp [hb])⟩
  lt := by
    rintro w F cs x ⟨vNeed, vHave, vLack, vHere, vOut, vInto, VF, VJ, VG, VI, FOut, VH, rfl, rfl, hNeed, hHave, hLack, hHere, hOut, hInto⟩ b hb
    simp only [List.mem_append] at hb
    rcases hb with (((((hb | hb) | hb) | hb) | hb) | hb)
    · exact qV.lt hNeed b hb
    · exact qV.lt hHave b hb
    · exact qV.lt hLack b hb
    · exact qV.lt hHere b hb
    · exact qV.lt hOut b hb
    · exact qV.lt hInto b hb

theorem St.yB {W0 w : World} {ps : List Prv} {Γ : List Fact} (H : St W0 w ps Γ) (i : Nat) {fr : Bool} {F : List Nat} {b o m c : Nat} {l : List QG} (hf : Γ[i]? = some (isF fr F (.slice (some ⟨b, o, none⟩) m c) l)) (iv : Int) (k : Nat) (hk : iv.toNat = k) (h0 : 0 ≤ iv) (h1 : iv < l.length) :
    ∃ (aNeed : Option Addr) (cNeed : Nat) (VF : List Nat) (aHave : Option Addr) (cHave : Nat) (VJ : List Nat) (aLack : Option Addr) (cLack : Nat) (VG : List Nat) (aHere : Option Addr) (cHere : Nat) (VI : List Nat) (aOut : Option Addr) (cOut : Nat) (FOut : List Nat) (aInto : Option Addr) (cInto : Nat) (VH : List Nat), St W0 w ps (isF fr VF (.slice aNeed (l[k]!).qR.length cNeed) (l[k]!).qR :: isF fr VJ (.slice aHave (l[k]!).xh.length cHave) (l[k]!).xh :: isF fr VG (.slice aLack (l[k]!).xm.length cLack) (l[k]!).xm :: isF fr VI (.slice aHere (l[k]!).xB.length cHere) (l[k]!).xB :: isF fr FOut (.slice aOut (l[k]!).zk.length cOut) (l[k]!).zk :: isF fr VH (.slice aInto (l[k]!).qC.length cInto) (l[k]!).qC :: atF b (o + iv.toNat * 9) [.int .i64 (l[k]!).qy, .int .i64 (l[k]!).zh, .slice aNeed (l[k]!).qR.length cNeed, .slice aHave (l[k]!).xh.length cHave, .slice aLack (l[k]!).xm.length cLack, .slice aHere (l[k]!).xB.length cHere, .slice aOut (l[k]!).zk.length cOut, .slice aInto (l[k]!).qC.length cInto, .bool (l[k]!).xQ] :: Γ) := by
  obtain ⟨cs, Fk, hc, hr, hsub⟩ := H.elem i hf iv h0 h1
  have hfr : fr = true → vG w Fk := fun e => ((H.get i hf).2 e).sub fun x hx => hsub x (List.mem_cons_of_mem _ hx)
  rw [hk] at hr
  obtain ⟨vNeed, vHave, vLack, vHere, vOut, vInto, VF, VJ, VG, VI, FOut, VH, rfl, hFF, hNeed, hHave, hLack, hHere, hOut, hInto⟩ := hr
  obtain ⟨aNeed, cNeed, rfl⟩ := slice_form hNeed
  obtain ⟨aHave, cHave, rfl⟩ := slice_form hHave
  obtain ⟨aLack, cLack, rfl⟩ := slice_form hLack
  obtain ⟨aHere, cHere, rfl⟩ := slice_form hHere
  obtain ⟨aOut, cOut, rfl⟩ := slice_form hOut
  obtain ⟨aInto, cInto, rfl⟩ := slice_form hInto
  exact ⟨_, _, _, _, _, _, _, _, _, _, _, _, _, _, _, _, _, _, (((((((H.Ve i hf (atF b (o + iv.toNat * 9) [.int .i64 (l[k]!).qy, .int .i64 (l[k]!).zh, .slice aNeed (l[k]!).qR.length cNeed, .slice aHave (l[k]!).xh.length cHave, .slice aLack (l[k]!).xm.length cLack, .slice aHere (l[k]!).xB.length cHere, .slice aOut (l[k]!).zk.length cOut, .slice aInto (l[k]!).qC.length cInto, .bool (l[k]!).xQ]) hc (fun x hx => hsub x (by simp only [atF, List.mem_singleton] at hx; subst hx; exact List.mem_cons_self ..))).Ve (i + 1) hf (isF fr VH _ (l[k]!).qC) ⟨hInto, fun e => (hfr e).sub (by rw [hFF]; intro x hx; simp [hx])⟩ (fun x hx => hsub x (List.mem_cons_of_mem _ (hFF.symm ▸ (by have hx : x ∈ VH := hx; simp [hx]))))).Ve (i + 2) hf (isF fr FOut _ (l[k]!).zk) ⟨hOut, fun e => (hfr e).sub (by rw [hFF]; intro x hx; simp [hx])⟩ (fun x hx => hsub x (List.mem_cons_of_mem _ (hFF.symm ▸ (by have hx : x ∈ FOut := hx; simp [hx]))))).Ve (i + 3) hf (isF fr VI _ (l[k]!).xB) ⟨hHere, fun e => (hfr e).sub (by rw [hFF]; intro x hx; simp [hx])⟩ (fun x hx => hsub x (List.mem_cons_of_mem _ (hFF.symm ▸ (by have hx : x ∈ VI := hx; simp [hx]))))).Ve (i + 4) hf (isF fr VG _ (l[k]!).xm) ⟨hLack, fun e => (hfr e).sub (by rw [hFF]; intro x hx; simp [hx])⟩ (fun x hx => hsub x (List.mem_cons_of_mem _ (hFF.symm ▸ (by have hx : x ∈ VG := hx; simp [hx]))))).Ve (i + 5) hf (isF fr VJ _ (l[k]!).xh) ⟨hHave, fun e => (hfr e).sub (by rw [hFF]; intro x hx; simp [hx])⟩ (fun x hx => hsub x (List.mem_cons_of_mem _ (hFF.symm ▸ (by have hx : x ∈ VJ := hx; simp [hx]))))).Ve (i + 6) hf (isF fr VF _ (l[k]!).qR) ⟨hNeed, fun e => (hfr e).sub (by rw [hFF]; intro x hx; simp [hx])⟩ (fun x hx => hsub x (List.mem_cons_of_mem _ (hFF.symm ▸ (by have hx : x ∈ VF := hx; simp [hx])))))⟩

def New_RuleD (w0 w : World) (v : Value) (x : QG) : Prop :=
  ∃ (aNeed : Option Addr) (cNeed : Nat) (VF : List Nat) (aHave : Option Addr) (cHave : Nat) (VJ : List Nat) (aLack : Option Addr) (cLack : Nat) (VG : List Nat) (aHere : Option Addr) (cHere : Nat) (VI : List Nat) (aOut : Option Addr) (cOut : Nat) (FOut : List Nat) (aInto : Option Addr) (cInto : Nat) (VH : List Nat), v = .agg #[.int .i64 x.qy, .int .i64 x.zh, .slice aNeed x.qR.length cNeed, .slice aHave x.xh.length cHave, .slice aLack x.xm.length cLack, .slice aHere x.xB.length cHere, .slice aOut x.zk.length cOut, .slice aInto x.qC.length cInto, .bool x.xQ] ∧ qV.rep w VF [.slice aNeed x.qR.length cNeed] x.qR ∧ qV.rep w VJ [.slice aHave x.xh.length cHave] x.xh ∧ qV.rep w VG [.slice aLack x.xm.length cLack] x.xm ∧ qV.rep w VI [.slice aHere x.xB.length cHere] x.xB ∧ qV.rep w FOut [.slice aOut x.zk.length cOut] x.zk ∧ qV.rep w VH [.slice aInto x.qC.length cInto] x.qC ∧ (∀ b ∈ (VF ++ VJ ++ VG ++ VI ++ FOut ++ VH), w0.heap.size ≤ b) ∧ (VF ++ VJ ++ VG ++ VI ++ FOut ++ VH).Nodup ∧ vG w (VF ++ VJ ++ VG ++ VI ++ FOut ++ VH)
theorem St.add_RuleD {W0 w w' : World} {ps : List Prv} {Γ : List Fact} (H : St W0 w ps Γ) (e : Ext w w') {v : Value} {x : QG} (h : New_RuleD w w' v x) :
    ∃ (aNeed : Option Addr) (cNeed : Nat) (VF : List Nat) (aHave : Option Addr) (cHave : Nat) (VJ : List Nat) (aLack : Option Addr) (cLack : Nat) (VG : List Nat) (aHere : Option Addr) (cHere : Nat) (VI : List Nat) (aOut : Option Addr) (cOut : Nat) (FOut : List Nat) (aInto : Option Addr) (cInto : Nat) (VH : List Nat), v = .agg #[.int .i64 x.qy, .int .i64 x.zh, .slice aNeed x.qR.length cNeed, .slice aHave x.xh.length cHave, .slice aLack x.xm.length cLack, .slice aHere x.xB.length cHere, .slice aOut x.zk.length cOut, .slice aInto x.qC.length cInto, .bool x.xQ] ∧ ((∀ b ∈ (VF ++ VJ ++ VG ++ VI ++ FOut ++ VH), w.heap.size ≤ b) ∧ (VF ++ VJ ++ VG ++ VI ++ FOut ++ VH).Nodup) ∧ St W0 w' ps (isF true VF (.slice aNeed x.qR.length cNeed) x.qR :: isF true VJ (.slice aHave x.xh.length cHave) x.xh :: isF true VG (.slice aLack x.xm.length cLack) x.xm :: isF true VI (.slice aHere x.xB.length cHere) x.xB :: isF true FOut (.slice aOut x.zk.length cOut) x.zk :: isF true VH (.slice aInto x.qC.length cInto) x.qC :: Γ) := by
  obtain ⟨aNeed, cNeed, VF, aHave, cHave, VJ, aLack, cLack, VG, aHere, cHere, VI, aOut, cOut, FOut, aInto, cInto, VH, rfl, hNeed, hHave, hLack, hHere, hOut, hInto, hF, hd, hfr⟩ := h
  refine ⟨_, _, _, _, _, _, _, _, _, _, _, _, _, _, _, _, _, _, rfl, ⟨hF, hd⟩, ?_⟩
  exact (((((((H.ext e).add (isF true VH _ x.qC) ⟨hInto, fun _ => hfr.sub (by intro b hb; simp [hb])⟩ (fun b hb => ⟨qV.lt hInto b hb, fun i hi => by have h1 := (yC H hi).2; have h2 := hF b (by have hb : b ∈ VH := hb; simp [hb]); omega⟩)).add (isF true FOut _ x.zk) ⟨hOut, fun _ => hfr.sub (by intro b hb; simp [hb])⟩ (fun b hb => ⟨qV.lt hOut b hb, fun i hi => by have h1 := (yC H hi).2; have h2 := hF b (by have hb : b ∈ FOut := hb; simp [hb]); omega⟩)).add (isF true VI _ x.xB) ⟨hHere, fun _ => hfr.sub (by intro b hb; simp [hb])⟩ (fun b hb => ⟨qV.lt hHere b hb, fun i hi => by have h1 := (yC H hi).2; have h2 := hF b (by have hb : b ∈ VI := hb; simp [hb]); omega⟩)).add (isF true VG _ x.xm) ⟨hLack, fun _ => hfr.sub (by intro b hb; simp [hb])⟩ (fun b hb => ⟨qV.lt hLack b hb, fun i hi => by have h1 := (yC H hi).2; have h2 := hF b (by have hb : b ∈ VG := hb; simp [hb]); omega⟩)).add (isF true VJ _ x.xh) ⟨hHave, fun _ => hfr.sub (by intro b hb; simp [hb])⟩ (fun b hb => ⟨qV.lt hHave b hb, fun i hi => by have h1 := (yC H hi).2; have h2 := hF b (by have hb : b ∈ VJ := hb; simp [hb]); omega⟩)).add (isF true VF _ x.qR) ⟨hNeed, fun _ => hfr.sub (by intro b hb; simp [hb])⟩ (fun b hb => ⟨qV.lt hNeed b hb, fun i hi => by have h1 := (yC H hi).2; have h2 := hF b (by have hb : b ∈ VF := hb; simp [hb]); omega⟩))

theorem St.snoc_RuleD {W0 w : World} {ps : List Prv} {Γ : List Fact} (H : St W0 w ps Γ) (i : Nat) {fr : Bool} {F : List Nat} {xs : List Value} {l : List QG} (hf : Γ[i]? = some (vX fr F xs l)) (xCell : Int) (xRank : Int) (iNeed : Nat) {GNeed : List Nat} {vNeed : Value} {xNeed : List Int} (hNeed : Γ[iNeed]? = some (isF fr GNeed vNeed xNeed)) (iHave : Nat) {GHave : List Nat} {vHave : Value} {xHave : List Int} (hHave : Γ[iHave]? = some (isF fr GHave vHave xHave)) (iLack : Nat) {GLack : List Nat} {vLack : Value} {xLack : List Int} (hLack : Γ[iLack]? = some (isF fr GLack vLack xLack)) (iHere : Nat) {GHere : List Nat} {vHere : Value} {xHere : List Int} (hHere : Γ[iHere]? = some (isF fr GHere vHere xHere)) (iOut : Nat) {GOut : List Nat} {vOut : Value} {xOut : List Int} (hOut : Γ[iOut]? = some (isF fr GOut vOut xOut)) (iInto : Nat) {GInto : List Nat} {vInto : Value} {xInto : List IntoD} (hInto : Γ[iInto]? = some (isF fr GInto vInto xInto)) (xMelts : Bool) :
    St W0 w ps (vX fr (F ++ (GNeed ++ GHave ++ GLack ++ GHere ++ GOut ++ GInto)) (xs ++ [.int .i64 xCell, .int .i64 xRank, vNeed, vHave, vLack, vHere, vOut, vInto, .bool xMelts]) (l ++ [⟨xCell, xRank, xNeed, xHave, xLack, xHere, xOut, xInto, xMelts⟩]) :: Γ) := by
  have hr : qV.rep w (GNeed ++ GHave ++ GLack ++ GHere ++ GOut ++ GInto) [.int .i64 xCell, .int .i64 xRank, vNeed, vHave, vLack, vHere, vOut, vInto, .bool xMelts] (⟨xCell, xRank, xNeed, xHave, xLack, xHere, xOut, xInto, xMelts⟩ : QG) := ⟨vNeed, vHave, vLack, vHere, vOut, vInto, GNeed, GHave, GLack, GHere, GOut, GInto, rfl, rfl, (H.get iNeed hNeed).1, (H.get iHave hHave).1, (H.get iLack hLack).1, (H.get iHere hHere).1, (H.get iOut hOut).1, (H.get iInto hInto).1⟩
  refine H.add _ ⟨Q3 (H.get i hf).1 (reps_one hr), fun e => ((H.get i hf).2 e).app ((((((((H.get iNeed hNeed).2 e).app ((H.get iHave hHave).2 e)).app ((H.get iLack hLack).2 e)).app ((H.get iHere hHere).2 e)).app ((H.get iOut hOut).2 e)).app ((H.get iInto hInto).2 e)))⟩ fun b hb => ?_
  rcases List.mem_append.1 hb with h | h
  · exact (H.facts _ (List.mem_of_getElem? hf)).2 b h
  · simp only [List.mem_append] at h
    rcases h with (((((h | h) | h) | h) | h) | h)
    · exact (H.facts _ (List.mem_of_getElem? hNeed)).2 b h
    · exact (H.facts _ (List.mem_of_getElem? hHave)).2 b h
    · exact (H.facts _ (List.mem_of_getElem? hLack)).2 b h
    · exact (H.facts _ (List.mem_of_getElem? hHere)).2 b h
    · exact (H.facts _ (List.mem_of_getElem? hOut)).2 b h
    · exact (H.facts _ (List.mem_of_getElem? hInto)).2 b h

structure qX where
  qJ : Int
  qf : List Int
  qg : List QG
  deriving DecidableEq
instance : Inhabited qX := ⟨⟨0, [], []⟩⟩
instance : Tot qX := ⟨fun x => tot x.qf + tot x.qg⟩
theorem tot_SystemD (x : qX) : tot x = tot x.qf + tot x.qg := rfl

instance : qV qX where
  size := 3
  rep := fun w F cs x => ∃ (vParents vRules : Value) (QR FRules : List Nat), cs = [.int .i64 x.qJ, vParents, vRules] ∧ F = QR ++ FRules ∧ qV.rep w QR [vParents] x.qf ∧ qV.rep w FRules [vRules] x.qg
  len := by rintro w F cs x ⟨vParents, vRules, QR, FRules, rfl, _, hParents, hRules⟩; rfl
  one := by
    rintro w F cs x ⟨vParents, vRules, QR, FRules, rfl, rfl, hParents, hRules⟩ u hu
    simp only [List.mem_cons, List.not_mem_nil, or_false] at hu
    rcases hu with rfl | rfl | rfl <;> first | rfl | exact one_of (by assumption)
  stay := by
    rintro w w' F cs x ⟨vParents, vRules, QR, FRules, rfl, rfl, hParents, hRules⟩ hs
    exact ⟨_, _, _, _, rfl, rfl, qV.stay hParents fun b hb => hs b (by simp [hb]), qV.stay hRules fun b hb => hs b (by simp [hb])⟩
  lt := by
    rintro w F cs x ⟨vParents, vRules, QR, FRules, rfl, rfl, hParents, hRules⟩ b hb
    simp only [List.mem_append] at hb
    rcases hb with (hb | hb)
    · exact qV.lt hParents b hb
    · exact qV.lt hRules b hb

def New_SystemD (w0 w : World) (v : Value) (x : qX) : Prop :=
  ∃ (aParents : Option Addr) (cParents : Nat) (QR : List Nat) (aRules : Option Addr) (cRules : Nat) (FRules : List Nat), v = .agg #[.int .i64 x.qJ, .slice aParents x.qf.length cParents, .slice aRules x.qg.length cRules] ∧ qV.rep w QR [.slice aParents x.qf.length cParents] x.qf ∧ qV.rep w FRules [.slice aRules x.qg.length cRules] x.qg ∧ (∀ b ∈ (QR ++ FRules), w0.heap.size ≤ b) ∧ (QR ++ FRules).Nodup ∧ vG w (QR ++ FRules)
theorem St.add_SystemD {W0 w w' : World} {ps : List Prv} {Γ : List Fact} (H : St W0 w ps Γ) (e : Ext w w') {v : Value} {x : qX} (h : New_SystemD w w' v x) :
    ∃ (aParents : Option Addr) (cParents : Nat) (QR : List Nat) (aRules : Option Addr) (cRules : Nat) (FRules : List Nat), v = .agg #[.int .i64 x.qJ, .slice aParents x.qf.length cParents, .slice aRules x.qg.length cRules] ∧ ((∀ b ∈ (QR ++ FRules), w.heap.size ≤ b) ∧ (QR ++ FRules).Nodup) ∧ St W0 w' ps (isF true QR (.slice aParents x.qf.length cParents) x.qf :: isF true FRules (.slice aRules x.qg.length cRules) x.qg :: Γ) := by
  obtain ⟨aParents, cParents, QR, aRules, cRules, FRules, rfl, hParents, hRules, hF, hd, hfr⟩ := h
  refine ⟨_, _, _, _, _, _, rfl, ⟨hF, hd⟩, ?_⟩
  exact (((H.ext e).add (isF true FRules _ x.qg) ⟨hRules, fun _ => hfr.sub (by intro b hb; simp [hb])⟩ (fun b hb => ⟨qV.lt hRules b hb, fun i hi => by have h1 := (yC H hi).2; have h2 := hF b (by have hb : b ∈ FRules := hb; simp [hb]); omega⟩)).add (isF true QR _ x.qf) ⟨hParents, fun _ => hfr.sub (by intro b hb; simp [hb])⟩ (fun b hb => ⟨qV.lt hParents b hb, fun i hi => by have h1 := (yC H hi).2; have h2 := hF b (by have hb : b ∈ QR := hb; simp [hb]); omega⟩))

structure qU where
  qh : List Bool
  qp : List (List Int)
  ql : List Int
  deriving DecidableEq
instance : Inhabited qU := ⟨⟨[], [], []⟩⟩
instance : Tot qU := ⟨fun x => tot x.qh + tot x.qp + tot x.ql⟩
theorem tot_StateD (x : qU) : tot x = tot x.qh + tot x.qp + tot x.ql := rfl

instance : qV qU where
  size := 3
  rep := fun w F cs x => ∃ (vAlive vBags vAround : Value) (FAlive FBags XA : List Nat), cs = [vAlive, vBags, vAround] ∧ F = FAlive ++ FBags ++ XA ∧ qV.rep w FAlive [vAlive] x.qh ∧ qV.rep w FBags [vBags] x.qp ∧ qV.rep w XA [vAround] x.ql
  len := by rintro w F cs x ⟨vAlive, vBags, vAround, FAlive, FBags, XA, rfl, _, hAlive, hBags, hAround⟩; rfl
  one := by
    rintro w F cs x ⟨vAlive, vBags, vAround, FAlive, FBags, XA, rfl, rfl, hAlive, hBags, hAround⟩ u hu
    simp only [List.mem_cons, List.not_mem_nil, or_false] at hu
    rcases hu with rfl | rfl | rfl <;> first | rfl | exact one_of (by assumption)
  stay := by
    rintro w w' F cs x ⟨vAlive, vBags, vAround, FAlive, FBags, XA, rfl, rfl, hAlive, hBags, hAround⟩ hs
    exact ⟨_, _, _, _, _, _, rfl, rfl, qV.stay hAlive fun b hb => hs b (by simp [hb]), qV.stay hBags fun b hb => hs b (by simp [hb]), qV.stay hAround fun b hb => hs b (by simp [hb])⟩
  lt := by
    rintro w F cs x ⟨vAlive, vBags, vAround, FAlive, FBags, XA, rfl, rfl, hAlive, hBags, hAround⟩ b hb
    simp only [List.mem_append] at hb
    rcases hb with ((hb | hb) | hb)
    · exact qV.lt hAlive b hb
    · exact qV.lt hBags b hb
    · exact qV.lt hAround b hb

def New_StateD (w0 w : World) (v : Value) (x : qU) : Prop :=
  ∃ (aAlive : Option Addr) (cAlive : Nat) (FAlive : List Nat) (aBags : Option Addr) (cBags : Nat) (FBags : List Nat) (aAround : Option Addr) (cAround : Nat) (XA : List Nat), v = .agg #[.slice aAlive x.qh.length cAlive, .slice aBags x.qp.length cBags, .slice aAround x.ql.length cAround] ∧ qV.rep w FAlive [.slice aAlive x.qh.length cAlive] x.qh ∧ qV.rep w FBags [.slice aBags x.qp.length cBags] x.qp ∧ qV.rep w XA [.slice aAround x.ql.length cAround] x.ql ∧ (∀ b ∈ (FAlive ++ FBags ++ XA), w0.heap.size ≤ b) ∧ (FAlive ++ FBags ++ XA).Nodup ∧ vG w (FAlive ++ FBags ++ XA)
theorem St.VC {W0 w w' : World} {ps : List Prv} {Γ : List Fact} (H : St W0 w ps Γ) (e : Ext w w') {v : Value} {x : qU} (h : New_StateD w w' v x) :
    ∃ (aAlive : Option Addr) (cAlive : Nat) (FAlive : List Nat) (aBags : Option Addr) (cBags : Nat) (FBags : List Nat) (aAround : Option Addr) (cAround : Nat) (XA : List Nat), v = .agg #[.slice aAlive x.qh.length cAlive, .slice aBags x.qp.length cBags, .slice aAround x.ql.length cAround] ∧ ((∀ b ∈ (FAlive ++ FBags ++ XA), w.heap.size ≤ b) ∧ (FAlive ++ FBags ++ XA).Nodup) ∧ St W0 w' ps (isF true FAlive (.slice aAlive x.qh.length cAlive) x.qh :: isF true FBags (.slice aBags x.qp.length cBags) x.qp :: isF true XA (.slice aAround x.ql.length cAround) x.ql :: Γ) := by
  obtain ⟨aAlive, cAlive, FAlive, aBags, cBags, FBags, aAround, cAround, XA, rfl, hAlive, hBags, hAround, hF, hd, hfr⟩ := h
  refine ⟨_, _, _, _, _, _, _, _, _, rfl, ⟨hF, hd⟩, ?_⟩
  exact ((((H.ext e).add (isF true XA _ x.ql) ⟨hAround, fun _ => hfr.sub (by intro b hb; simp [hb])⟩ (fun b hb => ⟨qV.lt hAround b hb, fun i hi => by have h1 := (yC H hi).2; have h2 := hF b (by have hb : b ∈ XA := hb; simp [hb]); omega⟩)).add (isF true FBags _ x.qp) ⟨hBags, fun _ => hfr.sub (by intro b hb; simp [hb])⟩ (fun b hb => ⟨qV.lt hBags b hb, fun i hi => by have h1 := (yC H hi).2; have h2 := hF b (by have hb : b ∈ FBags := hb; simp [hb]); omega⟩)).add (isF true FAlive _ x.qh) ⟨hAlive, fun _ => hfr.sub (by intro b hb; simp [hb])⟩ (fun b hb => ⟨qV.lt hAlive b hb, fun i hi => by have h1 := (yC H hi).2; have h2 := hF b (by have hb : b ∈ FAlive := hb; simp [hb]); omega⟩))

end Go.Proofs.YtkmlihdacnfhdaaGreat
