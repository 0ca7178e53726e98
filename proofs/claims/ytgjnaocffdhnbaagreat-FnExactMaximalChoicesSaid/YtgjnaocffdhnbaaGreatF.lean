/- Calls that change what their caller owns: all that the call does not name is a rest of which nothing is known but that it stays. No program here. -/
import Derived.Test.YtgjnaocffdhnbaaGreatQ
namespace Go.Proofs.YtgjnaocffdhnbaaGreat
set_option linter.unusedVariables false
set_option linter.unusedSimpArgs false
open Go.Proofs.YtgjnaocffdhnbaaGreat.Tot (tot)
open Go.Proofs.YtgjnaocffdhnbaaGreat.Mark (cnt mrk mkd mkd_mark cnt_mark)
open Go.RowKit

section
variable {α : Type}
/-- Some of a list's first n, and all behind them. -/
def pickL (l : List α) (n : Nat) (is : List Nat) : List α := (is.filterMap fun i => l[i]?) ++ l.drop n
def pickI (len n : Nat) (is : List Nat) : List Nat := is ++ (List.range (len - n)).map (· + n)
theorem pickI_map (l : List α) (n : Nat) (is : List Nat) (h : is.all (fun i => Nat.blt i n) = true) (hn : n ≤ l.length) : (pickI l.length n is).map (fun i => l[i]?) = (pickL l n is).map some := by
  unfold pickI pickL
  rw [List.map_append, List.map_append]
  congr 1
  · refine pick_some l is ?_
    rw [List.all_eq_true] at h ⊢
    intro i hi
    have := h i hi
    simp only [Nat.blt_eq] at this ⊢
    omega
  · apply List.ext_getElem?
    intro i
    rcases Nat.lt_or_ge i (l.length - n) with h1 | h1
    · simp [h1, Nat.add_comm]
    · simp [h1]
theorem pickI_nodup (len n : Nat) (is : List Nat) (h : is.all (fun i => Nat.blt i n) = true) (hd : is.Nodup) : (pickI len n is).Nodup := by
  unfold pickI
  refine List.nodup_append.2 ⟨hd, ?_, ?_⟩
  · exact List.Pairwise.map _ (fun a b (hab : a ≠ b) => by omega) List.nodup_range
  · intro a ha b hb
    rw [List.all_eq_true] at h
    have := h a ha
    simp only [Nat.blt_eq] at this
    obtain ⟨c, _, rfl⟩ := List.mem_map.1 hb
    omega
end

section
variable {W0 w : World} {ps : List Prv} {Γ : List Fact}
/-- Some of the first n things that are owned, some of the first m facts; all that lies behind stays. -/
theorem St.XH (H : St W0 w ps Γ) (n m : Nat) (is js : List Nat) (hn : n ≤ ps.length) (hm : m ≤ Γ.length) (hi : is.all (fun i => Nat.blt i n) = true := by exact rfl) (hj : js.all (fun i => Nat.blt i m) = true := by exact rfl) (hd : is.Nodup := by decide) :
    St W0 w (pickL ps n is) (pickL Γ m js) :=
  H.pick (pickI ps.length n is) (pickI Γ.length m js) (pickI_map ps n is hi hn) (pickI_map Γ m js hj hm) (pickI_nodup _ _ _ hi hd)
theorem Fresh.XH {B : Nat} {L : List (List Nat)} (N : Fresh B L) (n : Nat) (is : List Nat) (hn : n ≤ L.length) (hi : is.all (fun i => Nat.blt i n) = true := by exact rfl) (hd : is.Nodup := by decide) : Fresh B (pickL L n is) :=
  N.pick (pickI L.length n is) (pickI_map L n is hi hn) (pickI_nodup _ _ _ hi hd)
/-- Each set of a rest of sets is one that a fact of the rest looks at. -/
def Kept (Ns : List (List Nat)) (Γ : List Fact) : Prop := ∀ F ∈ Ns, ∃ f ∈ Γ, f.F = F
theorem Kept.up {Ns : List (List Nat)} {Γ : List Fact} (h : Kept Ns Γ) (f : Fact) : Kept Ns (f :: Γ) := fun F hF => by
  obtain ⟨g, h1, h2⟩ := h F hF
  exact ⟨g, List.mem_cons_of_mem _ h1, h2⟩
theorem Kept.behind {Ns : List (List Nat)} {Γ Γ' : List Fact} (h : Kept Ns Γ) (m : Nat) (e : Γ'.drop m = Γ) : Kept Ns Γ' := fun F hF => by
  obtain ⟨g, h1, h2⟩ := h F hF
  exact ⟨g, List.mem_of_mem_drop (e ▸ h1), h2⟩
theorem Kept.nil (Γ : List Fact) : Kept [] Γ := fun F hF => by cases hF
theorem Kept.cons {Ns : List (List Nat)} {Γ : List Fact} (h : Kept Ns Γ) (i : Nat) {f : Fact} {F : List Nat} (hf : Γ[i]? = some f) (e : f.F = F) : Kept (F :: Ns) Γ := fun G hG => by
  rcases List.mem_cons.1 hG with rfl | hG
  · exact ⟨f, List.mem_of_getElem? hf, e⟩
  · exact h G hG
theorem St.ltK (H : St W0 w ps Γ) {Ns : List (List Nat)} (h : Kept Ns Γ) : ∀ F ∈ Ns, ∀ b ∈ F, b < w.heap.size := fun F hF b hb => by
  obtain ⟨f, h1, h2⟩ := h F hF
  exact ((H.facts f h1).2 b (h2 ▸ hb)).1
theorem St.awayK (H : St W0 w ps Γ) {Ns : List (List Nat)} (h : Kept Ns Γ) : ∀ F ∈ Ns, ∀ b ∈ F, ∀ i, zW ps i ≠ some b := fun F hF b hb => by
  obtain ⟨f, h1, h2⟩ := h F hF
  exact ((H.facts f h1).2 b (h2 ▸ hb)).2
theorem all_two {L M : List (List Nat)} {p : Nat → Prop} (h1 : ∀ F ∈ L, ∀ b ∈ F, p b) (h2 : ∀ F ∈ M, ∀ b ∈ F, p b) : ∀ F ∈ L ++ M, ∀ b ∈ F, p b := fun F hF b hb =>
  (List.mem_append.1 hF).elim (fun h => h1 F h b hb) fun h => h2 F h b hb
end

theorem c_drawK2 {P : Program} {Q : Exit → Act → World → Prop} {n : Nat} {ρ : Env} {W0 w : World} {ps : List Prv} {Γ : List Fact} {l : List Oper} {id : Nat} (hm : P.follows .mixedOrders = true) (H : St W0 w ps Γ) (is js : List Nat)
    (k : St W0 w.drew ps Γ → RW P l Q (fun w => St W0 w (is.filterMap fun i => ps[i]?) (js.filterMap fun i => Γ[i]?)) n l.toArray.size (Array.replicate l.toArray.size false) ρ w.drew)
    (hi : is.all (fun i => Nat.blt i ps.length) = true := by simp) (hj : js.all (fun i => Nat.blt i Γ.length) = true := by simp) (hd : is.Nodup := by decide) : (Code.region id l.toArray true).wp P Q (mk n ρ) w := by
  have H' := H.ext (ext_drew _)
  exact c_draw (fun w => St W0 w (is.filterMap fun i => ps[i]?) (js.filterMap fun i => Γ[i]?)) hm (H'.pick is js (pick_some ps is hi) (pick_some Γ js hj) hd) (k H')

/-- A call of a function that changes what its caller owns. -/
theorem o_callF {P : Program} {Q : Exit → Act → World → Prop} {n : Nat} {ρ : Env} {w : World} {d : Nat} {ty : TypeId} {pos : String} {af : Array Edge} {K : Env → World → Prop} {x : Operand} {xs : Array Operand} {ts : Array TypeId} {f : FuncId} {fst caps : Array Value} {R : Value → World → Prop} (args : Array Value) (hv : ev n ρ x = .func (.func f) fst caps)
    (hargs : fst.toList ++ xs.toList.map (ev n ρ) ++ caps.toList = args.toList) (hf : ∀ args w, (callFunc f args).run P w = .ok (.enter f args) w)
    (hc : Calls P f args w fun e w' => ∃ v, e = .returned v ∧ R v w') (k : ∀ v w', R v w' → K (upd ρ d v) w') : OW P Q ⟨some d, .call ⟨.value x, xs, ts⟩, ty, pos, af, none⟩ n ρ w K :=
  jf args hv hargs hf (hc.mono fun _ w' ⟨v, he, hR⟩ => ⟨v, he, k v w' hR⟩)
end Go.Proofs.YtgjnaocffdhnbaaGreat
