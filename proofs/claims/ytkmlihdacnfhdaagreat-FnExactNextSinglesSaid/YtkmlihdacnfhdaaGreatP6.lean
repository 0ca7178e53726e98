/- Plain laws of steps, part three: the state behind a step. No program here. -/
import Derived.Test.YtkmlihdacnfhdaaGreatP5
namespace Go.Proofs.YtkmlihdacnfhdaaGreat
open Go.Proofs.YtkmlihdacnfhdaaGreat.Tot (tot)

theorem parentNow_root {s : qU} {t : qP} (hs : jH s) : qZ s t 0 = -1 := by
  unfold qZ
  rw [show s.qf[(0 : Int).toNat]! = -1 from hs.2.2.1]
  exact climb_end fun h => by omega
/-- Where a rule puts out. -/
def outPl (s : qU) (t : qP) (r : QB) : Nat := if r.qA = 0 then vY s else (qZ s t r.qA).toNat
theorem outPl_root {s : qU} {t : qP} {r : QB} (h : r.qA = 0) : outPl s t r = vY s := by rw [outPl, if_pos h]
theorem outPl_up {s : qU} {t : qP} {r : QB} (h : r.qA ≠ 0) : outPl s t r = (qZ s t r.qA).toNat := by rw [outPl, if_neg h]
def intoF (r : QB) (c : Int) : Nat → Nat → Nat → Int
  | 0, _, _ => 0
  | j + 1, p, k => intoF r c j p k + at' p (r.qB[j]!).qA.toNat (c * ((r.qB[j]!).zW)[k]!)
def putF (s : qU) (t : qP) (r : QB) (c : Int) (p k : Nat) : Int := at' p r.qA.toNat (c * r.xw[k]!) + at' p (outPl s t r) (c * r.zf[k]!) + intoF r c r.qB.length p k
def putS (s : qU) (t : qP) (counts : List Int) : Nat → Nat → Nat → Int
  | 0, _, _ => 0
  | i + 1, p, k => putS s t counts i p k + putF s t (s.qg[i]!) (counts[i]!) p k
def allS (s : qU) (t : qP) (counts : List Int) : Nat → Nat → Nat → Int
  | 0, _, _ => 0
  | i + 1, p, k => allS s t counts i p k + needF s counts i p k + putF s t (s.qg[i]!) (counts[i]!) p k
theorem allS_eq (s : qU) (t : qP) (counts : List Int) (p k : Nat) : ∀ i, allS s t counts i p k = needS s counts i p k + putS s t counts i p k
  | 0 => rfl
  | i + 1 => by
    have := allS_eq s t counts p k i
    simp only [allS, needS, putS]
    omega
theorem at_zero (p c : Nat) (x : Int) : at' p c (0 * x) = 0 := by unfold at'; split <;> simp
theorem intoF_zero (r : QB) (p k : Nat) : ∀ j, intoF r 0 j p k = 0
  | 0 => rfl
  | j + 1 => by rw [intoF, intoF_zero r p k j, at_zero]; rfl
theorem putF_zero (s : qU) (t : qP) (r : QB) {c : Int} (h : c = 0) (p k : Nat) : putF s t r c p k = 0 := by
  subst h; rw [putF, at_zero, at_zero, intoF_zero]; rfl
theorem putS_skip {s : qU} {t : qP} {counts : List Int} {i : Nat} (h : counts[i]! = 0) (p k : Nat) : putS s t counts (i + 1) p k = putS s t counts i p k := by
  rw [putS, putF_zero s t _ h]; omega
/-- What is held in a place: in cells, or around. -/
def base0 (s : qU) (t : qP) (p k : Nat) : Int := if p < vY s then (t.qx[p]!)[k]! else t.ql[k]!
def stepF (s : qU) (t : qP) (counts : List Int) (p k : Nat) : Int := base0 s t p k + allS s t counts s.qg.length p k
noncomputable def stepped (s : qU) (t : qP) (counts : List Int) : qP :=
  ⟨t.qh, (tab2 (vY s + 1) (QR s) (stepF s t counts)).take (vY s), (tab2 (vY s + 1) (QR s) (stepF s t counts))[vY s]!⟩
theorem zM.around {s : qU} {t : qP} (h : zM s t) : t.ql.length = QR s ∧ ∀ k, k < QR s → 0 ≤ t.ql[k]! ∧ t.ql[k]! ≤ 1000 := by
  have hb := h.2.2.2.1
  exact ⟨hb.len, fun k hk => hb.get (by rw [hb.len]; exact hk)⟩
/-- The bags of all places, before a step. -/
theorem start_ent {s : qU} {t : qP} {counts : List Int} (ht : zM s t) : Ent (vY s + 1) (QR s) (fun p k => base0 s t p k + allS s t counts 0 p k) 1000 (t.qx ++ [t.ql]) := by
  have h1 : Ent (vY s) (QR s) (fun p k => base0 s t p k + allS s t counts 0 p k) 1000 t.qx := ⟨ht.shape, fun p k hp hk => by simp [base0, hp, allS]⟩
  refine h1.snoc ht.around.1 (fun k hk => by have := ht.around.2 k hk; omega) fun k hk => ?_
  simp [base0, allS]
theorem rest_ent {s : qU} {t : qP} {counts : List Int} (hs : Qb s) (ht : zM s t) (hc : CntOk s counts) :
    Ent (vY s + 1) (QR s) (fun p k => base0 s t p k + needS s counts s.qg.length p k + putS s t counts 0 p k) (1000 + 1000000 * s.qg.length) (vg s t counts s.qg.length ++ [t.ql]) := by
  have h1 : Ent (vY s) (QR s) (fun p k => base0 s t p k + needS s counts s.qg.length p k + putS s t counts 0 p k) (1000 + 1000000 * s.qg.length) (vg s t counts s.qg.length) := by
    have h0 := restR_ent hs ht hc _ (Nat.le_refl _)
    exact ⟨h0.sh, fun p k hp hk => by rw [h0.eq p k hp hk]; simp [base0, hp, putS]⟩
  refine h1.snoc ht.around.1 (fun k hk => by have := ht.around.2 k hk; omega) fun k hk => ?_
  have h2 : ∀ i, i ≤ s.qg.length → needS s counts i (vY s) k = 0 := by
    intro i
    induction i with
    | zero => intro _; rfl
    | succ i ih =>
      intro hi
      have := (hs.rule (i := i) (by omega)).cell
      rw [needS, ih (by omega), needF, at', if_neg (by omega)]; rfl
  rw [h2 _ (Nat.le_refl _)]
  simp [base0, putS]
theorem step_tab {s : qU} {t : qP} {counts : List Int} {B : Int} {b : List (List Int)} (h : Ent (vY s + 1) (QR s) (fun p k => base0 s t p k + allS s t counts s.qg.length p k) B b) :
    b.take (vY s) = (stepped s t counts).qx ∧ b[vY s]! = (stepped s t counts).ql := by
  have e := h.tab
  constructor
  · show _ = (tab2 _ _ _).take _
    rw [e]; rfl
  · show _ = (tab2 _ _ _)[_]!
    rw [e]; rfl
theorem step_tab2 {s : qU} {t : qP} {counts : List Int} {B : Int} {b : List (List Int)} {a : List Int} (hb : b.length = vY s) (h : Ent (vY s + 1) (QR s) (fun p k => base0 s t p k + needS s counts s.qg.length p k + putS s t counts s.qg.length p k) B (b ++ [a])) :
    b = (stepped s t counts).qx ∧ a = (stepped s t counts).ql := by
  have h1 := step_tab (h.to (g := fun p k => base0 s t p k + allS s t counts s.qg.length p k) (fun p k => by rw [allS_eq]; omega) (Int.le_refl _))
  rw [← hb, List.take_left] at h1
  refine ⟨h1.1, ?_⟩
  rw [← h1.2, getElem!_pos (b ++ [a]) b.length (by simp), List.getElem_append_right (Nat.le_refl _)]; simp
theorem cat_set {b : List (List Int)} {a v : List Int} {c : Nat} (hc : c < b.length) : (b ++ [a]).set c v = b.set c v ++ [a] := List.set_append_left c v hc
theorem cat_setN {b : List (List Int)} {a v : List Int} {n : Nat} (h : b.length = n) : (b ++ [a]).set n v = b ++ [v] := by
  rw [List.set_append_right _ _ (by omega), h]; simp
theorem cat_get {b : List (List Int)} {a : List Int} {c : Nat} (hc : c < b.length) : (b ++ [a])[c]! = b[c]! := by
  rw [getElem!_pos (b ++ [a]) c (by simp; omega), getElem!_pos b c hc, List.getElem_append_left hc]
theorem cat_getN {b : List (List Int)} {a : List Int} {n : Nat} (h : b.length = n) : (b ++ [a])[n]! = a := by
  rw [getElem!_pos (b ++ [a]) n (by simp; omega), List.getElem_append_right (by omega)]; simp [h]
/-- The same, where the bags of the cells and what is around are kept apart. -/
theorem Ent.addL {n K : Nat} {f : Nat → Nat → Int} {B D : Int} {b : List (List Int)} {a : List Int} (h : Ent (n + 1) K f B (b ++ [a])) {c : Nat} {m : List Int} {t : Int} {b' : List (List Int)} (e : b' = b.set c (jV (b[c]!) m t)) (hb : b.length = n) (hc : c < n) (ht : ∀ k, k < K → -D ≤ t * m[k]! ∧ t * m[k]! ≤ D) (hD : 0 ≤ D) :
    Ent (n + 1) K (fun p k => f p k + at' p c (t * m[k]!)) (B + D) (b' ++ [a]) :=
  h.add (by rw [e, ← cat_set (by omega), cat_get (by omega)]) (by omega) ht hD
theorem Ent.addN {n K : Nat} {f : Nat → Nat → Int} {B D : Int} {b : List (List Int)} {a : List Int} (h : Ent (n + 1) K f B (b ++ [a])) {m : List Int} {t : Int} {a' : List Int} (e : a' = jV a m t) (hb : b.length = n) (ht : ∀ k, k < K → -D ≤ t * m[k]! ∧ t * m[k]! ≤ D) (hD : 0 ≤ D) :
    Ent (n + 1) K (fun p k => f p k + at' p n (t * m[k]!)) (B + D) (b ++ [a']) :=
  h.add (by rw [e, cat_setN hb, cat_getN hb]) (by omega) ht hD
theorem Ent.rowL {n K : Nat} {f : Nat → Nat → Int} {B : Int} {b : List (List Int)} {a : List Int} (h : Ent (n + 1) K f B (b ++ [a])) (hb : b.length = n) (hB : B ≤ 1000000000000000) (hK : K ≤ 8) {c : Nat} (hc : c < n) : (b[c]!).length = K ∧ Mid (b[c]!) := by
  have := h.sh.row hB hK (c := c) (by omega)
  rwa [cat_get (by omega)] at this
theorem Ent.rowN {n K : Nat} {f : Nat → Nat → Int} {B : Int} {b : List (List Int)} {a : List Int} (h : Ent (n + 1) K f B (b ++ [a])) (hb : b.length = n) (hB : B ≤ 1000000000000000) (hK : K ≤ 8) : a.length = K ∧ Mid a := by
  have := h.sh.row hB hK (c := n) (by omega)
  rwa [cat_getN hb] at this

/-! ### Cells that dissolve -/
def QU (s : qU) (counts : List Int) (c : Int) (k : Nat) : Prop := ∃ i, i < k ∧ 0 < counts[i]! ∧ (s.qg[i]!).xP = true ∧ (s.qg[i]!).qA = c
theorem melts_zero (s : qU) (counts : List Int) (c : Int) : ¬ QU s counts c 0 := fun ⟨i, h, _⟩ => by omega
theorem melts_succ {s : qU} {counts : List Int} {c : Int} {k : Nat} : QU s counts c (k + 1) ↔ QU s counts c k ∨ (0 < counts[k]! ∧ (s.qg[k]!).xP = true ∧ (s.qg[k]!).qA = c) := by
  constructor
  · rintro ⟨i, h, h1⟩
    by_cases e : i = k
    · subst e; exact .inr h1
    · exact .inl ⟨i, by omega, h1⟩
  · rintro (⟨i, h, h1⟩ | h)
    · exact ⟨i, by omega, h1⟩
    · exact ⟨k, by omega, h⟩
theorem melts_1 {s : qU} {counts : List Int} {c : Int} {k : Nat} (h : dec (QU s counts c k) = true) : true = dec (QU s counts c (k + 1)) := (yU (melts_succ.2 (.inl (jA h)))).symm
theorem melts_2 {s : qU} {counts : List Int} {c : Int} {k : Nat} (h : dec (QU s counts c k) = false) (h1 : ¬ counts[k]! > 0) : false = dec (QU s counts c (k + 1)) :=
  (xA fun x => (melts_succ.1 x).elim (zg h) fun y => h1 y.1).symm
theorem melts_3 {s : qU} {counts : List Int} {c : Int} {k : Nat} (h : dec (QU s counts c k) = false) (h1 : (s.qg[k]!).xP = false) : false = dec (QU s counts c (k + 1)) :=
  (xA fun x => (melts_succ.1 x).elim (zg h) fun y => ft y.2.1 h1).symm
theorem melts_4 {s : qU} {counts : List Int} {c : Int} {k : Nat} (h : dec (QU s counts c k) = false) (h1 : counts[k]! > 0) (h2 : (s.qg[k]!).xP = true) : ((s.qg[k]!).qA == c) = dec (QU s counts c (k + 1)) := by
  refine dec_eq ?_
  rw [beq_iff_eq, melts_succ]
  exact ⟨fun e => .inr ⟨h1, h2, e⟩, fun x => x.elim (fun y => absurd y (zg h)) fun y => y.2.2⟩
abbrev Melts (s : qU) (counts : List Int) (c : Int) : Prop := QU s counts c s.qg.length
noncomputable def yl (s : qU) (counts : List Int) (n k : Nat) : List Bool := (List.range n).map fun c : Nat => dec (QU s counts (c : Int) k)
theorem meltsL_len (s : qU) (counts : List Int) (n k : Nat) : (yl s counts n k).length = n := by simp [yl]
theorem meltsL_get {s : qU} {counts : List Int} {n k c : Nat} (h : c < n) : (yl s counts n k)[c]! = dec (QU s counts (c : Int) k) := by
  rw [getElem!_pos (yl s counts n k) c (by rw [meltsL_len]; exact h)]; simp [yl]
theorem meltsL_zero (s : qU) (counts : List Int) (n : Nat) : List.replicate n false = yl s counts n 0 := by
  refine ext_get (by simp [meltsL_len]) fun k hk => ?_
  rw [List.length_replicate] at hk
  rw [meltsL_get hk, xA (melts_zero _ _ _), getElem!_pos (List.replicate n false) k (by simpa using hk)]; simp
theorem meltsL_set {s : qU} {counts : List Int} {n k : Nat} (h0 : 0 ≤ (s.qg[k]!).qA) (h : (s.qg[k]!).qA.toNat < n) {x : Bool} (hx : x = true ↔ ((yl s counts n k)[(s.qg[k]!).qA.toNat]! = true ∨ (0 < counts[k]! ∧ (s.qg[k]!).xP = true))) :
    (yl s counts n k).set (s.qg[k]!).qA.toNat x = yl s counts n (k + 1) := by
  refine ext_get (by simp [meltsL_len]) fun p hp => ?_
  rw [List.length_set, meltsL_len] at hp
  rw [getset (by rw [meltsL_len]; exact h), meltsL_get hp, meltsL_get hp]
  rw [meltsL_get h] at hx
  by_cases e : p = (s.qg[k]!).qA.toNat
  · rw [if_pos e]
    refine dec_eq (hx.trans ?_)
    rw [melts_succ, e, show (((s.qg[k]!).qA.toNat : Nat) : Int) = (s.qg[k]!).qA by omega]
    constructor
    · rintro (h1 | h1)
      · exact .inl (jA h1)
      · exact .inr ⟨h1.1, h1.2, rfl⟩
    · rintro (h1 | h1)
      · exact .inl (yU h1)
      · exact .inr ⟨h1.1, h1.2.1⟩
  · rw [if_neg e]
    refine dec_congr ?_
    rw [melts_succ]
    constructor
    · exact .inl
    · rintro (h1 | ⟨_, _, h1⟩)
      · exact h1
      · exfalso; omega
open Classical in
/-- The cells that dissolve do so one by one, the last ones first. -/
noncomputable def qY (s : qU) (counts : List Int) (u : qP) : Nat → qP
  | 0 => u
  | j + 1 => if Melts s counts ((vY s : Int) - 1 - j) then melted s (qY s counts u j) ((vY s : Int) - 1 - j) else qY s counts u j
theorem meltDown_yes {s : qU} {counts : List Int} {u : qP} {j : Nat} {c : Int} (h : Melts s counts c) (hc : c = (vY s : Int) - 1 - j) : qY s counts u (j + 1) = melted s (qY s counts u j) c := by subst hc; rw [qY, if_pos h]
theorem meltDown_no {s : qU} {counts : List Int} {u : qP} {j : Nat} {c : Int} (h : ¬ Melts s counts c) (hc : c = (vY s : Int) - 1 - j) : qY s counts u (j + 1) = qY s counts u j := by subst hc; rw [qY, if_neg h]
theorem Qy {s : qU} {counts : List Int} {u : qP} {j i : Nat} {c : Int} (h : dec (QU s counts c i) = true) (hi : i = s.qg.length) (hc : c = (vY s : Int) - 1 - j) : qY s counts u (j + 1) = melted s (qY s counts u j) c := by subst hi; exact meltDown_yes (jA h) hc
theorem meltDown_no' {s : qU} {counts : List Int} {u : qP} {j i : Nat} {c : Int} (h : dec (QU s counts c i) = false) (hi : i = s.qg.length) (hc : c = (vY s : Int) - 1 - j) : qY s counts u (j + 1) = qY s counts u j := by subst hi; exact meltDown_no (zg h) hc
theorem y9 (s : qU) (counts : List Int) (u : qP) : ∀ j, (qY s counts u j).ql = u.ql
  | 0 => rfl
  | j + 1 => by
    rw [qY]
    split
    · exact y9 s counts u j
    · exact y9 s counts u j
structure Live (s : qU) (B : Int) (u : qP) : Prop where
  alive : u.qh.length = vY s
  root : u.qh[0]! = true
  bags : Shape (vY s) (QR s) B u.qx
  around : u.ql.length = QR s
theorem Live.melt {s : qU} {B : Int} {u : qP} (hs : Qb s) (h : Live s B u) (hB : 0 ≤ B) {c : Int} (h0 : 0 < c) (h1 : c ≤ (vY s : Int) - 1) : Live s (2 * B) (melted s u c) := by
  have hp := Vy (t := u) hs.1 h.root h0 h1
  have hpc : (qZ s u c).toNat < vY s := by omega
  have hcc : c.toNat < vY s := by omega
  refine ⟨by simp [melted, h.alive], ?_, ?_, h.around⟩
  · show (u.qh.set c.toNat false)[0]! = true
    rw [getset (by rw [h.alive]; exact hcc), if_neg (by omega)]; exact h.root
  · have hr := (h.bags.2 _ hcc).2
    have hk := (h.bags.2 _ hcc).1
    have h2 := h.bags.plus (m := u.qx[c.toNat]!) (t := 1) (D := B) hpc (fun k hk => by have := hr k hk; omega) hB
    refine (h2.set (D := B + B) hcc (by simp [QR]) (fun k hk => ?_) (by omega)).mono (by omega)
    rw [getElem!_pos (List.replicate s.qI.toNat (0 : Int)) k (by simpa [QR] using hk)]
    simp; omega
def bnd : Nat → Int
  | 0 => 200000000
  | j + 1 => 2 * bnd j
theorem bnd_pos : ∀ j, 0 ≤ bnd j
  | 0 => by simp [bnd]
  | j + 1 => by have := bnd_pos j; simp only [bnd]; omega
theorem bnd_mono : ∀ {i j : Nat}, i ≤ j → bnd i ≤ bnd j
  | i, 0, h => by obtain rfl : i = 0 := by omega
                  exact Int.le_refl _
  | i, j + 1, h => by
    by_cases e : i = j + 1
    · subst e; exact Int.le_refl _
    · have := bnd_mono (show i ≤ j by omega)
      have := bnd_pos j
      simp only [bnd]; omega
theorem bnd_le {j : Nat} (h : j ≤ 6) : bnd j ≤ 12800000000 := Int.le_trans (bnd_mono h) (by simp [bnd])
theorem Live.mono {s : qU} {B D : Int} {u : qP} (h : Live s B u) (hD : B ≤ D) : Live s D u := ⟨h.alive, h.root, h.bags.mono hD, h.around⟩
theorem stepped_live {s : qU} {t : qP} {counts : List Int} {B : Int} {b : List (List Int)} (ht : zM s t) (h : Ent (vY s + 1) (QR s) (fun p k => base0 s t p k + allS s t counts s.qg.length p k) B b) (hB : B ≤ 200000000) : Live s (bnd 0) (stepped s t counts) := by
  have h1 := step_tab h
  have hr := h.sh.2 (vY s) (by omega)
  refine ⟨ht.1, ht.2.2.1, ?_, by rw [← h1.2]; exact hr.1⟩
  rw [← h1.1]
  refine ⟨by rw [List.length_take, h.sh.1]; omega, fun p hp => ?_⟩
  have e : (b.take (vY s))[p]! = b[p]! := by
    rw [getElem!_pos (b.take (vY s)) p (by rw [List.length_take, h.sh.1]; omega), getElem!_pos b p (by rw [h.sh.1]; omega)]; simp
  rw [e]
  have := h.sh.2 p (by omega)
  exact ⟨this.1, fun k hk => by have := this.2 k hk; simp only [bnd]; omega⟩
theorem meltDown_live {s : qU} {counts : List Int} {u : qP} (hs : Qb s) (h : Live s (bnd 0) u) : ∀ j, j + 1 ≤ vY s → Live s (bnd j) (qY s counts u j)
  | 0, _ => h
  | j + 1, hj => by
    have ih := meltDown_live (counts := counts) hs h j (by omega)
    by_cases hm : Melts s counts ((vY s : Int) - 1 - j)
    · rw [meltDown_yes hm rfl]; exact ih.melt hs (bnd_pos j) (by omega) (by omega)
    · rw [meltDown_no hm rfl]; exact ih.mono (bnd_mono (by omega))
theorem Live.rows {s : qU} {B : Int} {u : qP} (hs : Qb s) (h : Live s B u) (hB : B ≤ 12800000000) {p c : Nat} (hp : p < vY s) (hc : c < vY s) :
    (u.qx[p]!).length ≤ (u.qx[c]!).length ∧ Mid (u.qx[p]!) ∧ SmallT (u.qx[c]!) 1 := by
  have h1 := h.bags.row (by omega) (kinds_le hs) hp
  have h2 := h.bags.row (by omega) (kinds_le hs) hc
  refine ⟨by omega, h1.2, fun k hk => ?_⟩
  have := h2.2.2 k hk
  omega
/-- The state behind a step by a choice, with a code. -/
noncomputable def stepRes (s : qU) (t : qP) (counts : List Int) : qP × Int := told s (qY s counts (stepped s t counts) (vY s - 1))
open Classical in
noncomputable def xU (s : qU) (t : qP) (counts : List Int) : qP × Int := if IsCh s t counts then stepRes s t counts else (default, 4)
theorem stepBy_yes {s : qU} {t : qP} {counts : List Int} (h : IsCh s t counts) : xU s t counts = stepRes s t counts := by rw [xU, if_pos h]
theorem stepBy_no {s : qU} {t : qP} {counts : List Int} (h : ¬ IsCh s t counts) : xU s t counts = (default, 4) := by rw [xU, if_neg h]
end Go.Proofs.YtkmlihdacnfhdaaGreat
