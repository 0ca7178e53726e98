/- Texts of deeds, read and written: plain. No program here. -/
import Derived.Lib.ItoaNum
import Derived.Lib.ParseIntB
namespace Go.Proofs.YtfekhnffbngoaaaDoor.DeedPlain
set_option linter.unusedVariables false
set_option linter.unusedSimpArgs false

def inR (n lo hi : Int) : Bool := decide (lo ≤ n) && decide (n ≤ hi)
/-- The word of a kind, as bytes; how many numbers its text has. -/
def word (k : Int) : List UInt8 :=
  if k = 1 then [119, 111, 114, 107] else if k = 2 then [115, 97, 118, 101] else if k = 3 then [112, 111, 115, 116] else if k = 4 then [98, 97, 99, 107]
  else if k = 5 then [97, 100, 118, 97, 110, 99, 101] else if k = 6 then [100, 101, 108, 105, 118, 101, 114] else if k = 7 then [99, 111, 112, 121]
  else if k = 8 then [100, 114, 111, 112] else if k = 9 then [99, 114, 97, 115, 104] else []
def many (k : Int) : Int := if k = 3 ∨ k = 4 then 2 else if 1 ≤ k ∧ k ≤ 9 then 1 else 0
def kindB (k : Int) : Bool := decide (1 ≤ k) && decide (k ≤ 9)
def validB (k a b : Int) : Bool := kindB k && inR a 0 999 && inR b 0 999 && (decide (1 < many k) || decide (b = 0))
def text (k a b : Int) : List UInt8 :=
  if validB k a b then (word k ++ [32]) ++ Lib.decDigits a.toNat ++ (if many k = 2 then [32] ++ Lib.decDigits b.toNat else []) else []

/-! ### Pieces of a text -/
def splitL (c : UInt8) : List UInt8 → List (List UInt8)
  | [] => [[]]
  | x :: l => if x = c then [] :: splitL c l else match splitL c l with | h :: t => (x :: h) :: t | [] => [[x]]
theorem splitL_ne (c : UInt8) (l : List UInt8) : splitL c l ≠ [] := by
  cases l with
  | nil => simp [splitL]
  | cons x l =>
    rw [splitL]
    split
    · simp
    · split <;> simp
theorem splitL_one {c : UInt8} : ∀ {a : List UInt8}, c ∉ a → splitL c a = [a]
  | [], _ => rfl
  | x :: a, h => by
    simp only [List.mem_cons, not_or] at h
    rw [splitL, if_neg (fun e => h.1 e.symm), splitL_one h.2]
theorem splitL_cut {c : UInt8} {b : List UInt8} : ∀ {a : List UInt8}, c ∉ a → splitL c (a ++ c :: b) = a :: splitL c b
  | [], _ => by simp [splitL]
  | x :: a, h => by
    simp only [List.mem_cons, not_or] at h
    rw [List.cons_append, splitL, if_neg (fun e => h.1 e.symm), splitL_cut h.2]
def joinL (c : UInt8) : List (List UInt8) → List UInt8
  | [] => []
  | [a] => a
  | a :: b :: l => a ++ c :: joinL c (b :: l)
theorem joinL_cons (c x : UInt8) (h : List UInt8) (t : List (List UInt8)) : joinL c ((x :: h) :: t) = x :: joinL c (h :: t) := by
  cases t <;> simp [joinL]
theorem join_split (c : UInt8) : ∀ l, joinL c (splitL c l) = l
  | [] => rfl
  | x :: l => by
    have ih := join_split c l
    rw [splitL]
    by_cases e : x = c
    · rw [if_pos e]
      cases hs : splitL c l with
      | nil => exact absurd hs (splitL_ne c l)
      | cons h t => rw [hs] at ih; rw [joinL, ih, e]; rfl
    · rw [if_neg e]
      cases hs : splitL c l with
      | nil => exact absurd hs (splitL_ne c l)
      | cons h t => rw [hs] at ih; show joinL c ((x :: h) :: t) = _; rw [joinL_cons, ih]

/-! ### Numbers -/
def dig (b : UInt8) : Prop := 48 ≤ b.toNat ∧ b.toNat ≤ 57
def valL (l : List UInt8) : Nat := l.foldl (fun n b => n * 10 + (b.toNat - 48)) 0
theorem valL_snoc (l : List UInt8) (b : UInt8) : valL (l ++ [b]) = valL l * 10 + (b.toNat - 48) := by simp [valL]
/-- Digits, at least one, no zero ahead of others. -/
def IsNum (l : List UInt8) : Prop := l ≠ [] ∧ (∀ b ∈ l, dig b) ∧ (l.head? = some 48 → l.length = 1)
theorem ofNat_dig {b : UInt8} (h : dig b) : UInt8.ofNat (48 + (b.toNat - 48)) = b := by
  obtain ⟨h1, h2⟩ := h
  rw [show 48 + (b.toNat - 48) = b.toNat by omega]
  exact UInt8.ofNat_toNat
theorem digit_dig {u : Nat} (h : u < 10) : (UInt8.ofNat (48 + u)).toNat = 48 + u := by
  rw [UInt8.toNat_ofNat']; omega
theorem dec_dig : ∀ (u : Nat), ∀ b ∈ Lib.decDigits u, dig b := by
  intro u
  induction u using Nat.strongRecOn with
  | _ u ih =>
    intro b hb
    rw [Lib.decDigits] at hb
    split at hb
    · simp only [List.mem_singleton] at hb
      subst hb
      rename_i h
      unfold dig; rw [digit_dig h]; omega
    · rename_i h
      simp only [List.mem_append, List.mem_singleton] at hb
      rcases hb with hb | rfl
      · exact ih (u / 10) (by omega) b hb
      · unfold dig; rw [digit_dig (by omega)]; omega
theorem dec_val : ∀ (u : Nat), valL (Lib.decDigits u) = u := by
  intro u
  induction u using Nat.strongRecOn with
  | _ u ih =>
    rw [Lib.decDigits]
    split
    · rename_i h
      simp only [valL, List.foldl_cons, List.foldl_nil, digit_dig h]; omega
    · rename_i h
      rw [valL_snoc, ih (u / 10) (by omega), digit_dig (by omega)]; omega
theorem dec_ne (u : Nat) : Lib.decDigits u ≠ [] := by
  rw [Lib.decDigits]; split <;> simp
theorem val_dec : ∀ (n : Nat) (l : List UInt8), l.length = n → IsNum l → Lib.decDigits (valL l) = l ∧ (l.head? ≠ some 48 → 1 ≤ valL l) := by
  intro n
  induction n with
  | zero => intro l hl h; exact absurd (List.length_eq_zero_iff.1 hl) h.1
  | succ n ih =>
    intro l hl h
    obtain ⟨h1, h2, h3⟩ := h
    obtain ⟨m, d, rfl⟩ : ∃ m d, l = m ++ [d] := ⟨l.dropLast, l.getLast h1, (List.dropLast_concat_getLast h1).symm⟩
    have hd := h2 d (by simp)
    by_cases hm : m = []
    · subst hm
      have e : valL ([] ++ [d]) = d.toNat - 48 := by simp [valL]
      rw [e]
      constructor
      · rw [Lib.decDigits, dif_pos (by have := hd.2; omega), ofNat_dig hd]; rfl
      · intro hh
        have : d ≠ 48 := fun e => hh (by simp [e])
        have h4 : d.toNat ≠ 48 := fun e => this (by rw [← ofNat_dig hd, e]; rfl)
        have := hd.1
        omega
    · have hml : m.length = n := by simp at hl; exact hl
      have hh : m.head? ≠ some 48 := by
        intro e
        have e2 : (m ++ [d]).head? = some 48 := by
          cases m with
          | nil => exact absurd rfl hm
          | cons x m => simpa using e
        have := h3 e2
        simp at this
        exact hm this
      obtain ⟨i1, i2⟩ := ih m hml ⟨hm, fun b hb => h2 b (by simp [hb]), fun e => absurd e hh⟩
      have hv := i2 hh
      rw [valL_snoc]
      constructor
      · have hd2 := hd.2
        have hd1 := hd.1
        rw [Lib.decDigits, dif_neg (by omega), show (valL m * 10 + (d.toNat - 48)) / 10 = valL m by omega, i1, show (valL m * 10 + (d.toNat - 48)) % 10 = d.toNat - 48 by omega, ofNat_dig hd]
      · intro _; omega
theorem num_dec {l : List UInt8} (h : IsNum l) : Lib.decDigits (valL l) = l := (val_dec l.length l rfl h).1
theorem dec_num (u : Nat) : IsNum (Lib.decDigits u) := by
  refine ⟨dec_ne u, dec_dig u, ?_⟩
  induction u using Nat.strongRecOn with
  | _ u ih =>
    intro hh
    rw [Lib.decDigits] at hh ⊢
    split at hh
    · rename_i h; simp [h]
    · rename_i h
      have hn := dec_ne (u / 10)
      have e : (Lib.decDigits (u / 10)).head? = some 48 := by
        cases hx : Lib.decDigits (u / 10) with
        | nil => exact absurd hx hn
        | cons x m => rw [hx] at hh; simpa using hh
      have h1 := ih (u / 10) (by omega) e
      exfalso
      -- one digit, and it is 0: but u / 10 is not 0
      have hv := dec_val (u / 10)
      cases hx : Lib.decDigits (u / 10) with
      | nil => exact absurd hx hn
      | cons x m =>
        rw [hx] at e h1 hv
        simp at e h1
        subst e; subst h1
        simp [valL] at hv
        omega
theorem dec_no_space (u : Nat) : (32 : UInt8) ∉ Lib.decDigits u := fun h => by
  have := dec_dig u 32 h
  unfold dig at this
  simp at this
theorem dec_inj {u v : Nat} (h : Lib.decDigits u = Lib.decDigits v) : u = v := by rw [← dec_val u, h, dec_val]

/-! ### Texts of deeds -/
theorem kinds {k : Int} (h : kindB k = true) : k = 1 ∨ k = 2 ∨ k = 3 ∨ k = 4 ∨ k = 5 ∨ k = 6 ∨ k = 7 ∨ k = 8 ∨ k = 9 := by
  simp only [kindB, Bool.and_eq_true, decide_eq_true_eq] at h
  omega
theorem word_no_space {k : Int} (h : kindB k = true) : (32 : UInt8) ∉ word k := by
  rcases kinds h with rfl | rfl | rfl | rfl | rfl | rfl | rfl | rfl | rfl <;> decide
theorem word_inj {k j : Int} (h : kindB k = true) (g : kindB j = true) (e : word k = word j) : k = j := by
  rcases kinds h with rfl | rfl | rfl | rfl | rfl | rfl | rfl | rfl | rfl <;> rcases kinds g with rfl | rfl | rfl | rfl | rfl | rfl | rfl | rfl | rfl <;> first | rfl | exact absurd e (by decide)
theorem valid_iff {k a b : Int} : validB k a b = true ↔ kindB k = true ∧ (0 ≤ a ∧ a ≤ 999) ∧ (0 ≤ b ∧ b ≤ 999) ∧ (1 < many k ∨ b = 0) := by
  simp only [validB, inR, Bool.and_eq_true, Bool.or_eq_true, decide_eq_true_eq, and_assoc]
theorem many_iff {k : Int} (h : kindB k = true) : many k = 1 ∨ many k = 2 := by
  rcases kinds h with rfl | rfl | rfl | rfl | rfl | rfl | rfl | rfl | rfl <;> decide
/-- The pieces of a deed's text. -/
def piecesOf (k a b : Int) : List (List UInt8) := word k :: Lib.decDigits a.toNat :: (if many k = 2 then [Lib.decDigits b.toNat] else [])
theorem text_join {k a b : Int} (h : validB k a b = true) : text k a b = joinL 32 (piecesOf k a b) := by
  simp only [text, h, if_true, piecesOf]
  by_cases e : many k = 2
  · simp [e, joinL]
  · simp [e, joinL]
theorem text_split {k a b : Int} (h : validB k a b = true) : splitL 32 (text k a b) = piecesOf k a b := by
  obtain ⟨hk, _⟩ := valid_iff.1 h
  rw [text_join h]
  unfold piecesOf
  by_cases e : many k = 2
  · rw [if_pos e]
    show splitL 32 (word k ++ 32 :: (Lib.decDigits a.toNat ++ 32 :: Lib.decDigits b.toNat)) = _
    rw [splitL_cut (word_no_space hk), splitL_cut (dec_no_space _), splitL_one (dec_no_space _)]
  · rw [if_neg e]
    show splitL 32 (word k ++ 32 :: Lib.decDigits a.toNat) = _
    rw [splitL_cut (word_no_space hk), splitL_one (dec_no_space _)]
/-- A text is that of one deed at most. -/
theorem text_inj {k a b k' a' b' : Int} (h : validB k a b = true) (h' : validB k' a' b' = true) (e : text k a b = text k' a' b') : k = k' ∧ a = a' ∧ b = b' := by
  have es : piecesOf k a b = piecesOf k' a' b' := by rw [← text_split h, ← text_split h', e]
  obtain ⟨hk, ha, hb, hm⟩ := valid_iff.1 h
  obtain ⟨hk', ha', hb', hm'⟩ := valid_iff.1 h'
  simp only [piecesOf, List.cons.injEq] at es
  obtain ⟨e1, e2, e3⟩ := es
  obtain rfl := word_inj hk hk' e1
  have := dec_inj e2
  refine ⟨rfl, by omega, ?_⟩
  by_cases em : many k = 2
  · rw [if_pos em, if_pos em] at e3
    simp only [List.cons.injEq, and_true] at e3
    have := dec_inj e3
    omega
  · have := many_iff hk
    omega
open Classical in
/-- What reading a deed comes to: the one deed whose text it is; its code (0: fine; 7: none). -/
noncomputable def readOf (bad : Int) (t : List UInt8) : (Int × Int × Int) × Int :=
  if h : ∃ d : Int × Int × Int, validB d.1 d.2.1 d.2.2 = true ∧ text d.1 d.2.1 d.2.2 = t then (h.choose, 0) else ((0, 0, 0), bad)
theorem read_yes {bad : Int} {t : List UInt8} {k a b : Int} (h : validB k a b = true) (e : text k a b = t) : readOf bad t = ((k, a, b), 0) := by
  have hx : ∃ d : Int × Int × Int, validB d.1 d.2.1 d.2.2 = true ∧ text d.1 d.2.1 d.2.2 = t := ⟨(k, a, b), h, e⟩
  rw [readOf, dif_pos hx]
  obtain ⟨h1, h2⟩ := hx.choose_spec
  obtain ⟨e1, e2, e3⟩ := text_inj h1 h (h2.trans e.symm)
  congr 1
  ext <;> assumption
theorem read_no {bad : Int} {t : List UInt8} (h : ∀ k a b, validB k a b = true → text k a b ≠ t) : readOf bad t = ((0, 0, 0), bad) := by
  rw [readOf, dif_neg]
  rintro ⟨⟨k, a, b⟩, h1, h2⟩
  exact h k a b h1 h2
def second : List (List UInt8) → Int
  | [y] => (valL y : Int)
  | _ => 0
/-- The reference's way: the pieces. -/
theorem text_of_split {k : Int} {t : List UInt8} {x : List UInt8} {r : List (List UInt8)} (hs : splitL 32 t = word k :: x :: r) (hk : kindB k = true) (hn : IsNum x) (h9 : valL x ≤ 999)
    (hr : (many k = 1 ∧ r = []) ∨ ∃ y, many k = 2 ∧ r = [y] ∧ IsNum y ∧ valL y ≤ 999) :
    ∃ b, validB k (valL x) b = true ∧ text k (valL x) b = t ∧ b = second r := by
  have hj := join_split 32 t
  rw [hs] at hj
  rcases hr with ⟨hm, rfl⟩ | ⟨y, hm, rfl, hy, hy9⟩
  · have hv : validB k (valL x) 0 = true := valid_iff.2 ⟨hk, by omega, by omega, Or.inr rfl⟩
    refine ⟨0, hv, ?_, rfl⟩
    rw [text_join hv]
    unfold piecesOf
    rw [if_neg (by omega), show ((valL x : Int)).toNat = valL x by omega, num_dec hn]
    exact hj
  · have hv : validB k (valL x) (valL y) = true := valid_iff.2 ⟨hk, by omega, by omega, Or.inl (by omega)⟩
    refine ⟨valL y, hv, ?_, rfl⟩
    rw [text_join hv]
    unfold piecesOf
    rw [if_pos hm, show ((valL x : Int)).toNat = valL x by omega, show ((valL y : Int)).toNat = valL y by omega, num_dec hn, num_dec hy]
    exact hj

/-! ### The program's way: strconv.ParseInt, then each kind is tried -/
theorem uintM_dec : ∀ (l : List UInt8) (acc : Nat), (∀ b ∈ l, dig b) → l.foldl (fun n b => n * 10 + (b.toNat - 48)) acc < 1000000 →
    Lib.parseUintM (2 ^ 64 - 1) acc l = .ok (l.foldl (fun n b => n * 10 + (b.toNat - 48)) acc) ∧ acc ≤ l.foldl (fun n b => n * 10 + (b.toNat - 48)) acc
  | [], acc, _, _ => ⟨rfl, Nat.le_refl _⟩
  | c :: r, acc, hd, h => by
    rw [List.foldl_cons] at h ⊢
    obtain ⟨h1, h2⟩ := uintM_dec r (acc * 10 + (c.toNat - 48)) (fun b hb => hd b (List.mem_cons_of_mem _ hb)) h
    have hc : 48 ≤ c.toNat ∧ c.toNat ≤ 57 := hd c (List.mem_cons_self ..)
    rw [Lib.parseUintM, if_pos hc, if_neg (by omega), if_neg (by omega)]
    exact ⟨h1, by omega⟩
theorem parse_dec {n : Nat} (h : n < 1000) : Lib.parseIntB 64 (Lib.decDigits n) = .ok (n : Int) := by
  have hd := dec_dig n
  have hne := dec_ne n
  have hv : (Lib.decDigits n).foldl (fun n b => n * 10 + (b.toNat - 48)) 0 = n := dec_val n
  have hu := (uintM_dec (Lib.decDigits n) 0 hd (by rw [hv]; omega)).1
  rw [hv] at hu
  cases hx : Lib.decDigits n with
  | nil => exact absurd hx hne
  | cons c r =>
    rw [hx] at hd hu
    have hc : 48 ≤ c.toNat ∧ c.toNat ≤ 57 := hd c (List.mem_cons_self ..)
    have e1 : ¬ (c.toNat = 43 ∨ c.toNat = 45) := by have := hc.1; omega
    have e2 : ¬ c.toNat = 45 := by have := hc.1; omega
    have e3 : ¬ c.toNat = 43 := by have := hc.1; omega
    simp only [Lib.parseIntB, Lib.parseUintB, e2, e3, or_self, if_false, List.cons_ne_nil, hu, not_false_eq_true, true_and, false_and]
    have h63 : ¬ (2 ^ (64 - 1) ≤ n) := by omega
    rw [if_neg h63]
/-- The numbers behind the word, two at most. -/
def numsOf : List (List UInt8) → Option (Int × Int)
  | [] => some (0, 0)
  | [x] => match Lib.parseIntB 64 x with | .ok a => some (a, 0) | _ => none
  | [x, y] => match Lib.parseIntB 64 x with | .ok a => (match Lib.parseIntB 64 y with | .ok b => some (a, b) | _ => none) | _ => none
  | _ => none
theorem nums_deed {k a b : Int} (h : validB k a b = true) : numsOf (splitL 32 (text k a b)).tail = some (a, b) := by
  rw [text_split h]
  obtain ⟨hk, ha, hb, hm⟩ := valid_iff.1 h
  have pa := parse_dec (n := a.toNat) (by omega)
  have pb := parse_dec (n := b.toNat) (by omega)
  rw [show ((a.toNat : Nat) : Int) = a by omega] at pa
  rw [show ((b.toNat : Nat) : Int) = b by omega] at pb
  unfold piecesOf
  by_cases e : many k = 2
  · rw [if_pos e]
    simp only [List.tail_cons, numsOf, pa, pb]
  · rw [if_neg e]
    have := many_iff hk
    have hb0 : b = 0 := by omega
    simp only [List.tail_cons, numsOf, pa, hb0]
theorem impl_none {bad : Int} {t : List UInt8} (h : numsOf (splitL 32 t).tail = none) : readOf bad t = ((0, 0, 0), bad) :=
  read_no fun k a b hv e => by
    have := nums_deed hv
    rw [e, h] at this
    cases this
theorem impl_found {bad k a b : Int} {t : List UInt8} (hv : validB k a b = true) (e : text k a b = t) : readOf bad t = ((k, a, b), 0) := read_yes hv e
theorem impl_lost {bad a b : Int} {t : List UInt8} (h : numsOf (splitL 32 t).tail = some (a, b)) (hk : ∀ k : Int, 1 ≤ k → k ≤ 9 → ¬ (validB k a b = true ∧ text k a b = t)) : readOf bad t = ((0, 0, 0), bad) :=
  read_no fun k a' b' hv e => by
    have := nums_deed hv
    rw [e, h] at this
    simp only [Option.some.injEq, Prod.mk.injEq] at this
    obtain ⟨rfl, rfl⟩ := this
    have hkk := (valid_iff.1 hv).1
    simp only [kindB, Bool.and_eq_true, decide_eq_true_eq] at hkk
    exact hk k hkk.1 hkk.2 ⟨hv, e⟩

/-! ### The reference's way -/
/-- The kind of a word, 0 where it is none. -/
def kindTo (w : List UInt8) : Nat → Int
  | 0 => 0
  | k + 1 => if 1 ≤ k ∧ word (k : Int) = w then (k : Int) else kindTo w k
theorem kindTo_in (w : List UInt8) : ∀ n, n ≤ 10 → kindTo w n = 0 ∨ (kindB (kindTo w n) = true ∧ word (kindTo w n) = w)
  | 0, _ => Or.inl rfl
  | k + 1, h => by
    rw [kindTo]
    by_cases e : 1 ≤ k ∧ word (k : Int) = w
    · rw [if_pos e]
      exact Or.inr ⟨by simp only [kindB, Bool.and_eq_true, decide_eq_true_eq]; omega, e.2⟩
    · rw [if_neg e]; exact kindTo_in w k (by omega)
theorem kindTo_word {k : Int} (h : kindB k = true) : kindTo (word k) 10 = k := by
  rcases kinds h with rfl | rfl | rfl | rfl | rfl | rfl | rfl | rfl | rfl <;> decide
/-- A number of the reference: of 9 digits at most. -/
def numOk (l : List UInt8) : Prop := IsNum l ∧ l.length ≤ 9
theorem numOk_dec {n : Nat} (h : n < 1000) : numOk (Lib.decDigits n) ∧ valL (Lib.decDigits n) = n := by
  refine ⟨⟨dec_num n, ?_⟩, dec_val n⟩
  rw [Lib.decDigits_length]
  have e : ∀ u, u < 10 → Lib.nDigits u = 1 := fun u h => Lib.nDigits_small h
  by_cases h1 : n < 10
  · rw [e n h1]; omega
  · rw [Lib.nDigits_big h1]
    by_cases h2 : n / 10 < 10
    · rw [e _ h2]; omega
    · rw [Lib.nDigits_big h2, e _ (by omega)]; omega
theorem spec_no {bad : Int} {t w : List UInt8} {r : List (List UInt8)} (hs : splitL 32 t = w :: r) (h : kindTo w 10 = 0 ∨ (r.length : Int) ≠ many (kindTo w 10)) : readOf bad t = ((0, 0, 0), bad) :=
  read_no fun k a b hv e => by
    have h1 := text_split hv
    rw [e, hs] at h1
    simp only [piecesOf, List.cons.injEq] at h1
    obtain ⟨rfl, h2⟩ := h1
    obtain ⟨hk, _⟩ := valid_iff.1 hv
    rw [kindTo_word hk] at h
    rcases h with h | h
    · subst h; exact absurd hk (by decide)
    · have hm := many_iff hk
      by_cases em : many k = 2
      · rw [if_pos em] at h2; rw [h2, em] at h; simp at h
      · rw [if_neg em] at h2; rw [h2] at h; simp at h; omega
/-- What the reference reads: the word's kind, the numbers. -/
theorem spec_bad {bad : Int} {t w x : List UInt8} {r : List (List UInt8)} (hs : splitL 32 t = w :: x :: r) (h : ¬ numOk x ∨ (∃ y, r = [y] ∧ ¬ numOk y) ∨ validB (kindTo w 10) (valL x) (second r) = false) :
    readOf bad t = ((0, 0, 0), bad) :=
  read_no fun k a b hv e => by
    have h1 := text_split hv
    rw [e, hs] at h1
    simp only [piecesOf, List.cons.injEq] at h1
    obtain ⟨rfl, rfl, h2⟩ := h1
    obtain ⟨hk, ha, hb, hm⟩ := valid_iff.1 hv
    rw [kindTo_word hk] at h
    obtain ⟨n1, v1⟩ := numOk_dec (n := a.toNat) (by omega)
    obtain ⟨n2, v2⟩ := numOk_dec (n := b.toNat) (by omega)
    rcases h with h | ⟨y, h, hy⟩ | h
    · exact h n1
    · by_cases em : many k = 2
      · rw [if_pos em, h] at h2
        simp only [List.cons.injEq, and_true] at h2
        exact hy (h2 ▸ n2)
      · rw [if_neg em, h] at h2; cases h2
    · by_cases em : many k = 2
      · rw [if_pos em] at h2
        subst h2
        simp only [v1, v2, second] at h
        rw [show ((a.toNat : Nat) : Int) = a by omega, show ((b.toNat : Nat) : Int) = b by omega, hv] at h
        cases h
      · rw [if_neg em] at h2
        subst h2
        have := many_iff hk
        have hb0 : b = 0 := by omega
        simp only [v1, second] at h
        rw [show ((a.toNat : Nat) : Int) = a by omega, ← hb0, hv] at h
        cases h
theorem spec_yes {bad : Int} {t w x : List UInt8} {r : List (List UInt8)} (hs : splitL 32 t = w :: x :: r) (h0 : kindTo w 10 ≠ 0) (hr : ((x :: r).length : Int) = many (kindTo w 10)) (hx : numOk x) (hy : ∀ y, r = [y] → numOk y)
    (hv : validB (kindTo w 10) (valL x) (second r) = true) : readOf bad t = ((kindTo w 10, (valL x : Int), (second r)), 0) := by
  obtain ⟨hk, hw⟩ := (kindTo_in w 10 (by omega)).resolve_left h0
  refine read_yes hv ?_
  obtain ⟨_, ha, hb, hm⟩ := valid_iff.1 hv
  have hj := join_split 32 t
  rw [hs] at hj
  rw [text_join hv]
  unfold piecesOf
  rw [hw, show ((valL x : Int)).toNat = valL x by omega, num_dec hx.1]
  match r, hr, hy, hj, hb with
  | [], hr, _, hj, _ =>
    rw [if_neg (by simp at hr; omega)]; exact hj
  | [y], hr, hy, hj, hb =>
    rw [if_pos (by simp at hr; omega)]
    show joinL 32 [w, x, Lib.decDigits ((valL y : Int)).toNat] = t
    rw [show ((valL y : Int)).toNat = valL y by omega, num_dec (hy y rfl).1]; exact hj
  | _ :: _ :: _, hr, _, _, _ =>
    have := many_iff hk
    simp at hr
    omega
end Go.Proofs.YtfekhnffbngoaaaDoor.DeedPlain
