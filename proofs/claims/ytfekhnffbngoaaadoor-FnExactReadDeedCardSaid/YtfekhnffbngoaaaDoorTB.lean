/- Cutting a text at blanks; reading a number: the reference's functions, walked. -/
import Derived.Test.YtfekhnffbngoaaaDoorTA
namespace Go.Proofs.YtfekhnffbngoaaaDoor.DeedRead
open Go.Proofs.YtfekhnffbngoaaaDoor.Tot (tot)
open Go.Proofs.YtfekhnffbngoaaaDoor.Mark (cnt mrk mkd mkd_mark cnt_mark)
open Go.ChangeShapes Go.WideShapes Go.ChangeAt Go.RowKit Go.Joins Go.Sort
open Go.Proofs.YtfekhnffbngoaaaDoor.DeedPlain (word many kindB validB text splitL valL numOk kindTo readOf numsOf second IsNum dig)
set_option linter.unusedVariables false
set_option linter.unusedSimpArgs false

abbrev str (l : List UInt8) : Value := .string ⟨l.toArray⟩
/-- The first piece goes on. -/
def preL (cur : List UInt8) : List (List UInt8) → List (List UInt8)
  | h :: t => (cur ++ h) :: t
  | [] => [cur]
theorem pre_nil {l : List (List UInt8)} (h : l ≠ []) : preL [] l = l := by
  cases l with
  | nil => exact absurd rfl h
  | cons x t => rfl
theorem pre_cut (cur : List UInt8) (c : UInt8) (r : List UInt8) : preL cur (splitL c (c :: r)) = cur :: preL [] (splitL c r) := by
  rw [splitL, if_pos rfl, pre_nil (DeedPlain.splitL_ne c r), preL, List.append_nil]
theorem pre_on (cur : List UInt8) {c x : UInt8} (r : List UInt8) (h : x ≠ c) : preL cur (splitL c (x :: r)) = preL (cur ++ [x]) (splitL c r) := by
  rw [splitL, if_neg h]
  cases hs : splitL c r with
  | nil => exact absurd hs (DeedPlain.splitL_ne c r)
  | cons a t => simp [preL]
def curL (t : List UInt8) (f i : Nat) : List UInt8 := (t.drop f).take (i - f)
/-- What is cut off up to place i, the last cut at f. -/
structure SplitAt (t : List UInt8) (ps : List (List UInt8)) (f i : Nat) : Prop where
  le : f ≤ i
  all : splitL 32 t = ps ++ preL (curL t f i) (splitL 32 (t.drop i))
  few : ps.length ≤ i
theorem SplitAt.zero (t : List UInt8) : SplitAt t [] 0 0 := ⟨Nat.le_refl _, by rw [List.drop_zero]; exact (pre_nil (DeedPlain.splitL_ne 32 t)).symm, Nat.le_refl _⟩
theorem drop_at {t : List UInt8} {i : Nat} (h : i < t.length) : t.drop i = t[i]! :: t.drop (i + 1) := by
  rw [getElem!_pos t i h]; exact List.drop_eq_getElem_cons h
theorem cur_on {t : List UInt8} {f i : Nat} (h : i < t.length) (hf : f ≤ i) : curL t f i ++ [t[i]!] = curL t f (i + 1) := by
  unfold curL
  have e : (t.drop f)[i - f]! = t[i]! := by
    rw [getElem!_pos (t.drop f) (i - f) (by rw [List.length_drop]; omega), getElem!_pos t i h, List.getElem_drop]
    congr 1
    omega
  rw [show i + 1 - f = (i - f) + 1 by omega, ← e]
  exact take_snoc (by rw [List.length_drop]; omega)
theorem SplitAt.cut {t : List UInt8} {ps : List (List UInt8)} {f i : Nat} (h : SplitAt t ps f i) (hi : i < t.length) (e : t[i]! = 32) : SplitAt t (ps ++ [curL t f i]) (i + 1) (i + 1) := by
  have h1 := h.few
  refine ⟨Nat.le_refl _, ?_, by simp; omega⟩
  rw [h.all, drop_at hi, e, pre_cut, List.append_assoc]
  have : curL t (i + 1) (i + 1) = [] := by unfold curL; simp
  rw [this]; rfl
theorem SplitAt.on {t : List UInt8} {ps : List (List UInt8)} {f i : Nat} (h : SplitAt t ps f i) (hi : i < t.length) (e : t[i]! ≠ 32) : SplitAt t ps f (i + 1) := by
  have h0 := h.le
  have h1 := h.few
  refine ⟨by omega, ?_, by omega⟩
  rw [h.all, drop_at hi, pre_on _ _ e, cur_on hi h0]
theorem SplitAt.done {t : List UInt8} {ps : List (List UInt8)} {f i : Nat} (h : SplitAt t ps f i) (hi : i = t.length) : splitL 32 t = ps ++ [t.drop f] := by
  subst hi
  have h0 := h.le
  rw [h.all, List.drop_length]
  have : curL t f t.length = t.drop f := by unfold curL; rw [List.take_of_length_le (by rw [List.length_drop]; omega)]
  rw [this]
  simp [splitL, preL]

section
variable {P : Program} {Q : Exit → Act → World → Prop} {n : Nat} {ρ : Env} {w : World} {d : Nat} {ty : TypeId} {pos : String} {af : Array Edge} {K : Env → World → Prop}
theorem size_mk (l : List UInt8) : (⟨l.toArray⟩ : ByteArray).size = l.length := by simp [ByteArray.size]
theorem o_lenS {x : Operand} {t : TypeId} (l : List UInt8) (hu : P.underlying t = some .string) (hx : ev n ρ x = str l) (k : K (upd ρ d (.int .i64 l.length)) w) : OW P Q ⟨some d, .call ⟨.builtin .len, #[x], #[t]⟩, ty, pos, af, none⟩ n ρ w K :=
  o_val _ (by simp [execOp, resolve, invoke, builtin, hx, run_len_string w t ty _ hu, goInt, size_mk]) k
theorem run_idxS {t : TypeId} (l : List UInt8) {i : Nat} (hu : P.underlying t = some .string) (hi : i < l.length) : (Instr.index t (str l) (.int .i64 i)).run P w = .ok (.int .u8 ((l[i]!).toNat : Int)) w := by
  rw [run_index_string w t _ _ _ hu, dif_pos ⟨by omega, by rw [size_mk]; omega⟩]
  congr 3
  rw [getElem!_pos l i hi]
  rfl
theorem o_idxS {x y : Operand} {t : TypeId} (l : List UInt8) (i : Nat) (hu : P.underlying t = some .string) (hx : ev n ρ x = str l) (hy : ev n ρ y = .int .i64 i) (hi : i < l.length) (k : K (upd ρ d (.int .u8 ((l[i]!).toNat : Int))) w) :
    OW P Q ⟨some d, .index t x y, ty, pos, af, none⟩ n ρ w K :=
  o_val _ (by simp [execOp, hx, hy, run_idxS l hu hi]) k
theorem o_subS {x y z : Operand} {t : TypeId} (l : List UInt8) (f i : Nat) (hu : P.underlying t = some .string) (hx : ev n ρ x = str l) (hy : ev n ρ y = .int .i64 f) (hz : ev n ρ z = .int .i64 i) (hf : f ≤ i) (hi : i ≤ l.length)
    (k : K (upd ρ d (str (curL l f i))) w) : OW P Q ⟨some d, .slice t x (some y) (some z) none, ty, pos, af, none⟩ n ρ w K :=
  o_val _ (by
    have e := run_slice_string (P := P) w t (⟨l.toArray⟩ : ByteArray) .i64 .i64 f i hu (by omega) (by omega) (by rw [size_mk]; omega)
    rw [ByteArray.extract_mk] at e
    simp [execOp, hx, hy, hz, Instr.sliceAt, run_underlying hu, e, curL]) k
theorem o_subF {x y : Operand} {t : TypeId} (l : List UInt8) (f : Nat) (hu : P.underlying t = some .string) (hx : ev n ρ x = str l) (hy : ev n ρ y = .int .i64 f) (hf : f ≤ l.length)
    (k : K (upd ρ d (str (l.drop f))) w) : OW P Q ⟨some d, .slice t x (some y) none none, ty, pos, af, none⟩ n ρ w K :=
  o_val _ (by
    have e := run_slice_string_from_if (P := P) w t (⟨l.toArray⟩ : ByteArray) .i64 f hu
    rw [if_pos ⟨by omega, by rw [size_mk]; omega⟩, ByteArray.extract_mk, size_mk, List.take_of_length_le (by rw [List.length_drop]; omega)] at e
    simp [execOp, hx, hy, Instr.sliceAt, run_underlying hu, e]) k
theorem o_eq8 {x y : Operand} {t u : TypeId} (a b : Int) (hx : ev n ρ x = .int .u8 a) (hy : ev n ρ y = .int .u8 b) (k : K (upd ρ d (.bool (a == b))) w) : OW P Q ⟨some d, .binOp .eql t x y u, ty, pos, af, none⟩ n ρ w K :=
  o_val _ (by simp [execOp, hx, hy, eqGuard, binOp, Op.intCmp]) k
theorem o_lt8 {x y : Operand} {t u : TypeId} (a b : Int) (hx : ev n ρ x = .int .u8 a) (hy : ev n ρ y = .int .u8 b) (k : K (upd ρ d (.bool (decide (a < b)))) w) : OW P Q ⟨some d, .binOp .lss t x y u, ty, pos, af, none⟩ n ρ w K :=
  o_val _ (by simp [execOp, hx, hy, eqGuard, binOp, Op.intCmp]) k
theorem o_gt8 {x y : Operand} {t u : TypeId} (a b : Int) (hx : ev n ρ x = .int .u8 a) (hy : ev n ρ y = .int .u8 b) (k : K (upd ρ d (.bool (decide (a > b)))) w) : OW P Q ⟨some d, .binOp .gtr t x y u, ty, pos, af, none⟩ n ρ w K :=
  o_val _ (by simp [execOp, hx, hy, eqGuard, binOp, Op.intCmp]) k
theorem o_sub8 {x y : Operand} {t u : TypeId} (a b : Int) (hx : ev n ρ x = .int .u8 a) (hy : ev n ρ y = .int .u8 b) (h : 0 ≤ a - b ∧ a - b ≤ 255) (k : K (upd ρ d (.int .u8 (a - b))) w) : OW P Q ⟨some d, .binOp .sub t x y u, ty, pos, af, none⟩ n ρ w K :=
  o_val _ (by
    have e : IntKind.u8.wrap (a - b) = a - b := by
      have b8 : IntKind.u8.bits = 8 := rfl
      have s8 : IntKind.u8.signed = false := rfl
      simp [IntKind.wrap, b8, s8]; omega
    simp [execOp, hx, hy, eqGuard, binOp, Op.intArith, e]) k
theorem o_conv8 {x : Operand} {s t : TypeId} {ds : TypeDesc} (a : Int) (hs : P.underlying s = some ds) (ht : P.underlying t = some (.int .i64)) (hx : ev n ρ x = .int .u8 a) (h0 : 0 ≤ a ∧ a ≤ 255) (h : K (upd ρ d (.int .i64 a)) w) :
    OW P Q ⟨some d, .convert s t x, ty, pos, af, none⟩ n ρ w K :=
  o_val (.int .i64 a) (by
    have e : IntKind.i64.wrap a = a := wrap_in (by omega)
    simp [execOp, hx, convert, run_underlying hs, run_underlying ht, Conv.intToInt, e]) h
end
theorem ti9 : TI Tryd.prog 9 (.string ⟨#[]⟩) 1 16 := by unfold TI; kernel_rfl
theorem ti3 : TI Tryd.prog 3 (.int .i64 0) 1 8 := by unfold TI; kernel_rfl

set_option maxRecDepth 100000 in
theorem split_any (t : List UInt8) (w : World) (ht : t.length ≤ 1048576) : Calls Tryd.prog 7 #[str t, .int .u8 32] w
    (Ret (fun v w' => ∃ a c, v = .slice (some ⟨a, 0, none⟩) (splitL 32 t).length c ∧ w.heap.size ≤ a ∧ a < w'.heap.size ∧ ∀ i, i < (splitL 32 t).length → w'.cell? ⟨a, i, none⟩ = some (str ((splitL 32 t)[i]!))) w) := by
  refine enter Tryd.func7 rfl Tryd.ntmps7 (Nat.le_of_ble_eq_true rfl) ?_
  have H := St.start w
  refine zcr (sp (.slice none 0 0) (zjc (sw (o_build0 H Tryd.underlying28 ti9 fun b1 w2 H => sp (.slice (some ⟨b1, 0, none⟩) 0 0) (zjc (sp (.int .i64 0) (zjcc (sp (.int .i64 0) (zjn (c_block ?_))))))))))
  replace H := H.boxRow 0 rfl 1 0 rfl (by decide)
  refine c_loop (fun m' ρ w3 => ∃ (junk : Env) (a : Option Addr) (c : Nat) (ps : List (List UInt8)) (f i : Nat), ρ = upd (upd (upd (upd (upd junk 0 (str t)) 1 (.int .u8 32)) 5 (.slice a ps.length c)) 6 (.int .i64 f)) 7 (.int .i64 i) ∧ i ≤ t.length ∧ SplitAt t ps f i ∧ m' = t.length - i ∧
      St w w3 [.row (.slice a ps.length c) 9 1 ps.length (ps.map str)] []) (t.length) ⟨_, _, _, [], 0, 0, uE5, Nat.zero_le _, SplitAt.zero t, rfl, H⟩ ?_
  clear H
  rintro m' ρ w4 ⟨junk, a, c, ps, f, i, rfl, hi, hS, rfl, H⟩
  have hfew := hS.few
  have hle := hS.le
  refine zcc (sps [.int .i64 i, str t] (sw (o_lenS t Tryd.underlying9 rfl (sp (.bool (decide ((i : Int) < t.length))) (zjn (cD rfl (fun h => ?_) (fun h => ?_)))))))
  · have h : i < t.length := by omega
    refine c_skip (t_n (c_seq (c_block (zcr (sps [str t, .int .i64 i] (sw (o_idxS t i Tryd.underlying9 rfl rfl h (sp (.int .u8 32) (sw (o_eq8 ((t[i]!).toNat : Int) 32 rfl rfl (zjn ?_)))))))))))
    refine c_cond (((t[i]!).toNat : Int) == 32) rfl (fun he => ?_) (fun he => ?_)
    · have he : t[i]! = 32 := by
        have h1 : (t[i]!).toNat = 32 := by have := of_decide_eq_true he; omega
        exact UInt8.toNat_inj.1 h1
      refine zcr (sps [.slice a ps.length c, str t, .int .i64 f, .int .i64 i] (sw (o_subS t f i Tryd.underlying9 rfl rfl rfl hle (by omega) (sw (o_build1C H Tryd.underlying28 ti9 [str (curL t f i)] fun b5 w6 H =>
        sw (o_appendR H 1 rfl 0 rfl Tryd.underlying28 ti9 rfl (by decide) rfl rfl rfl (by simp [Value.oneCell', Value.cells]) (by unfold maxLen; omega) (by omega) fun a7 c8 w9 H => ?_))))))
      have e : ps.map str ++ [str (curL t f i)] = (ps ++ [curL t f i]).map str := by simp
      rw [e] at H
      try dsimp only [List.set] at H
      refine sp (.slice a7 (ps.length + 1) c8) (zjn (c_reg (sps [.int .i64 i] (sw (o_add (i : Int) 1 rfl rfl (by omega) (sp (.int .i64 ((i : Int) + 1)) (c_nil (b_n (t_n (c_reg (sps [.int .i64 i] (sw (o_add (i : Int) 1 rfl rfl (by omega) (sp (.int .i64 ((i : Int) + 1)) (c_nil (loop_end (m' := t.length - (i + 1)) (by omega) ?_))))))))))))))))
      refine ⟨_, a7, c8, ps ++ [curL t f i], i + 1, i + 1, by rw [List.length_append]; exact uE5, by omega, hS.cut h he, rfl, ?_⟩
      rw [List.length_append]
      exact H.pick [1] []
    · have he : t[i]! ≠ 32 := fun e => by
        rw [e] at he; exact absurd he (by decide)
      refine c_skip (b_n (t_n (c_reg (sps [.int .i64 i] (sw (o_add (i : Int) 1 rfl rfl (by omega) (sp (.int .i64 ((i : Int) + 1)) (c_nil (loop_end (m' := t.length - (i + 1)) (by omega) ⟨_, a, c, ps, f, i + 1, uE5, by omega, hS.on h he, rfl, H⟩)))))))))
  · have h : i = t.length := by omega
    have hd := hS.done h
    refine zx4 (c_seq (c_reg (sps [.slice a ps.length c, str t, .int .i64 f] (sw (o_subF t f Tryd.underlying9 rfl rfl (by omega) (sw (o_build1C H Tryd.underlying28 ti9 [str (t.drop f)] fun b5 w6 H =>
        sw (o_appendR H 1 rfl 0 rfl Tryd.underlying28 ti9 rfl (by decide) rfl rfl rfl (by simp [Value.oneCell', Value.cells]) (by unfold maxLen; omega) (by omega) fun a7 c8 w9 H => ?_))))))))
    have e : ps.map str ++ [str (t.drop f)] = (splitL 32 t).map str := by rw [hd]; simp
    rw [e] at H
    try dsimp only [List.set] at H
    have el : ps.length + 1 = (splitL 32 t).length := by rw [hd]; simp
    obtain ⟨b, rfl⟩ := H.rowAddr 1 rfl (by omega)
    refine sp (.slice (some ⟨b, 0, none⟩) (ps.length + 1) c8) (zjr (ret1 (.slice (some ⟨b, 0, none⟩) (ps.length + 1) c8) rfl rfl ⟨_, rfl, ⟨b, c8, by rw [el], (blkAt_has H (i := 1) rfl).1, ?_, fun j hj => ?_⟩, H.base⟩))
    · have := H.rowGet 1 rfl (i := 0) (v := str ((splitL 32 t)[0]!)) (by rw [List.getElem?_map, List.getElem?_eq_getElem (by omega), getElem!_pos _ 0 (by omega)]; rfl)
      exact World.block_lt_of_cell? _ ⟨b, 0, none⟩ (by simpa using this)
    · have := H.rowGet 1 rfl (i := j) (v := str ((splitL 32 t)[j]!)) (by rw [List.getElem?_map, List.getElem?_eq_getElem hj, getElem!_pos _ j hj]; rfl)
      simpa using this

/-! ### A number of the reference's -/
theorem valL_lt : ∀ (n : Nat) (l : List UInt8), l.length = n → (∀ b ∈ l, dig b) → valL l < 10 ^ n
  | 0, l, hl, _ => by
    obtain rfl := List.length_eq_zero_iff.1 hl
    decide
  | n + 1, l, hl, h => by
    have h1 : l ≠ [] := fun e => by rw [e] at hl; simp at hl
    obtain ⟨m, d, rfl⟩ : ∃ m d, l = m ++ [d] := ⟨l.dropLast, l.getLast h1, (List.dropLast_concat_getLast h1).symm⟩
    have ih := valL_lt n m (by simpa using hl) fun b hb => h b (by simp [hb])
    have hd := h d (by simp)
    unfold dig at hd
    rw [DeedPlain.valL_snoc, Nat.pow_succ]
    omega
/-- The first i letters are digits, and come to v. -/
structure NumTo (l : List UInt8) (i v : Nat) : Prop where
  digs : ∀ j, j < i → dig (l[j]!)
  val : v = valL (l.take i)
theorem NumTo.zero (l : List UInt8) : NumTo l 0 0 := ⟨fun j hj => by omega, by simp [valL]⟩
theorem NumTo.on {l : List UInt8} {i v : Nat} (h : NumTo l i v) (hi : i < l.length) (hd : dig (l[i]!)) : NumTo l (i + 1) (v * 10 + ((l[i]!).toNat - 48)) := by
  refine ⟨fun j hj => ?_, ?_⟩
  · by_cases e : j = i
    · subst e; exact hd
    · exact h.digs j (by omega)
  · rw [← take_snoc hi, DeedPlain.valL_snoc, h.val]
theorem mem_take_at {l : List UInt8} {i : Nat} {b : UInt8} (h : b ∈ l.take i) : ∃ j, j < i ∧ j < l.length ∧ b = l[j]! := by
  obtain ⟨j, hj, e⟩ := List.mem_iff_getElem.1 h
  rw [List.length_take] at hj
  refine ⟨j, by omega, by omega, ?_⟩
  rw [getElem!_pos l j (by omega), ← e, List.getElem_take]
theorem NumTo.bd {l : List UInt8} {i v : Nat} (h : NumTo l i v) (hi : i ≤ l.length) (h9 : l.length ≤ 9) : v < 1000000000 := by
  have := valL_lt i (l.take i) (by rw [List.length_take]; omega) fun b hb => by
    obtain ⟨j, h1, _, rfl⟩ := mem_take_at hb
    exact h.digs j h1
  rw [← h.val] at this
  have h2 : 10 ^ i ≤ 10 ^ 9 := Nat.pow_le_pow_right (by decide) (by omega)
  omega
theorem NumTo.done {l : List UInt8} {i v : Nat} (h : NumTo l i v) (hi : i = l.length) (h1 : 1 ≤ l.length) (h9 : l.length ≤ 9) (h0 : (l[0]!).toNat = 48 → l.length = 1) : numOk l ∧ v = valL l := by
  subst hi
  refine ⟨⟨⟨fun e => by rw [e] at h1; simp at h1, fun b hb => ?_, fun e => h0 ?_⟩, h9⟩, by rw [h.val, List.take_length]⟩
  · obtain ⟨j, hj, e⟩ := List.mem_iff_getElem.1 hb
    have := h.digs j hj
    rwa [getElem!_pos l j hj, e] at this
  · cases l with
    | nil => simp at h1
    | cons x r =>
      simp only [List.head?_cons, Option.some.injEq] at e
      subst e; rfl
theorem num_not {l : List UInt8} {j : Nat} (hj : j < l.length) (h : ¬ dig (l[j]!)) : ¬ numOk l := fun hn => h (hn.1.2.1 _ (by rw [getElem!_pos l j hj]; exact List.getElem_mem hj))
theorem num_zero {l : List UInt8} (h : (l[0]!).toNat = 48) (h1 : 1 < l.length) : ¬ numOk l := fun hn => by
  have : l.head? = some 48 := by
    cases l with
    | nil => simp at h1
    | cons x r =>
      have : x.toNat = 48 := h
      have e : x = 48 := UInt8.toNat_inj.1 this
      rw [e]; rfl
  have := hn.1.2.2 this
  omega
abbrev NumRes (l : List UInt8) (v : Value) : Prop := (numOk l ∧ v = .tuple #[.int .i64 (valL l), .bool true]) ∨ (¬ numOk l ∧ v = .tuple #[.int .i64 0, .bool false])

set_option maxRecDepth 100000 in
theorem number_any (l : List UInt8) (w : World) : Calls Tryd.prog 9 #[str l] w (Ret (fun v w' => NumRes l v) w) := by
  refine enter Tryd.func9 rfl Tryd.ntmps9 (Nat.le_of_ble_eq_true rfl) ?_
  have H := St.start w
  refine zcr (sp (.int .i64 0) (sp (.bool false) (zjcc (sps [str l] (sw (o_lenS l Tryd.underlying9 rfl (sps [.bool (decide ((l.length : Int) < 1)), .bool (decide ((l.length : Int) < 1))] ?_)))))))
  cases hA : decide ((l.length : Int) < 1) with
  | true =>
    have hA := of_decide_eq_true hA
    refine g_skips [10, 11, 12] (sps [.bool true, .bool true] (g_skips [15, 16, 17, 18, 19, 20, 21, 22] (sp (.bool true) (zjn (c_cond true rfl (fun _ => ?_) (fun h => by cases h))))))
    refine zcr (sp (.int .i64 0) (sp (.bool false) (zjr ?_)))
    repeat first | apply t_r | apply b_r
    exact ret2 (.int .i64 0) (.bool false) rfl rfl rfl ⟨_, rfl, Or.inr ⟨fun hn => hn.1.1 (List.length_eq_zero_iff.1 (by omega)), rfl⟩, H.base⟩
  | false =>
    have hA := of_decide_eq_false hA
    refine g_take 9 rfl rfl (sp (str l) (g_take 9 rfl rfl (sw (o_lenS l Tryd.underlying9 rfl (g_take 9 rfl rfl (sp (.bool (decide ((l.length : Int) > 9))) (sps [.bool (decide ((l.length : Int) > 9)), .bool (decide ((l.length : Int) > 9))] ?_)))))))
    cases hB : decide ((l.length : Int) > 9) with
    | true =>
      have hB := of_decide_eq_true hB
      refine g_skips [15, 16, 17, 18, 19, 20, 21, 22] (sp (.bool true) (zjn (c_cond true rfl (fun _ => ?_) (fun h => by cases h))))
      refine zcr (sp (.int .i64 0) (sp (.bool false) (zjr ?_)))
      repeat first | apply t_r | apply b_r
      exact ret2 (.int .i64 0) (.bool false) rfl rfl rfl ⟨_, rfl, Or.inr ⟨fun hn => by have := hn.2; omega, rfl⟩, H.base⟩
    | false =>
      have hB := of_decide_eq_false hB
      have h1 : 1 ≤ l.length := by omega
      have h9 : l.length ≤ 9 := by omega
      refine g_take 14 rfl rfl (sp (str l) (g_take 14 rfl rfl (sw (o_idxS l 0 Tryd.underlying9 rfl rfl (by omega) (g_take 14 rfl rfl (sw (o_eq8 ((l[0]!).toNat : Int) 48 rfl rfl (g_take 14 rfl rfl (sp (.bool (((l[0]!).toNat : Int) == 48)) ?_)))))))))
      cases hC : (((l[0]!).toNat : Int) == 48) with
      | true =>
        have hC := of_decide_eq_true hC
        refine g_take 18 rfl rfl (sp (str l) (g_take 18 rfl rfl (sw (o_lenS l Tryd.underlying9 rfl (g_take 18 rfl rfl (sp (.bool (decide ((l.length : Int) > 1))) (g_take 14 rfl rfl (sp (.bool (decide ((l.length : Int) > 1))) (sp (.bool (decide ((l.length : Int) > 1))) (zjn (cD rfl (fun hD => ?_) (fun hD => ?_))))))))))))
        · refine zcr (sp (.int .i64 0) (sp (.bool false) (zjr ?_)))
          repeat first | apply t_r | apply b_r
          exact ret2 (.int .i64 0) (.bool false) rfl rfl rfl ⟨_, rfl, Or.inr ⟨num_zero (by omega) (by omega), rfl⟩, H.base⟩
        · refine c_skip (t_n ?_)
          have h0 : (l[0]!).toNat = 48 → l.length = 1 := fun _ => by omega
          refine zcr (sp (.int .i64 0) (zjcc (sp (.int .i64 0) (zjn (c_block ?_)))))
          refine c_loop (fun m' ρ w3 => ∃ (junk : Env) (i v : Nat), ρ = upd (upd (upd junk 0 (str l)) 4 (.int .i64 v)) 5 (.int .i64 i) ∧ i ≤ l.length ∧ NumTo l i v ∧ m' = l.length - i ∧ St w w3 [] []) l.length ⟨_, 0, 0, uE3, Nat.zero_le _, NumTo.zero l, rfl, H⟩ ?_
          clear H
          rintro m' ρ w4 ⟨junk, i, v, rfl, hi, hN, rfl, H⟩
          have hb := hN.bd hi h9
          refine zcc (sps [.int .i64 i, str l] (sw (o_lenS l Tryd.underlying9 rfl (sp (.bool (decide ((i : Int) < l.length))) (zjn (cD rfl (fun h => ?_) (fun h => ?_)))))))
          · have h : i < l.length := by omega
            refine c_skip (t_n (c_seq (c_block (zcc (sps [str l, .int .i64 i] (sw (o_idxS l i Tryd.underlying9 rfl rfl h (sw (o_lt8 ((l[i]!).toNat : Int) 48 rfl rfl (sp (.bool (decide (((l[i]!).toNat : Int) < 48))) ?_))))))))))
            cases hD : decide (((l[i]!).toNat : Int) < 48) with
            | true =>
              have hD := of_decide_eq_true hD
              refine g_skips [35, 36, 37, 38] (sp (.bool true) (zjn (c_cond true rfl (fun _ => ?_) (fun h => by cases h))))
              refine zcr (sp (.int .i64 0) (sp (.bool false) (zjr ?_)))
              exact t_r (zr5 (ret2 (.int .i64 0) (.bool false) rfl rfl rfl ⟨_, rfl, Or.inr ⟨num_not h (fun hd => by unfold dig at hd; omega), rfl⟩, H.base⟩))
            | false =>
              have hD := of_decide_eq_false hD
              refine g_take 34 rfl rfl (sp (str l) (g_take 34 rfl rfl (sp (.int .i64 i) (g_take 34 rfl rfl (sw (o_idxS l i Tryd.underlying9 rfl rfl h (g_take 34 rfl rfl (sw (o_gt8 ((l[i]!).toNat : Int) 57 rfl rfl (sp (.bool (decide (((l[i]!).toNat : Int) > 57))) (zjn (cD rfl (fun hE => ?_) (fun hE => ?_)))))))))))))
              · refine zcr (sp (.int .i64 0) (sp (.bool false) (zjr ?_)))
                exact t_r (zr5 (ret2 (.int .i64 0) (.bool false) rfl rfl rfl ⟨_, rfl, Or.inr ⟨num_not h (fun hd => by unfold dig at hd; omega), rfl⟩, H.base⟩))
              · have hd : dig (l[i]!) := ⟨by omega, by omega⟩
                refine c_skip (t_n (c_reg (sp (.int .i64 v) (sw (o_mul (v : Int) 10 rfl rfl (by omega) (sps [str l, .int .i64 i] (sw (o_idxS l i Tryd.underlying9 rfl rfl h (sw (o_sub8 ((l[i]!).toNat : Int) 48 rfl rfl (by omega) (sw (o_conv8 (((l[i]!).toNat : Int) - 48) Tryd.underlying5 Tryd.underlying2 rfl (by omega) (sw (o_add ((v : Int) * 10) (((l[i]!).toNat : Int) - 48) rfl rfl (by omega) (sp (.int .i64 ((v : Int) * 10 + (((l[i]!).toNat : Int) - 48))) (c_nil (b_n (t_n (c_reg (sps [.int .i64 i] (sw (o_add (i : Int) 1 rfl rfl (by omega) (sp (.int .i64 ((i : Int) + 1)) (c_nil (loop_end (m' := l.length - (i + 1)) (by omega) ?_)))))))))))))))))))))))))
                exact ⟨_, i + 1, v * 10 + ((l[i]!).toNat - 48), by rw [show ((v * 10 + ((l[i]!).toNat - 48) : Nat) : Int) = (v : Int) * 10 + (((l[i]!).toNat : Int) - 48) by omega]; exact uE3, by omega, hN.on h hd, rfl, H⟩
          · have h : i = l.length := by omega
            obtain ⟨hn, hv⟩ := hN.done h h1 h9 h0
            refine zx4 (zcr (sp (.int .i64 v) (sp (.int .i64 v) (sp (.bool true) (zjr ?_)))))
            repeat first | apply t_r | apply b_r
            exact ret2 (.int .i64 v) (.bool true) rfl rfl rfl ⟨_, rfl, Or.inl ⟨hn, by rw [hv]⟩, H.base⟩
      | false =>
        have hC : ¬ ((l[0]!).toNat : Int) = 48 := of_decide_eq_false hC
        refine g_skips [19, 20, 21] (g_take 14 rfl rfl (sp (.bool false) (sp (.bool false) (zjn (c_cond false rfl (fun h => by cases h) (fun _ => ?_))))))
        refine c_skip (t_n ?_)
        have h0 : (l[0]!).toNat = 48 → l.length = 1 := fun h => absurd h (by omega)
        refine zcr (sp (.int .i64 0) (zjcc (sp (.int .i64 0) (zjn (c_block ?_)))))
        refine c_loop (fun m' ρ w3 => ∃ (junk : Env) (i v : Nat), ρ = upd (upd (upd junk 0 (str l)) 4 (.int .i64 v)) 5 (.int .i64 i) ∧ i ≤ l.length ∧ NumTo l i v ∧ m' = l.length - i ∧ St w w3 [] []) l.length ⟨_, 0, 0, uE3, Nat.zero_le _, NumTo.zero l, rfl, H⟩ ?_
        clear H
        rintro m' ρ w4 ⟨junk, i, v, rfl, hi, hN, rfl, H⟩
        have hb := hN.bd hi h9
        refine zcc (sps [.int .i64 i, str l] (sw (o_lenS l Tryd.underlying9 rfl (sp (.bool (decide ((i : Int) < l.length))) (zjn (cD rfl (fun h => ?_) (fun h => ?_)))))))
        · have h : i < l.length := by omega
          refine c_skip (t_n (c_seq (c_block (zcc (sps [str l, .int .i64 i] (sw (o_idxS l i Tryd.underlying9 rfl rfl h (sw (o_lt8 ((l[i]!).toNat : Int) 48 rfl rfl (sp (.bool (decide (((l[i]!).toNat : Int) < 48))) ?_))))))))))
          cases hD : decide (((l[i]!).toNat : Int) < 48) with
          | true =>
            have hD := of_decide_eq_true hD
            refine g_skips [35, 36, 37, 38] (sp (.bool true) (zjn (c_cond true rfl (fun _ => ?_) (fun h => by cases h))))
            refine zcr (sp (.int .i64 0) (sp (.bool false) (zjr ?_)))
            exact t_r (zr5 (ret2 (.int .i64 0) (.bool false) rfl rfl rfl ⟨_, rfl, Or.inr ⟨num_not h (fun hd => by unfold dig at hd; omega), rfl⟩, H.base⟩))
          | false =>
            have hD := of_decide_eq_false hD
            refine g_take 34 rfl rfl (sp (str l) (g_take 34 rfl rfl (sp (.int .i64 i) (g_take 34 rfl rfl (sw (o_idxS l i Tryd.underlying9 rfl rfl h (g_take 34 rfl rfl (sw (o_gt8 ((l[i]!).toNat : Int) 57 rfl rfl (sp (.bool (decide (((l[i]!).toNat : Int) > 57))) (zjn (cD rfl (fun hE => ?_) (fun hE => ?_)))))))))))))
            · refine zcr (sp (.int .i64 0) (sp (.bool false) (zjr ?_)))
              exact t_r (zr5 (ret2 (.int .i64 0) (.bool false) rfl rfl rfl ⟨_, rfl, Or.inr ⟨num_not h (fun hd => by unfold dig at hd; omega), rfl⟩, H.base⟩))
            · have hd : dig (l[i]!) := ⟨by omega, by omega⟩
              refine c_skip (t_n (c_reg (sp (.int .i64 v) (sw (o_mul (v : Int) 10 rfl rfl (by omega) (sps [str l, .int .i64 i] (sw (o_idxS l i Tryd.underlying9 rfl rfl h (sw (o_sub8 ((l[i]!).toNat : Int) 48 rfl rfl (by omega) (sw (o_conv8 (((l[i]!).toNat : Int) - 48) Tryd.underlying5 Tryd.underlying2 rfl (by omega) (sw (o_add ((v : Int) * 10) (((l[i]!).toNat : Int) - 48) rfl rfl (by omega) (sp (.int .i64 ((v : Int) * 10 + (((l[i]!).toNat : Int) - 48))) (c_nil (b_n (t_n (c_reg (sps [.int .i64 i] (sw (o_add (i : Int) 1 rfl rfl (by omega) (sp (.int .i64 ((i : Int) + 1)) (c_nil (loop_end (m' := l.length - (i + 1)) (by omega) ?_)))))))))))))))))))))))))
              exact ⟨_, i + 1, v * 10 + ((l[i]!).toNat - 48), by rw [show ((v * 10 + ((l[i]!).toNat - 48) : Nat) : Int) = (v : Int) * 10 + (((l[i]!).toNat : Int) - 48) by omega]; exact uE3, by omega, hN.on h hd, rfl, H⟩
        · have h : i = l.length := by omega
          obtain ⟨hn, hv⟩ := hN.done h h1 h9 h0
          refine zx4 (zcr (sp (.int .i64 v) (sp (.int .i64 v) (sp (.bool true) (zjr ?_)))))
          repeat first | apply t_r | apply b_r
          exact ret2 (.int .i64 v) (.bool true) rfl rfl rfl ⟨_, rfl, Or.inl ⟨hn, by rw [hv]⟩, H.base⟩
end Go.Proofs.YtfekhnffbngoaaaDoor.DeedRead
