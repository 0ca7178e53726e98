/- The program's ReadDeed, walked. Condition: the library's tables and its two error values read as their own initialisers lay them. -/
import Derived.Test.YtfekhnffbngoaaaDoorTC
import Derived.ChangeAgain
import Derived.Stop.IfaceNil
namespace Go.Proofs.YtfekhnffbngoaaaDoor.DeedRead
open Go.Proofs.YtfekhnffbngoaaaDoor.Tot (tot)
open Go.Proofs.YtfekhnffbngoaaaDoor.Mark (cnt mrk mkd mkd_mark cnt_mark)
open Go.ChangeShapes Go.WideShapes Go.ChangeAt Go.RowKit Go.Joins Go.Sort
open Go.Proofs.YtfekhnffbngoaaaDoor.DeedPlain (word many kindB validB text splitL valL numOk kindTo readOf numsOf second IsNum dig)
set_option linter.unusedVariables false
set_option linter.unusedSimpArgs false

/-! ### The library's cut is the plain one -/
theorem idx_hit (l : List UInt8) : Lib.index (32 :: l) [32] = 0 := by
  rw [Lib.index, if_pos (by simp [List.isPrefixOf])]
theorem idx_miss {b : UInt8} (l : List UInt8) (h : b ≠ 32) : Lib.index (b :: l) [32] = if Lib.index l [32] == -1 then -1 else Lib.index l [32] + 1 := by
  rw [Lib.index, if_neg (by simp [List.isPrefixOf]; exact fun e => h e.symm)]
theorem cnt_hit (l : List UInt8) : Lib.count (32 :: l) [32] = 1 + Lib.count l [32] := by
  have := Lib.count_hit (s := 32 :: l) (sub := [32]) (i := 0) (by simp) (idx_hit l)
  simpa using this
theorem cnt_on {b : UInt8} (l : List UInt8) (h : b ≠ 32) : Lib.count (b :: l) [32] = Lib.count l [32] := by
  have hm := idx_miss l h
  by_cases e : Lib.index l [32] = -1
  · rw [if_pos (by simpa using e)] at hm
    rw [Lib.count_miss hm, Lib.count_miss e]
  · rw [if_neg (by simpa using e)] at hm
    have hge := Lib.index_ge l [32]
    obtain ⟨i, hi⟩ := Int.eq_ofNat_of_zero_le (show 0 ≤ Lib.index l [32] by omega)
    have h1 := Lib.count_hit (s := l) (sub := [32]) (i := i) (by simp) hi
    have h2 := Lib.count_hit (s := b :: l) (sub := [32]) (i := i + 1) (by simp) (by rw [hm, hi]; push_cast; rfl)
    rw [h1, h2]
    simp
theorem splitK_eq : ∀ l : List UInt8, Lib.splitK [32] 0 (Lib.count l [32]) l = splitL 32 l
  | [] => by
    rw [Lib.count_miss (by simp [Lib.index])]
    simp [Lib.splitK, splitL]
  | b :: l => by
    have ih := splitK_eq l
    by_cases h : b = 32
    · subst h
      rw [cnt_hit, splitL, if_pos rfl, ← ih, Nat.add_comm 1, Lib.splitK, idx_hit, if_neg (by decide)]
      simp
    · rw [cnt_on l h, splitL, if_neg h, ← ih]
      cases hc : Lib.count l [32] with
      | zero => simp [Lib.splitK]
      | succ k =>
        have hm := idx_miss l h
        by_cases e : Lib.index l [32] = -1
        · rw [Lib.count_miss e] at hc; cases hc
        · rw [if_neg (by simpa using e)] at hm
          have hge := Lib.index_ge l [32]
          obtain ⟨i, hi⟩ := Int.eq_ofNat_of_zero_le (show 0 ≤ Lib.index l [32] by omega)
          rw [Lib.splitK, Lib.splitK, hm, hi, if_neg (by first | (simp; done) | (simp; omega)), if_neg (by first | (simp; done) | (simp; omega))]
          simp only [List.length_cons, List.length_nil, Nat.add_zero, Int.toNat_natCast]
          rw [show ((i : Int) + 1).toNat = i + 1 by omega]
          simp
theorem splitB_eq (t : List UInt8) : (Lib.splitB ⟨#[32]⟩ 0 (Lib.countB ⟨t.toArray⟩ ⟨#[32]⟩) ⟨t.toArray⟩).map Value.string = strs (splitL 32 t) := by
  have e := Lib.splitB_data ⟨#[32]⟩ 0 (Lib.countB ⟨t.toArray⟩ ⟨#[32]⟩) ⟨t.toArray⟩
  have e2 : Lib.splitK [32] 0 (Lib.count t [32]) t = splitL 32 t := splitK_eq t
  have e3 : (Lib.splitB ⟨#[32]⟩ 0 (Lib.countB ⟨t.toArray⟩ ⟨#[32]⟩) ⟨t.toArray⟩).map (fun b : ByteArray => b.data.toList) = splitL 32 t := e.trans (by simpa using e2)
  rw [← e3]
  unfold strs
  rw [List.map_map]
  refine List.map_congr_left fun b _ => ?_
  show Value.string b = str b.data.toList
  obtain ⟨⟨l⟩⟩ := b
  rfl
theorem splitB_len (t : List UInt8) : Lib.countB ⟨t.toArray⟩ ⟨#[32]⟩ + 1 = (splitL 32 t).length := by
  have h := Lib.splitB_all ⟨#[32]⟩ (by decide) 0 _ ⟨t.toArray⟩ rfl
  have e := congrArg List.length (splitB_eq t)
  simp only [List.length_map] at e
  omega

theorem piece_le {t p : List UInt8} (h : p ∈ splitL 32 t) : p.length ≤ t.length := by
  induction t generalizing p with
  | nil => simp [splitL] at h; simp [h]
  | cons b l ih =>
    rw [splitL] at h
    split at h
    · rcases List.mem_cons.1 h with rfl | h
      · simp
      · have := ih h; simp; omega
    · split at h
      · rename_i x r e
        rcases List.mem_cons.1 h with rfl | h
        · have := ih (p := x) (by rw [e]; simp)
          simp; omega
        · have := ih (p := p) (by rw [e]; exact List.mem_cons_of_mem _ h)
          simp; omega
      · rw [List.mem_singleton.1 h]; simp
/-! ### Worlds that come later -/
theorem Ext.shaped {P : Program} {w w' : World} (x : Ext w w') (h : w.ShapedOpen P) : w'.ShapedOpen P := h.keptBut (Below.frame x fun _ => False) (fun p hp => hp.elim)
abbrev ErrAt (w : World) (g : Nat) : Prop := ∃ te pe, w.cell? ⟨g, 0, none⟩ = some (.iface te pe)
theorem Ext.err {w w' : World} (x : Ext w w') {g : Nat} (h : ErrAt w g) : ErrAt w' g := by
  obtain ⟨te, pe, h⟩ := h
  exact ⟨te, pe, (Below.cell x (p := ⟨g, 0, none⟩) (World.block_lt_of_cell? w ⟨g, 0, none⟩ h)).trans h⟩
abbrev gS : Nat := layPi_ren.g 15
abbrev gR : Nat := layPi_ren.g 16
theorem split_lib (t : List UInt8) (w : World) (ht : t.length ≤ 1048576) (hs : w.ShapedOpen Tryd.prog) : Calls Tryd.prog 11 #[str t, .string ⟨#[32]⟩] w
    (Ret (fun v w' => ∃ a, v = .slice (some ⟨a, 0, none⟩) (splitL 32 t).length (splitL 32 t).length ∧ w.heap.size ≤ a ∧ a < w'.heap.size ∧ CellsAt w' a 0 (strs (splitL 32 t))) w) :=
  (Any.strings_Split_shaped laySp ⟨t.toArray⟩ ⟨#[32]⟩ w hs (by rw [size_mk]; omega) (by decide)).mono fun e w' ⟨he, hw⟩ => by
    subst hw
    refine ⟨_, he, ⟨w.heap.size, by rw [splitB_len], Nat.le_refl _, by simp, ?_⟩, (Below.refl _ _).alloc (Nat.le_refl _) _⟩
    intro i v hv
    rw [Nat.zero_add, cell_of_block (heap_alloc_new w _), splitB_eq]
    simpa using hv
abbrev ParRes (l : List UInt8) (v : Value) : Prop := ∃ (x : Int) (e : Value), v = .tuple #[.int .i64 x, e] ∧ ((e = .nilIface ∧ Lib.parseIntB 64 l = .ok x) ∨ ((∃ te pe, e = .iface te pe) ∧ ∀ y, Lib.parseIntB 64 l ≠ .ok y))
theorem parse_lib (l : List UInt8) (w : World) (hl : l.length ≤ 1048576) (hS : ErrAt w gS) (hR : ErrAt w gR) : Calls Tryd.prog 12 #[str l, .int .i64 10, .int .i64 64] w (Ret (fun v w' => ParRes l v) w) := by
  obtain ⟨ts, ps, hS⟩ := hS
  obtain ⟨tr, pr, hR⟩ := hR
  rcases h : Lib.parseIntB 64 l with x | _ | _
  · refine (Any.strconv_ParseInt_10_at64_ok layPi ⟨l.toArray⟩ (by rw [size_mk]; omega) x (by simpa using h) w).mono fun e w' ⟨he, hw⟩ => ⟨_, he, ⟨x, _, rfl, .inl ⟨rfl, h⟩⟩, ?_⟩
    rcases hw with rfl | ⟨s, rfl⟩
    · exact Below.refl _ _
    · exact below_bytesWorld _ _ _ _ (Nat.le_refl _)
  · refine (Any.strconv_ParseInt_10_at64_syntax layPi ⟨l.toArray⟩ (by rw [size_mk]; omega) (by simpa using h) _ w hS (.inr ⟨_, _, rfl⟩)).mono fun e w' ⟨N, he, _, _, hw⟩ => ⟨_, he, ⟨_, _, rfl, .inr ⟨⟨_, _, rfl⟩, fun y e => by rw [h] at e; cases e⟩⟩, hw⟩
  · refine (Any.strconv_ParseInt_10_at64_range layPi ⟨l.toArray⟩ (by rw [size_mk]; omega) (by simpa using h) _ w hR (.inr ⟨_, _, rfl⟩)).mono fun e w' ⟨N, he, _, _, hw⟩ => ⟨_, he, ⟨_, _, rfl, .inr ⟨⟨_, _, rfl⟩, fun y e => by rw [h] at e; cases e⟩⟩, hw⟩

/-! ### The numbers behind the word -/
structure NumsTo (T : List (List UInt8)) (i : Nat) (x y : Int) : Prop where
  two : i ≤ 2
  le : i ≤ T.length
  first : 1 ≤ i → Lib.parseIntB 64 (T[0]!) = .ok x
  snd : 2 ≤ i → Lib.parseIntB 64 (T[1]!) = .ok y
  zx : i = 0 → x = 0
  zy : i ≤ 1 → y = 0
theorem NumsTo.zero (T : List (List UInt8)) : NumsTo T 0 0 0 := ⟨by omega, by omega, fun h => by omega, fun h => by omega, fun _ => rfl, fun _ => rfl⟩
theorem nums_many {T : List (List UInt8)} (h : 3 ≤ T.length) : numsOf T = none := by
  match T, h with
  | [], h => simp at h
  | [_], h => simp at h
  | [_, _], h => simp at h
  | _ :: _ :: _ :: _, _ => rfl
theorem nums_bad {T : List (List UInt8)} {i : Nat} (hi : i < T.length) (h2 : i ≤ 1) (h : ∀ y, Lib.parseIntB 64 (T[i]!) ≠ .ok y) : numsOf T = none := by
  by_cases h3 : 3 ≤ T.length
  · exact nums_many h3
  match T, h3, hi, h with
  | [], _, hi, _ => simp at hi
  | [x], _, hi, h =>
    obtain rfl : i = 0 := by simp at hi; omega
    rw [numsOf]
    split
    · rename_i a e; exact absurd e (h a)
    · rfl
  | [x, y], _, hi, h =>
    rw [numsOf]
    split
    · rename_i a e
      have : i = 1 := by
        rcases (show i = 0 ∨ i = 1 by omega) with h0 | h0
        · subst h0; exact absurd e (h a)
        · exact h0
      subst this
      split
      · rename_i b e2; exact absurd e2 (h b)
      · rfl
    · rfl
  | _ :: _ :: _ :: _, h3, _, _ => simp at h3
theorem NumsTo.done {T : List (List UInt8)} {i : Nat} {x y : Int} (h : NumsTo T i x y) (hi : i = T.length) : numsOf T = some (x, y) := by
  have h2 := h.two
  match T, h, hi with
  | [], h, hi => rw [h.zx (by simpa using hi), h.zy (by simp at hi; omega)]; rfl
  | [a], h, hi =>
    have e := h.first (by simp at hi; omega)
    have e1 : Lib.parseIntB 64 a = .ok x := e
    rw [h.zy (by simp at hi; omega)]
    simp only [numsOf, e1]
  | [a, b], h, hi =>
    have e1 : Lib.parseIntB 64 a = .ok x := h.first (by simp at hi; omega)
    have e2 : Lib.parseIntB 64 b = .ok y := h.snd (by simp at hi; omega)
    simp only [numsOf, e1, e2]
  | _ :: _ :: _ :: _, h, hi => simp at hi; omega
section
variable {P : Program} {Q : Exit → Act → World → Prop} {n : Nat} {ρ : Env} {w : World} {d : Nat} {ty : TypeId} {pos : String} {af : Array Edge} {K : Env → World → Prop}
theorem o_from1 {x y : Operand} {t e : TypeId} {z : Value} {by' a : Nat} (m : Nat) (hm : 1 ≤ m) (hu : P.underlying t = some (.slice e)) (he : TI P e z 1 by') (hx : ev n ρ x = .slice (some ⟨a, 0, none⟩) m m) (hy : ev n ρ y = .int .i64 1)
    (k : ∀ o, (m ≠ 1 → o = 1) → K (upd ρ d (.slice (some ⟨a, o, none⟩) (m - 1) (m - 1))) w) : OW P Q ⟨some d, .slice t x (some y) none none, ty, pos, af, none⟩ n ρ w K := by
  refine o_val _ ?_ (k (if m = 1 then 0 else 1) (fun h => if_neg h))
  by_cases h : m = 1
  · subst h
    simp [execOp, hx, hy, Instr.sliceAt, Instr.slice, Instr.sliceBounds, Instr.sliceBound, asIntOf, run_underlying hu, he.sizeOf]
  · simp [execOp, hx, hy, Instr.sliceAt, Instr.slice, Instr.sliceBounds, Instr.sliceBound, asIntOf, run_underlying hu, he.sizeOf, h, hm, Addr.add]
    intro hc; omega
theorem o_nil0 {x : Operand} {t u : TypeId} (hi : P.isIface t = true) (hx : ev n ρ x = .nilIface) (k : K (upd ρ d (.bool false)) w) : OW P Q ⟨some d, .binOp .neq t x (.const .nilIface) u, ty, pos, af, none⟩ n ρ w K :=
  by
  have hy : ev n ρ (.const .nilIface) = .nilIface := rfl
  refine o_val _ ?_ k
  simp [execOp, hx, hy, eqGuard, run_neq_nil_nil_at w t hi]
theorem o_nil1 {x : Operand} {t u te : TypeId} {pe : Value} (hi : P.isIface t = true) (hx : ev n ρ x = .iface te pe) (k : K (upd ρ d (.bool true)) w) : OW P Q ⟨some d, .binOp .neq t x (.const .nilIface) u, ty, pos, af, none⟩ n ρ w K :=
  by
  have hy : ev n ρ (.const .nilIface) = .nilIface := rfl
  refine o_val _ ?_ k
  simp [execOp, hx, hy, eqGuard, run_neq_iface_nil w t hi te pe]
end
theorem tiA : TI Tryd.prog 37 (.agg #[.int .i64 0, .int .i64 0]) 2 16 := by unfold TI; kernel_rfl
theorem ti2' : TI Tryd.prog 2 (.int .i64 0) 1 8 := by unfold TI; kernel_rfl

set_option maxRecDepth 100000 in
theorem implRead_any (t : List UInt8) (w : World) (ht : t.length ≤ 1048576) (hsh : w.ShapedOpen Tryd.prog) (htab : tab w) (hS : ErrAt w gS) (hR : ErrAt w gR) : Calls Tryd.prog 5 #[str t] w (Ret (fun v w' => v = resV (readOf 5 t)) w) := by
  have hI0 : Program.isIface Tryd.prog 39 = true := by unfold Program.isIface; rw [Tryd.underlying39]
  obtain ⟨L, hL⟩ : ∃ L, splitL 32 t = L := ⟨_, rfl⟩
  obtain ⟨w0, T, rfl⟩ : ∃ w0 T, L = w0 :: T := by
    cases L with
    | nil => exact absurd hL (DeedPlain.splitL_ne 32 t)
    | cons x l => exact ⟨x, l, rfl⟩
  have hT : (splitL 32 t).tail = T := by rw [hL]; rfl
  have hlen : ∀ (w : World) (i : Nat), i < T.length → (T[i]!).length ≤ 1048576 := fun _ i hi => by
    refine Nat.le_trans (piece_le ?_) ht
    rw [hL]; exact List.mem_cons_of_mem _ (by rw [getElem!_pos T i hi]; exact List.getElem_mem hi)
  refine enter Tryd.func5 rfl Tryd.ntmps5 (Nat.le_of_ble_eq_true rfl) ?_
  refine zcr (sw (o_allocC (St.start w) tiD (deed 0 0 0) fun b2 w2 H => sp (.int .i64 0) (zjc (sp (str t) ?_))))
  refine sw (o_call #[str t, .string ⟨#[32]⟩] rfl rfl Tryd.call11 (split_lib t _ ht (Ext.shaped H.base hsh)) ?_)
  rw [hL]
  rintro v w3 ⟨a, rfl, ha0, ha, hc⟩ x3
  replace H := addAt H x3 ha0 ha hc
  refine sp (.slice (some ⟨a, 0, none⟩) (w0 :: T).length (w0 :: T).length) (zjc (sw (o_build [.int .i64 0, .int .i64 0] [] (sw (o_allocC H tiA [.int .i64 0, .int .i64 0] fun b5 w5 H => sw (o_storeC H 0 [.int .i64 0, .int .i64 0] Tryd.sizeOf37 fun w6 H => ?_))))))
  try dsimp only [List.set] at H
  refine zjcc (sp (.slice (some ⟨a, 0, none⟩) (w0 :: T).length (w0 :: T).length) (sw (o_from1 (w0 :: T).length (by simp) Tryd.underlying28 ti9 rfl rfl fun o ho => ?_)))
  have el : (w0 :: T).length - 1 = T.length := by simp
  have el2 : (w0 :: T).length = T.length + 1 := by simp
  rw [el]
  refine sw (o_len Tryd.underlying28 (some ⟨a, o, none⟩) T.length T.length rfl (sp (.int .i64 0) (zjn (c_block ?_))))
  refine c_loop (fun m' ρ w7 => ∃ (junk : Env) (i : Nat) (x y : Int), ρ = upd (upd (upd (upd (upd (upd (upd junk 0 (str t)) 2 (.pointer (some ⟨b2, 0, none⟩))) 3 (.int .i64 0)) 5 (.pointer (some ⟨b5, 0, none⟩))) 16 (.slice (some ⟨a, o, none⟩) T.length T.length)) 17 (.int .i64 T.length)) 18 (.int .i64 i) ∧ NumsTo T i x y ∧ m' = T.length - i ∧
    St w w7 [.box b5 ([x, y].map (Value.int .i64)) 37, .box b2 (deed 0 0 0) 23] [atF a 0 (strs (w0 :: T))]) T.length ⟨_, 0, 0, 0, uE7, NumsTo.zero T, rfl, H⟩ ?_
  clear H
  rintro m' ρ w7 ⟨junk, i, x, y, rfl, hN, rfl, H⟩
  have h2 := hN.two
  have hile := hN.le
  refine c_seq (c_reg (sp (.bool (decide ((i : Int) < T.length))) (c_nil (t_n (c_seq (cD rfl (fun h => ?_) (fun h => ?_)))))))
  · have h : i < T.length := by omega
    have ho1 : o = 1 := ho (by omega)
    have hpiece : w7.cell? ⟨a, o + (i : Int).toNat * 1, none⟩ = some (str (T[i]!)) := by
      have := H.cellF 0 rfl (i + 1) (strs_at (l := w0 :: T) (by simp; omega))
      rw [ho1, show 1 + (i : Int).toNat * 1 = 0 + (i + 1) by omega, this]
      rfl
    refine c_skip (t_n (c_seq (c_block (zcr (sp (.int .i64 i) (sw (o_idxAt (i : Int) Tryd.underlying28 ti9 rfl rfl (by omega) (by omega) (sw (o_load1 (str (T[i]!)) Tryd.isAgg9 rfl hpiece (sps [.int .i64 i, str (T[i]!)] (zjc (sp (str (T[i]!)) ?_))))))))))))
    refine sw (o_call #[str (T[i]!), .int .i64 10, .int .i64 64] rfl rfl Tryd.call12 (parse_lib _ _ (hlen w i h) (Ext.err H.base hS) (Ext.err H.base hR)) ?_)
    rintro v w8 ⟨z, e, rfl, he⟩ x8
    replace H := H.ext x8
    refine sps [.tuple #[.int .i64 z, e], .int .i64 z, e, .int .i64 z, e] (zjcc (sps [.int .i64 i, .bool (decide ((i : Int) > 1)), .bool (decide ((i : Int) > 1))] ?_))
    cases h1 : decide ((i : Int) > 1) with
    | true =>
      have h1 := of_decide_eq_true h1
      have E : readOf 5 t = ((0, 0, 0), 5) := DeedPlain.impl_none (by rw [hT]; exact nums_many (by omega))
      refine g_skips [31, 32] (sp (.bool true) (zjn (c_cond true rfl (fun _ => ?_) (fun h => by cases h))))
      refine zcr (sw (o_build (deed 0 0 0) [] (sw (o_storeC H 1 (deed 0 0 0) Tryd.sizeOf23 fun w20 H => sp (.int .i64 5) ?_))))
      try dsimp only [List.set] at H
      exact zjr (t_r (zr5 (retC2 H 1 rfl (.int .i64 5) rfl Tryd.isAgg23 Tryd.sizeOf23 rfl rfl ⟨_, rfl, by rw [E], H.base⟩)))
    | false =>
      have h1 := of_decide_eq_false h1
      rcases he with ⟨rfl, he⟩ | ⟨⟨te, pe, rfl⟩, he⟩
      · refine g_take 30 rfl rfl (sp .nilIface (g_take 30 rfl rfl (sw (o_nil0 hI0 rfl (sp (.bool false) (zjn (c_cond false rfl (fun h => by cases h) (fun _ => ?_))))))))
        refine c_skip (t_n (c_reg (sps [.int .i64 i, .int .i64 z] (sw (o_idxArr (i : Int) Tryd.underlying37 ti2' rfl rfl (by omega) (by omega) (sw (o_storeArr H 0 rfl z Tryd.sizeOf2 rfl rfl (i := i) (by omega) (by simp; omega) fun w9 H => ?_)))))))
        try dsimp only [List.set] at H
        refine c_nil (b_n (t_n (c_reg (sw (o_add (i : Int) 1 rfl rfl (by omega) (sp (.int .i64 ((i : Int) + 1)) (c_nil (loop_end (m' := T.length - (i + 1)) (by omega) ?_))))))))
        rcases (show i = 0 ∨ i = 1 by omega) with rfl | rfl
        · exact ⟨_, 0 + 1, z, y, uE7, ⟨by omega, by omega, fun _ => he, fun h => by omega, fun h => by omega, fun _ => hN.zy (by omega)⟩, rfl, H⟩
        · exact ⟨_, 1 + 1, x, z, uE7, ⟨by omega, by omega, fun _ => hN.first (by omega), fun _ => he, fun h => by omega, fun h => by omega⟩, rfl, H⟩
      · have E : readOf 5 t = ((0, 0, 0), 5) := DeedPlain.impl_none (by rw [hT]; exact nums_bad h (by omega) he)
        refine g_take 30 rfl rfl (sp (.iface te pe) (g_take 30 rfl rfl (sw (o_nil1 hI0 rfl (sp (.bool true) (zjn (c_cond true rfl (fun _ => ?_) (fun h => by cases h))))))))
        refine zcr (sw (o_build (deed 0 0 0) [] (sw (o_storeC H 1 (deed 0 0 0) Tryd.sizeOf23 fun w20 H => sp (.int .i64 5) ?_))))
        try dsimp only [List.set] at H
        exact zjr (t_r (zr5 (retC2 H 1 rfl (.int .i64 5) rfl Tryd.isAgg23 Tryd.sizeOf23 rfl rfl ⟨_, rfl, by rw [E], H.base⟩)))
  · have h : i = T.length := by omega
    have hn := hN.done h
    rw [← hT] at hn
    refine c_exit (t_x (t_x (b_x (t_n (c_seq (c_seq (c_reg (sp (.int .i64 1) (zjn (c_block ?_))))))))))
    refine c_loop (fun m' ρ w8 => ∃ (junk : Env) (k : Nat), ρ = upd (upd (upd (upd (upd junk 0 (str t)) 2 (.pointer (some ⟨b2, 0, none⟩))) 3 (.int .i64 0)) 5 (.pointer (some ⟨b5, 0, none⟩))) 10 (.int .i64 k) ∧ (1 ≤ k ∧ k ≤ 10 ∧ ∀ j : Nat, 1 ≤ j → j < k → ¬ (validB j x y = true ∧ text j x y = t)) ∧ m' = 10 - k ∧
      St w w8 [.box b5 ([x, y].map (Value.int .i64)) 37, .box b2 (deed 0 0 0) 23] []) 9 ⟨_, 1, uE5, ⟨by omega, by omega, fun j h1 h2 => by omega⟩, rfl, H.pick [0, 1] []⟩ ?_
    clear H
    rintro m' ρ w8 ⟨junk, k, rfl, ⟨hk1, hk2, hk⟩, rfl, H⟩
    refine zcc (sp (.int .i64 k) (sp (.bool (decide ((k : Int) ≤ 9))) (zjn (cD rfl (fun h => ?_) (fun h => ?_)))))
    · have h : k ≤ 9 := by omega
      refine c_skip (t_n (c_seq (c_block (zcr (sp (.int .i64 k) (sw (o_idxArr ((0 : Nat) : Int) Tryd.underlying37 ti2' rfl rfl (by omega) (by decide) (sw (o_load1 (.int .i64 x) Tryd.isAgg2 rfl (H.cell 0 rfl rfl) ?_)))))))))
      refine sw (o_idxArr ((1 : Nat) : Int) Tryd.underlying37 ti2' rfl rfl (by omega) (by decide) (sw (o_load1 (.int .i64 y) Tryd.isAgg2 rfl (H.cell 0 rfl rfl) (sw (o_build (deed k x y) [(0, .int .i64 k), (1, .int .i64 x), (2, .int .i64 y)] (sw (o_allocC H tiD (deed 0 0 0) fun b11 w11 H => sw (o_storeC H 0 (deed k x y) Tryd.sizeOf23 fun w12 H => ?_))))))))
      try dsimp only [List.set] at H
      refine zjc (sw (o_loadN (deed k x y) Tryd.isAgg23 Tryd.sizeOf23 rfl (H.cells 0 rfl) (sw (o_call (R := fun v _ => v = .bool (validB k x y)) #[.agg #[.int .i64 k, .int .i64 x, .int .i64 y]] rfl rfl Tryd.call13 ((implValid_any _ _ _ _).mono fun e w' h => ⟨_, h.1, rfl, h.2⟩) ?_))))
      rintro v w13 rfl x13
      replace H := H.ext x13
      refine sp (.bool (validB k x y)) ?_
      have next : ¬ (validB k x y = true ∧ text k x y = t) → (1 ≤ k + 1 ∧ k + 1 ≤ 10 ∧ ∀ j : Nat, 1 ≤ j → j < k + 1 → ¬ (validB j x y = true ∧ text j x y = t)) := fun hn => ⟨by omega, by omega, fun j h1 h2 => by
        by_cases e : j = k
        · subst e; exact hn
        · exact hk j h1 (by omega)⟩
      cases hv : validB k x y with
      | false =>
        refine g_skips [52, 53, 54, 55] (sp (.bool false) (zjn (c_cond false rfl (fun h => by cases h) (fun _ => ?_))))
        refine c_skip (b_n (t_n (c_reg (sp (.int .i64 k) (sw (o_add (k : Int) 1 rfl rfl (by omega) (sp (.int .i64 ((k : Int) + 1)) (c_nil (loop_end (m' := 10 - (k + 1)) (by omega) ?_)))))))))
        exact ⟨_, k + 1, uE5, next (fun h => by rw [hv] at h; cases h.1), rfl, H.pick [1, 2] []⟩
      | true =>
        refine g_take 51 rfl rfl (sw (o_loadN (deed k x y) Tryd.isAgg23 Tryd.sizeOf23 rfl (H.cells 0 rfl) (g_take 51 rfl rfl (sw (o_call (R := fun v _ => v = str (text k x y)) #[.agg #[.int .i64 k, .int .i64 x, .int .i64 y]] rfl rfl Tryd.call14 ((implText_any _ _ _ _ (tab_stays gTab htab H.base (Nat.le_refl _))).mono fun e w' h => ⟨_, h.1, rfl, h.2⟩) ?_)))))
        rintro v w14 rfl x14
        replace H := H.ext x14
        refine g_take 51 rfl rfl (sp (str t) (g_take 51 rfl rfl (sw (o_eqS (text k x y) t rfl rfl (sp (.bool (decide (text k x y = t))) (zjn (cD rfl (fun he => ?_) (fun he => ?_))))))))
        · have E : readOf 5 t = (((k : Int), x, y), 0) := DeedPlain.impl_found hv he
          refine zcr (sw (o_loadN (deed k x y) Tryd.isAgg23 Tryd.sizeOf23 rfl (H.cells 0 rfl) (sw (o_storeC H 2 (deed k x y) Tryd.sizeOf23 fun w20 H => sp (.int .i64 0) ?_))))
          try dsimp only [List.set] at H
          exact zjr (zr5 (retC2 H 2 rfl (.int .i64 0) rfl Tryd.isAgg23 Tryd.sizeOf23 rfl rfl ⟨_, rfl, by rw [E], H.base⟩))
        · refine c_skip (b_n (t_n (c_reg (sp (.int .i64 k) (sw (o_add (k : Int) 1 rfl rfl (by omega) (sp (.int .i64 ((k : Int) + 1)) (c_nil (loop_end (m' := 10 - (k + 1)) (by omega) ?_)))))))))
          exact ⟨_, k + 1, uE5, next (fun h => he h.2), rfl, H.pick [1, 2] []⟩
    · have E : readOf 5 t = ((0, 0, 0), 5) := DeedPlain.impl_lost hn fun j h1 h2 => by
        obtain ⟨m, rfl⟩ := Int.eq_ofNat_of_zero_le (show 0 ≤ j by omega)
        exact hk m (by omega) (by omega)
      refine zx4 ?_
      refine zcr (sw (o_build (deed 0 0 0) [] (sw (o_storeC H 1 (deed 0 0 0) Tryd.sizeOf23 fun w20 H => sp (.int .i64 5) ?_))))
      try dsimp only [List.set] at H
      exact zjr (retC2 H 1 rfl (.int .i64 5) rfl Tryd.isAgg23 Tryd.sizeOf23 rfl rfl ⟨_, rfl, by rw [E], H.base⟩)
end Go.Proofs.YtfekhnffbngoaaaDoor.DeedRead
