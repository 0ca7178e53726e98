/- The reference's ReadDeed, walked. -/
import Derived.Test.YtfekhnffbngoaaaDoorTB
namespace Go.Proofs.YtfekhnffbngoaaaDoor.DeedRead
open Go.Proofs.YtfekhnffbngoaaaDoor.Tot (tot)
open Go.Proofs.YtfekhnffbngoaaaDoor.Mark (cnt mrk mkd mkd_mark cnt_mark)
open Go.ChangeShapes Go.WideShapes Go.ChangeAt Go.RowKit Go.Joins Go.Sort
open Go.Proofs.YtfekhnffbngoaaaDoor.DeedPlain (word many kindB validB text splitL valL numOk kindTo readOf numsOf second IsNum dig)
set_option linter.unusedVariables false
set_option linter.unusedSimpArgs false

section
variable {W0 w w' : World} {ps : List Prv} {Γ : List Fact}
/-- A block that a call has made, as a fact. -/
theorem addAt (H : St W0 w ps Γ) (x : Ext w w') {a : Nat} {cs : List Value} (h0 : w.heap.size ≤ a) (h1 : a < w'.heap.size) (hc : CellsAt w' a 0 cs) : St W0 w' ps (atF a 0 cs :: Γ) :=
  (H.ext x).add _ hc fun b hb => by
    obtain rfl := List.mem_singleton.1 hb
    exact ⟨h1, fun i hi => by have := (blkAt_has H hi).2; omega⟩
theorem addAt2 (H : St W0 w ps Γ) (x : Ext w w') {a b : Nat} {cs ds : List Value} (h0 : w.heap.size ≤ a) (h1 : a < w'.heap.size) (hc : CellsAt w' a 0 cs) (g0 : w.heap.size ≤ b) (g1 : b < w'.heap.size) (hd : CellsAt w' b 0 ds) :
    St W0 w' ps (atF b 0 ds :: atF a 0 cs :: Γ) :=
  (addAt H x h0 h1 hc).add _ hd fun c hb => by
    obtain rfl := List.mem_singleton.1 hb
    exact ⟨g1, fun i hi => by have := (blkAt_has H hi).2; omega⟩
theorem at_i {b i : Nat} {v : Value} (h : w.cell? ⟨b, 0 + i, none⟩ = some v) : w.cell? ⟨b, 0 + (i : Int).toNat * 1, none⟩ = some v := by
  rw [show 0 + (i : Int).toNat * 1 = 0 + i by omega]; exact h
end
abbrev strs (l : List (List UInt8)) : List Value := l.map str
theorem strs_at {l : List (List UInt8)} {i : Nat} (h : i < l.length) : (strs l)[i]? = some (str (l[i]!)) := by
  unfold strs
  rw [List.getElem?_map, List.getElem?_eq_getElem h, getElem!_pos l i h]; rfl
abbrev W10 : List Value := (List.range 10).map fun i : Nat => str (word i)
abbrev M10 : List Value := (List.range 10).map fun i : Nat => .int .i64 (many i)
theorem W10_at {i : Nat} (h : i < 10) : W10[i]? = some (str (word i)) := by simp [W10, h]
theorem M10_at {i : Nat} (h : i < 10) : M10[i]? = some (.int .i64 (many i)) := by simp [M10, h]
theorem cells_of {w : World} {b n : Nat} {f : Nat → Value} (h : ∀ i, i < n → w.cell? ⟨b, i, none⟩ = some (f i)) : CellsAt w b 0 ((List.range n).map f) := fun i v hv => by
  by_cases e : i < n
  · rw [List.getElem?_map, List.getElem?_range e] at hv
    obtain rfl := Option.some.inj hv
    rw [Nat.zero_add]; exact h i e
  · rw [List.getElem?_eq_none (by simp; omega)] at hv; cases hv
theorem cells_strs {w : World} {b : Nat} {l : List (List UInt8)} (h : ∀ i, i < l.length → w.cell? ⟨b, i, none⟩ = some (str (l[i]!))) : CellsAt w b 0 (strs l) := fun i v hv => by
  by_cases e : i < l.length
  · rw [strs_at e] at hv
    obtain rfl := Option.some.inj hv
    rw [Nat.zero_add]; exact h i e
  · rw [List.getElem?_eq_none (by simp; omega)] at hv; cases hv
section
variable {P : Program} {Q : Exit → Act → World → Prop} {n : Nat} {ρ : Env} {w : World} {d : Nat} {ty : TypeId} {pos : String} {af : Array Edge} {K : Env → World → Prop} {S : World → Prop} {gd : Option (Nat × Bool)}
theorem pv_eqS {x y : Operand} {t u : TypeId} (a b : List UInt8) (hx : ev n ρ x = str a) (hy : ev n ρ y = str b) : pv (ev n ρ) (.binOp .eql t x y u) = some (.bool (decide (a = b))) := by
  simp only [pv, hx, hy, ByteArray.toList_mk]
  by_cases h : a = b <;> simp [h]
theorem y_eqS {x y : Operand} {t u : TypeId} (a b : List UInt8) (hx : ev n ρ x = str a) (hy : ev n ρ y = str b) : ∀ w', S w' → (execOp (ev n ρ) ⟨some d, .binOp .eql t x y u, ty, pos, af, gd⟩).run P w' = .ok (.value (.bool (decide (a = b)))) w' :=
  y_pure (pv_eqS a b hx hy)
theorem o_eqS {x y : Operand} {t u : TypeId} (a b : List UInt8) (hx : ev n ρ x = str a) (hy : ev n ρ y = str b) (k : K (upd ρ d (.bool (decide (a = b)))) w) : OW P Q ⟨some d, .binOp .eql t x y u, ty, pos, af, none⟩ n ρ w K :=
  o_pure _ (pv_eqS a b hx hy) k
end
theorem tiD : TI Tryd.prog 23 (.agg #[.int .i64 0, .int .i64 0, .int .i64 0]) 3 24 := by unfold TI; kernel_rfl
abbrev deed (k a b : Int) : List Value := [.int .i64 k, .int .i64 a, .int .i64 b]
abbrev resV (r : (Int × Int × Int) × Int) : Value := .tuple #[.agg #[.int .i64 r.1.1, .int .i64 r.1.2.1, .int .i64 r.1.2.2], .int .i64 r.2]
theorem kind_1 (w : List UInt8) : kindTo w 1 = 0 := by simp [kindTo]
theorem kind_yes {w : List UInt8} {k : Nat} (h1 : 1 ≤ k) (h : word k = w) : kindTo w (k + 1) = k := by rw [kindTo, if_pos ⟨h1, h⟩]
theorem kind_no {w : List UInt8} {k : Nat} (h : word k ≠ w) : kindTo w (k + 1) = kindTo w k := by rw [kindTo, if_neg (fun x => h x.2)]
theorem num_of {l : List UInt8} {v : Value} (h : NumRes l v) : ∃ (n : Int) (b : Bool), v = .tuple #[.int .i64 n, .bool b] ∧ ((b = true ∧ numOk l ∧ n = valL l) ∨ (b = false ∧ ¬ numOk l)) := by
  rcases h with ⟨h, rfl⟩ | ⟨h, rfl⟩
  · exact ⟨_, _, rfl, .inl ⟨rfl, h, rfl⟩⟩
  · exact ⟨_, _, rfl, .inr ⟨rfl, h⟩⟩
theorem words_ok (w : World) : Calls Tryd.prog 8 #[] w (Ret (fun v w' => ∃ p q, v = .tuple #[.slice (some ⟨p, 0, none⟩) 10 10, .slice (some ⟨q, 0, none⟩) 10 10] ∧ (w.heap.size ≤ p ∧ p < w'.heap.size ∧ CellsAt w' p 0 W10) ∧ (w.heap.size ≤ q ∧ q < w'.heap.size ∧ CellsAt w' q 0 M10)) w) :=
  (words_any _).mono fun e w' ⟨p, q, h1, h2, h3, h4, h5, h6⟩ => ⟨_, h3, ⟨p, q, rfl, ⟨h1, (Array.getElem?_eq_some_iff.1 h4).1, cells_of fun i hi => tenW h4 i hi⟩, ⟨h2, (Array.getElem?_eq_some_iff.1 h5).1, cells_of fun i hi => ten h5 i hi⟩⟩, h6⟩

set_option maxRecDepth 100000 in
theorem specRead_any (t : List UInt8) (w : World) (ht : t.length ≤ 1048576) : Calls Tryd.prog 4 #[str t] w (Ret (fun v w' => v = resV (readOf 5 t)) w) := by
  obtain ⟨L, hL⟩ : ∃ L, splitL 32 t = L := ⟨_, rfl⟩
  have hne : L ≠ [] := by rw [← hL]; exact DeedPlain.splitL_ne 32 t
  have h1 : 1 ≤ L.length := List.length_pos_iff.2 hne
  refine enter Tryd.func4 rfl Tryd.ntmps4 (Nat.le_of_ble_eq_true rfl) ?_
  refine zcr (sw (o_allocC (St.start w) tiD (deed 0 0 0) fun b2 w2 H => sp (.int .i64 0) (zjc (sp (str t) (sw (o_call #[str t, .int .u8 32] rfl rfl Tryd.call7 (split_any t _ ht) ?_))))))
  rw [hL]
  rintro v w3 ⟨a, c, rfl, ha0, ha, hc⟩ x3
  replace H := addAt H x3 ha0 ha (cells_strs hc)
  refine sp (.slice (some ⟨a, 0, none⟩) L.length c) (zjc (sw (o_call #[] rfl rfl Tryd.call8 (words_ok _) ?_)))
  rintro v w4 ⟨p, q, rfl, ⟨hp0, hp1, hp⟩, ⟨hq0, hq1, hq⟩⟩ x4
  replace H := addAt2 H x4 hp0 hp1 hp hq0 hq1 hq
  refine sps [.tuple #[.slice (some ⟨p, 0, none⟩) 10 10, .slice (some ⟨q, 0, none⟩) 10 10], .slice (some ⟨p, 0, none⟩) 10 10, .slice (some ⟨q, 0, none⟩) 10 10, .slice (some ⟨p, 0, none⟩) 10 10, .slice (some ⟨q, 0, none⟩) 10 10] ?_
  refine zjc (sw (o_build (deed 0 0 0) [] (sw (o_allocC H tiD (deed 0 0 0) fun b7 w5 H => sw (o_storeC H 0 (deed 0 0 0) Tryd.sizeOf23 fun w6 H => ?_)))))
  try dsimp only [List.set] at H
  refine zjcc (sp (.int .i64 1) (zjn (c_block ?_)))
  refine c_loop (fun m' ρ w7 => ∃ (junk : Env) (k : Nat), ρ = upd (upd (upd (upd (upd (upd (upd junk 2 (.pointer (some ⟨b2, 0, none⟩))) 3 (.int .i64 0)) 4 (.slice (some ⟨a, 0, none⟩) L.length c)) 5 (.slice (some ⟨p, 0, none⟩) 10 10)) 6 (.slice (some ⟨q, 0, none⟩) 10 10)) 7 (.pointer (some ⟨b7, 0, none⟩))) 8 (.int .i64 k) ∧ (1 ≤ k ∧ k ≤ 10) ∧ m' = 10 - k ∧
    St w w7 [.box b7 (deed (kindTo (L[0]!) k) 0 0) 23, .box b2 (deed 0 0 0) 23] [atF q 0 M10, atF p 0 W10, atF a 0 (strs L)]) 9 ⟨_, 1, uE7, ⟨Nat.le_refl _, by omega⟩, rfl, by rw [kind_1]; exact H⟩ ?_
  clear H
  rintro m' ρ w7 ⟨junk, k, rfl, hk, rfl, H⟩
  refine zcc (sps [.int .i64 k, .slice (some ⟨p, 0, none⟩) 10 10] (sw (o_len Tryd.underlying28 (some ⟨p, 0, none⟩) 10 10 rfl (sp (.bool (decide ((k : Int) < ((10 : Nat) : Int)))) (zjn (cD rfl (fun h => ?_) (fun h => ?_)))))))
  · have h : k < 10 := by omega
    refine c_skip (t_n (c_seq (c_block (c_seq ?_))))
    refine c_drawH rfl H fun H => ?_
    refine rtp 0 (.slice (some ⟨p, 0, none⟩) 10 10) H ?_
    refine rtp 1 (.int .i64 k) H ?_
    refine rt 2 (.pointer (some ⟨p, 0 + (k : Int).toNat * 1, none⟩)) (y_idxAt p 0 10 10 k Tryd.underlying28 ti9 rfl rfl (by omega) (by omega)) H ?_
    refine rt 3 (str (word k)) (y_load1 Tryd.isAgg9 rfl (fun w' h' => at_i (h'.cellF 1 rfl k (W10_at h)))) H ?_
    refine rtp 4 (.slice (some ⟨a, 0, none⟩) L.length c) H ?_
    refine rt 5 (.pointer (some ⟨a, 0 + ((0 : Nat) : Int).toNat * 1, none⟩)) (y_idxAt a 0 L.length c ((0 : Nat) : Int) Tryd.underlying28 ti9 rfl rfl (by omega) (by omega)) H ?_
    refine rt 6 (str (L[0]!)) (y_load1 Tryd.isAgg9 rfl (fun w' h' => at_i (h'.cellF 2 rfl 0 (strs_at h1)))) H ?_
    refine rt 7 (.bool (decide (word k = L[0]!))) (y_eqS (word k) (L[0]!) rfl rfl) H ?_
    refine r_done (by kernel_rfl) (t_n (cD rfl (fun he => ?_) (fun he => ?_)))
    · refine c_reg (sp (.int .i64 k) (sw (o_field b7 0 0 Tryd.underlying23 rfl rfl Tryd.sizeOf2 rfl (sw (o_store1C H 0 (deed k 0 0) Tryd.sizeOf2 fun w8 H => c_nil (b_n (t_n (c_reg (sps [.int .i64 k] (sw (o_add (k : Int) 1 rfl rfl (by omega) (sp (.int .i64 ((k : Int) + 1)) (c_nil (loop_end (m' := 10 - (k + 1)) (by omega) ?_))))))))))))))
      exact ⟨_, k + 1, uE7, by omega, rfl, by rw [kind_yes hk.1 he]; exact H⟩
    · refine c_skip (b_n (t_n (c_reg (sps [.int .i64 k] (sw (o_add (k : Int) 1 rfl rfl (by omega) (sp (.int .i64 ((k : Int) + 1)) (c_nil (loop_end (m' := 10 - (k + 1)) (by omega) ?_)))))))))
      exact ⟨_, k + 1, uE7, by omega, rfl, by rw [kind_no he]; exact H⟩
  · obtain rfl : k = 10 := by omega
    obtain ⟨K, hK⟩ : ∃ K, kindTo (L[0]!) 10 = K := ⟨_, rfl⟩
    have hin := DeedPlain.kindTo_in (L[0]!) 10 (by omega)
    rw [hK] at H hin
    obtain ⟨w0, r, rfl⟩ : ∃ w0 r, L = w0 :: r := by
      cases L with
      | nil => exact absurd rfl hne
      | cons x l => exact ⟨x, l, rfl⟩
    have e0 : (w0 :: r)[0]! = w0 := rfl
    rw [e0] at hK hin
    refine zx4 (c_seq (c_seq (c_reg (sw (o_field b7 0 0 Tryd.underlying23 rfl rfl Tryd.sizeOf2 rfl (sw (o_load1 (.int .i64 K) Tryd.isAgg2 rfl (by simpa using H.cells 0 rfl 0 _ rfl) (sps [.bool (K == 0), .bool (K == 0)] ?_))))))))
    cases hz : (K == 0) with
    | true =>
      have hz : K = 0 := by simpa using hz
      have E : readOf 5 t = ((0, 0, 0), 5) := DeedPlain.spec_no hL (.inl (by rw [hK]; exact hz))
      refine g_skips [40, 41, 42, 43, 44, 45, 46, 47, 48] (sp (.bool true) (zjn (c_cond true rfl (fun _ => ?_) (fun h => by cases h))))
      refine zcr (sw (o_build (deed 0 0 0) [] (sw (o_storeC H 1 (deed 0 0 0) Tryd.sizeOf23 fun w20 H => sp (.int .i64 5) ?_))))
      try dsimp only [List.set] at H
      exact zjr (retC2 H 1 rfl (.int .i64 5) rfl Tryd.isAgg23 Tryd.sizeOf23 rfl rfl ⟨_, rfl, by rw [E], H.base⟩)
    | false =>
      have hz : K ≠ 0 := by simpa using hz
      obtain ⟨hkb, hw⟩ := hin.resolve_left hz
      have hkr := DeedPlain.kinds hkb
      obtain ⟨m, rfl⟩ := Int.eq_ofNat_of_zero_le (show 0 ≤ K by omega)
      have hm9 : m < 10 := by omega
      have hmm := DeedPlain.many_iff hkb
      refine g_take 39 rfl rfl (sp (.slice (some ⟨a, 0, none⟩) (w0 :: r).length c) (g_take 39 rfl rfl (sw (o_len Tryd.underlying28 (some ⟨a, 0, none⟩) (w0 :: r).length c rfl (g_take 39 rfl rfl (sp (.slice (some ⟨q, 0, none⟩) 10 10) (g_take 39 rfl rfl (sw (o_field b7 0 0 Tryd.underlying23 rfl rfl Tryd.sizeOf2 rfl (g_take 39 rfl rfl (sw (o_load1 (.int .i64 m) Tryd.isAgg2 rfl (by simpa using H.cells 0 rfl 0 _ rfl) ?_))))))))))))
      refine g_take 39 rfl rfl (sw (o_idxAt (m : Int) Tryd.underlying30 ti3 rfl rfl (by omega) (by omega) (g_take 39 rfl rfl (sw (o_load1 (.int .i64 (many m)) Tryd.isAgg3 rfl (at_i (H.cellF 0 rfl m (M10_at hm9))) (g_take 39 rfl rfl (sw (o_add (many m) 1 rfl rfl (by omega) (g_take 39 rfl rfl (sp (.bool ((((w0 :: r).length : Nat) : Int) != many m + 1)) (sp (.bool ((((w0 :: r).length : Nat) : Int) != many m + 1)) (zjn ?_))))))))))))
      refine c_cond ((((w0 :: r).length : Nat) : Int) != many m + 1) rfl (fun hlen => ?_) (fun hlen => ?_)
      · have hlen : ¬ (((w0 :: r).length : Nat) : Int) = many m + 1 := by simpa using hlen
        have E : readOf 5 t = ((0, 0, 0), 5) := DeedPlain.spec_no hL (.inr (by rw [hK]; rw [List.length_cons] at hlen; omega))
        refine zcr (sw (o_build (deed 0 0 0) [] (sw (o_storeC H 1 (deed 0 0 0) Tryd.sizeOf23 fun w20 H => sp (.int .i64 5) ?_))))
        try dsimp only [List.set] at H
        exact zjr (retC2 H 1 rfl (.int .i64 5) rfl Tryd.isAgg23 Tryd.sizeOf23 rfl rfl ⟨_, rfl, by rw [E], H.base⟩)
      · have hlen : (((w0 :: r).length : Nat) : Int) = many m + 1 := by simpa using hlen
        rw [List.length_cons] at hlen
        obtain ⟨x, r, rfl⟩ : ∃ x r', r = x :: r' := by
          cases r with
          | nil => simp at hlen; omega
          | cons x l => exact ⟨x, l, rfl⟩
        rw [List.length_cons] at hlen
        have el : (w0 :: x :: r).length = r.length + 2 := by simp
        refine c_skip (t_n (zcr (sp (.slice (some ⟨a, 0, none⟩) (w0 :: x :: r).length c) (sw (o_idxAt ((1 : Nat) : Int) Tryd.underlying28 ti9 rfl rfl (by omega) (by rw [el]; omega) (sw (o_load1 (str x) Tryd.isAgg9 rfl (at_i (H.cellF 2 rfl 1 rfl)) (sw (o_call #[str x] rfl rfl Tryd.call9 (number_any x _) ?_)))))))))
        rintro v w8 hv x8
        obtain ⟨n1, b1, rfl, hn1⟩ := num_of hv
        replace H := H.ext x8
        refine sps [.tuple #[.int .i64 n1, .bool b1], .int .i64 n1, .bool b1, .int .i64 n1, .bool b1] (zjc (sp (.int .i64 n1) (sw (o_field b7 0 1 Tryd.underlying23 rfl rfl Tryd.sizeOf2 rfl (sw (o_store1C H 0 (deed m n1 0) Tryd.sizeOf2 fun w9 H => ?_))))))
        try dsimp only [List.set] at H
        refine zjcc (sp (.slice (some ⟨a, 0, none⟩) (w0 :: x :: r).length c) (sw (o_len Tryd.underlying28 (some ⟨a, 0, none⟩) (w0 :: x :: r).length c rfl (sp (.bool ((((w0 :: x :: r).length : Nat) : Int) == 3)) (zjn ?_)))))
        refine c_cond ((((w0 :: x :: r).length : Nat) : Int) == 3) rfl (fun h3 => ?_) (fun h3 => ?_)
        · have h3 : (((w0 :: x :: r).length : Nat) : Int) = 3 := by simpa using h3
          obtain ⟨y, rfl⟩ : ∃ y, r = [y] := by
            have : r.length = 1 := by omega
            exact List.length_eq_one_iff.1 this
          refine zcr (sp (.slice (some ⟨a, 0, none⟩) [w0, x, y].length c) (sw (o_idxAt ((2 : Nat) : Int) Tryd.underlying28 ti9 rfl rfl (by omega) (by simp) (sw (o_load1 (str y) Tryd.isAgg9 rfl (at_i (H.cellF 2 rfl 2 rfl)) (sw (o_call #[str y] rfl rfl Tryd.call9 (number_any y _) ?_)))))))
          rintro v w10 hv x10
          obtain ⟨n2, b2', rfl, hn2⟩ := num_of hv
          replace H := H.ext x10
          refine sps [.tuple #[.int .i64 n2, .bool b2'], .int .i64 n2, .bool b2', .int .i64 n2, .bool b2'] (zjn (zcr (sps [.bool b1, .bool b1] ?_)))
          cases b1 with
          | false =>
            have hx : ¬ numOk x := (hn1.resolve_left (fun h => by cases h.1)).2
            have E : readOf 5 t = ((0, 0, 0), 5) := DeedPlain.spec_bad hL (.inl hx)
            refine g_skips [72] (sps [.bool false, .bool false] (zjn (c_reg (sp (.int .i64 n2) (sw (o_field b7 0 2 Tryd.underlying23 rfl rfl Tryd.sizeOf2 rfl (sw (o_store1C H 0 (deed m n1 n2) Tryd.sizeOf2 fun w11 H => ?_))))))))
            try dsimp only [List.set] at H
            refine zjn (zcc (sps [.bool false, .bool true, .bool true] (g_skips [79, 80, 81] (sp (.bool true) (zjn (c_cond true rfl (fun _ => ?_) (fun h => by cases h)))))))
            refine zcr (sw (o_build (deed 0 0 0) [] (sw (o_storeC H 1 (deed 0 0 0) Tryd.sizeOf23 fun w20 H => sp (.int .i64 5) ?_))))
            try dsimp only [List.set] at H
            exact zjr (retC2 H 1 rfl (.int .i64 5) rfl Tryd.isAgg23 Tryd.sizeOf23 rfl rfl ⟨_, rfl, by rw [E], H.base⟩)
          | true =>
            obtain ⟨_, hx, hxv⟩ := hn1.resolve_right (fun h => by cases h.1)
            refine g_take 71 rfl rfl (sp (.bool b2') (sps [.bool b2', .bool b2'] (zjn (c_reg (sp (.int .i64 n2) (sw (o_field b7 0 2 Tryd.underlying23 rfl rfl Tryd.sizeOf2 rfl (sw (o_store1C H 0 (deed m n1 n2) Tryd.sizeOf2 fun w11 H => ?_)))))))))
            try dsimp only [List.set] at H
            cases b2' with
            | false =>
              have hy : ¬ numOk y := (hn2.resolve_left (fun h => by cases h.1)).2
              have E : readOf 5 t = ((0, 0, 0), 5) := DeedPlain.spec_bad hL (.inr (.inl ⟨y, rfl, hy⟩))
              refine zjn (zcc (sps [.bool false, .bool true, .bool true] (g_skips [79, 80, 81] (sp (.bool true) (zjn (c_cond true rfl (fun _ => ?_) (fun h => by cases h)))))))
              refine zcr (sw (o_build (deed 0 0 0) [] (sw (o_storeC H 1 (deed 0 0 0) Tryd.sizeOf23 fun w20 H => sp (.int .i64 5) ?_))))
              try dsimp only [List.set] at H
              exact zjr (retC2 H 1 rfl (.int .i64 5) rfl Tryd.isAgg23 Tryd.sizeOf23 rfl rfl ⟨_, rfl, by rw [E], H.base⟩)
            | true =>
              obtain ⟨_, hy, hyv⟩ := hn2.resolve_right (fun h => by cases h.1)
              subst hxv hyv
              refine zjn (zcc (sps [.bool true, .bool false, .bool false] ?_))
              have YES : validB m (valL x) (valL y) = true → readOf 5 t = (((m : Int), (valL x : Int), (valL y : Int)), 0) := fun hv => by
                have := DeedPlain.spec_yes (bad := 5) hL (by rw [hK]; exact hz) (by rw [hK]; simp at hlen ⊢; omega) hx (fun z e => by simp at e; subst e; exact hy) (by rw [hK]; exact hv)
                rw [hK] at this; exact this
              have NO : validB m (valL x) (valL y) = false → readOf 5 t = ((0, 0, 0), 5) := fun hv => DeedPlain.spec_bad hL (.inr (.inr (by rw [hK]; exact hv)))
              refine g_take 78 rfl rfl (sw (o_loadN (deed m (valL x) (valL y)) Tryd.isAgg23 Tryd.sizeOf23 rfl (H.cells 0 rfl) (g_take 78 rfl rfl (sw (o_call (R := fun v _ => v = .bool (validB m (valL x) (valL y))) #[.agg #[.int .i64 m, .int .i64 (valL x), .int .i64 (valL y)]] rfl rfl Tryd.call10 ((specValid_any _ _ _ _).mono fun e w' h => ⟨_, h.1, rfl, h.2⟩) ?_)))))
              rintro v w12 rfl x12
              replace H := H.ext x12
              refine g_take 78 rfl rfl (sp (.bool (!validB m (valL x) (valL y))) (sp (.bool (!validB m (valL x) (valL y))) (zjn ?_)))
              cases hv : validB m (valL x) (valL y) with
              | false =>
                have E := NO hv
                refine c_cond true rfl (fun _ => ?_) (fun h => by cases h)
                refine zcr (sw (o_build (deed 0 0 0) [] (sw (o_storeC H 1 (deed 0 0 0) Tryd.sizeOf23 fun w20 H => sp (.int .i64 5) ?_))))
                try dsimp only [List.set] at H
                exact zjr (retC2 H 1 rfl (.int .i64 5) rfl Tryd.isAgg23 Tryd.sizeOf23 rfl rfl ⟨_, rfl, by rw [E], H.base⟩)
              | true =>
                have E := YES hv
                refine c_cond false rfl (fun h => by cases h) (fun _ => ?_)
                refine c_skip (t_n (zcr (sw (o_loadN (deed m (valL x) (valL y)) Tryd.isAgg23 Tryd.sizeOf23 rfl (H.cells 0 rfl) (sw (o_storeC H 1 (deed m (valL x) (valL y)) Tryd.sizeOf23 fun w20 H => sp (.int .i64 0) ?_))))))
                try dsimp only [List.set] at H
                exact zjr (retC2 H 1 rfl (.int .i64 0) rfl Tryd.isAgg23 Tryd.sizeOf23 rfl rfl ⟨_, rfl, by rw [E], H.base⟩)
        · have h3 : ¬ (((w0 :: x :: r).length : Nat) : Int) = 3 := by simpa using h3
          obtain rfl : r = [] := List.length_eq_zero_iff.1 (by omega)
          refine c_skip (t_n ?_)
          cases b1 with
          | false =>
            have hx : ¬ numOk x := (hn1.resolve_left (fun h => by cases h.1)).2
            have E : readOf 5 t = ((0, 0, 0), 5) := DeedPlain.spec_bad hL (.inl hx)
            refine zcc (sps [.bool false, .bool true, .bool true] (g_skips [79, 80, 81] (sp (.bool true) (zjn (c_cond true rfl (fun _ => ?_) (fun h => by cases h))))))
            refine zcr (sw (o_build (deed 0 0 0) [] (sw (o_storeC H 1 (deed 0 0 0) Tryd.sizeOf23 fun w20 H => sp (.int .i64 5) ?_))))
            try dsimp only [List.set] at H
            exact zjr (retC2 H 1 rfl (.int .i64 5) rfl Tryd.isAgg23 Tryd.sizeOf23 rfl rfl ⟨_, rfl, by rw [E], H.base⟩)
          | true =>
            obtain ⟨_, hx, hxv⟩ := hn1.resolve_right (fun h => by cases h.1)
            subst hxv
            refine zcc (sps [.bool true, .bool false, .bool false] ?_)
            have YES : validB m (valL x) 0 = true → readOf 5 t = (((m : Int), (valL x : Int), 0), 0) := fun hv => by
              have := DeedPlain.spec_yes (bad := 5) hL (by rw [hK]; exact hz) (by rw [hK]; simp at hlen ⊢; omega) hx (fun z e => by simp at e) (by rw [hK]; exact hv)
              rw [hK] at this; exact this
            have NO : validB m (valL x) 0 = false → readOf 5 t = ((0, 0, 0), 5) := fun hv => DeedPlain.spec_bad hL (.inr (.inr (by rw [hK]; exact hv)))
            refine g_take 78 rfl rfl (sw (o_loadN (deed m (valL x) 0) Tryd.isAgg23 Tryd.sizeOf23 rfl (H.cells 0 rfl) (g_take 78 rfl rfl (sw (o_call (R := fun v _ => v = .bool (validB m (valL x) 0)) #[.agg #[.int .i64 m, .int .i64 (valL x), .int .i64 0]] rfl rfl Tryd.call10 ((specValid_any _ _ _ _).mono fun e w' h => ⟨_, h.1, rfl, h.2⟩) ?_)))))
            rintro v w12 rfl x12
            replace H := H.ext x12
            refine g_take 78 rfl rfl (sp (.bool (!validB m (valL x) 0)) (sp (.bool (!validB m (valL x) 0)) (zjn ?_)))
            cases hv : validB m (valL x) 0 with
            | false =>
              have E := NO hv
              refine c_cond true rfl (fun _ => ?_) (fun h => by cases h)
              refine zcr (sw (o_build (deed 0 0 0) [] (sw (o_storeC H 1 (deed 0 0 0) Tryd.sizeOf23 fun w20 H => sp (.int .i64 5) ?_))))
              try dsimp only [List.set] at H
              exact zjr (retC2 H 1 rfl (.int .i64 5) rfl Tryd.isAgg23 Tryd.sizeOf23 rfl rfl ⟨_, rfl, by rw [E], H.base⟩)
            | true =>
              have E := YES hv
              refine c_cond false rfl (fun h => by cases h) (fun _ => ?_)
              refine c_skip (t_n (zcr (sw (o_loadN (deed m (valL x) 0) Tryd.isAgg23 Tryd.sizeOf23 rfl (H.cells 0 rfl) (sw (o_storeC H 1 (deed m (valL x) 0) Tryd.sizeOf23 fun w20 H => sp (.int .i64 0) ?_))))))
              try dsimp only [List.set] at H
              exact zjr (retC2 H 1 rfl (.int .i64 0) rfl Tryd.isAgg23 Tryd.sizeOf23 rfl rfl ⟨_, rfl, by rw [E], H.base⟩)
end Go.Proofs.YtfekhnffbngoaaaDoor.DeedRead
