/- Walks, printed by program (wip/tools/gv.py): what each function comes to, for all arguments. -/
import Derived.Test.YtkmlihdacnfhdaaG4
import Derived.Test.YtkmlihdacnfhdaaQ
import Derived.Test.YtkmlihdacnfhdaaP2
namespace Go.Proofs.Ytkmlihdacnfhdaa
open Go.Proofs.Ytkmlihdacnfhdaa.Tot (tot)
open Go.Proofs.Ytkmlihdacnfhdaa.Mark (cnt mrk mkd mkd_mark cnt_mark)
open Go.RowKit
set_option linter.unusedVariables false
set_option linter.unusedSimpArgs false
set_option maxRecDepth 100000
set_option maxHeartbeats 4000000



theorem cloneB_ok (w : World) (l : List Bool) (al : Option Addr) (cl : Nat) (Fl : List Nat) (hl : GoRep.rep w Fl [.slice al l.length cl] l) (p0 : l.length ≤ 1000000) : Calls Try.prog 81 #[.slice al l.length cl] w (Ret (fun v w' => ∃ (ra : Option Addr) (rn : Nat) (rc : Nat), v = .slice ra rn rc ∧ Fresh w.heap.size [] ∧ St w w' [.row (.slice ra rn rc) 4 1 rn (l.map (Value.bool))] []) w) := by
 refine enter (n := 8) Try.func81 rfl Try.ntmps81 (Nat.le_of_ble_eq_true rfl) ?_
 have H := St.start w
 replace H := H.add (isF false Fl (.slice al l.length cl) l) ⟨hl, by simp⟩ (start_lt hl)
 have nhl := rep_len hl
 clear hl
 have N := Fresh.nil w.heap.size
 refine c_seq ?_
 refine c_reg ?_
 refine sp (.slice none 0 0) ?_
 refine c_nil (t_n ?_)
 refine c_seq ?_
 refine c_seq ?_
 refine c_reg ?_
 refine sp (.slice al l.length cl) ?_
 refine sw (o_eqnil Try.underlying36 al l.length cl rfl ?_)
 refine c_nil (t_n ?_)
 refine c_cond (al.isNone) rfl (fun h1 => ?_) (fun h1 => ?_)
 ·skip
  refine c_seq ?_
  refine c_reg ?_
  refine sp (.slice none 0 0) ?_
  refine c_nil (t_n ?_)
  refine c_ret (t_r (?_))
  replace H := H.nilRow 4 1
  replace H : St _ _ [.row (.slice none 0 0) 4 1 0 (([] : List Bool).map (Value.bool))] _ := H
  refine ret1 (.slice none 0 0) rfl rfl ⟨_, rfl, ?_, H.base⟩
  obtain rfl := H.nilOf 0 rfl ‹_›
  exact ⟨none, 0, 0, rfl, N, H.pick [0] []⟩
 ·skip
  refine c_skip (t_n ?_)
  refine c_seq ?_
  refine c_reg ?_
  refine sw (o_build0 H Try.underlying36 ti4 fun b2 w3 H => ?_)
  replace H : St _ _ [.box b2 [] 4] _ := H
  refine sp (.slice al l.length cl) ?_
  replace H := H.boxRow 0 rfl 1 0 rfl (by decide)
  replace H : St _ _ [.row (.slice (some ⟨b2, 0, none⟩) 0 0) 4 1 0 (([] : List Bool).map (Value.bool))] [isF false Fl (.slice al l.length cl) l] := H
  refine sw (o_appendFR H 0 rfl 0 rfl Try.underlying36 ti4 rfl (by decide) rfl rfl (by unfold maxLen; omega) (by omega) fun a4 c5 w6 us7 G8 H hG9 => ?_)
  obtain ⟨_, rfl⟩ := reps_bools (H.get 0 rfl).1
  replace H := H.sub _ fun f hf => List.mem_cons_of_mem _ hf
  rw [catB] at H
  replace H : St _ _ [.row (.slice a4 (0 + l.length) c5) 4 1 (0 + l.length) ((([] : List Bool) ++ l).map (Value.bool))] _ := H
  refine sp (.slice a4 (0 + l.length) c5) ?_
  refine c_nil (t_n ?_)
  refine c_ret (?_)
  refine ret1 (.slice a4 (0 + l.length) c5) rfl rfl ⟨_, rfl, ?_, H.base⟩
  exact ⟨a4, 0 + l.length, c5, rfl, N, H.pick [0] []⟩

theorem l02Own_ok (w : World) (t : StateD) (bt ot : Nat) (atAlive : Option Addr) (ctAlive : Nat) (FtAlive : List Nat) (atBags : Option Addr) (ctBags : Nat) (FtBags : List Nat) (atAround : Option Addr) (ctAround : Nat) (FtAround : List Nat) (ht : CellsAt w bt ot [.slice atAlive t.fAlive.length ctAlive, .slice atBags t.fBags.length ctBags, .slice atAround t.fAround.length ctAround]) (htAlive : GoRep.rep w FtAlive [.slice atAlive t.fAlive.length ctAlive] t.fAlive) (htBags : GoRep.rep w FtBags [.slice atBags t.fBags.length ctBags] t.fBags) (htAround : GoRep.rep w FtAround [.slice atAround t.fAround.length ctAround] t.fAround) (p0 : t.fAlive.length ≤ 1000000) (p1 : t.fAround.length ≤ 1000000) (p2 : t.fBags.length ≤ 1000000) (p3 : ∀ k, k < t.fBags.length → (t.fBags[k]!).length ≤ 1000000) : Calls Try.prog 36 #[.pointer (some ⟨bt, ot, none⟩)] w (Ret (fun v w' => ∃ (raAlive : Option Addr) (rnAlive : Nat) (rcAlive : Nat) (raBags : Option Addr) (rnBags : Nat) (rcBags : Nat) (rxBags : List Value) (rFBags : List Nat) (raAround : Option Addr) (rnAround : Nat) (rcAround : Nat), v = .agg #[.slice raAlive rnAlive rcAlive, .slice raBags rnBags rcBags, .slice raAround rnAround rcAround] ∧ Fresh w.heap.size [rFBags] ∧ St w w' [.row (.slice raAlive rnAlive rcAlive) 4 1 rnAlive (t.fAlive.map (Value.bool)), .row (.slice raBags rnBags rcBags) 22 1 rnBags rxBags, .row (.slice raAround rnAround rcAround) 2 1 rnAround (t.fAround.map (Value.int .i64))] [repsF true rFBags rxBags t.fBags]) w) := by
 refine enter (n := 40) Try.func36 rfl Try.ntmps36 (Nat.le_of_ble_eq_true rfl) ?_
 have H := St.start w
 replace H := H.add (isF false FtAround (.slice atAround t.fAround.length ctAround) t.fAround) ⟨htAround, by simp⟩ (start_lt htAround)
 replace H := H.add (isF false FtBags (.slice atBags t.fBags.length ctBags) t.fBags) ⟨htBags, by simp⟩ (start_lt htBags)
 replace H := H.add (isF false FtAlive (.slice atAlive t.fAlive.length ctAlive) t.fAlive) ⟨htAlive, by simp⟩ (start_lt htAlive)
 replace H := H.add (atF bt ot [.slice atAlive t.fAlive.length ctAlive, .slice atBags t.fBags.length ctBags, .slice atAround t.fAround.length ctAround]) ht (start_at ht)
 have nhtAlive := rep_len htAlive
 have nhtBags := rep_len htBags
 have nhtAround := rep_len htAround
 clear ht htAlive htBags htAround
 have N := Fresh.nil w.heap.size
 refine c_seq ?_
 refine c_reg ?_
 refine sw (o_alloc H ti41 fun b1 w2 H => ?_)
 replace H : St _ _ [.box b1 [.slice none 0 0, .slice none 0 0, .slice none 0 0] 41] _ := H
 refine c_nil (t_n ?_)
 refine c_seq ?_
 refine c_cut (fun ρ w3 => ∃ (junk : Env) (b4 : Nat) (a5 : Option Addr) (c6 : Nat) (a7 : Option Addr) (c8 : Nat), ρ = upd (upd (upd junk 0 (.pointer (some ⟨bt, ot, none⟩))) 2 (.pointer (some ⟨b1, 0, none⟩))) 3 (.pointer (some ⟨b4, 0, none⟩)) ∧ Fresh w.heap.size [] ∧ St w w3 [.box b4 [.slice a5 (0 + t.fAlive.length) c6, .slice none 0 0, .slice a7 t.fAround.length c8] 41, .row (.slice a7 t.fAround.length c8) 2 1 t.fAround.length (t.fAround.map (Value.int .i64)), .row (.slice a5 (0 + t.fAlive.length) c6) 4 1 (0 + t.fAlive.length) ((([] : List Bool) ++ t.fAlive).map (Value.bool)), .box b1 [.slice none 0 0, .slice none 0 0, .slice none 0 0] 41] [atF bt ot [.slice atAlive t.fAlive.length ctAlive, .slice atBags t.fBags.length ctBags, .slice atAround t.fAround.length ctAround], isF false FtAlive (.slice atAlive t.fAlive.length ctAlive) t.fAlive, isF false FtBags (.slice atBags t.fBags.length ctBags) t.fBags, isF false FtAround (.slice atAround t.fAround.length ctAround) t.fAround]) ?_ ?_
 ·skip
  refine c_drawH rfl H fun H => ?_
  refine rtp 1 (.pointer (some ⟨bt, ot, none⟩)) H ?_
  refine rtp 2 (.pointer (some ⟨bt, ot, none⟩)) H ?_
  refine rt 3 (.pointer (some ⟨bt, ot + 0, none⟩)) (y_field bt (ot) 0 Try.underlying41 rfl rfl Try.sizeOf36 rfl) H ?_
  refine rt 4 (.slice atAlive t.fAlive.length ctAlive) (y_load1 Try.isAgg36 rfl (fun _ h => h.cellF 0 rfl 0 rfl)) H ?_
  refine rtp 6 (.pointer (some ⟨bt, ot, none⟩)) H ?_
  refine rtp 7 (.pointer (some ⟨bt, ot, none⟩)) H ?_
  refine rt 8 (.pointer (some ⟨bt, ot + 2, none⟩)) (y_field bt (ot) 2 Try.underlying41 rfl rfl Try.sizeOf22 rfl) H ?_
  refine rt 9 (.slice atAround t.fAround.length ctAround) (y_load1 Try.isAgg22 rfl (fun _ h => h.cellF 0 rfl 2 rfl)) H ?_
  refine r_ops [0, 12] (by kernel_rfl) (by simp) (r_op rfl ?_ (r_op rfl ?_ r_nil))
  ·skip
   refine o_build0 H Try.underlying36 ti4 fun b10 w11 H => ?_
   replace H : St _ _ [.box b10 [] 4, .box b1 [.slice none 0 0, .slice none 0 0, .slice none 0 0] 41] _ := H
   refine ⟨H.pick [1] [0, 1, 2, 3], ?_⟩
   refine r_ops [5, 12] (by kernel_rfl) (by simp) (r_op rfl ?_ (r_op rfl ?_ r_nil))
   ·skip
    replace H := H.boxRow 0 rfl 1 0 rfl (by decide)
    replace H : St _ _ [.row (.slice (some ⟨b10, 0, none⟩) 0 0) 4 1 0 (([] : List Bool).map (Value.bool)), .box b1 [.slice none 0 0, .slice none 0 0, .slice none 0 0] 41] [atF bt ot [.slice atAlive t.fAlive.length ctAlive, .slice atBags t.fBags.length ctBags, .slice atAround t.fAround.length ctAround], isF false FtAlive (.slice atAlive t.fAlive.length ctAlive) t.fAlive, isF false FtBags (.slice atBags t.fBags.length ctBags) t.fBags, isF false FtAround (.slice atAround t.fAround.length ctAround) t.fAround] := H
    refine o_appendFR H 0 rfl 1 rfl Try.underlying36 ti4 rfl (by decide) rfl rfl (by unfold maxLen; omega) (by omega) fun a12 c13 w14 us15 G16 H hG17 => ?_
    obtain ⟨_, rfl⟩ := reps_bools (H.get 0 rfl).1
    replace H := H.sub _ fun f hf => List.mem_cons_of_mem _ hf
    rw [catB] at H
    replace H : St _ _ [.row (.slice a12 (0 + t.fAlive.length) c13) 4 1 (0 + t.fAlive.length) ((([] : List Bool) ++ t.fAlive).map (Value.bool)), .box b1 [.slice none 0 0, .slice none 0 0, .slice none 0 0] 41] _ := H
    refine ⟨H.pick [1] [0, 1, 2, 3], ?_⟩
    refine r_ops [10, 12] (by kernel_rfl) (by simp) (r_op rfl ?_ (r_op rfl ?_ r_nil))
    ·skip
     have sz18 := H.base.size
     refine o_call #[.slice atAround t.fAround.length ctAround] rfl rfl Try.call77 (l00Own_ok w14 t.fAround atAround ctAround FtAround (H.get 3 rfl).1 (by first | assumption | omega)) ?_
     rintro v23 w21 r23 x22
     replace H := H.add_ownInts x22 r23
     obtain ⟨a24, c25, rfl, hc26, hm27⟩ := H.rowForm 0 rfl
     refine ⟨H.pick [2] [0, 1, 2, 3], ?_⟩
     refine r_ops [11, 12] (by kernel_rfl) (by simp) (r_op rfl ?_ (r_op rfl ?_ r_nil))
     ·skip
      refine o_build [.slice a12 (0 + t.fAlive.length) c13, .slice none 0 0, .slice a24 t.fAround.length c25] [(0, .slice a12 (0 + t.fAlive.length) c13), (2, .slice a24 t.fAround.length c25)] ?_
      refine ⟨H.pick [2] [0, 1, 2, 3], ?_⟩
      refine r_ops [12] (by kernel_rfl) (by simp) (r_op rfl ?_ r_nil)
      refine o_alloc H ti41 fun b28 w29 H => ?_
      replace H : St _ _ [.box b28 [.slice none 0 0, .slice none 0 0, .slice none 0 0] 41, .row (.slice a24 t.fAround.length c25) 2 1 t.fAround.length (t.fAround.map (Value.int .i64)), .row (.slice a12 (0 + t.fAlive.length) c13) 4 1 (0 + t.fAlive.length) ((([] : List Bool) ++ t.fAlive).map (Value.bool)), .box b1 [.slice none 0 0, .slice none 0 0, .slice none 0 0] 41] _ := H
      refine ⟨H.pick [3] [0, 1, 2, 3], ?_⟩
      refine r_ops [13] (by kernel_rfl) (by simp) (r_op rfl ?_ r_nil)
      refine o_store H 0 rfl (.agg #[.slice a12 (0 + t.fAlive.length) c13, .slice none 0 0, .slice a24 t.fAround.length c25]) Try.sizeOf41 rfl rfl (by simp [Value.oneCell', Value.cells]) (Nat.le_of_ble_eq_true rfl) fun w30 H => ?_
      replace H : St _ _ [.box b28 [.slice a12 (0 + t.fAlive.length) c13, .slice none 0 0, .slice a24 t.fAround.length c25] 41, .row (.slice a24 t.fAround.length c25) 2 1 t.fAround.length (t.fAround.map (Value.int .i64)), .row (.slice a12 (0 + t.fAlive.length) c13) 4 1 (0 + t.fAlive.length) ((([] : List Bool) ++ t.fAlive).map (Value.bool)), .box b1 [.slice none 0 0, .slice none 0 0, .slice none 0 0] 41] _ := H
      refine ⟨H.pick [3] [0, 1, 2, 3], ?_⟩
      refine r_done (by kernel_rfl) (?_)
      exact meet ⟨_, b28, a12, c13, a24, c25, (by exact upd_eq (upd_eq (upd_eq (rfl) rfl) rfl) rfl), N, H⟩
     ·skip
      refine o_alloc H ti41 fun b31 w32 H => ?_
      replace H : St _ _ [.box b31 [.slice none 0 0, .slice none 0 0, .slice none 0 0] 41, .row (.slice a24 t.fAround.length c25) 2 1 t.fAround.length (t.fAround.map (Value.int .i64)), .row (.slice a12 (0 + t.fAlive.length) c13) 4 1 (0 + t.fAlive.length) ((([] : List Bool) ++ t.fAlive).map (Value.bool)), .box b1 [.slice none 0 0, .slice none 0 0, .slice none 0 0] 41] _ := H
      refine ⟨H.pick [3] [0, 1, 2, 3], ?_⟩
      refine r_ops [11] (by kernel_rfl) (by simp) (r_op rfl ?_ r_nil)
      refine o_build [.slice a12 (0 + t.fAlive.length) c13, .slice none 0 0, .slice a24 t.fAround.length c25] [(0, .slice a12 (0 + t.fAlive.length) c13), (2, .slice a24 t.fAround.length c25)] ?_
      refine ⟨H.pick [3] [0, 1, 2, 3], ?_⟩
      refine r_ops [13] (by kernel_rfl) (by simp) (r_op rfl ?_ r_nil)
      refine o_store H 0 rfl (.agg #[.slice a12 (0 + t.fAlive.length) c13, .slice none 0 0, .slice a24 t.fAround.length c25]) Try.sizeOf41 rfl rfl (by simp [Value.oneCell', Value.cells]) (Nat.le_of_ble_eq_true rfl) fun w33 H => ?_
      replace H : St _ _ [.box b31 [.slice a12 (0 + t.fAlive.length) c13, .slice none 0 0, .slice a24 t.fAround.length c25] 41, .row (.slice a24 t.fAround.length c25) 2 1 t.fAround.length (t.fAround.map (Value.int .i64)), .row (.slice a12 (0 + t.fAlive.length) c13) 4 1 (0 + t.fAlive.length) ((([] : List Bool) ++ t.fAlive).map (Value.bool)), .box b1 [.slice none 0 0, .slice none 0 0, .slice none 0 0] 41] _ := H
      refine ⟨H.pick [3] [0, 1, 2, 3], ?_⟩
      refine r_done (by kernel_rfl) (?_)
      exact meet ⟨_, b31, a12, c13, a24, c25, (by exact upd_eq (upd_eq (upd_eq (rfl) rfl) rfl) rfl), N, H⟩
    ·skip
     refine o_alloc H ti41 fun b34 w35 H => ?_
     replace H : St _ _ [.box b34 [.slice none 0 0, .slice none 0 0, .slice none 0 0] 41, .row (.slice a12 (0 + t.fAlive.length) c13) 4 1 (0 + t.fAlive.length) ((([] : List Bool) ++ t.fAlive).map (Value.bool)), .box b1 [.slice none 0 0, .slice none 0 0, .slice none 0 0] 41] _ := H
     refine ⟨H.pick [2] [0, 1, 2, 3], ?_⟩
     refine r_ops [10] (by kernel_rfl) (by simp) (r_op rfl ?_ r_nil)
     have sz36 := H.base.size
     refine o_call #[.slice atAround t.fAround.length ctAround] rfl rfl Try.call77 (l00Own_ok w35 t.fAround atAround ctAround FtAround (H.get 3 rfl).1 (by first | assumption | omega)) ?_
     rintro v41 w39 r41 x40
     replace H := H.add_ownInts x40 r41
     obtain ⟨a42, c43, rfl, hc44, hm45⟩ := H.rowForm 0 rfl
     refine ⟨H.pick [3] [0, 1, 2, 3], ?_⟩
     refine r_ops [11] (by kernel_rfl) (by simp) (r_op rfl ?_ r_nil)
     refine o_build [.slice a12 (0 + t.fAlive.length) c13, .slice none 0 0, .slice a42 t.fAround.length c43] [(0, .slice a12 (0 + t.fAlive.length) c13), (2, .slice a42 t.fAround.length c43)] ?_
     refine ⟨H.pick [3] [0, 1, 2, 3], ?_⟩
     refine r_ops [13] (by kernel_rfl) (by simp) (r_op rfl ?_ r_nil)
     refine o_store H 1 rfl (.agg #[.slice a12 (0 + t.fAlive.length) c13, .slice none 0 0, .slice a42 t.fAround.length c43]) Try.sizeOf41 rfl rfl (by simp [Value.oneCell', Value.cells]) (Nat.le_of_ble_eq_true rfl) fun w46 H => ?_
     replace H : St _ _ [.row (.slice a42 t.fAround.length c43) 2 1 t.fAround.length (t.fAround.map (Value.int .i64)), .box b34 [.slice a12 (0 + t.fAlive.length) c13, .slice none 0 0, .slice a42 t.fAround.length c43] 41, .row (.slice a12 (0 + t.fAlive.length) c13) 4 1 (0 + t.fAlive.length) ((([] : List Bool) ++ t.fAlive).map (Value.bool)), .box b1 [.slice none 0 0, .slice none 0 0, .slice none 0 0] 41] _ := H
     refine ⟨H.pick [3] [0, 1, 2, 3], ?_⟩
     refine r_done (by kernel_rfl) (?_)
     exact meet ⟨_, b34, a12, c13, a42, c43, (by exact upd_eq (upd_eq (upd_eq (rfl) rfl) rfl) rfl), N, H.pick [1, 0, 2, 3] [0, 1, 2, 3]⟩
   ·skip
    refine o_alloc H ti41 fun b47 w48 H => ?_
    replace H : St _ _ [.box b47 [.slice none 0 0, .slice none 0 0, .slice none 0 0] 41, .box b10 [] 4, .box b1 [.slice none 0 0, .slice none 0 0, .slice none 0 0] 41] _ := H
    refine ⟨H.pick [2] [0, 1, 2, 3], ?_⟩
    refine r_ops [5] (by kernel_rfl) (by simp) (r_op rfl ?_ r_nil)
    replace H := H.boxRow 1 rfl 1 0 rfl (by decide)
    replace H : St _ _ [.box b47 [.slice none 0 0, .slice none 0 0, .slice none 0 0] 41, .row (.slice (some ⟨b10, 0, none⟩) 0 0) 4 1 0 (([] : List Bool).map (Value.bool)), .box b1 [.slice none 0 0, .slice none 0 0, .slice none 0 0] 41] [atF bt ot [.slice atAlive t.fAlive.length ctAlive, .slice atBags t.fBags.length ctBags, .slice atAround t.fAround.length ctAround], isF false FtAlive (.slice atAlive t.fAlive.length ctAlive) t.fAlive, isF false FtBags (.slice atBags t.fBags.length ctBags) t.fBags, isF false FtAround (.slice atAround t.fAround.length ctAround) t.fAround] := H
    refine o_appendFR H 1 rfl 1 rfl Try.underlying36 ti4 rfl (by decide) rfl rfl (by unfold maxLen; omega) (by omega) fun a49 c50 w51 us52 G53 H hG54 => ?_
    obtain ⟨_, rfl⟩ := reps_bools (H.get 0 rfl).1
    replace H := H.sub _ fun f hf => List.mem_cons_of_mem _ hf
    rw [catB] at H
    replace H : St _ _ [.box b47 [.slice none 0 0, .slice none 0 0, .slice none 0 0] 41, .row (.slice a49 (0 + t.fAlive.length) c50) 4 1 (0 + t.fAlive.length) ((([] : List Bool) ++ t.fAlive).map (Value.bool)), .box b1 [.slice none 0 0, .slice none 0 0, .slice none 0 0] 41] _ := H
    refine ⟨H.pick [2] [0, 1, 2, 3], ?_⟩
    refine r_ops [10] (by kernel_rfl) (by simp) (r_op rfl ?_ r_nil)
    have sz55 := H.base.size
    refine o_call #[.slice atAround t.fAround.length ctAround] rfl rfl Try.call77 (l00Own_ok w51 t.fAround atAround ctAround FtAround (H.get 3 rfl).1 (by first | assumption | omega)) ?_
    rintro v60 w58 r60 x59
    replace H := H.add_ownInts x59 r60
    obtain ⟨a61, c62, rfl, hc63, hm64⟩ := H.rowForm 0 rfl
    refine ⟨H.pick [3] [0, 1, 2, 3], ?_⟩
    refine r_ops [11] (by kernel_rfl) (by simp) (r_op rfl ?_ r_nil)
    refine o_build [.slice a49 (0 + t.fAlive.length) c50, .slice none 0 0, .slice a61 t.fAround.length c62] [(0, .slice a49 (0 + t.fAlive.length) c50), (2, .slice a61 t.fAround.length c62)] ?_
    refine ⟨H.pick [3] [0, 1, 2, 3], ?_⟩
    refine r_ops [13] (by kernel_rfl) (by simp) (r_op rfl ?_ r_nil)
    refine o_store H 1 rfl (.agg #[.slice a49 (0 + t.fAlive.length) c50, .slice none 0 0, .slice a61 t.fAround.length c62]) Try.sizeOf41 rfl rfl (by simp [Value.oneCell', Value.cells]) (Nat.le_of_ble_eq_true rfl) fun w65 H => ?_
    replace H : St _ _ [.row (.slice a61 t.fAround.length c62) 2 1 t.fAround.length (t.fAround.map (Value.int .i64)), .box b47 [.slice a49 (0 + t.fAlive.length) c50, .slice none 0 0, .slice a61 t.fAround.length c62] 41, .row (.slice a49 (0 + t.fAlive.length) c50) 4 1 (0 + t.fAlive.length) ((([] : List Bool) ++ t.fAlive).map (Value.bool)), .box b1 [.slice none 0 0, .slice none 0 0, .slice none 0 0] 41] _ := H
    refine ⟨H.pick [3] [0, 1, 2, 3], ?_⟩
    refine r_done (by kernel_rfl) (?_)
    exact meet ⟨_, b47, a49, c50, a61, c62, (by exact upd_eq (upd_eq (upd_eq (rfl) rfl) rfl) rfl), N, H.pick [1, 0, 2, 3] [0, 1, 2, 3]⟩
  ·skip
   refine o_alloc H ti41 fun b66 w67 H => ?_
   replace H : St _ _ [.box b66 [.slice none 0 0, .slice none 0 0, .slice none 0 0] 41, .box b1 [.slice none 0 0, .slice none 0 0, .slice none 0 0] 41] _ := H
   refine ⟨H.pick [1] [0, 1, 2, 3], ?_⟩
   refine r_ops [0] (by kernel_rfl) (by simp) (r_op rfl ?_ r_nil)
   refine o_build0 H Try.underlying36 ti4 fun b68 w69 H => ?_
   replace H : St _ _ [.box b68 [] 4, .box b66 [.slice none 0 0, .slice none 0 0, .slice none 0 0] 41, .box b1 [.slice none 0 0, .slice none 0 0, .slice none 0 0] 41] _ := H
   refine ⟨H.pick [2] [0, 1, 2, 3], ?_⟩
   refine r_ops [5] (by kernel_rfl) (by simp) (r_op rfl ?_ r_nil)
   replace H := H.boxRow 0 rfl 1 0 rfl (by decide)
   replace H : St _ _ [.row (.slice (some ⟨b68, 0, none⟩) 0 0) 4 1 0 (([] : List Bool).map (Value.bool)), .box b66 [.slice none 0 0, .slice none 0 0, .slice none 0 0] 41, .box b1 [.slice none 0 0, .slice none 0 0, .slice none 0 0] 41] [atF bt ot [.slice atAlive t.fAlive.length ctAlive, .slice atBags t.fBags.length ctBags, .slice atAround t.fAround.length ctAround], isF false FtAlive (.slice atAlive t.fAlive.length ctAlive) t.fAlive, isF false FtBags (.slice atBags t.fBags.length ctBags) t.fBags, isF false FtAround (.slice atAround t.fAround.length ctAround) t.fAround] := H
   refine o_appendFR H 0 rfl 1 rfl Try.underlying36 ti4 rfl (by decide) rfl rfl (by unfold maxLen; omega) (by omega) fun a70 c71 w72 us73 G74 H hG75 => ?_
   obtain ⟨_, rfl⟩ := reps_bools (H.get 0 rfl).1
   replace H := H.sub _ fun f hf => List.mem_cons_of_mem _ hf
   rw [catB] at H
   replace H : St _ _ [.row (.slice a70 (0 + t.fAlive.length) c71) 4 1 (0 + t.fAlive.length) ((([] : List Bool) ++ t.fAlive).map (Value.bool)), .box b66 [.slice none 0 0, .slice none 0 0, .slice none 0 0] 41, .box b1 [.slice none 0 0, .slice none 0 0, .slice none 0 0] 41] _ := H
   refine ⟨H.pick [2] [0, 1, 2, 3], ?_⟩
   refine r_ops [10] (by kernel_rfl) (by simp) (r_op rfl ?_ r_nil)
   have sz76 := H.base.size
   refine o_call #[.slice atAround t.fAround.length ctAround] rfl rfl Try.call77 (l00Own_ok w72 t.fAround atAround ctAround FtAround (H.get 3 rfl).1 (by first | assumption | omega)) ?_
   rintro v81 w79 r81 x80
   replace H := H.add_ownInts x80 r81
   obtain ⟨a82, c83, rfl, hc84, hm85⟩ := H.rowForm 0 rfl
   refine ⟨H.pick [3] [0, 1, 2, 3], ?_⟩
   refine r_ops [11] (by kernel_rfl) (by simp) (r_op rfl ?_ r_nil)
   refine o_build [.slice a70 (0 + t.fAlive.length) c71, .slice none 0 0, .slice a82 t.fAround.length c83] [(0, .slice a70 (0 + t.fAlive.length) c71), (2, .slice a82 t.fAround.length c83)] ?_
   refine ⟨H.pick [3] [0, 1, 2, 3], ?_⟩
   refine r_ops [13] (by kernel_rfl) (by simp) (r_op rfl ?_ r_nil)
   refine o_store H 2 rfl (.agg #[.slice a70 (0 + t.fAlive.length) c71, .slice none 0 0, .slice a82 t.fAround.length c83]) Try.sizeOf41 rfl rfl (by simp [Value.oneCell', Value.cells]) (Nat.le_of_ble_eq_true rfl) fun w86 H => ?_
   replace H : St _ _ [.row (.slice a82 t.fAround.length c83) 2 1 t.fAround.length (t.fAround.map (Value.int .i64)), .row (.slice a70 (0 + t.fAlive.length) c71) 4 1 (0 + t.fAlive.length) ((([] : List Bool) ++ t.fAlive).map (Value.bool)), .box b66 [.slice a70 (0 + t.fAlive.length) c71, .slice none 0 0, .slice a82 t.fAround.length c83] 41, .box b1 [.slice none 0 0, .slice none 0 0, .slice none 0 0] 41] _ := H
   refine ⟨H.pick [3] [0, 1, 2, 3], ?_⟩
   refine r_done (by kernel_rfl) (?_)
   exact meet ⟨_, b66, a70, c71, a82, c83, (by exact upd_eq (upd_eq (upd_eq (rfl) rfl) rfl) rfl), N, H.pick [2, 0, 1, 3] [0, 1, 2, 3]⟩
 ·skip
  clear H N
  rintro ρ w87 ⟨junk, b4, a5, c6, a7, c8, rfl, N, H⟩
  refine t_n ?_
  refine c_seq ?_
  refine c_seq ?_
  refine c_reg ?_
  refine sp (.int .i64 0) ?_
  refine c_nil (t_n ?_)
  refine c_block ?_
  replace H := H.nilRow 22 1
  replace H := H.repsNil (α := List Int)
  replace H : St _ _ [.row (.slice none 0 0) 22 1 0 [], .box b4 [.slice a5 (0 + t.fAlive.length) c6, .slice none 0 0, .slice a7 t.fAround.length c8] 41, .row (.slice a7 t.fAround.length c8) 2 1 t.fAround.length (t.fAround.map (Value.int .i64)), .row (.slice a5 (0 + t.fAlive.length) c6) 4 1 (0 + t.fAlive.length) ((([] : List Bool) ++ t.fAlive).map (Value.bool)), .box b1 [.slice none 0 0, .slice none 0 0, .slice none 0 0] 41] _ := H
  refine c_loop (fun m' ρ w88 => ∃ (junk : Env) (c : Nat) (a_out_Bags : Option Addr) (n_out_Bags : Nat) (c_out_Bags : Nat) (out_Bags : List (List Int)) (x_out_Bags : List Value) (F_out_Bags : List Nat), ρ = upd (upd (upd (upd junk 0 (.pointer (some ⟨bt, ot, none⟩))) 2 (.pointer (some ⟨b1, 0, none⟩))) 3 (.pointer (some ⟨b4, 0, none⟩))) 4 (.int .i64 c) ∧ out_Bags = t.fBags.take c ∧ ((c : Int) ≤ t.fBags.length) ∧ m' = (t.fBags.length - (c : Int)).toNat ∧ Fresh w.heap.size [F_out_Bags] ∧ St w w88 [.row (.slice a_out_Bags n_out_Bags c_out_Bags) 22 1 n_out_Bags x_out_Bags, .box b4 [.slice a5 (0 + t.fAlive.length) c6, .slice a_out_Bags n_out_Bags c_out_Bags, .slice a7 t.fAround.length c8] 41, .row (.slice a7 t.fAround.length c8) 2 1 t.fAround.length (t.fAround.map (Value.int .i64)), .row (.slice a5 (0 + t.fAlive.length) c6) 4 1 (0 + t.fAlive.length) ((([] : List Bool) ++ t.fAlive).map (Value.bool)), .box b1 [.slice none 0 0, .slice none 0 0, .slice none 0 0] 41] [repsF true F_out_Bags x_out_Bags out_Bags, atF bt ot [.slice atAlive t.fAlive.length ctAlive, .slice atBags t.fBags.length ctBags, .slice atAround t.fAround.length ctAround], isF false FtAlive (.slice atAlive t.fAlive.length ctAlive) t.fAlive, isF false FtBags (.slice atBags t.fBags.length ctBags) t.fBags, isF false FtAround (.slice atAround t.fAround.length ctAround) t.fAround]) ((t.fBags.length - (0 : Int)).toNat) ⟨_, 0, none, 0, 0, ([] : List (List Int)), [], [], (by exact upd_eq (upd_eq (upd_eq (upd_eq (rfl) rfl) rfl) rfl) rfl), (by rfl), (by omega), rfl, N.emp, H⟩ ?_
  clear H N
  rintro m' ρ w89 ⟨junk, c, a_out_Bags, n_out_Bags, c_out_Bags, out_Bags, x_out_Bags, F_out_Bags, rfl, rfl, i0, rfl, N, H⟩
  have hn_out_Bags := H.rowCount (α := List Int) 0 rfl 0 rfl (by decide)
  have p4 := p3 c
  rw [List.length_take_of_le (by omega)] at hn_out_Bags
  refine c_seq ?_
  refine c_seq ?_
  refine c_reg ?_
  refine sp (.int .i64 c) ?_
  refine sp (.pointer (some ⟨bt, ot, none⟩)) ?_
  refine sp (.pointer (some ⟨bt, ot, none⟩)) ?_
  refine sw (o_field bt (ot) 1 Try.underlying41 rfl rfl Try.sizeOf37 rfl ?_)
  refine sw (o_load1 (.slice atBags t.fBags.length ctBags) Try.isAgg37 rfl (H.cellF 1 rfl 1 rfl) ?_)
  refine sw (o_len Try.underlying37 atBags t.fBags.length ctBags rfl ?_)
  refine sp (.bool (decide ((c : Int) < t.fBags.length))) ?_
  refine c_nil (t_n ?_)
  refine c_cond (decide ((c : Int) < t.fBags.length)) rfl (fun h90 => ?_) (fun h90 => ?_)
  ·skip
   replace h90 := of_decide_eq_true h90
   refine c_skip (t_n ?_)
   refine c_seq ?_
   refine c_block ?_
   obtain ⟨b91, o92, rfl⟩ := H.addr 3 rfl (by omega)
   refine c_cut (fun ρ w94 => ∃ (junk : Env) (a95 : Option Addr) (c96 : Nat) (a97 : Option Addr) (c98 : Nat) (G99 : List Nat) (F100 : List Nat) (a101 : Option Addr) (c102 : Nat), ρ = upd (upd (upd (upd junk 0 (.pointer (some ⟨bt, ot, none⟩))) 2 (.pointer (some ⟨b1, 0, none⟩))) 3 (.pointer (some ⟨b4, 0, none⟩))) 4 (.int .i64 c) ∧ Fresh w.heap.size [(F_out_Bags ++ G99)] ∧ St w w94 [.row (.slice a95 (n_out_Bags + 1) c96) 22 1 (n_out_Bags + 1) (x_out_Bags ++ [.slice a97 ((t.fBags[c]!).length) c98]), .box b4 [.slice a5 (0 + t.fAlive.length) c6, .slice a95 (n_out_Bags + 1) c96, .slice a7 t.fAround.length c8] 41, .row (.slice a7 t.fAround.length c8) 2 1 t.fAround.length (t.fAround.map (Value.int .i64)), .row (.slice a5 (0 + t.fAlive.length) c6) 4 1 (0 + t.fAlive.length) ((([] : List Bool) ++ t.fAlive).map (Value.bool)), .box b1 [.slice none 0 0, .slice none 0 0, .slice none 0 0] 41] [repsF true (F_out_Bags ++ G99) (x_out_Bags ++ [.slice a97 ((t.fBags[c]!).length) c98]) ((t.fBags.take c) ++ [(t.fBags[c]!)]), isF true G99 (.slice a97 ((t.fBags[c]!).length) c98) (t.fBags[c]!), isF false F100 (.slice a101 ((t.fBags[c]!).length) c102) (t.fBags[c]!), atF b91 (o92 + (c : Int).toNat * 1) [.slice a101 ((t.fBags[c]!).length) c102], atF bt ot [.slice atAlive t.fAlive.length ctAlive, .slice (some ⟨b91, o92, none⟩) t.fBags.length ctBags, .slice atAround t.fAround.length ctAround], isF false FtAlive (.slice atAlive t.fAlive.length ctAlive) t.fAlive, isF false FtBags (.slice (some ⟨b91, o92, none⟩) t.fBags.length ctBags) t.fBags, isF false FtAround (.slice atAround t.fAround.length ctAround) t.fAround]) ?_ ?_
   ·skip
    refine c_draw (fun w103 => St w w103 [.row (.slice a7 t.fAround.length c8) 2 1 t.fAround.length (t.fAround.map (Value.int .i64)), .row (.slice a5 (0 + t.fAlive.length) c6) 4 1 (0 + t.fAlive.length) ((([] : List Bool) ++ t.fAlive).map (Value.bool)), .box b1 [.slice none 0 0, .slice none 0 0, .slice none 0 0] 41] [repsF true F_out_Bags x_out_Bags (t.fBags.take c), atF bt ot [.slice atAlive t.fAlive.length ctAlive, .slice (some ⟨b91, o92, none⟩) t.fBags.length ctBags, .slice atAround t.fAround.length ctAround], isF false FtAlive (.slice atAlive t.fAlive.length ctAlive) t.fAlive, isF false FtBags (.slice (some ⟨b91, o92, none⟩) t.fBags.length ctBags) t.fBags, isF false FtAround (.slice atAround t.fAround.length ctAround) t.fAround]) rfl ((H.ext (ext_drew _)).pick [2, 3, 4] [0, 1, 2, 3, 4]) ?_
    replace H := H.ext (ext_drew _)
    refine rt 0 (.pointer (some ⟨b4, 0 + 1, none⟩)) (y_field b4 (0) 1 Try.underlying41 rfl rfl Try.sizeOf37 rfl) (H.pick [2, 3, 4] [0, 1, 2, 3, 4]) ?_
    refine rtp 2 (.pointer (some ⟨bt, ot, none⟩)) (H.pick [2, 3, 4] [0, 1, 2, 3, 4]) ?_
    refine rtp 3 (.pointer (some ⟨bt, ot, none⟩)) (H.pick [2, 3, 4] [0, 1, 2, 3, 4]) ?_
    refine rt 4 (.pointer (some ⟨bt, ot + 1, none⟩)) (y_field bt (ot) 1 Try.underlying41 rfl rfl Try.sizeOf37 rfl) (H.pick [2, 3, 4] [0, 1, 2, 3, 4]) ?_
    refine rt 5 (.slice (some ⟨b91, o92, none⟩) t.fBags.length ctBags) (y_load1 Try.isAgg37 rfl (fun _ h => h.cellF 1 rfl 1 rfl)) (H.pick [2, 3, 4] [0, 1, 2, 3, 4]) ?_
    refine rtp 6 (.int .i64 c) (H.pick [2, 3, 4] [0, 1, 2, 3, 4]) ?_
    obtain ⟨ae104, ce104, Fe104, H⟩ := H.elemList 3 rfl c c (by omega) (by omega) (by omega)
    refine rt 7 (.pointer (some ⟨b91, o92 + (c : Int).toNat * 1, none⟩)) (y_idxAt b91 (o92) t.fBags.length ctBags c Try.underlying37 ti22 rfl rfl (by omega) (by omega)) (H.pick [2, 3, 4] [2, 3, 4, 5, 6]) ?_
    refine r_ops [1, 8] (by kernel_rfl) (by simp) (r_op rfl ?_ (r_op rfl ?_ r_nil))
    ·skip
     refine o_load1 (.slice a_out_Bags n_out_Bags c_out_Bags) Try.isAgg37 rfl (H.cell 1 rfl rfl) ?_
     refine ⟨H.pick [2, 3, 4] [2, 3, 4, 5, 6], ?_⟩
     refine r_ops [8] (by kernel_rfl) (by simp) (r_op rfl ?_ r_nil)
     refine o_load1 (.slice ae104 ((t.fBags[c]!).length) ce104) Try.isAgg22 rfl (H.cellF 1 rfl 0 rfl) ?_
     refine ⟨H.pick [2, 3, 4] [2, 3, 4, 5, 6], ?_⟩
     refine r_ops [9] (by kernel_rfl) (by simp) (r_op rfl ?_ r_nil)
     have sz105 := H.base.size
     have lt106 := H.ltN (L := [F_out_Bags]) [2]
     refine o_call #[.slice ae104 ((t.fBags[c]!).length) ce104] rfl rfl Try.call77 (l00Own_ok w89.drew (t.fBags[c]!) ae104 ce104 Fe104 (H.get 0 rfl).1 (by first | assumption | omega)) ?_
     rintro v110 w108 r110 x109
     replace H := H.add_ownInts x109 r110
     obtain ⟨a111, c112, rfl, hc113, hm114⟩ := H.rowForm 0 rfl
     refine ⟨H.pick [3, 4, 5] [2, 3, 4, 5, 6], ?_⟩
     refine r_ops [10] (by kernel_rfl) (by simp) (r_op rfl ?_ r_nil)
     refine o_build1 H Try.underlying37 ti22 (by decide) (by decide) (.slice a111 ((t.fBags[c]!).length) c112) rfl rfl fun b115 w116 H => ?_
     replace H : St _ _ [.box b115 [.slice a111 ((t.fBags[c]!).length) c112] 22, .row (.slice a111 ((t.fBags[c]!).length) c112) 2 1 ((t.fBags[c]!).length) ((t.fBags[c]!).map (Value.int .i64)), .row (.slice a_out_Bags n_out_Bags c_out_Bags) 22 1 n_out_Bags x_out_Bags, .box b4 [.slice a5 (0 + t.fAlive.length) c6, .slice a_out_Bags n_out_Bags c_out_Bags, .slice a7 t.fAround.length c8] 41, .row (.slice a7 t.fAround.length c8) 2 1 t.fAround.length (t.fAround.map (Value.int .i64)), .row (.slice a5 (0 + t.fAlive.length) c6) 4 1 (0 + t.fAlive.length) ((([] : List Bool) ++ t.fAlive).map (Value.bool)), .box b1 [.slice none 0 0, .slice none 0 0, .slice none 0 0] 41] _ := H
     refine ⟨H.pick [4, 5, 6] [2, 3, 4, 5, 6], ?_⟩
     refine r_ops [11] (by kernel_rfl) (by simp) (r_op rfl ?_ r_nil)
     obtain ⟨G120, N, hn121, H⟩ := H.freezeI 1 rfl N (H.awayN [2])
     replace H : St _ _ [.box b115 [.slice a111 ((t.fBags[c]!).length) c112] 22, .row (.slice none 0 0) 0 1 0 [], .row (.slice a_out_Bags n_out_Bags c_out_Bags) 22 1 n_out_Bags x_out_Bags, .box b4 [.slice a5 (0 + t.fAlive.length) c6, .slice a_out_Bags n_out_Bags c_out_Bags, .slice a7 t.fAround.length c8] 41, .row (.slice a7 t.fAround.length c8) 2 1 t.fAround.length (t.fAround.map (Value.int .i64)), .row (.slice a5 (0 + t.fAlive.length) c6) 4 1 (0 + t.fAlive.length) ((([] : List Bool) ++ t.fAlive).map (Value.bool)), .box b1 [.slice none 0 0, .slice none 0 0, .slice none 0 0] 41] _ := H
     refine o_appendR H 2 rfl 0 rfl Try.underlying37 ti22 rfl (by decide) rfl rfl rfl (by simp [Value.oneCell', Value.cells]) (by unfold maxLen; omega) (by omega) fun a117 c118 w119 H => ?_
     replace H : St _ _ [.box b115 [.slice a111 ((t.fBags[c]!).length) c112] 22, .row (.slice none 0 0) 0 1 0 [], .row (.slice a117 (n_out_Bags + 1) c118) 22 1 (n_out_Bags + 1) (x_out_Bags ++ [.slice a111 ((t.fBags[c]!).length) c112]), .box b4 [.slice a5 (0 + t.fAlive.length) c6, .slice a_out_Bags n_out_Bags c_out_Bags, .slice a7 t.fAround.length c8] 41, .row (.slice a7 t.fAround.length c8) 2 1 t.fAround.length (t.fAround.map (Value.int .i64)), .row (.slice a5 (0 + t.fAlive.length) c6) 4 1 (0 + t.fAlive.length) ((([] : List Bool) ++ t.fAlive).map (Value.bool)), .box b1 [.slice none 0 0, .slice none 0 0, .slice none 0 0] 41] _ := H
     replace H := H.repsSnoc 3 rfl 0 rfl
     replace N : Fresh w.heap.size [(F_out_Bags ++ G120)] := (N.pick [1, 0]).join
     refine ⟨H.pick [4, 5, 6] [4, 5, 6, 7, 8], ?_⟩
     refine rt 12 (.pointer (some ⟨b4, 0 + 1, none⟩)) (y_field b4 (0) 1 Try.underlying41 rfl rfl Try.sizeOf37 rfl) (H.pick [4, 5, 6] [4, 5, 6, 7, 8]) ?_
     refine r_ops [13] (by kernel_rfl) (by simp) (r_op rfl ?_ r_nil)
     refine o_store1 H 3 rfl (.slice a117 (n_out_Bags + 1) c118) Try.sizeOf37 rfl rfl rfl (Nat.le_of_ble_eq_true rfl) fun w122 H => ?_
     replace H : St _ _ [.box b115 [.slice a111 ((t.fBags[c]!).length) c112] 22, .row (.slice none 0 0) 0 1 0 [], .row (.slice a117 (n_out_Bags + 1) c118) 22 1 (n_out_Bags + 1) (x_out_Bags ++ [.slice a111 ((t.fBags[c]!).length) c112]), .box b4 [.slice a5 (0 + t.fAlive.length) c6, .slice a117 (n_out_Bags + 1) c118, .slice a7 t.fAround.length c8] 41, .row (.slice a7 t.fAround.length c8) 2 1 t.fAround.length (t.fAround.map (Value.int .i64)), .row (.slice a5 (0 + t.fAlive.length) c6) 4 1 (0 + t.fAlive.length) ((([] : List Bool) ++ t.fAlive).map (Value.bool)), .box b1 [.slice none 0 0, .slice none 0 0, .slice none 0 0] 41] _ := H
     refine ⟨H.pick [4, 5, 6] [4, 5, 6, 7, 8], ?_⟩
     refine r_done (by kernel_rfl) (?_)
     exact meet ⟨_, a117, c118, a111, c112, G120, Fe104, ae104, ce104, (by exact upd_eq (upd_eq (upd_eq (upd_eq (rfl) rfl) rfl) rfl) rfl), N, H.pick [2, 3, 4, 5, 6] [0, 1, 2, 3, 5, 6, 7, 8]⟩
    ·skip
     refine o_load1 (.slice ae104 ((t.fBags[c]!).length) ce104) Try.isAgg22 rfl (H.cellF 1 rfl 0 rfl) ?_
     refine ⟨H.pick [2, 3, 4] [2, 3, 4, 5, 6], ?_⟩
     refine r_ops [1, 9] (by kernel_rfl) (by simp) (r_op rfl ?_ (r_op rfl ?_ r_nil))
     ·skip
      refine o_load1 (.slice a_out_Bags n_out_Bags c_out_Bags) Try.isAgg37 rfl (H.cell 1 rfl rfl) ?_
      refine ⟨H.pick [2, 3, 4] [2, 3, 4, 5, 6], ?_⟩
      refine r_ops [9] (by kernel_rfl) (by simp) (r_op rfl ?_ r_nil)
      have sz123 := H.base.size
      have lt124 := H.ltN (L := [F_out_Bags]) [2]
      refine o_call #[.slice ae104 ((t.fBags[c]!).length) ce104] rfl rfl Try.call77 (l00Own_ok w89.drew (t.fBags[c]!) ae104 ce104 Fe104 (H.get 0 rfl).1 (by first | assumption | omega)) ?_
      rintro v128 w126 r128 x127
      replace H := H.add_ownInts x127 r128
      obtain ⟨a129, c130, rfl, hc131, hm132⟩ := H.rowForm 0 rfl
      refine ⟨H.pick [3, 4, 5] [2, 3, 4, 5, 6], ?_⟩
      refine r_ops [10] (by kernel_rfl) (by simp) (r_op rfl ?_ r_nil)
      refine o_build1 H Try.underlying37 ti22 (by decide) (by decide) (.slice a129 ((t.fBags[c]!).length) c130) rfl rfl fun b133 w134 H => ?_
      replace H : St _ _ [.box b133 [.slice a129 ((t.fBags[c]!).length) c130] 22, .row (.slice a129 ((t.fBags[c]!).length) c130) 2 1 ((t.fBags[c]!).length) ((t.fBags[c]!).map (Value.int .i64)), .row (.slice a_out_Bags n_out_Bags c_out_Bags) 22 1 n_out_Bags x_out_Bags, .box b4 [.slice a5 (0 + t.fAlive.length) c6, .slice a_out_Bags n_out_Bags c_out_Bags, .slice a7 t.fAround.length c8] 41, .row (.slice a7 t.fAround.length c8) 2 1 t.fAround.length (t.fAround.map (Value.int .i64)), .row (.slice a5 (0 + t.fAlive.length) c6) 4 1 (0 + t.fAlive.length) ((([] : List Bool) ++ t.fAlive).map (Value.bool)), .box b1 [.slice none 0 0, .slice none 0 0, .slice none 0 0] 41] _ := H
      refine ⟨H.pick [4, 5, 6] [2, 3, 4, 5, 6], ?_⟩
      refine r_ops [11] (by kernel_rfl) (by simp) (r_op rfl ?_ r_nil)
      obtain ⟨G138, N, hn139, H⟩ := H.freezeI 1 rfl N (H.awayN [2])
      replace H : St _ _ [.box b133 [.slice a129 ((t.fBags[c]!).length) c130] 22, .row (.slice none 0 0) 0 1 0 [], .row (.slice a_out_Bags n_out_Bags c_out_Bags) 22 1 n_out_Bags x_out_Bags, .box b4 [.slice a5 (0 + t.fAlive.length) c6, .slice a_out_Bags n_out_Bags c_out_Bags, .slice a7 t.fAround.length c8] 41, .row (.slice a7 t.fAround.length c8) 2 1 t.fAround.length (t.fAround.map (Value.int .i64)), .row (.slice a5 (0 + t.fAlive.length) c6) 4 1 (0 + t.fAlive.length) ((([] : List Bool) ++ t.fAlive).map (Value.bool)), .box b1 [.slice none 0 0, .slice none 0 0, .slice none 0 0] 41] _ := H
      refine o_appendR H 2 rfl 0 rfl Try.underlying37 ti22 rfl (by decide) rfl rfl rfl (by simp [Value.oneCell', Value.cells]) (by unfold maxLen; omega) (by omega) fun a135 c136 w137 H => ?_
      replace H : St _ _ [.box b133 [.slice a129 ((t.fBags[c]!).length) c130] 22, .row (.slice none 0 0) 0 1 0 [], .row (.slice a135 (n_out_Bags + 1) c136) 22 1 (n_out_Bags + 1) (x_out_Bags ++ [.slice a129 ((t.fBags[c]!).length) c130]), .box b4 [.slice a5 (0 + t.fAlive.length) c6, .slice a_out_Bags n_out_Bags c_out_Bags, .slice a7 t.fAround.length c8] 41, .row (.slice a7 t.fAround.length c8) 2 1 t.fAround.length (t.fAround.map (Value.int .i64)), .row (.slice a5 (0 + t.fAlive.length) c6) 4 1 (0 + t.fAlive.length) ((([] : List Bool) ++ t.fAlive).map (Value.bool)), .box b1 [.slice none 0 0, .slice none 0 0, .slice none 0 0] 41] _ := H
      replace H := H.repsSnoc 3 rfl 0 rfl
      replace N : Fresh w.heap.size [(F_out_Bags ++ G138)] := (N.pick [1, 0]).join
      refine ⟨H.pick [4, 5, 6] [4, 5, 6, 7, 8], ?_⟩
      refine rt 12 (.pointer (some ⟨b4, 0 + 1, none⟩)) (y_field b4 (0) 1 Try.underlying41 rfl rfl Try.sizeOf37 rfl) (H.pick [4, 5, 6] [4, 5, 6, 7, 8]) ?_
      refine r_ops [13] (by kernel_rfl) (by simp) (r_op rfl ?_ r_nil)
      refine o_store1 H 3 rfl (.slice a135 (n_out_Bags + 1) c136) Try.sizeOf37 rfl rfl rfl (Nat.le_of_ble_eq_true rfl) fun w140 H => ?_
      replace H : St _ _ [.box b133 [.slice a129 ((t.fBags[c]!).length) c130] 22, .row (.slice none 0 0) 0 1 0 [], .row (.slice a135 (n_out_Bags + 1) c136) 22 1 (n_out_Bags + 1) (x_out_Bags ++ [.slice a129 ((t.fBags[c]!).length) c130]), .box b4 [.slice a5 (0 + t.fAlive.length) c6, .slice a135 (n_out_Bags + 1) c136, .slice a7 t.fAround.length c8] 41, .row (.slice a7 t.fAround.length c8) 2 1 t.fAround.length (t.fAround.map (Value.int .i64)), .row (.slice a5 (0 + t.fAlive.length) c6) 4 1 (0 + t.fAlive.length) ((([] : List Bool) ++ t.fAlive).map (Value.bool)), .box b1 [.slice none 0 0, .slice none 0 0, .slice none 0 0] 41] _ := H
      refine ⟨H.pick [4, 5, 6] [4, 5, 6, 7, 8], ?_⟩
      refine r_done (by kernel_rfl) (?_)
      exact meet ⟨_, a135, c136, a129, c130, G138, Fe104, ae104, ce104, (by exact upd_eq (upd_eq (upd_eq (upd_eq (rfl) rfl) rfl) rfl) rfl), N, H.pick [2, 3, 4, 5, 6] [0, 1, 2, 3, 5, 6, 7, 8]⟩
     ·skip
      have sz141 := H.base.size
      have lt142 := H.ltN (L := [F_out_Bags]) [2]
      refine o_call #[.slice ae104 ((t.fBags[c]!).length) ce104] rfl rfl Try.call77 (l00Own_ok w89.drew (t.fBags[c]!) ae104 ce104 Fe104 (H.get 0 rfl).1 (by first | assumption | omega)) ?_
      rintro v146 w144 r146 x145
      replace H := H.add_ownInts x145 r146
      obtain ⟨a147, c148, rfl, hc149, hm150⟩ := H.rowForm 0 rfl
      refine ⟨H.pick [3, 4, 5] [2, 3, 4, 5, 6], ?_⟩
      refine r_ops [1, 10] (by kernel_rfl) (by simp) (r_op rfl ?_ (r_op rfl ?_ r_nil))
      ·skip
       refine o_load1 (.slice a_out_Bags n_out_Bags c_out_Bags) Try.isAgg37 rfl (H.cell 2 rfl rfl) ?_
       refine ⟨H.pick [3, 4, 5] [2, 3, 4, 5, 6], ?_⟩
       refine r_ops [10] (by kernel_rfl) (by simp) (r_op rfl ?_ r_nil)
       refine o_build1 H Try.underlying37 ti22 (by decide) (by decide) (.slice a147 ((t.fBags[c]!).length) c148) rfl rfl fun b151 w152 H => ?_
       replace H : St _ _ [.box b151 [.slice a147 ((t.fBags[c]!).length) c148] 22, .row (.slice a147 ((t.fBags[c]!).length) c148) 2 1 ((t.fBags[c]!).length) ((t.fBags[c]!).map (Value.int .i64)), .row (.slice a_out_Bags n_out_Bags c_out_Bags) 22 1 n_out_Bags x_out_Bags, .box b4 [.slice a5 (0 + t.fAlive.length) c6, .slice a_out_Bags n_out_Bags c_out_Bags, .slice a7 t.fAround.length c8] 41, .row (.slice a7 t.fAround.length c8) 2 1 t.fAround.length (t.fAround.map (Value.int .i64)), .row (.slice a5 (0 + t.fAlive.length) c6) 4 1 (0 + t.fAlive.length) ((([] : List Bool) ++ t.fAlive).map (Value.bool)), .box b1 [.slice none 0 0, .slice none 0 0, .slice none 0 0] 41] _ := H
       refine ⟨H.pick [4, 5, 6] [2, 3, 4, 5, 6], ?_⟩
       refine r_ops [11] (by kernel_rfl) (by simp) (r_op rfl ?_ r_nil)
       obtain ⟨G156, N, hn157, H⟩ := H.freezeI 1 rfl N (H.awayN [2])
       replace H : St _ _ [.box b151 [.slice a147 ((t.fBags[c]!).length) c148] 22, .row (.slice none 0 0) 0 1 0 [], .row (.slice a_out_Bags n_out_Bags c_out_Bags) 22 1 n_out_Bags x_out_Bags, .box b4 [.slice a5 (0 + t.fAlive.length) c6, .slice a_out_Bags n_out_Bags c_out_Bags, .slice a7 t.fAround.length c8] 41, .row (.slice a7 t.fAround.length c8) 2 1 t.fAround.length (t.fAround.map (Value.int .i64)), .row (.slice a5 (0 + t.fAlive.length) c6) 4 1 (0 + t.fAlive.length) ((([] : List Bool) ++ t.fAlive).map (Value.bool)), .box b1 [.slice none 0 0, .slice none 0 0, .slice none 0 0] 41] _ := H
       refine o_appendR H 2 rfl 0 rfl Try.underlying37 ti22 rfl (by decide) rfl rfl rfl (by simp [Value.oneCell', Value.cells]) (by unfold maxLen; omega) (by omega) fun a153 c154 w155 H => ?_
       replace H : St _ _ [.box b151 [.slice a147 ((t.fBags[c]!).length) c148] 22, .row (.slice none 0 0) 0 1 0 [], .row (.slice a153 (n_out_Bags + 1) c154) 22 1 (n_out_Bags + 1) (x_out_Bags ++ [.slice a147 ((t.fBags[c]!).length) c148]), .box b4 [.slice a5 (0 + t.fAlive.length) c6, .slice a_out_Bags n_out_Bags c_out_Bags, .slice a7 t.fAround.length c8] 41, .row (.slice a7 t.fAround.length c8) 2 1 t.fAround.length (t.fAround.map (Value.int .i64)), .row (.slice a5 (0 + t.fAlive.length) c6) 4 1 (0 + t.fAlive.length) ((([] : List Bool) ++ t.fAlive).map (Value.bool)), .box b1 [.slice none 0 0, .slice none 0 0, .slice none 0 0] 41] _ := H
       replace H := H.repsSnoc 3 rfl 0 rfl
       replace N : Fresh w.heap.size [(F_out_Bags ++ G156)] := (N.pick [1, 0]).join
       refine ⟨H.pick [4, 5, 6] [4, 5, 6, 7, 8], ?_⟩
       refine rt 12 (.pointer (some ⟨b4, 0 + 1, none⟩)) (y_field b4 (0) 1 Try.underlying41 rfl rfl Try.sizeOf37 rfl) (H.pick [4, 5, 6] [4, 5, 6, 7, 8]) ?_
       refine r_ops [13] (by kernel_rfl) (by simp) (r_op rfl ?_ r_nil)
       refine o_store1 H 3 rfl (.slice a153 (n_out_Bags + 1) c154) Try.sizeOf37 rfl rfl rfl (Nat.le_of_ble_eq_true rfl) fun w158 H => ?_
       replace H : St _ _ [.box b151 [.slice a147 ((t.fBags[c]!).length) c148] 22, .row (.slice none 0 0) 0 1 0 [], .row (.slice a153 (n_out_Bags + 1) c154) 22 1 (n_out_Bags + 1) (x_out_Bags ++ [.slice a147 ((t.fBags[c]!).length) c148]), .box b4 [.slice a5 (0 + t.fAlive.length) c6, .slice a153 (n_out_Bags + 1) c154, .slice a7 t.fAround.length c8] 41, .row (.slice a7 t.fAround.length c8) 2 1 t.fAround.length (t.fAround.map (Value.int .i64)), .row (.slice a5 (0 + t.fAlive.length) c6) 4 1 (0 + t.fAlive.length) ((([] : List Bool) ++ t.fAlive).map (Value.bool)), .box b1 [.slice none 0 0, .slice none 0 0, .slice none 0 0] 41] _ := H
       refine ⟨H.pick [4, 5, 6] [4, 5, 6, 7, 8], ?_⟩
       refine r_done (by kernel_rfl) (?_)
       exact meet ⟨_, a153, c154, a147, c148, G156, Fe104, ae104, ce104, (by exact upd_eq (upd_eq (upd_eq (upd_eq (rfl) rfl) rfl) rfl) rfl), N, H.pick [2, 3, 4, 5, 6] [0, 1, 2, 3, 5, 6, 7, 8]⟩
      ·skip
       refine o_build1 H Try.underlying37 ti22 (by decide) (by decide) (.slice a147 ((t.fBags[c]!).length) c148) rfl rfl fun b159 w160 H => ?_
       replace H : St _ _ [.box b159 [.slice a147 ((t.fBags[c]!).length) c148] 22, .row (.slice a147 ((t.fBags[c]!).length) c148) 2 1 ((t.fBags[c]!).length) ((t.fBags[c]!).map (Value.int .i64)), .row (.slice a_out_Bags n_out_Bags c_out_Bags) 22 1 n_out_Bags x_out_Bags, .box b4 [.slice a5 (0 + t.fAlive.length) c6, .slice a_out_Bags n_out_Bags c_out_Bags, .slice a7 t.fAround.length c8] 41, .row (.slice a7 t.fAround.length c8) 2 1 t.fAround.length (t.fAround.map (Value.int .i64)), .row (.slice a5 (0 + t.fAlive.length) c6) 4 1 (0 + t.fAlive.length) ((([] : List Bool) ++ t.fAlive).map (Value.bool)), .box b1 [.slice none 0 0, .slice none 0 0, .slice none 0 0] 41] _ := H
       refine ⟨H.pick [4, 5, 6] [2, 3, 4, 5, 6], ?_⟩
       refine r_ops [1] (by kernel_rfl) (by simp) (r_op rfl ?_ r_nil)
       refine o_load1 (.slice a_out_Bags n_out_Bags c_out_Bags) Try.isAgg37 rfl (H.cell 3 rfl rfl) ?_
       refine ⟨H.pick [4, 5, 6] [2, 3, 4, 5, 6], ?_⟩
       refine r_ops [11] (by kernel_rfl) (by simp) (r_op rfl ?_ r_nil)
       obtain ⟨G164, N, hn165, H⟩ := H.freezeI 1 rfl N (H.awayN [2])
       replace H : St _ _ [.box b159 [.slice a147 ((t.fBags[c]!).length) c148] 22, .row (.slice none 0 0) 0 1 0 [], .row (.slice a_out_Bags n_out_Bags c_out_Bags) 22 1 n_out_Bags x_out_Bags, .box b4 [.slice a5 (0 + t.fAlive.length) c6, .slice a_out_Bags n_out_Bags c_out_Bags, .slice a7 t.fAround.length c8] 41, .row (.slice a7 t.fAround.length c8) 2 1 t.fAround.length (t.fAround.map (Value.int .i64)), .row (.slice a5 (0 + t.fAlive.length) c6) 4 1 (0 + t.fAlive.length) ((([] : List Bool) ++ t.fAlive).map (Value.bool)), .box b1 [.slice none 0 0, .slice none 0 0, .slice none 0 0] 41] _ := H
       refine o_appendR H 2 rfl 0 rfl Try.underlying37 ti22 rfl (by decide) rfl rfl rfl (by simp [Value.oneCell', Value.cells]) (by unfold maxLen; omega) (by omega) fun a161 c162 w163 H => ?_
       replace H : St _ _ [.box b159 [.slice a147 ((t.fBags[c]!).length) c148] 22, .row (.slice none 0 0) 0 1 0 [], .row (.slice a161 (n_out_Bags + 1) c162) 22 1 (n_out_Bags + 1) (x_out_Bags ++ [.slice a147 ((t.fBags[c]!).length) c148]), .box b4 [.slice a5 (0 + t.fAlive.length) c6, .slice a_out_Bags n_out_Bags c_out_Bags, .slice a7 t.fAround.length c8] 41, .row (.slice a7 t.fAround.length c8) 2 1 t.fAround.length (t.fAround.map (Value.int .i64)), .row (.slice a5 (0 + t.fAlive.length) c6) 4 1 (0 + t.fAlive.length) ((([] : List Bool) ++ t.fAlive).map (Value.bool)), .box b1 [.slice none 0 0, .slice none 0 0, .slice none 0 0] 41] _ := H
       replace H := H.repsSnoc 3 rfl 0 rfl
       replace N : Fresh w.heap.size [(F_out_Bags ++ G164)] := (N.pick [1, 0]).join
       refine ⟨H.pick [4, 5, 6] [4, 5, 6, 7, 8], ?_⟩
       refine rt 12 (.pointer (some ⟨b4, 0 + 1, none⟩)) (y_field b4 (0) 1 Try.underlying41 rfl rfl Try.sizeOf37 rfl) (H.pick [4, 5, 6] [4, 5, 6, 7, 8]) ?_
       refine r_ops [13] (by kernel_rfl) (by simp) (r_op rfl ?_ r_nil)
       refine o_store1 H 3 rfl (.slice a161 (n_out_Bags + 1) c162) Try.sizeOf37 rfl rfl rfl (Nat.le_of_ble_eq_true rfl) fun w166 H => ?_
       replace H : St _ _ [.box b159 [.slice a147 ((t.fBags[c]!).length) c148] 22, .row (.slice none 0 0) 0 1 0 [], .row (.slice a161 (n_out_Bags + 1) c162) 22 1 (n_out_Bags + 1) (x_out_Bags ++ [.slice a147 ((t.fBags[c]!).length) c148]), .box b4 [.slice a5 (0 + t.fAlive.length) c6, .slice a161 (n_out_Bags + 1) c162, .slice a7 t.fAround.length c8] 41, .row (.slice a7 t.fAround.length c8) 2 1 t.fAround.length (t.fAround.map (Value.int .i64)), .row (.slice a5 (0 + t.fAlive.length) c6) 4 1 (0 + t.fAlive.length) ((([] : List Bool) ++ t.fAlive).map (Value.bool)), .box b1 [.slice none 0 0, .slice none 0 0, .slice none 0 0] 41] _ := H
       refine ⟨H.pick [4, 5, 6] [4, 5, 6, 7, 8], ?_⟩
       refine r_done (by kernel_rfl) (?_)
       exact meet ⟨_, a161, c162, a147, c148, G164, Fe104, ae104, ce104, (by exact upd_eq (upd_eq (upd_eq (upd_eq (rfl) rfl) rfl) rfl) rfl), N, H.pick [2, 3, 4, 5, 6] [0, 1, 2, 3, 5, 6, 7, 8]⟩
   ·skip
    clear H N
    rintro ρ w167 ⟨junk, a95, c96, a97, c98, G99, F100, a101, c102, rfl, N, H⟩
    refine b_n (t_n ?_)
    refine c_reg ?_
    refine sp (.int .i64 c) ?_
    refine sw (o_add c 1 rfl rfl (by omega) ?_)
    refine sp (.int .i64 (c + 1)) ?_
    refine c_nil (?_)
    refine loop_end (m' := (t.fBags.length - ((c + 1) : Int)).toNat) (by omega) ⟨_, c + 1, a95, n_out_Bags + 1, c96, ((t.fBags.take c) ++ [(t.fBags[c]!)]), x_out_Bags ++ [.slice a97 ((t.fBags[c]!).length) c98], (F_out_Bags ++ G99), (by exact upd_eq (upd_eq (upd_eq (upd_eq (rfl) rfl) rfl) rfl) rfl), ?_, ?_, rfl, N, H.pick [0, 1, 2, 3, 4] [0, 4, 5, 6, 7]⟩
    · exact take_snoc (by omega)
    · omega
  ·skip
   replace h90 := of_decide_eq_false h90
   refine c_exit (t_x (t_x (b_x (t_n ?_))))
   refine c_seq ?_
   refine c_reg ?_
   refine sw (o_loadN [.slice a5 (0 + t.fAlive.length) c6, .slice a_out_Bags n_out_Bags c_out_Bags, .slice a7 t.fAround.length c8] Try.isAgg41 Try.sizeOf41 rfl (cellsAt_sub (H.cells 1 rfl) 0 3) ?_)
   refine sw (o_store H 4 rfl (.agg #[.slice a5 (0 + t.fAlive.length) c6, .slice a_out_Bags n_out_Bags c_out_Bags, .slice a7 t.fAround.length c8]) Try.sizeOf41 rfl rfl (by simp [Value.oneCell', Value.cells]) (Nat.le_of_ble_eq_true rfl) fun w168 H => ?_)
   replace H : St _ _ [.row (.slice a_out_Bags n_out_Bags c_out_Bags) 22 1 n_out_Bags x_out_Bags, .box b4 [.slice a5 (0 + t.fAlive.length) c6, .slice a_out_Bags n_out_Bags c_out_Bags, .slice a7 t.fAround.length c8] 41, .row (.slice a7 t.fAround.length c8) 2 1 t.fAround.length (t.fAround.map (Value.int .i64)), .row (.slice a5 (0 + t.fAlive.length) c6) 4 1 (0 + t.fAlive.length) ((([] : List Bool) ++ t.fAlive).map (Value.bool)), .box b1 [.slice a5 (0 + t.fAlive.length) c6, .slice a_out_Bags n_out_Bags c_out_Bags, .slice a7 t.fAround.length c8] 41] _ := H
   refine c_nil (t_n ?_)
   refine c_ret (?_)
   refine retC H 4 rfl rfl Try.isAgg41 Try.sizeOf41 rfl ⟨_, rfl, ?_, H.base⟩
   obtain rfl : c = t.fBags.length := by omega
   rw [List.take_length] at H
   exact ⟨a5, 0 + t.fAlive.length, c6, a_out_Bags, n_out_Bags, c_out_Bags, x_out_Bags, F_out_Bags, a7, t.fAround.length, c8, rfl, N, H.pick [3, 0, 2] [0]⟩

theorem specMelt_ok (w : World) (s : SystemD) (t : StateD) (c : Int) (asParents : Option Addr) (csParents : Nat) (FsParents : List Nat) (asRules : Option Addr) (csRules : Nat) (FsRules : List Nat) (atAlive : Option Addr) (ctAlive : Nat) (FtAlive : List Nat) (atBags : Option Addr) (ctBags : Nat) (FtBags : List Nat) (atAround : Option Addr) (ctAround : Nat) (FtAround : List Nat) (hsParents : GoRep.rep w FsParents [.slice asParents s.fParents.length csParents] s.fParents) (hsRules : GoRep.rep w FsRules [.slice asRules s.fRules.length csRules] s.fRules) (htAlive : GoRep.rep w FtAlive [.slice atAlive t.fAlive.length ctAlive] t.fAlive) (htBags : GoRep.rep w FtBags [.slice atBags t.fBags.length ctBags] t.fBags) (htAround : GoRep.rep w FtAround [.slice atAround t.fAround.length ctAround] t.fAround) : Calls Try.prog 14 #[.agg #[.int .i64 s.fKinds, .slice asParents s.fParents.length csParents, .slice asRules s.fRules.length csRules], .agg #[.slice atAlive t.fAlive.length ctAlive, .slice atBags t.fBags.length ctBags, .slice atAround t.fAround.length ctAround], .int .i64 c] w (Ret (fun v w' => ∃ (ra0Alive : Option Addr) (rn0Alive : Nat) (rc0Alive : Nat) (ra0Bags : Option Addr) (rn0Bags : Nat) (rc0Bags : Nat) (rx0Bags : List Value) (rF0Bags : List Nat) (ra0Around : Option Addr) (rn0Around : Nat) (rc0Around : Nat), v = .tuple #[.agg #[.slice ra0Alive rn0Alive rc0Alive, .slice ra0Bags rn0Bags rc0Bags, .slice ra0Around rn0Around rc0Around], .int .i64 ((meltRes s t c).2)] ∧ Fresh w.heap.size [rF0Bags] ∧ St w w' [.row (.slice ra0Alive rn0Alive rc0Alive) 4 1 rn0Alive ((((meltRes s t c).1).fAlive).map (Value.bool)), .row (.slice ra0Bags rn0Bags rc0Bags) 22 1 rn0Bags rx0Bags, .row (.slice ra0Around rn0Around rc0Around) 2 1 rn0Around ((((meltRes s t c).1).fAround).map (Value.int .i64))] [repsF true rF0Bags rx0Bags (((meltRes s t c).1).fBags)]) w) := by
 refine enter (n := 28) Try.func14 rfl Try.ntmps14 (Nat.le_of_ble_eq_true rfl) ?_
 have H := St.start w
 replace H := H.add (isF false FtAround (.slice atAround t.fAround.length ctAround) t.fAround) ⟨htAround, by simp⟩ (start_lt htAround)
 replace H := H.add (isF false FtBags (.slice atBags t.fBags.length ctBags) t.fBags) ⟨htBags, by simp⟩ (start_lt htBags)
 replace H := H.add (isF false FtAlive (.slice atAlive t.fAlive.length ctAlive) t.fAlive) ⟨htAlive, by simp⟩ (start_lt htAlive)
 replace H := H.add (isF false FsRules (.slice asRules s.fRules.length csRules) s.fRules) ⟨hsRules, by simp⟩ (start_lt hsRules)
 replace H := H.add (isF false FsParents (.slice asParents s.fParents.length csParents) s.fParents) ⟨hsParents, by simp⟩ (start_lt hsParents)
 have nhsParents := rep_len hsParents
 have nhsRules := rep_len hsRules
 have nhtAlive := rep_len htAlive
 have nhtBags := rep_len htBags
 have nhtAround := rep_len htAround
 clear hsParents hsRules htAlive htBags htAround
 have N := Fresh.nil w.heap.size
 refine c_seq ?_
 refine c_reg ?_
 refine sw (o_box H (.agg #[.int .i64 s.fKinds, .slice asParents s.fParents.length csParents, .slice asRules s.fRules.length csRules]) rfl fun b1 w2 H => ?_)
 replace H : St _ _ [.box b1 [.int .i64 s.fKinds, .slice asParents s.fParents.length csParents, .slice asRules s.fRules.length csRules] 30] _ := H
 refine sw (o_box H (.agg #[.slice atAlive t.fAlive.length ctAlive, .slice atBags t.fBags.length ctBags, .slice atAround t.fAround.length ctAround]) rfl fun b3 w4 H => ?_)
 replace H : St _ _ [.box b3 [.slice atAlive t.fAlive.length ctAlive, .slice atBags t.fBags.length ctBags, .slice atAround t.fAround.length ctAround] 41, .box b1 [.int .i64 s.fKinds, .slice asParents s.fParents.length csParents, .slice asRules s.fRules.length csRules] 30] _ := H
 refine sw (o_alloc H ti41 fun b5 w6 H => ?_)
 replace H : St _ _ [.box b5 [.slice none 0 0, .slice none 0 0, .slice none 0 0] 41, .box b3 [.slice atAlive t.fAlive.length ctAlive, .slice atBags t.fBags.length ctBags, .slice atAround t.fAround.length ctAround] 41, .box b1 [.int .i64 s.fKinds, .slice asParents s.fParents.length csParents, .slice asRules s.fRules.length csRules] 30] _ := H
 refine sp (.int .i64 0) ?_
 refine c_nil (t_n ?_)
 refine c_seq ?_
 refine c_reg ?_
 refine sp (.int .i64 c) ?_
 refine sw (o_call #[.pointer (some ⟨b1, 0, none⟩), .pointer (some ⟨b3, 0, none⟩), .int .i64 c] rfl rfl Try.call35 (l02Cell_ok w6 s t c b1 0 asParents csParents FsParents asRules csRules FsRules b3 0 atAlive ctAlive FtAlive atBags ctBags FtBags atAround ctAround FtAround (cellsAt_sub (H.cells 2 rfl) 0 3) (H.get 0 rfl).1 (H.get 1 rfl).1 (cellsAt_sub (H.cells 1 rfl) 0 3) (H.get 2 rfl).1 (H.get 3 rfl).1 (H.get 4 rfl).1) ?_)
 rintro _ w7 rfl x8
 replace H := H.ext x8
 refine sp (.int .i64 (cellCodeOf s t c)) ?_
 refine c_nil (t_n ?_)
 refine c_seq ?_
 refine c_seq ?_
 refine c_reg ?_
 refine sp (.int .i64 (cellCodeOf s t c)) ?_
 refine sp (.bool ((cellCodeOf s t c : Int) == 0)) ?_
 refine sp (.bool ((cellCodeOf s t c : Int) == 0)) ?_
 cases h9 : ((cellCodeOf s t c : Int) == 0)
 ·skip
  replace h9 := ne_of_beq_false h9
  refine g_skips [15, 16] ?_
  refine sp (.bool false) ?_
  refine c_nil (t_n ?_)
  refine c_cond false rfl (fun h => absurd h (by decide)) (fun _ => ?_)
  refine c_skip (t_n ?_)
  refine c_seq ?_
  refine c_seq ?_
  refine c_reg ?_
  refine sp (.int .i64 (cellCodeOf s t c)) ?_
  refine sp (.bool ((cellCodeOf s t c : Int) != 0)) ?_
  refine c_nil (t_n ?_)
  refine c_cond ((cellCodeOf s t c : Int) != 0) rfl (fun h10 => ?_) (fun h => absurd (eq_of_bne_false h) h9)
  replace h10 := bne_iff_ne.1 h10
  refine c_seq ?_
  refine c_reg ?_
  refine sw (o_build [.slice none 0 0, .slice none 0 0, .slice none 0 0] [] ?_)
  refine sp (.int .i64 (cellCodeOf s t c)) ?_
  refine sw (o_store H 0 rfl (.agg #[.slice none 0 0, .slice none 0 0, .slice none 0 0]) Try.sizeOf41 rfl rfl (by simp [Value.oneCell', Value.cells]) (Nat.le_of_ble_eq_true rfl) fun w11 H => ?_)
  replace H : St _ _ [.box b5 [.slice none 0 0, .slice none 0 0, .slice none 0 0] 41, .box b3 [.slice atAlive t.fAlive.length ctAlive, .slice atBags t.fBags.length ctBags, .slice atAround t.fAround.length ctAround] 41, .box b1 [.int .i64 s.fKinds, .slice asParents s.fParents.length csParents, .slice asRules s.fRules.length csRules] 30] _ := H
  refine sp (.int .i64 (cellCodeOf s t c)) ?_
  refine c_nil (t_n ?_)
  refine c_ret (t_r (?_))
  replace H := H.nilRow 4 1
  replace H : St _ _ [.row (.slice none 0 0) 4 1 0 (([] : List Bool).map (Value.bool)), .box b5 [.slice none 0 0, .slice none 0 0, .slice none 0 0] 41, .box b3 [.slice atAlive t.fAlive.length ctAlive, .slice atBags t.fBags.length ctBags, .slice atAround t.fAround.length ctAround] 41, .box b1 [.int .i64 s.fKinds, .slice asParents s.fParents.length csParents, .slice asRules s.fRules.length csRules] 30] _ := H
  replace H := H.nilRow 22 1
  replace H := H.repsNil (α := List Int)
  replace H : St _ _ [.row (.slice none 0 0) 22 1 0 [], .row (.slice none 0 0) 4 1 0 (([] : List Bool).map (Value.bool)), .box b5 [.slice none 0 0, .slice none 0 0, .slice none 0 0] 41, .box b3 [.slice atAlive t.fAlive.length ctAlive, .slice atBags t.fBags.length ctBags, .slice atAround t.fAround.length ctAround] 41, .box b1 [.int .i64 s.fKinds, .slice asParents s.fParents.length csParents, .slice asRules s.fRules.length csRules] 30] _ := H
  replace H := H.nilRow 2 1
  replace H : St _ _ [.row (.slice none 0 0) 2 1 0 (([] : List Int).map (Value.int .i64)), .row (.slice none 0 0) 22 1 0 [], .row (.slice none 0 0) 4 1 0 (([] : List Bool).map (Value.bool)), .box b5 [.slice none 0 0, .slice none 0 0, .slice none 0 0] 41, .box b3 [.slice atAlive t.fAlive.length ctAlive, .slice atBags t.fBags.length ctBags, .slice atAround t.fAround.length ctAround] 41, .box b1 [.int .i64 s.fKinds, .slice asParents s.fParents.length csParents, .slice asRules s.fRules.length csRules] 30] _ := H
  refine retC2 H 3 rfl (.int .i64 (cellCodeOf s t c)) rfl Try.isAgg41 Try.sizeOf41 rfl rfl ⟨_, rfl, ?_, H.base⟩
  rw [melt_err ‹_›]
  exact ⟨none, 0, 0, none, 0, 0, [], [], none, 0, 0, rfl, N.emp, H.pick [2, 1, 0] [0]⟩
 ·skip
  replace h9 := eq_of_beq h9
  refine g_take 14 rfl rfl ?_
  refine sp (.int .i64 c) ?_
  refine g_take 14 rfl rfl ?_
  refine sp (.bool ((c : Int) == 0)) ?_
  refine sp (.bool ((c : Int) == 0)) ?_
  refine c_nil (t_n ?_)
  refine c_cond ((c : Int) == 0) rfl (fun h12 => ?_) (fun h12 => ?_)
  ·skip
   replace h12 := eq_of_beq h12
   refine c_reg ?_
   refine sp (.int .i64 4) ?_
   refine c_nil (t_n ?_)
   refine c_seq ?_
   refine c_seq ?_
   refine c_reg ?_
   refine sp (.int .i64 4) ?_
   refine sp (.bool true) ?_
   refine c_nil (t_n ?_)
   refine c_cond true rfl (fun _ => ?_) (fun h => absurd h (by decide))
   refine c_seq ?_
   refine c_reg ?_
   refine sw (o_build [.slice none 0 0, .slice none 0 0, .slice none 0 0] [] ?_)
   refine sp (.int .i64 4) ?_
   refine sw (o_store H 0 rfl (.agg #[.slice none 0 0, .slice none 0 0, .slice none 0 0]) Try.sizeOf41 rfl rfl (by simp [Value.oneCell', Value.cells]) (Nat.le_of_ble_eq_true rfl) fun w13 H => ?_)
   replace H : St _ _ [.box b5 [.slice none 0 0, .slice none 0 0, .slice none 0 0] 41, .box b3 [.slice atAlive t.fAlive.length ctAlive, .slice atBags t.fBags.length ctBags, .slice atAround t.fAround.length ctAround] 41, .box b1 [.int .i64 s.fKinds, .slice asParents s.fParents.length csParents, .slice asRules s.fRules.length csRules] 30] _ := H
   refine sp (.int .i64 4) ?_
   refine c_nil (t_n ?_)
   refine c_ret (t_r (?_))
   replace H := H.nilRow 4 1
   replace H : St _ _ [.row (.slice none 0 0) 4 1 0 (([] : List Bool).map (Value.bool)), .box b5 [.slice none 0 0, .slice none 0 0, .slice none 0 0] 41, .box b3 [.slice atAlive t.fAlive.length ctAlive, .slice atBags t.fBags.length ctBags, .slice atAround t.fAround.length ctAround] 41, .box b1 [.int .i64 s.fKinds, .slice asParents s.fParents.length csParents, .slice asRules s.fRules.length csRules] 30] _ := H
   replace H := H.nilRow 22 1
   replace H := H.repsNil (α := List Int)
   replace H : St _ _ [.row (.slice none 0 0) 22 1 0 [], .row (.slice none 0 0) 4 1 0 (([] : List Bool).map (Value.bool)), .box b5 [.slice none 0 0, .slice none 0 0, .slice none 0 0] 41, .box b3 [.slice atAlive t.fAlive.length ctAlive, .slice atBags t.fBags.length ctBags, .slice atAround t.fAround.length ctAround] 41, .box b1 [.int .i64 s.fKinds, .slice asParents s.fParents.length csParents, .slice asRules s.fRules.length csRules] 30] _ := H
   replace H := H.nilRow 2 1
   replace H : St _ _ [.row (.slice none 0 0) 2 1 0 (([] : List Int).map (Value.int .i64)), .row (.slice none 0 0) 22 1 0 [], .row (.slice none 0 0) 4 1 0 (([] : List Bool).map (Value.bool)), .box b5 [.slice none 0 0, .slice none 0 0, .slice none 0 0] 41, .box b3 [.slice atAlive t.fAlive.length ctAlive, .slice atBags t.fBags.length ctBags, .slice atAround t.fAround.length ctAround] 41, .box b1 [.int .i64 s.fKinds, .slice asParents s.fParents.length csParents, .slice asRules s.fRules.length csRules] 30] _ := H
   refine retC2 H 3 rfl (.int .i64 4) rfl Try.isAgg41 Try.sizeOf41 rfl rfl ⟨_, rfl, ?_, H.base⟩
   rw [melt_skin ‹_› ‹_›]
   exact ⟨none, 0, 0, none, 0, 0, [], [], none, 0, 0, rfl, N.emp, H.pick [2, 1, 0] [0]⟩
  ·skip
   replace h12 := ne_of_beq_false h12
   refine c_skip (t_n ?_)
   refine c_seq ?_
   refine c_seq ?_
   refine c_reg ?_
   refine sp (.int .i64 (cellCodeOf s t c)) ?_
   refine sp (.bool ((cellCodeOf s t c : Int) != 0)) ?_
   refine c_nil (t_n ?_)
   refine c_cond ((cellCodeOf s t c : Int) != 0) rfl (fun h => absurd h9 (bne_iff_ne.1 h)) (fun h14 => ?_)
   replace h14 := eq_of_bne_false h14
   refine c_skip (t_n ?_)
   refine c_seq ?_
   refine c_reg ?_
   obtain ⟨q1, q2, q3, q4⟩ := code_ok ‹cellCodeOf s t c = 0›
   have q5 := q1.1
   have q14 := q5.1
   have q6 := q2.2.2.1
   obtain ⟨q7, q8, q9, q10⟩ := q2.sizes q5
   have q11 := q2.1
   have q12 := q2.2.1
   have q13 := fun k hk => Nat.le_trans (q10 k hk) (by decide : 8 ≤ 1000000)
   have sz18 := H.base.size
   refine sw (o_call #[.pointer (some ⟨b3, 0, none⟩)] rfl rfl Try.call36 (l02Own_ok w7 t b3 0 atAlive ctAlive FtAlive atBags ctBags FtBags atAround ctAround FtAround (cellsAt_sub (H.cells 1 rfl) 0 3) (H.get 2 rfl).1 (H.get 3 rfl).1 (H.get 4 rfl).1 (by first | assumption | omega) (by first | assumption | omega) (by first | assumption | omega) (by first | assumption | omega)) ?_)
   rintro _ w16 ⟨ra15Alive, rn15Alive, rc15Alive, ra15Bags, rn15Bags, rc15Bags, rx15Bags, rF15Bags, ra15Around, rn15Around, rc15Around, rfl, M, K⟩ _
   replace N := N.merge sz18 (by simp) M
   replace H := H.merge K M
   replace H : St _ _ [.row (.slice ra15Alive rn15Alive rc15Alive) 4 1 rn15Alive (t.fAlive.map (Value.bool)), .row (.slice ra15Bags rn15Bags rc15Bags) 22 1 rn15Bags rx15Bags, .row (.slice ra15Around rn15Around rc15Around) 2 1 rn15Around (t.fAround.map (Value.int .i64)), .box b5 [.slice none 0 0, .slice none 0 0, .slice none 0 0] 41, .box b3 [.slice atAlive t.fAlive.length ctAlive, .slice atBags t.fBags.length ctBags, .slice atAround t.fAround.length ctAround] 41, .box b1 [.int .i64 s.fKinds, .slice asParents s.fParents.length csParents, .slice asRules s.fRules.length csRules] 30] [repsF true rF15Bags rx15Bags t.fBags, isF false FsParents (.slice asParents s.fParents.length csParents) s.fParents, isF false FsRules (.slice asRules s.fRules.length csRules) s.fRules, isF false FtAlive (.slice atAlive t.fAlive.length ctAlive) t.fAlive, isF false FtBags (.slice atBags t.fBags.length ctBags) t.fBags, isF false FtAround (.slice atAround t.fAround.length ctAround) t.fAround] := H
   obtain rfl := H.rowNB 0 rfl
   obtain rfl := H.rowCount (α := List Int) 1 rfl 0 rfl (by decide)
   obtain rfl := H.rowNI 2 rfl
   refine sw (o_alloc H ti41 fun b23 w24 H => ?_)
   replace H : St _ _ [.box b23 [.slice none 0 0, .slice none 0 0, .slice none 0 0] 41, .row (.slice ra15Alive t.fAlive.length rc15Alive) 4 1 t.fAlive.length (t.fAlive.map (Value.bool)), .row (.slice ra15Bags t.fBags.length rc15Bags) 22 1 t.fBags.length rx15Bags, .row (.slice ra15Around t.fAround.length rc15Around) 2 1 t.fAround.length (t.fAround.map (Value.int .i64)), .box b5 [.slice none 0 0, .slice none 0 0, .slice none 0 0] 41, .box b3 [.slice atAlive t.fAlive.length ctAlive, .slice atBags t.fBags.length ctBags, .slice atAround t.fAround.length ctAround] 41, .box b1 [.int .i64 s.fKinds, .slice asParents s.fParents.length csParents, .slice asRules s.fRules.length csRules] 30] _ := H
   refine sw (o_store H 0 rfl (.agg #[.slice ra15Alive t.fAlive.length rc15Alive, .slice ra15Bags t.fBags.length rc15Bags, .slice ra15Around t.fAround.length rc15Around]) Try.sizeOf41 rfl rfl (by simp [Value.oneCell', Value.cells]) (Nat.le_of_ble_eq_true rfl) fun w25 H => ?_)
   replace H : St _ _ [.box b23 [.slice ra15Alive t.fAlive.length rc15Alive, .slice ra15Bags t.fBags.length rc15Bags, .slice ra15Around t.fAround.length rc15Around] 41, .row (.slice ra15Alive t.fAlive.length rc15Alive) 4 1 t.fAlive.length (t.fAlive.map (Value.bool)), .row (.slice ra15Bags t.fBags.length rc15Bags) 22 1 t.fBags.length rx15Bags, .row (.slice ra15Around t.fAround.length rc15Around) 2 1 t.fAround.length (t.fAround.map (Value.int .i64)), .box b5 [.slice none 0 0, .slice none 0 0, .slice none 0 0] 41, .box b3 [.slice atAlive t.fAlive.length ctAlive, .slice atBags t.fBags.length ctBags, .slice atAround t.fAround.length ctAround] 41, .box b1 [.int .i64 s.fKinds, .slice asParents s.fParents.length csParents, .slice asRules s.fRules.length csRules] 30] _ := H
   refine c_nil (t_n ?_)
   refine c_seq ?_
   refine c_reg ?_
   refine sp (.int .i64 c) ?_
   refine sw (o_callIn #[.pointer (some ⟨b1, 0, none⟩), .pointer (some ⟨b23, 0, none⟩), .int .i64 c] rfl rfl Try.call37 ?_)
   refine enter (n := 49) Try.func37 rfl Try.ntmps37 (Nat.le_of_ble_eq_true rfl) ?_
   refine c_seq ?_
   refine c_reg ?_
   refine sp (.pointer (some ⟨b1, 0, none⟩)) ?_
   refine sp (.pointer (some ⟨b23, 0, none⟩)) ?_
   refine sp (.int .i64 c) ?_
   obtain ⟨G26, hn27, h28⟩ := H.rowIsB 1 rfl
   obtain ⟨G29, hn30, h31⟩ := H.rowIsR (α := List Int) 2 rfl 0 rfl (by decide)
   obtain ⟨G32, hn33, h34⟩ := H.rowIsI 3 rfl
   refine sw (o_call #[.pointer (some ⟨b1, 0, none⟩), .pointer (some ⟨b23, 0, none⟩), .int .i64 c] rfl rfl Try.call78 (l02Parent_ok w25 s t c b1 0 asParents csParents FsParents asRules csRules FsRules b23 0 ra15Alive rc15Alive G26 ra15Bags rc15Bags G29 ra15Around rc15Around G32 (cellsAt_sub (H.cells 6 rfl) 0 3) (H.get 1 rfl).1 (H.get 2 rfl).1 (cellsAt_sub (H.cells 0 rfl) 0 3) h28 h31 h34 (by assumption) (by assumption) (by assumption)) ?_)
   rintro _ w35 rfl x36
   replace H := H.ext x36
   have pin := parentNow_in (s := s) (t := t) (c := c) (by assumption) (by assumption) (by omega) (by omega)
   refine sp (.int .i64 (parentNow s t c)) ?_
   refine c_nil (t_n ?_)
   refine c_seq ?_
   obtain ⟨b37, rfl⟩ := H.rowAddr 2 rfl (by omega)
   refine c_cut (fun ρ w38 => ∃ (junk : Env) (xs39 : List Value) (F40 : List Nat), ρ = upd (upd (upd junk 0 (.pointer (some ⟨b1, 0, none⟩))) 1 (.pointer (some ⟨b23, 0, none⟩))) 2 (.int .i64 c) ∧ Fresh w.heap.size [F40] ∧ St w w38 [.box b23 [.slice ra15Alive t.fAlive.length rc15Alive, .slice (some ⟨b37, 0, none⟩) t.fBags.length rc15Bags, .slice ra15Around t.fAround.length rc15Around] 41, .row (.slice ra15Alive t.fAlive.length rc15Alive) 4 1 t.fAlive.length (t.fAlive.map (Value.bool)), .row (.slice (some ⟨b37, 0, none⟩) t.fBags.length rc15Bags) 22 1 t.fBags.length xs39, .row (.slice ra15Around t.fAround.length rc15Around) 2 1 t.fAround.length (t.fAround.map (Value.int .i64)), .box b5 [.slice none 0 0, .slice none 0 0, .slice none 0 0] 41, .box b3 [.slice atAlive t.fAlive.length ctAlive, .slice atBags t.fBags.length ctBags, .slice atAround t.fAround.length ctAround] 41, .box b1 [.int .i64 s.fKinds, .slice asParents s.fParents.length csParents, .slice asRules s.fRules.length csRules] 30] [repsF true F40 xs39 (t.fBags.set ((parentNow s t c).toNat) (plusL (t.fBags[(parentNow s t c).toNat]!) (t.fBags[c.toNat]!) 1)), isF false FsParents (.slice asParents s.fParents.length csParents) s.fParents, isF false FsRules (.slice asRules s.fRules.length csRules) s.fRules, isF false FtAlive (.slice atAlive t.fAlive.length ctAlive) t.fAlive, isF false FtBags (.slice atBags t.fBags.length ctBags) t.fBags, isF false FtAround (.slice atAround t.fAround.length ctAround) t.fAround]) ?_ ?_
   ·skip
    refine c_draw (fun w41 => St w w41 [.box b23 [.slice ra15Alive t.fAlive.length rc15Alive, .slice (some ⟨b37, 0, none⟩) t.fBags.length rc15Bags, .slice ra15Around t.fAround.length rc15Around] 41, .row (.slice ra15Alive t.fAlive.length rc15Alive) 4 1 t.fAlive.length (t.fAlive.map (Value.bool)), .row (.slice ra15Around t.fAround.length rc15Around) 2 1 t.fAround.length (t.fAround.map (Value.int .i64)), .box b5 [.slice none 0 0, .slice none 0 0, .slice none 0 0] 41, .box b3 [.slice atAlive t.fAlive.length ctAlive, .slice atBags t.fBags.length ctBags, .slice atAround t.fAround.length ctAround] 41, .box b1 [.int .i64 s.fKinds, .slice asParents s.fParents.length csParents, .slice asRules s.fRules.length csRules] 30] [repsF true rF15Bags rx15Bags t.fBags, isF false FsParents (.slice asParents s.fParents.length csParents) s.fParents, isF false FsRules (.slice asRules s.fRules.length csRules) s.fRules, isF false FtAlive (.slice atAlive t.fAlive.length ctAlive) t.fAlive, isF false FtBags (.slice atBags t.fBags.length ctBags) t.fBags, isF false FtAround (.slice atAround t.fAround.length ctAround) t.fAround]) rfl ((H.ext (ext_drew _)).pick [0, 1, 3, 4, 5, 6] [0, 1, 2, 3, 4, 5]) ?_
    replace H := H.ext (ext_drew _)
    refine rtp 0 (.pointer (some ⟨b23, 0, none⟩)) (H.pick [0, 1, 3, 4, 5, 6] [0, 1, 2, 3, 4, 5]) ?_
    refine rtp 1 (.pointer (some ⟨b23, 0, none⟩)) (H.pick [0, 1, 3, 4, 5, 6] [0, 1, 2, 3, 4, 5]) ?_
    refine rt 2 (.pointer (some ⟨b23, 0 + 1, none⟩)) (y_field b23 (0) 1 Try.underlying41 rfl rfl Try.sizeOf37 rfl) (H.pick [0, 1, 3, 4, 5, 6] [0, 1, 2, 3, 4, 5]) ?_
    refine rt 3 (.slice (some ⟨b37, 0, none⟩) t.fBags.length rc15Bags) (y_load1 Try.isAgg37 rfl (fun _ h => h.cell 0 rfl rfl)) (H.pick [0, 1, 3, 4, 5, 6] [0, 1, 2, 3, 4, 5]) ?_
    refine rtp 4 (.int .i64 (parentNow s t c)) (H.pick [0, 1, 3, 4, 5, 6] [0, 1, 2, 3, 4, 5]) ?_
    refine rtp 5 (.pointer (some ⟨b23, 0, none⟩)) (H.pick [0, 1, 3, 4, 5, 6] [0, 1, 2, 3, 4, 5]) ?_
    refine rtp 6 (.pointer (some ⟨b23, 0, none⟩)) (H.pick [0, 1, 3, 4, 5, 6] [0, 1, 2, 3, 4, 5]) ?_
    refine rt 7 (.pointer (some ⟨b23, 0 + 1, none⟩)) (y_field b23 (0) 1 Try.underlying41 rfl rfl Try.sizeOf37 rfl) (H.pick [0, 1, 3, 4, 5, 6] [0, 1, 2, 3, 4, 5]) ?_
    refine rt 8 (.slice (some ⟨b37, 0, none⟩) t.fBags.length rc15Bags) (y_load1 Try.isAgg37 rfl (fun _ h => h.cell 0 rfl rfl)) (H.pick [0, 1, 3, 4, 5, 6] [0, 1, 2, 3, 4, 5]) ?_
    refine rtp 9 (.int .i64 (parentNow s t c)) (H.pick [0, 1, 3, 4, 5, 6] [0, 1, 2, 3, 4, 5]) ?_
    refine rt 10 (.pointer (some ⟨b37, 0 + (parentNow s t c : Int).toNat * 1, none⟩)) (y_idxAt b37 (0) t.fBags.length rc15Bags (parentNow s t c) Try.underlying37 ti22 rfl rfl (by omega) (by omega)) (H.pick [0, 1, 3, 4, 5, 6] [0, 1, 2, 3, 4, 5]) ?_
    refine rtp 12 (.pointer (some ⟨b23, 0, none⟩)) (H.pick [0, 1, 3, 4, 5, 6] [0, 1, 2, 3, 4, 5]) ?_
    refine rtp 13 (.pointer (some ⟨b23, 0, none⟩)) (H.pick [0, 1, 3, 4, 5, 6] [0, 1, 2, 3, 4, 5]) ?_
    refine rt 14 (.pointer (some ⟨b23, 0 + 1, none⟩)) (y_field b23 (0) 1 Try.underlying41 rfl rfl Try.sizeOf37 rfl) (H.pick [0, 1, 3, 4, 5, 6] [0, 1, 2, 3, 4, 5]) ?_
    refine rt 15 (.slice (some ⟨b37, 0, none⟩) t.fBags.length rc15Bags) (y_load1 Try.isAgg37 rfl (fun _ h => h.cell 0 rfl rfl)) (H.pick [0, 1, 3, 4, 5, 6] [0, 1, 2, 3, 4, 5]) ?_
    refine rtp 16 (.int .i64 c) (H.pick [0, 1, 3, 4, 5, 6] [0, 1, 2, 3, 4, 5]) ?_
    refine rt 17 (.pointer (some ⟨b37, 0 + (c : Int).toNat * 1, none⟩)) (y_idxAt b37 (0) t.fBags.length rc15Bags c Try.underlying37 ti22 rfl rfl (by omega) (by omega)) (H.pick [0, 1, 3, 4, 5, 6] [0, 1, 2, 3, 4, 5]) ?_
    refine r_ops [11, 18] (by kernel_rfl) (by simp) (r_op rfl ?_ (r_op rfl ?_ r_nil))
    ·skip
     obtain ⟨a42, c43, G44, s45, h46, H⟩ := H.rowElemL 2 rfl 0 rfl (iv := parentNow s t c) ((parentNow s t c).toNat) (by omega) (by omega)
     refine o_load1 (.slice a42 ((t.fBags[(parentNow s t c).toNat]!).length) c43) Try.isAgg22 rfl (h46) ?_
     refine ⟨H.pick [0, 1, 3, 4, 5, 6] [1, 2, 3, 4, 5, 6], ?_⟩
     refine r_ops [18] (by kernel_rfl) (by simp) (r_op rfl ?_ r_nil)
     obtain ⟨a47, c48, G49, s50, h51, H⟩ := H.rowElemL 2 rfl 1 rfl (iv := c) c.toNat (by omega) (by omega)
     refine o_load1 (.slice a47 ((t.fBags[c.toNat]!).length) c48) Try.isAgg22 rfl (h51) ?_
     refine ⟨H.pick [0, 1, 3, 4, 5, 6] [2, 3, 4, 5, 6, 7], ?_⟩
     refine r_ops [19] (by kernel_rfl) (by simp) (r_op rfl ?_ r_nil)
     obtain ⟨u1, u2, u3⟩ := q2.add (j := (parentNow s t c).toNat) (k := c.toNat) (by omega) (by omega)
     have sz52 := H.base.size
     have lt53 := H.ltN (L := [rF15Bags]) [2]
     refine o_call #[.slice a42 ((t.fBags[(parentNow s t c).toNat]!).length) c43, .slice a47 ((t.fBags[c.toNat]!).length) c48, .int .i64 1] rfl rfl Try.call79 (l01Plus_ok w35.drew (t.fBags[(parentNow s t c).toNat]!) (t.fBags[c.toNat]!) 1 a42 c43 G44 a47 c48 G49 (H.get 1 rfl).1 (H.get 0 rfl).1 (by first | assumption | omega) (by first | assumption | omega) (by first | assumption | omega)) ?_
     rintro v57 w55 r57 x56
     replace H := H.add_ownInts x56 r57
     obtain ⟨a58, c59, rfl, hc60, hm61⟩ := H.rowForm 0 rfl
     refine ⟨H.pick [1, 2, 4, 5, 6, 7] [2, 3, 4, 5, 6, 7], ?_⟩
     refine rt 20 (.pointer (some ⟨b37, 0 + (parentNow s t c : Int).toNat * 1, none⟩)) (y_idxAt b37 (0) t.fBags.length rc15Bags (parentNow s t c) Try.underlying37 ti22 rfl rfl (by omega) (by omega)) (H.pick [1, 2, 4, 5, 6, 7] [2, 3, 4, 5, 6, 7]) ?_
     refine r_ops [21] (by kernel_rfl) (by simp) (r_op rfl ?_ r_nil)
     obtain ⟨G63, N, hn64, H⟩ := H.freezeI 0 rfl N (H.awayN [2])
     replace H : St _ _ [.row (.slice none 0 0) 0 1 0 [], .box b23 [.slice ra15Alive t.fAlive.length rc15Alive, .slice (some ⟨b37, 0, none⟩) t.fBags.length rc15Bags, .slice ra15Around t.fAround.length rc15Around] 41, .row (.slice ra15Alive t.fAlive.length rc15Alive) 4 1 t.fAlive.length (t.fAlive.map (Value.bool)), .row (.slice (some ⟨b37, 0, none⟩) t.fBags.length rc15Bags) 22 1 t.fBags.length rx15Bags, .row (.slice ra15Around t.fAround.length rc15Around) 2 1 t.fAround.length (t.fAround.map (Value.int .i64)), .box b5 [.slice none 0 0, .slice none 0 0, .slice none 0 0] 41, .box b3 [.slice atAlive t.fAlive.length ctAlive, .slice atBags t.fBags.length ctBags, .slice atAround t.fAround.length ctAround] 41, .box b1 [.int .i64 s.fKinds, .slice asParents s.fParents.length csParents, .slice asRules s.fRules.length csRules] 30] _ := H
     refine o_storeElem true H 3 rfl 3 rfl (.slice a58 ((plusL (t.fBags[(parentNow s t c).toNat]!) (t.fBags[c.toNat]!) 1).length) c59) 0 rfl rfl Try.sizeOf22 rfl rfl (i := ((parentNow s t c).toNat)) (by omega) (by omega) (by simp) fun w62 xs65 F66 hs67 H => ?_
     replace N : Fresh w.heap.size [F66] := (N.pick [1, 0]).repl hs67
     replace H : St _ _ [.row (.slice none 0 0) 0 1 0 [], .box b23 [.slice ra15Alive t.fAlive.length rc15Alive, .slice (some ⟨b37, 0, none⟩) t.fBags.length rc15Bags, .slice ra15Around t.fAround.length rc15Around] 41, .row (.slice ra15Alive t.fAlive.length rc15Alive) 4 1 t.fAlive.length (t.fAlive.map (Value.bool)), .row (.slice (some ⟨b37, 0, none⟩) t.fBags.length rc15Bags) 22 1 t.fBags.length xs65, .row (.slice ra15Around t.fAround.length rc15Around) 2 1 t.fAround.length (t.fAround.map (Value.int .i64)), .box b5 [.slice none 0 0, .slice none 0 0, .slice none 0 0] 41, .box b3 [.slice atAlive t.fAlive.length ctAlive, .slice atBags t.fBags.length ctBags, .slice atAround t.fAround.length ctAround] 41, .box b1 [.int .i64 s.fKinds, .slice asParents s.fParents.length csParents, .slice asRules s.fRules.length csRules] 30] _ := H
     refine ⟨H.pick [1, 2, 4, 5, 6, 7] [4, 5, 6, 7, 8, 9], ?_⟩
     refine r_done (by kernel_rfl) (?_)
     exact meet ⟨_, xs65, F66, (by exact upd_eq (upd_eq (upd_eq (rfl) rfl) rfl) rfl), N, H.pick [1, 2, 3, 4, 5, 6, 7] [0, 5, 6, 7, 8, 9]⟩
    ·skip
     obtain ⟨a68, c69, G70, s71, h72, H⟩ := H.rowElemL 2 rfl 0 rfl (iv := c) c.toNat (by omega) (by omega)
     refine o_load1 (.slice a68 ((t.fBags[c.toNat]!).length) c69) Try.isAgg22 rfl (h72) ?_
     refine ⟨H.pick [0, 1, 3, 4, 5, 6] [1, 2, 3, 4, 5, 6], ?_⟩
     refine r_ops [11] (by kernel_rfl) (by simp) (r_op rfl ?_ r_nil)
     obtain ⟨a73, c74, G75, s76, h77, H⟩ := H.rowElemL 2 rfl 1 rfl (iv := parentNow s t c) ((parentNow s t c).toNat) (by omega) (by omega)
     refine o_load1 (.slice a73 ((t.fBags[(parentNow s t c).toNat]!).length) c74) Try.isAgg22 rfl (h77) ?_
     refine ⟨H.pick [0, 1, 3, 4, 5, 6] [2, 3, 4, 5, 6, 7], ?_⟩
     refine r_ops [19] (by kernel_rfl) (by simp) (r_op rfl ?_ r_nil)
     obtain ⟨u1, u2, u3⟩ := q2.add (j := (parentNow s t c).toNat) (k := c.toNat) (by omega) (by omega)
     have sz78 := H.base.size
     have lt79 := H.ltN (L := [rF15Bags]) [2]
     refine o_call #[.slice a73 ((t.fBags[(parentNow s t c).toNat]!).length) c74, .slice a68 ((t.fBags[c.toNat]!).length) c69, .int .i64 1] rfl rfl Try.call79 (l01Plus_ok w35.drew (t.fBags[(parentNow s t c).toNat]!) (t.fBags[c.toNat]!) 1 a73 c74 G75 a68 c69 G70 (H.get 0 rfl).1 (H.get 1 rfl).1 (by first | assumption | omega) (by first | assumption | omega) (by first | assumption | omega)) ?_
     rintro v83 w81 r83 x82
     replace H := H.add_ownInts x82 r83
     obtain ⟨a84, c85, rfl, hc86, hm87⟩ := H.rowForm 0 rfl
     refine ⟨H.pick [1, 2, 4, 5, 6, 7] [2, 3, 4, 5, 6, 7], ?_⟩
     refine rt 20 (.pointer (some ⟨b37, 0 + (parentNow s t c : Int).toNat * 1, none⟩)) (y_idxAt b37 (0) t.fBags.length rc15Bags (parentNow s t c) Try.underlying37 ti22 rfl rfl (by omega) (by omega)) (H.pick [1, 2, 4, 5, 6, 7] [2, 3, 4, 5, 6, 7]) ?_
     refine r_ops [21] (by kernel_rfl) (by simp) (r_op rfl ?_ r_nil)
     obtain ⟨G89, N, hn90, H⟩ := H.freezeI 0 rfl N (H.awayN [2])
     replace H : St _ _ [.row (.slice none 0 0) 0 1 0 [], .box b23 [.slice ra15Alive t.fAlive.length rc15Alive, .slice (some ⟨b37, 0, none⟩) t.fBags.length rc15Bags, .slice ra15Around t.fAround.length rc15Around] 41, .row (.slice ra15Alive t.fAlive.length rc15Alive) 4 1 t.fAlive.length (t.fAlive.map (Value.bool)), .row (.slice (some ⟨b37, 0, none⟩) t.fBags.length rc15Bags) 22 1 t.fBags.length rx15Bags, .row (.slice ra15Around t.fAround.length rc15Around) 2 1 t.fAround.length (t.fAround.map (Value.int .i64)), .box b5 [.slice none 0 0, .slice none 0 0, .slice none 0 0] 41, .box b3 [.slice atAlive t.fAlive.length ctAlive, .slice atBags t.fBags.length ctBags, .slice atAround t.fAround.length ctAround] 41, .box b1 [.int .i64 s.fKinds, .slice asParents s.fParents.length csParents, .slice asRules s.fRules.length csRules] 30] _ := H
     refine o_storeElem true H 3 rfl 3 rfl (.slice a84 ((plusL (t.fBags[(parentNow s t c).toNat]!) (t.fBags[c.toNat]!) 1).length) c85) 0 rfl rfl Try.sizeOf22 rfl rfl (i := ((parentNow s t c).toNat)) (by omega) (by omega) (by simp) fun w88 xs91 F92 hs93 H => ?_
     replace N : Fresh w.heap.size [F92] := (N.pick [1, 0]).repl hs93
     replace H : St _ _ [.row (.slice none 0 0) 0 1 0 [], .box b23 [.slice ra15Alive t.fAlive.length rc15Alive, .slice (some ⟨b37, 0, none⟩) t.fBags.length rc15Bags, .slice ra15Around t.fAround.length rc15Around] 41, .row (.slice ra15Alive t.fAlive.length rc15Alive) 4 1 t.fAlive.length (t.fAlive.map (Value.bool)), .row (.slice (some ⟨b37, 0, none⟩) t.fBags.length rc15Bags) 22 1 t.fBags.length xs91, .row (.slice ra15Around t.fAround.length rc15Around) 2 1 t.fAround.length (t.fAround.map (Value.int .i64)), .box b5 [.slice none 0 0, .slice none 0 0, .slice none 0 0] 41, .box b3 [.slice atAlive t.fAlive.length ctAlive, .slice atBags t.fBags.length ctBags, .slice atAround t.fAround.length ctAround] 41, .box b1 [.int .i64 s.fKinds, .slice asParents s.fParents.length csParents, .slice asRules s.fRules.length csRules] 30] _ := H
     refine ⟨H.pick [1, 2, 4, 5, 6, 7] [4, 5, 6, 7, 8, 9], ?_⟩
     refine r_done (by kernel_rfl) (?_)
     exact meet ⟨_, xs91, F92, (by exact upd_eq (upd_eq (upd_eq (rfl) rfl) rfl) rfl), N, H.pick [1, 2, 3, 4, 5, 6, 7] [0, 5, 6, 7, 8, 9]⟩
   ·skip
    clear H N
    rintro ρ w94 ⟨junk, xs39, F40, rfl, N, H⟩
    refine t_n ?_
    refine c_seq ?_
    refine c_draw (fun w95 => St w w95 [.box b23 [.slice ra15Alive t.fAlive.length rc15Alive, .slice (some ⟨b37, 0, none⟩) t.fBags.length rc15Bags, .slice ra15Around t.fAround.length rc15Around] 41, .row (.slice ra15Alive t.fAlive.length rc15Alive) 4 1 t.fAlive.length (t.fAlive.map (Value.bool)), .row (.slice ra15Around t.fAround.length rc15Around) 2 1 t.fAround.length (t.fAround.map (Value.int .i64)), .box b5 [.slice none 0 0, .slice none 0 0, .slice none 0 0] 41, .box b3 [.slice atAlive t.fAlive.length ctAlive, .slice atBags t.fBags.length ctBags, .slice atAround t.fAround.length ctAround] 41, .box b1 [.int .i64 s.fKinds, .slice asParents s.fParents.length csParents, .slice asRules s.fRules.length csRules] 30] [repsF true F40 xs39 (t.fBags.set ((parentNow s t c).toNat) (plusL (t.fBags[(parentNow s t c).toNat]!) (t.fBags[c.toNat]!) 1)), isF false FsParents (.slice asParents s.fParents.length csParents) s.fParents, isF false FsRules (.slice asRules s.fRules.length csRules) s.fRules, isF false FtAlive (.slice atAlive t.fAlive.length ctAlive) t.fAlive, isF false FtBags (.slice atBags t.fBags.length ctBags) t.fBags, isF false FtAround (.slice atAround t.fAround.length ctAround) t.fAround]) rfl ((H.ext (ext_drew _)).pick [0, 1, 3, 4, 5, 6] [0, 1, 2, 3, 4, 5]) ?_
    replace H := H.ext (ext_drew _)
    refine rtp 0 (.pointer (some ⟨b23, 0, none⟩)) (H.pick [0, 1, 3, 4, 5, 6] [0, 1, 2, 3, 4, 5]) ?_
    refine rtp 1 (.pointer (some ⟨b23, 0, none⟩)) (H.pick [0, 1, 3, 4, 5, 6] [0, 1, 2, 3, 4, 5]) ?_
    refine rt 2 (.pointer (some ⟨b23, 0 + 1, none⟩)) (y_field b23 (0) 1 Try.underlying41 rfl rfl Try.sizeOf37 rfl) (H.pick [0, 1, 3, 4, 5, 6] [0, 1, 2, 3, 4, 5]) ?_
    refine rt 3 (.slice (some ⟨b37, 0, none⟩) t.fBags.length rc15Bags) (y_load1 Try.isAgg37 rfl (fun _ h => h.cell 0 rfl rfl)) (H.pick [0, 1, 3, 4, 5, 6] [0, 1, 2, 3, 4, 5]) ?_
    refine rtp 4 (.int .i64 c) (H.pick [0, 1, 3, 4, 5, 6] [0, 1, 2, 3, 4, 5]) ?_
    refine rtp 5 (.pointer (some ⟨b1, 0, none⟩)) (H.pick [0, 1, 3, 4, 5, 6] [0, 1, 2, 3, 4, 5]) ?_
    refine rtp 6 (.pointer (some ⟨b1, 0, none⟩)) (H.pick [0, 1, 3, 4, 5, 6] [0, 1, 2, 3, 4, 5]) ?_
    refine rt 7 (.pointer (some ⟨b1, 0 + 0, none⟩)) (y_field b1 (0) 0 Try.underlying30 rfl rfl Try.sizeOf2 rfl) (H.pick [0, 1, 3, 4, 5, 6] [0, 1, 2, 3, 4, 5]) ?_
    refine rt 8 (.int .i64 s.fKinds) (y_load1 Try.isAgg2 rfl (fun _ h => h.cell 5 rfl rfl)) (H.pick [0, 1, 3, 4, 5, 6] [0, 1, 2, 3, 4, 5]) ?_
    refine r_ops [9] (by kernel_rfl) (by simp) (r_op rfl ?_ r_nil)
    refine o_makeI H Try.underlying22 ti2 s.fKinds.toNat rfl rfl (by omega) (by omega) (by omega) fun b96 w97 H => ?_
    refine ⟨H.pick [1, 2, 4, 5, 6, 7] [0, 1, 2, 3, 4, 5], ?_⟩
    refine rt 10 (.pointer (some ⟨b37, 0 + (c : Int).toNat * 1, none⟩)) (y_idxAt b37 (0) t.fBags.length rc15Bags c Try.underlying37 ti22 rfl rfl (by omega) (by omega)) (H.pick [1, 2, 4, 5, 6, 7] [0, 1, 2, 3, 4, 5]) ?_
    refine r_ops [11] (by kernel_rfl) (by simp) (r_op rfl ?_ r_nil)
    obtain ⟨G99, N, hn100, H⟩ := H.freezeI 0 rfl N (H.awayN [0])
    replace H : St _ _ [.row (.slice none 0 0) 0 1 0 [], .box b23 [.slice ra15Alive t.fAlive.length rc15Alive, .slice (some ⟨b37, 0, none⟩) t.fBags.length rc15Bags, .slice ra15Around t.fAround.length rc15Around] 41, .row (.slice ra15Alive t.fAlive.length rc15Alive) 4 1 t.fAlive.length (t.fAlive.map (Value.bool)), .row (.slice (some ⟨b37, 0, none⟩) t.fBags.length rc15Bags) 22 1 t.fBags.length xs39, .row (.slice ra15Around t.fAround.length rc15Around) 2 1 t.fAround.length (t.fAround.map (Value.int .i64)), .box b5 [.slice none 0 0, .slice none 0 0, .slice none 0 0] 41, .box b3 [.slice atAlive t.fAlive.length ctAlive, .slice atBags t.fBags.length ctBags, .slice atAround t.fAround.length ctAround] 41, .box b1 [.int .i64 s.fKinds, .slice asParents s.fParents.length csParents, .slice asRules s.fRules.length csRules] 30] _ := H
    refine o_storeElem true H 3 rfl 1 rfl (.slice (some ⟨b96, 0, none⟩) s.fKinds.toNat s.fKinds.toNat) 0 rfl rfl Try.sizeOf22 rfl rfl (i := c.toNat) (by omega) (by omega) (by simp) fun w98 xs101 F102 hs103 H => ?_
    replace N : Fresh w.heap.size [F102] := (N.pick [1, 0]).repl hs103
    replace H : St _ _ [.row (.slice none 0 0) 0 1 0 [], .box b23 [.slice ra15Alive t.fAlive.length rc15Alive, .slice (some ⟨b37, 0, none⟩) t.fBags.length rc15Bags, .slice ra15Around t.fAround.length rc15Around] 41, .row (.slice ra15Alive t.fAlive.length rc15Alive) 4 1 t.fAlive.length (t.fAlive.map (Value.bool)), .row (.slice (some ⟨b37, 0, none⟩) t.fBags.length rc15Bags) 22 1 t.fBags.length xs101, .row (.slice ra15Around t.fAround.length rc15Around) 2 1 t.fAround.length (t.fAround.map (Value.int .i64)), .box b5 [.slice none 0 0, .slice none 0 0, .slice none 0 0] 41, .box b3 [.slice atAlive t.fAlive.length ctAlive, .slice atBags t.fBags.length ctBags, .slice atAround t.fAround.length ctAround] 41, .box b1 [.int .i64 s.fKinds, .slice asParents s.fParents.length csParents, .slice asRules s.fRules.length csRules] 30] _ := H
    refine ⟨H.pick [1, 2, 4, 5, 6, 7] [2, 3, 4, 5, 6, 7], ?_⟩
    refine r_done (by kernel_rfl) (t_n ?_)
    refine c_reg ?_
    refine sp (.pointer (some ⟨b23, 0, none⟩)) ?_
    refine sp (.pointer (some ⟨b23, 0, none⟩)) ?_
    refine sw (o_field b23 (0) 0 Try.underlying41 rfl rfl Try.sizeOf36 rfl ?_)
    refine sw (o_load1 (.slice ra15Alive t.fAlive.length rc15Alive) Try.isAgg36 rfl (H.cell 1 rfl rfl) ?_)
    refine sp (.int .i64 c) ?_
    obtain ⟨b104, rfl⟩ := H.rowAddr 2 rfl (by omega)
    refine sw (o_idxAt c Try.underlying36 ti4 rfl rfl (by omega) (by omega) ?_)
    refine sw (o_storeBool H 2 rfl false Try.sizeOf4 rfl rfl (i := c.toNat) (by omega) (by omega) fun w105 H => ?_)
    replace H : St _ _ [.row (.slice none 0 0) 0 1 0 [], .box b23 [.slice (some ⟨b104, 0, none⟩) t.fAlive.length rc15Alive, .slice (some ⟨b37, 0, none⟩) t.fBags.length rc15Bags, .slice ra15Around t.fAround.length rc15Around] 41, .row (.slice (some ⟨b104, 0, none⟩) t.fAlive.length rc15Alive) 4 1 t.fAlive.length ((t.fAlive.set c.toNat false).map (Value.bool)), .row (.slice (some ⟨b37, 0, none⟩) t.fBags.length rc15Bags) 22 1 t.fBags.length xs101, .row (.slice ra15Around t.fAround.length rc15Around) 2 1 t.fAround.length (t.fAround.map (Value.int .i64)), .box b5 [.slice none 0 0, .slice none 0 0, .slice none 0 0] 41, .box b3 [.slice atAlive t.fAlive.length ctAlive, .slice atBags t.fBags.length ctBags, .slice atAround t.fAround.length ctAround] 41, .box b1 [.int .i64 s.fKinds, .slice asParents s.fParents.length csParents, .slice asRules s.fRules.length csRules] 30] _ := H
    refine c_nil (?_)
    refine ret0 rfl ⟨_, rfl, ?_⟩
    replace H : St _ _ [.box b23 [.slice (some ⟨b104, 0, none⟩) t.fAlive.length rc15Alive, .slice (some ⟨b37, 0, none⟩) t.fBags.length rc15Bags, .slice ra15Around t.fAround.length rc15Around] 41, .row (.slice (some ⟨b104, 0, none⟩) t.fAlive.length rc15Alive) 4 1 t.fAlive.length ((t.fAlive.set c.toNat false).map (Value.bool)), .row (.slice (some ⟨b37, 0, none⟩) t.fBags.length rc15Bags) 22 1 t.fBags.length xs101, .row (.slice ra15Around t.fAround.length rc15Around) 2 1 t.fAround.length (t.fAround.map (Value.int .i64)), .box b5 [.slice none 0 0, .slice none 0 0, .slice none 0 0] 41, .box b3 [.slice atAlive t.fAlive.length ctAlive, .slice atBags t.fBags.length ctBags, .slice atAround t.fAround.length ctAround] 41, .box b1 [.int .i64 s.fKinds, .slice asParents s.fParents.length csParents, .slice asRules s.fRules.length csRules] 30] _ := H.pickP [1, 2, 3, 4, 5, 6, 7]
    refine c_nil (t_n ?_)
    refine c_seq ?_
    refine c_reg ?_
    refine sw (o_callIn #[.pointer (some ⟨b1, 0, none⟩), .pointer (some ⟨b23, 0, none⟩)] rfl rfl Try.call38 ?_)
    refine enter (n := 14) Try.func38 rfl Try.ntmps38 (Nat.le_of_ble_eq_true rfl) ?_
    refine c_seq ?_
    refine c_reg ?_
    refine sw (o_alloc H ti41 fun b106 w107 H => ?_)
    replace H : St _ _ [.box b106 [.slice none 0 0, .slice none 0 0, .slice none 0 0] 41, .box b23 [.slice (some ⟨b104, 0, none⟩) t.fAlive.length rc15Alive, .slice (some ⟨b37, 0, none⟩) t.fBags.length rc15Bags, .slice ra15Around t.fAround.length rc15Around] 41, .row (.slice (some ⟨b104, 0, none⟩) t.fAlive.length rc15Alive) 4 1 t.fAlive.length ((t.fAlive.set c.toNat false).map (Value.bool)), .row (.slice (some ⟨b37, 0, none⟩) t.fBags.length rc15Bags) 22 1 t.fBags.length xs101, .row (.slice ra15Around t.fAround.length rc15Around) 2 1 t.fAround.length (t.fAround.map (Value.int .i64)), .box b5 [.slice none 0 0, .slice none 0 0, .slice none 0 0] 41, .box b3 [.slice atAlive t.fAlive.length ctAlive, .slice atBags t.fBags.length ctBags, .slice atAround t.fAround.length ctAround] 41, .box b1 [.int .i64 s.fKinds, .slice asParents s.fParents.length csParents, .slice asRules s.fRules.length csRules] 30] _ := H
    refine sp (.int .i64 0) ?_
    refine c_nil (t_n ?_)
    refine c_seq ?_
    refine c_seq ?_
    refine c_reg ?_
    refine sp (.pointer (some ⟨b1, 0, none⟩)) ?_
    refine sp (.pointer (some ⟨b23, 0, none⟩)) ?_
    obtain ⟨G108, hn109, h110⟩ := H.rowIsB 2 rfl
    obtain ⟨G111, hn112, h113⟩ := H.rowIsR (α := List Int) 3 rfl 0 rfl (by decide)
    obtain ⟨G114, hn115, h116⟩ := H.rowIsI 4 rfl
    refine sw (o_call #[.pointer (some ⟨b1, 0, none⟩), .pointer (some ⟨b23, 0, none⟩)] rfl rfl Try.call76 (l02State_ok w107 s (⟨(t.fAlive.set c.toNat false), ((t.fBags.set ((parentNow s t c).toNat) (plusL (t.fBags[(parentNow s t c).toNat]!) (t.fBags[c.toNat]!) 1)).set c.toNat (List.replicate s.fKinds.toNat (0 : Int))), t.fAround⟩ : StateD) b1 0 asParents csParents FsParents asRules csRules FsRules b23 0 (some ⟨b104, 0, none⟩) rc15Alive G108 (some ⟨b37, 0, none⟩) rc15Bags G111 ra15Around rc15Around G114 (cellsAt_sub (H.cells 7 rfl) 0 3) (H.get 3 rfl).1 (H.get 4 rfl).1 (by have hz := (cellsAt_sub (H.cells 1 rfl) 0 3); rw [hn109, hn112] at hz; exact hz) (hn109 ▸ h110) (hn112 ▸ h113) h116 (by first | assumption | exact (And.left (by assumption : SysOk _)))) ?_)
    rintro _ w117 rfl x118
    replace H := H.ext x118
    refine sp (.bool (!(dec (StateOk s (⟨(t.fAlive.set c.toNat false), ((t.fBags.set ((parentNow s t c).toNat) (plusL (t.fBags[(parentNow s t c).toNat]!) (t.fBags[c.toNat]!) 1)).set c.toNat (List.replicate s.fKinds.toNat (0 : Int))), t.fAround⟩ : StateD))))) ?_
    refine c_nil (t_n ?_)
    refine c_cond (!(dec (StateOk s (⟨(t.fAlive.set c.toNat false), ((t.fBags.set ((parentNow s t c).toNat) (plusL (t.fBags[(parentNow s t c).toNat]!) (t.fBags[c.toNat]!) 1)).set c.toNat (List.replicate s.fKinds.toNat (0 : Int))), t.fAround⟩ : StateD)))) rfl (fun h119 => ?_) (fun h119 => ?_)
    ·skip
     replace h119 := not_true_of h119
     replace h119 := not_of_dec h119
     refine c_seq ?_
     refine c_reg ?_
     refine sw (o_build [.slice none 0 0, .slice none 0 0, .slice none 0 0] [] ?_)
     refine sw (o_store H 0 rfl (.agg #[.slice none 0 0, .slice none 0 0, .slice none 0 0]) Try.sizeOf41 rfl rfl (by simp [Value.oneCell', Value.cells]) (Nat.le_of_ble_eq_true rfl) fun w120 H => ?_)
     replace H : St _ _ [.box b106 [.slice none 0 0, .slice none 0 0, .slice none 0 0] 41, .box b23 [.slice (some ⟨b104, 0, none⟩) t.fAlive.length rc15Alive, .slice (some ⟨b37, 0, none⟩) t.fBags.length rc15Bags, .slice ra15Around t.fAround.length rc15Around] 41, .row (.slice (some ⟨b104, 0, none⟩) t.fAlive.length rc15Alive) 4 1 t.fAlive.length ((t.fAlive.set c.toNat false).map (Value.bool)), .row (.slice (some ⟨b37, 0, none⟩) t.fBags.length rc15Bags) 22 1 t.fBags.length xs101, .row (.slice ra15Around t.fAround.length rc15Around) 2 1 t.fAround.length (t.fAround.map (Value.int .i64)), .box b5 [.slice none 0 0, .slice none 0 0, .slice none 0 0] 41, .box b3 [.slice atAlive t.fAlive.length ctAlive, .slice atBags t.fBags.length ctBags, .slice atAround t.fAround.length ctAround] 41, .box b1 [.int .i64 s.fKinds, .slice asParents s.fParents.length csParents, .slice asRules s.fRules.length csRules] 30] _ := H
     refine sp (.int .i64 3) ?_
     refine c_nil (t_n ?_)
     refine c_ret (t_r (?_))
     refine retC2 H 0 rfl (.int .i64 3) rfl Try.isAgg41 Try.sizeOf41 rfl rfl ⟨_, rfl, ?_⟩
     replace H : St _ _ [.box b23 [.slice (some ⟨b104, 0, none⟩) t.fAlive.length rc15Alive, .slice (some ⟨b37, 0, none⟩) t.fBags.length rc15Bags, .slice ra15Around t.fAround.length rc15Around] 41, .row (.slice (some ⟨b104, 0, none⟩) t.fAlive.length rc15Alive) 4 1 t.fAlive.length ((t.fAlive.set c.toNat false).map (Value.bool)), .row (.slice (some ⟨b37, 0, none⟩) t.fBags.length rc15Bags) 22 1 t.fBags.length xs101, .row (.slice ra15Around t.fAround.length rc15Around) 2 1 t.fAround.length (t.fAround.map (Value.int .i64)), .box b5 [.slice none 0 0, .slice none 0 0, .slice none 0 0] 41, .box b3 [.slice atAlive t.fAlive.length ctAlive, .slice atBags t.fBags.length ctBags, .slice atAround t.fAround.length ctAround] 41, .box b1 [.int .i64 s.fKinds, .slice asParents s.fParents.length csParents, .slice asRules s.fRules.length csRules] 30] _ := H.pickP [1, 2, 3, 4, 5, 6, 7]
     refine sp (.agg #[.slice none 0 0, .slice none 0 0, .slice none 0 0]) ?_
     refine sp (.int .i64 3) ?_
     refine sw (o_store H 4 rfl (.agg #[.slice none 0 0, .slice none 0 0, .slice none 0 0]) Try.sizeOf41 rfl rfl (by simp [Value.oneCell', Value.cells]) (Nat.le_of_ble_eq_true rfl) fun w121 H => ?_)
     replace H : St _ _ [.box b23 [.slice (some ⟨b104, 0, none⟩) t.fAlive.length rc15Alive, .slice (some ⟨b37, 0, none⟩) t.fBags.length rc15Bags, .slice ra15Around t.fAround.length rc15Around] 41, .row (.slice (some ⟨b104, 0, none⟩) t.fAlive.length rc15Alive) 4 1 t.fAlive.length ((t.fAlive.set c.toNat false).map (Value.bool)), .row (.slice (some ⟨b37, 0, none⟩) t.fBags.length rc15Bags) 22 1 t.fBags.length xs101, .row (.slice ra15Around t.fAround.length rc15Around) 2 1 t.fAround.length (t.fAround.map (Value.int .i64)), .box b5 [.slice none 0 0, .slice none 0 0, .slice none 0 0] 41, .box b3 [.slice atAlive t.fAlive.length ctAlive, .slice atBags t.fBags.length ctBags, .slice atAround t.fAround.length ctAround] 41, .box b1 [.int .i64 s.fKinds, .slice asParents s.fParents.length csParents, .slice asRules s.fRules.length csRules] 30] _ := H
     refine sp (.int .i64 3) ?_
     refine c_nil (t_n ?_)
     refine c_ret (?_)
     replace H := H.nilRow 4 1
     replace H : St _ _ [.row (.slice none 0 0) 4 1 0 (([] : List Bool).map (Value.bool)), .box b23 [.slice (some ⟨b104, 0, none⟩) t.fAlive.length rc15Alive, .slice (some ⟨b37, 0, none⟩) t.fBags.length rc15Bags, .slice ra15Around t.fAround.length rc15Around] 41, .row (.slice (some ⟨b104, 0, none⟩) t.fAlive.length rc15Alive) 4 1 t.fAlive.length ((t.fAlive.set c.toNat false).map (Value.bool)), .row (.slice (some ⟨b37, 0, none⟩) t.fBags.length rc15Bags) 22 1 t.fBags.length xs101, .row (.slice ra15Around t.fAround.length rc15Around) 2 1 t.fAround.length (t.fAround.map (Value.int .i64)), .box b5 [.slice none 0 0, .slice none 0 0, .slice none 0 0] 41, .box b3 [.slice atAlive t.fAlive.length ctAlive, .slice atBags t.fBags.length ctBags, .slice atAround t.fAround.length ctAround] 41, .box b1 [.int .i64 s.fKinds, .slice asParents s.fParents.length csParents, .slice asRules s.fRules.length csRules] 30] _ := H
     replace H := H.nilRow 22 1
     replace H := H.repsNil (α := List Int)
     replace H : St _ _ [.row (.slice none 0 0) 22 1 0 [], .row (.slice none 0 0) 4 1 0 (([] : List Bool).map (Value.bool)), .box b23 [.slice (some ⟨b104, 0, none⟩) t.fAlive.length rc15Alive, .slice (some ⟨b37, 0, none⟩) t.fBags.length rc15Bags, .slice ra15Around t.fAround.length rc15Around] 41, .row (.slice (some ⟨b104, 0, none⟩) t.fAlive.length rc15Alive) 4 1 t.fAlive.length ((t.fAlive.set c.toNat false).map (Value.bool)), .row (.slice (some ⟨b37, 0, none⟩) t.fBags.length rc15Bags) 22 1 t.fBags.length xs101, .row (.slice ra15Around t.fAround.length rc15Around) 2 1 t.fAround.length (t.fAround.map (Value.int .i64)), .box b5 [.slice none 0 0, .slice none 0 0, .slice none 0 0] 41, .box b3 [.slice atAlive t.fAlive.length ctAlive, .slice atBags t.fBags.length ctBags, .slice atAround t.fAround.length ctAround] 41, .box b1 [.int .i64 s.fKinds, .slice asParents s.fParents.length csParents, .slice asRules s.fRules.length csRules] 30] _ := H
     replace H := H.nilRow 2 1
     replace H : St _ _ [.row (.slice none 0 0) 2 1 0 (([] : List Int).map (Value.int .i64)), .row (.slice none 0 0) 22 1 0 [], .row (.slice none 0 0) 4 1 0 (([] : List Bool).map (Value.bool)), .box b23 [.slice (some ⟨b104, 0, none⟩) t.fAlive.length rc15Alive, .slice (some ⟨b37, 0, none⟩) t.fBags.length rc15Bags, .slice ra15Around t.fAround.length rc15Around] 41, .row (.slice (some ⟨b104, 0, none⟩) t.fAlive.length rc15Alive) 4 1 t.fAlive.length ((t.fAlive.set c.toNat false).map (Value.bool)), .row (.slice (some ⟨b37, 0, none⟩) t.fBags.length rc15Bags) 22 1 t.fBags.length xs101, .row (.slice ra15Around t.fAround.length rc15Around) 2 1 t.fAround.length (t.fAround.map (Value.int .i64)), .box b5 [.slice none 0 0, .slice none 0 0, .slice none 0 0] 41, .box b3 [.slice atAlive t.fAlive.length ctAlive, .slice atBags t.fBags.length ctBags, .slice atAround t.fAround.length ctAround] 41, .box b1 [.int .i64 s.fKinds, .slice asParents s.fParents.length csParents, .slice asRules s.fRules.length csRules] 30] _ := H
     refine retC2 H 7 rfl (.int .i64 3) rfl Try.isAgg41 Try.sizeOf41 rfl rfl ⟨_, rfl, ?_, H.base⟩
     rw [melt_told ‹_› ‹_›, told_no (by assumption)]
     exact ⟨none, 0, 0, none, 0, 0, [], [], none, 0, 0, rfl, (N.emp.pick [0]), H.pick [2, 1, 0] [0]⟩
    ·skip
     replace h119 := not_false_of h119
     replace h119 := of_dec h119
     refine c_skip (t_n ?_)
     refine c_seq ?_
     refine c_reg ?_
     refine sp (.pointer (some ⟨b23, 0, none⟩)) ?_
     refine sp (.pointer (some ⟨b23, 0, none⟩)) ?_
     refine sw (o_loadN [.slice (some ⟨b104, 0, none⟩) t.fAlive.length rc15Alive, .slice (some ⟨b37, 0, none⟩) t.fBags.length rc15Bags, .slice ra15Around t.fAround.length rc15Around] Try.isAgg41 Try.sizeOf41 rfl (cellsAt_sub (H.cells 1 rfl) 0 3) ?_)
     refine sw (o_store H 0 rfl (.agg #[.slice (some ⟨b104, 0, none⟩) t.fAlive.length rc15Alive, .slice (some ⟨b37, 0, none⟩) t.fBags.length rc15Bags, .slice ra15Around t.fAround.length rc15Around]) Try.sizeOf41 rfl rfl (by simp [Value.oneCell', Value.cells]) (Nat.le_of_ble_eq_true rfl) fun w122 H => ?_)
     replace H : St _ _ [.box b106 [.slice (some ⟨b104, 0, none⟩) t.fAlive.length rc15Alive, .slice (some ⟨b37, 0, none⟩) t.fBags.length rc15Bags, .slice ra15Around t.fAround.length rc15Around] 41, .box b23 [.slice (some ⟨b104, 0, none⟩) t.fAlive.length rc15Alive, .slice (some ⟨b37, 0, none⟩) t.fBags.length rc15Bags, .slice ra15Around t.fAround.length rc15Around] 41, .row (.slice (some ⟨b104, 0, none⟩) t.fAlive.length rc15Alive) 4 1 t.fAlive.length ((t.fAlive.set c.toNat false).map (Value.bool)), .row (.slice (some ⟨b37, 0, none⟩) t.fBags.length rc15Bags) 22 1 t.fBags.length xs101, .row (.slice ra15Around t.fAround.length rc15Around) 2 1 t.fAround.length (t.fAround.map (Value.int .i64)), .box b5 [.slice none 0 0, .slice none 0 0, .slice none 0 0] 41, .box b3 [.slice atAlive t.fAlive.length ctAlive, .slice atBags t.fBags.length ctBags, .slice atAround t.fAround.length ctAround] 41, .box b1 [.int .i64 s.fKinds, .slice asParents s.fParents.length csParents, .slice asRules s.fRules.length csRules] 30] _ := H
     refine sp (.int .i64 0) ?_
     refine c_nil (t_n ?_)
     refine c_ret (?_)
     refine retC2 H 0 rfl (.int .i64 0) rfl Try.isAgg41 Try.sizeOf41 rfl rfl ⟨_, rfl, ?_⟩
     replace H : St _ _ [.box b23 [.slice (some ⟨b104, 0, none⟩) t.fAlive.length rc15Alive, .slice (some ⟨b37, 0, none⟩) t.fBags.length rc15Bags, .slice ra15Around t.fAround.length rc15Around] 41, .row (.slice (some ⟨b104, 0, none⟩) t.fAlive.length rc15Alive) 4 1 t.fAlive.length ((t.fAlive.set c.toNat false).map (Value.bool)), .row (.slice (some ⟨b37, 0, none⟩) t.fBags.length rc15Bags) 22 1 t.fBags.length xs101, .row (.slice ra15Around t.fAround.length rc15Around) 2 1 t.fAround.length (t.fAround.map (Value.int .i64)), .box b5 [.slice none 0 0, .slice none 0 0, .slice none 0 0] 41, .box b3 [.slice atAlive t.fAlive.length ctAlive, .slice atBags t.fBags.length ctBags, .slice atAround t.fAround.length ctAround] 41, .box b1 [.int .i64 s.fKinds, .slice asParents s.fParents.length csParents, .slice asRules s.fRules.length csRules] 30] _ := H.pickP [1, 2, 3, 4, 5, 6, 7]
     refine sp (.agg #[.slice (some ⟨b104, 0, none⟩) t.fAlive.length rc15Alive, .slice (some ⟨b37, 0, none⟩) t.fBags.length rc15Bags, .slice ra15Around t.fAround.length rc15Around]) ?_
     refine sp (.int .i64 0) ?_
     refine sw (o_store H 4 rfl (.agg #[.slice (some ⟨b104, 0, none⟩) t.fAlive.length rc15Alive, .slice (some ⟨b37, 0, none⟩) t.fBags.length rc15Bags, .slice ra15Around t.fAround.length rc15Around]) Try.sizeOf41 rfl rfl (by simp [Value.oneCell', Value.cells]) (Nat.le_of_ble_eq_true rfl) fun w123 H => ?_)
     replace H : St _ _ [.box b23 [.slice (some ⟨b104, 0, none⟩) t.fAlive.length rc15Alive, .slice (some ⟨b37, 0, none⟩) t.fBags.length rc15Bags, .slice ra15Around t.fAround.length rc15Around] 41, .row (.slice (some ⟨b104, 0, none⟩) t.fAlive.length rc15Alive) 4 1 t.fAlive.length ((t.fAlive.set c.toNat false).map (Value.bool)), .row (.slice (some ⟨b37, 0, none⟩) t.fBags.length rc15Bags) 22 1 t.fBags.length xs101, .row (.slice ra15Around t.fAround.length rc15Around) 2 1 t.fAround.length (t.fAround.map (Value.int .i64)), .box b5 [.slice (some ⟨b104, 0, none⟩) t.fAlive.length rc15Alive, .slice (some ⟨b37, 0, none⟩) t.fBags.length rc15Bags, .slice ra15Around t.fAround.length rc15Around] 41, .box b3 [.slice atAlive t.fAlive.length ctAlive, .slice atBags t.fBags.length ctBags, .slice atAround t.fAround.length ctAround] 41, .box b1 [.int .i64 s.fKinds, .slice asParents s.fParents.length csParents, .slice asRules s.fRules.length csRules] 30] _ := H
     refine sp (.int .i64 0) ?_
     refine c_nil (t_n ?_)
     refine c_ret (?_)
     refine retC2 H 4 rfl (.int .i64 0) rfl Try.isAgg41 Try.sizeOf41 rfl rfl ⟨_, rfl, ?_, H.base⟩
     rw [melt_told ‹_› ‹_›, told_yes (by assumption)]
     exact ⟨(some ⟨b104, 0, none⟩), t.fAlive.length, rc15Alive, (some ⟨b37, 0, none⟩), t.fBags.length, rc15Bags, xs101, F102, ra15Around, t.fAround.length, rc15Around, rfl, N, H.pick [1, 2, 3] [0]⟩

end Go.Proofs.Ytkmlihdacnfhdaa
