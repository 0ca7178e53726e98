/- FnExactDeedText, part 2: the reference's Decimal. No condition. -/
import Derived.Test.YtjdfgmhlojfkkabDoorFns
import Derived.Test.YtjdfgmhlojfkkabDoorI
import Derived.Test.YtjdfgmhlojfkkabDoorQ
namespace Go.Proofs.YtjdfgmhlojfkkabDoor.DeedText
open Go.Proofs.YtjdfgmhlojfkkabDoor.Tot (tot)
open Go.Proofs.YtjdfgmhlojfkkabDoor.Mark (cnt mrk mkd mkd_mark cnt_mark)
open Go.ChangeShapes Go.WideShapes Go.ChangeAt Go.RowKit Go.Joins Go.Sort
set_option linter.unusedVariables false
set_option linter.unusedSimpArgs false

section
variable {Q : Exit → Act → World → Prop} {n : Nat} {ρ : Env} {w : World} {d : Nat} {ty : TypeId} {pos : String} {af : Array Edge} {K : Env → World → Prop} {S : World → Prop} {gd : Option (Nat × Bool)}
theorem y_rem {x y : Operand} {t u : TypeId} (a b : Int) (hx : ev n ρ x = .int .i64 a) (hy : ev n ρ y = .int .i64 b) (h0 : 0 ≤ a ∧ a ≤ 9223372036854775807) (h1 : 0 < b) :
    ∀ w', S w' → (execOp (ev n ρ) ⟨some d, .binOp .rem t x y u, ty, pos, af, gd⟩).run Tryd.prog w' = .ok (.value (.int .i64 (a % b))) w' := fun w' _ => by
  have e : a.tmod b = a % b := Int.tmod_eq_emod_of_nonneg h0.1
  have g1 : 0 ≤ a % b := Int.emod_nonneg a (by omega)
  have g2 : a % b ≤ a := by have h3 := Int.emod_add_mul_ediv a b; have h4 := Int.mul_nonneg (Int.le_of_lt h1) (Int.ediv_nonneg h0.1 (Int.le_of_lt h1)); omega
  have e2 : IntKind.i64.wrap (a % b) = a % b := wrap_in (by omega)
  simp [execOp, hx, hy, eqGuard, binOp, Op.intDiv, show b ≠ 0 by omega, e, e2]
theorem run_byte {w : World} (a : Int) (h : 0 ≤ a ∧ a < 256) : (convert 2 5 (.int .i64 a)).run Tryd.prog w = .ok (.int .u8 a) w := by
  have e := run_convert_int (P := Tryd.prog) w 2 5 .i64 a (by simp [Tryd.underlying2]) (by kernel_rfl)
  have k5 : Tryd.prog.intKind 5 = .u8 := by kernel_rfl
  rw [k5] at e
  rw [e]
  have : IntKind.u8.wrap a = a := by
    have b8 : IntKind.u8.bits = 8 := rfl
    have s8 : IntKind.u8.signed = false := rfl
    simp [IntKind.wrap, b8, s8]; omega
  rw [this]
theorem y_byte {x : Operand} (a : Int) (hx : ev n ρ x = .int .i64 a) (h : 0 ≤ a ∧ a < 256) :
    ∀ w', S w' → (execOp (ev n ρ) ⟨some d, .convert 2 5 x, ty, pos, af, gd⟩).run Tryd.prog w' = .ok (.value (.int .u8 a)) w' := fun w' _ => by
  simp [execOp, hx, run_byte a h]
theorem y_cat {x y : Operand} (a b : List UInt8) (hx : ev n ρ x = .string ⟨a.toArray⟩) (hy : ev n ρ y = .string ⟨b.toArray⟩) (h : a.length + b.length ≤ 1000) :
    ∀ w', S w' → (execOp (ev n ρ) ⟨some d, .binOp .add 9 x y 9, ty, pos, af, gd⟩).run Tryd.prog w' = .ok (.value (.string ⟨(a ++ b).toArray⟩)) w' := fun w' _ => by
  have e := run_string_add_sum (P := Tryd.prog) w' (⟨a.toArray⟩ : ByteArray) ⟨b.toArray⟩ (by simp [ByteArray.size]; omega)
  have e2 : ((⟨a.toArray⟩ : ByteArray) ++ ⟨b.toArray⟩) = ⟨(a ++ b).toArray⟩ := by
    apply ByteArray.ext
    simp
  rw [e2] at e
  simp [execOp, hx, hy, eqGuard, binOp, e]
theorem ti5 : TI Tryd.prog 5 (.int .u8 0) 1 1 := by unfold TI; kernel_rfl
theorem o_str {x : Operand} {b : Nat} {u : Int} (hx : ev n ρ x = .slice (some ⟨b, 0, none⟩) 1 1) (hc : w.cell? ⟨b, 0, none⟩ = some (.int .u8 u)) (k : K (upd ρ d (.string ⟨#[UInt8.ofNat u.toNat]⟩)) w) :
    OW Tryd.prog Q ⟨some d, .convert 38 9 x, ty, pos, af, none⟩ n ρ w K := by
  have e := run_convert_bytes_arg (P := Tryd.prog) w 38 5 Tryd.underlying38 Tryd.underlying5 b 0 1 1 [u] rfl
    (fun i hi => by obtain rfl : i = 0 := by omega
                    simpa using hc) 9 Tryd.underlying9
  have e2 : (convert 38 9 (.slice (some ⟨b, 0, none⟩) 1 1)).run Tryd.prog w = .ok (.string ⟨#[UInt8.ofNat u.toNat]⟩) w := e
  exact o_val _ (by simp [execOp, hx, e2]) k
end
theorem dec_len (n : Nat) (h : n < 1000) : (Lib.decDigits n).length ≤ 3 := by
  rw [Lib.decDigits_length]
  by_cases h1 : n < 10
  · rw [Lib.nDigits_small h1]; omega
  · rw [Lib.nDigits_big h1]
    by_cases h2 : n / 10 < 10
    · rw [Lib.nDigits_small h2]; omega
    · rw [Lib.nDigits_big h2, Lib.nDigits_small (by omega)]
      omega
theorem dec_more (n : Nat) (h : 10 ≤ n) : Lib.decDigits (n / 10) ++ [UInt8.ofNat (48 + (n : Int) % 10).toNat] = Lib.decDigits n := by
  rw [Lib.decDigits.eq_1 n, dif_neg (by omega)]
  congr 2

set_option maxRecDepth 100000 in
theorem decS_any (n : Nat) (h1 : 10 ≤ n) (h2 : n < 1000)
    (IH : ∀ w, Calls Tryd.prog 9 #[.int .i64 (n / 10 : Nat)] w fun e w' => e = .returned (.string ⟨(Lib.decDigits (n / 10)).toArray⟩) ∧ Below w.heap.size w w') (w : World) :
    Calls Tryd.prog 9 #[.int .i64 n] w fun e w' => e = .returned (.string ⟨(Lib.decDigits n).toArray⟩) ∧ Below w.heap.size w w' := by
  refine enter Tryd.func9 rfl Tryd.ntmps9 (Nat.le_of_ble_eq_true rfl) ?_
  refine c_seq (c_reg (sp (.string ⟨#[]⟩) (c_nil (t_n ?_))))
  refine c_seq (c_seq (c_reg (sp (.int .i64 n) (sp (.bool (decide ((10 : Int) ≤ n))) (c_nil (t_n ?_))))))
  refine c_cond true (congrArg Value.bool (decide_eq_true (by omega))) (fun _ => ?_) (fun h => by cases h)
  have hl := dec_len (n / 10) (by omega)
  have e0 : Below w.heap.size w w.drew := ext_drew _
  refine c_seq (c_draw (fun w' => Below w.heap.size w w') rfl e0 ?_)
  refine rtp 0 (.int .i64 n) e0 ?_
  refine rt 1 (.int .i64 ((n : Int) / 10)) (y_quo n 10 rfl rfl (by omega) (by decide)) e0 ?_
  refine rtp 3 (.int .i64 n) e0 ?_
  refine rt 4 (.int .i64 ((n : Int) % 10)) (y_rem n 10 rfl rfl (by omega) (by decide)) e0 ?_
  refine rt 5 (.int .i64 (48 + (n : Int) % 10)) (y_add 48 ((n : Int) % 10) rfl rfl (by omega)) e0 ?_
  refine rt 6 (.int .u8 (48 + (n : Int) % 10)) (y_byte (48 + (n : Int) % 10) rfl (by omega)) e0 ?_
  have H : St w w.drew [] [] := (St.start w).ext (ext_drew _)
  refine r_ops [2, 7] (by kernel_rfl) (by simp) (r_op rfl ?_ (r_op rfl ?_ r_nil))
  · refine o_call (R := fun v w' => v = .string ⟨(Lib.decDigits (n / 10)).toArray⟩) #[.int .i64 (n / 10 : Nat)] rfl rfl Tryd.call9 ((IH _).mono fun e w' h => ⟨_, h.1, rfl, h.2⟩) ?_
    rintro v w2 rfl x2
    replace H := H.ext x2
    refine ⟨H.base, ro 7 rfl (o_build1 H Tryd.underlying38 ti5 (Nat.zero_lt_one) (by decide) (.int .u8 (48 + (n : Int) % 10)) rfl rfl fun b1 w1 H => ?_)⟩
    refine ⟨H.base, ro 8 rfl (o_str rfl (by simpa using H.cells 0 rfl 0 _ rfl) ⟨H.base, ?_⟩)⟩
    refine rt 9 (.string ⟨(Lib.decDigits (n / 10) ++ [UInt8.ofNat (48 + (n : Int) % 10).toNat]).toArray⟩) (y_cat (Lib.decDigits (n / 10)) [UInt8.ofNat (48 + (n : Int) % 10).toNat] rfl rfl (by simp; omega)) H.base ?_
    rw [dec_more n h1]
    refine rtp 10 (.string ⟨(Lib.decDigits n).toArray⟩) H.base ?_
    exact r_done (by kernel_rfl) (t_n (c_ret (t_r (ret1 (.string ⟨(Lib.decDigits n).toArray⟩) rfl rfl ⟨rfl, H.base⟩))))
  · refine o_build1 H Tryd.underlying38 ti5 (Nat.zero_lt_one) (by decide) (.int .u8 (48 + (n : Int) % 10)) rfl rfl fun b1 w1 H => ?_
    refine ⟨H.base, r_ops [2, 8] (by kernel_rfl) (by simp) (r_op rfl ?_ (r_op rfl ?_ r_nil))⟩
    · refine o_call (R := fun v w' => v = .string ⟨(Lib.decDigits (n / 10)).toArray⟩) #[.int .i64 (n / 10 : Nat)] rfl rfl Tryd.call9 ((IH _).mono fun e w' h => ⟨_, h.1, rfl, h.2⟩) ?_
      rintro v w2 rfl x2
      replace H := H.ext x2
      refine ⟨H.base, ro 8 rfl (o_str rfl (by simpa using H.cells 0 rfl 0 _ rfl) ⟨H.base, ?_⟩)⟩
      refine rt 9 (.string ⟨(Lib.decDigits (n / 10) ++ [UInt8.ofNat (48 + (n : Int) % 10).toNat]).toArray⟩) (y_cat (Lib.decDigits (n / 10)) [UInt8.ofNat (48 + (n : Int) % 10).toNat] rfl rfl (by simp; omega)) H.base ?_
      rw [dec_more n h1]
      refine rtp 10 (.string ⟨(Lib.decDigits n).toArray⟩) H.base ?_
      exact r_done (by kernel_rfl) (t_n (c_ret (t_r (ret1 (.string ⟨(Lib.decDigits n).toArray⟩) rfl rfl ⟨rfl, H.base⟩))))
    · refine o_str rfl (by simpa using H.cells 0 rfl 0 _ rfl) ⟨H.base, ?_⟩
      refine ro 2 rfl (o_call (R := fun v w' => v = .string ⟨(Lib.decDigits (n / 10)).toArray⟩) #[.int .i64 (n / 10 : Nat)] rfl rfl Tryd.call9 ((IH _).mono fun e w' h => ⟨_, h.1, rfl, h.2⟩) ?_)
      rintro v w2 rfl x2
      replace H := H.ext x2
      refine ⟨H.base, ?_⟩
      refine rt 9 (.string ⟨(Lib.decDigits (n / 10) ++ [UInt8.ofNat (48 + (n : Int) % 10).toNat]).toArray⟩) (y_cat (Lib.decDigits (n / 10)) [UInt8.ofNat (48 + (n : Int) % 10).toNat] rfl rfl (by simp; omega)) H.base ?_
      rw [dec_more n h1]
      refine rtp 10 (.string ⟨(Lib.decDigits n).toArray⟩) H.base ?_
      exact r_done (by kernel_rfl) (t_n (c_ret (t_r (ret1 (.string ⟨(Lib.decDigits n).toArray⟩) rfl rfl ⟨rfl, H.base⟩))))

theorem dec_any (n : Nat) (h : n < 1000) (w : World) : Calls Tryd.prog 9 #[.int .i64 n] w fun e w' => e = .returned (.string ⟨(Lib.decDigits n).toArray⟩) ∧ Below w.heap.size w w' := by
  by_cases h1 : n < 10
  · exact dec1_any n h1 w
  · refine decS_any n (by omega) h (fun w => ?_) w
    by_cases h2 : n / 10 < 10
    · exact dec1_any _ h2 w
    · exact decS_any _ (by omega) (by omega) (fun w => dec1_any _ (by omega) w) w
end Go.Proofs.YtjdfgmhlojfkkabDoor.DeedText
