/- FnExactDeedText, part 1: what the functions of both sides compute, each walked once. No condition. -/
import Derived.Test.YtjdfgmhlojfkkabDoorRows
import Derived.WalkKit
import Derived.ProofKit
import Derived.OpenShut
import Derived.Carry
import Derived.Lib.SmallJoins
import Derived.BigQuiet
import Derived.Shelf.LaysM
import Derived.Shelf.Strconv.Itoa4
import Derived.Lib.ItoaMem
import Derived.Deep.RegionWith
namespace Go.Proofs.YtjdfgmhlojfkkabDoor.DeedText
open Go.ChangeShapes Go.WideShapes Go.ChangeAt Go.RowKit Go.Joins Go.Sort
set_option linter.unusedVariables false
set_option linter.unusedSimpArgs false

def layF_ren : Go.Shelf.Ren := ⟨fun | 173 => 15 | 246 => 16 | 283 => 17 | 284 => 18 | 285 => 19 | 286 => 20 | 129 => 22 | 317 => 21 | 318 => 23 | 319 => 24 | 320 => 25 | 337 => 26 | 338 => 27 | n => n, fun | 2 => 2 | 3 => 3 | 9 => 9 | 4 => 4 | 171 => 41 | 0 => 0 | 53 => 42 | 37 => 38 | 5 => 5 | 173 => 45 | 212 => 49 | 51 => 50 | 20 => 20 | 213 => 51 | 46 => 53 | 232 => 56 | 233 => 57 | n => n, fun | 17 => 0 | 18 => 1 | 19 => 2 | n => n⟩
theorem layF : LaysM.n173 Tryd.prog layF_ren where
  mixed := by kernel_rfl
  f129 := Tryd.func22.trans (congrArg some (by kernel_rfl))
  f173 := Tryd.func15.trans (congrArg some (by kernel_rfl))
  f246 := Tryd.func16.trans (congrArg some (by kernel_rfl))
  f283 := Tryd.func17.trans (congrArg some (by kernel_rfl))
  f284 := Tryd.func18.trans (congrArg some (by kernel_rfl))
  f285 := Tryd.func19.trans (congrArg some (by kernel_rfl))
  f286 := Tryd.func20.trans (congrArg some (by kernel_rfl))
  f317 := Tryd.func21.trans (congrArg some (by kernel_rfl))
  f318 := Tryd.func23.trans (congrArg some (by kernel_rfl))
  f319 := Tryd.func24.trans (congrArg some (by kernel_rfl))
  f320 := Tryd.func25.trans (congrArg some (by kernel_rfl))
  f337 := Tryd.func26.trans (congrArg some (by kernel_rfl))
  f338 := Tryd.func27.trans (congrArg some (by kernel_rfl))
  t0 := Tryd.underlying0
  a0 := Tryd.isAgg0
  z0 := Tryd.sizeOf0
  v0 := Tryd.zeroValue0
  t2 := Tryd.underlying2
  a2 := Tryd.isAgg2
  z2 := Tryd.sizeOf2
  v2 := Tryd.zeroValue2
  t3 := Tryd.underlying3
  a3 := Tryd.isAgg3
  z3 := Tryd.sizeOf3
  v3 := Tryd.zeroValue3
  t4 := Tryd.underlying4
  a4 := Tryd.isAgg4
  z4 := Tryd.sizeOf4
  v4 := Tryd.zeroValue4
  t5 := Tryd.underlying5
  a5 := Tryd.isAgg5
  z5 := Tryd.sizeOf5
  v5 := Tryd.zeroValue5
  t9 := Tryd.underlying9
  a9 := Tryd.isAgg9
  z9 := Tryd.sizeOf9
  v9 := Tryd.zeroValue9
  t20 := Tryd.underlying20
  a20 := Tryd.isAgg20
  z20 := Tryd.sizeOf20
  v20 := Tryd.zeroValue20
  t37 := Tryd.underlying38
  a37 := Tryd.isAgg38
  z37 := Tryd.sizeOf38
  v37 := Tryd.zeroValue38
  t46 := Tryd.underlying53
  a46 := Tryd.isAgg53
  z46 := Tryd.sizeOf53
  v46 := Tryd.zeroValue53
  t51 := Tryd.underlying50
  a51 := Tryd.isAgg50
  z51 := Tryd.sizeOf50
  v51 := Tryd.zeroValue50
  t53 := Tryd.underlying42
  a53 := Tryd.isAgg42
  z53 := Tryd.sizeOf42
  v53 := Tryd.zeroValue42
  t171 := Tryd.underlying41
  a171 := Tryd.isAgg41
  z171 := Tryd.sizeOf41
  v171 := Tryd.zeroValue41
  t173 := Tryd.underlying45
  a173 := Tryd.isAgg45
  z173 := Tryd.sizeOf45
  v173 := Tryd.zeroValue45
  t212 := Tryd.underlying49
  a212 := Tryd.isAgg49
  z212 := Tryd.sizeOf49
  v212 := Tryd.zeroValue49
  t213 := Tryd.underlying51
  a213 := Tryd.isAgg51
  z213 := Tryd.sizeOf51
  t232 := Tryd.underlying56
  a232 := Tryd.isAgg56
  z232 := Tryd.sizeOf56
  v232 := Tryd.zeroValue56
  t233 := Tryd.underlying57
  a233 := Tryd.isAgg57
  z233 := Tryd.sizeOf57
  v233 := Tryd.zeroValue57
  g17 := by kernel_rfl
  g18 := by kernel_rfl
  g19 := by kernel_rfl
  i0 := by kernel_rfl
  i2 := by kernel_rfl
  i3 := by kernel_rfl
  i4 := by kernel_rfl
  i5 := by kernel_rfl
  i9 := by kernel_rfl
  i20 := by kernel_rfl
  i37 := by kernel_rfl
  i46 := by kernel_rfl
  i51 := by kernel_rfl
  i53 := by kernel_rfl
  i171 := by kernel_rfl
  i173 := by kernel_rfl
  i212 := by kernel_rfl
  i232 := by kernel_rfl
  i233 := by kernel_rfl
  m17 := by kernel_rfl
  m18 := by kernel_rfl
  m19 := by kernel_rfl

/-- A fact kept from the walk. -/
theorem hid {p : Prop} (h : p) : Hid p := h
theorem ret_bool {a b : Bool} (h : a = b) : Ending.returned (.bool a) = .returned (.bool b) := by rw [h]

def inR (n lo hi : Int) : Bool := decide (lo ≤ n) && decide (n ≤ hi)
theorem inR_yes {n lo hi : Int} (h : lo ≤ n) : inR n lo hi = decide (n ≤ hi) := by simp [inR, h]
theorem inR_no {n lo hi : Int} (h : n < lo) : inR n lo hi = false := by simp [inR]; omega

theorem inRange_any (n lo hi : Int) (w : World) : Calls Tryd.prog 14 #[.int .i64 n, .int .i64 lo, .int .i64 hi] w fun e w' => e = .returned (.bool (inR n lo hi)) ∧ w = w' := by
  go_enter Tryd.func14, Tryd.ntmps14
  go_wp2
  · go_ret
    exact ⟨by rw [inR_yes ‹_›]; rfl, rfl⟩
  · go_ret
    exact ⟨by rw [inR_no ‹_›]; rfl, rfl⟩

theorem l00In_any (n lo hi : Int) (w : World) : Calls Tryd.prog 13 #[.int .i64 n, .int .i64 lo, .int .i64 hi] w fun e w' => e = .returned (.bool (inR n lo hi)) ∧ w = w' := by
  go_enter Tryd.func13, Tryd.ntmps13
  go_wp2
  · go_ret
    exact ⟨by rw [inR_yes ‹_›]; rfl, rfl⟩
  · go_ret
    exact ⟨by rw [inR_no ‹_›]; rfl, rfl⟩

theorem toDeed_any (k a b : Int) (w : World) : Calls Tryd.prog 5 #[.agg #[.int .i64 k, .int .i64 a, .int .i64 b]] w fun e w' => e = .returned (.agg #[.int .i64 k, .int .i64 a, .int .i64 b]) ∧ Below w.heap.size w w' := by
  go_enter Tryd.func5, Tryd.ntmps5
  go_wp2
  exact bodyPost_ret (v := .agg #[.int .i64 k, .int .i64 a, .int .i64 b]) (by simp [results, Tryd.results5, go_sem]) rfl ⟨rfl, (((Below.refl _ _).alloc (Nat.le_refl _) _).alloc (by simp) _).alloc (by simp; omega) _⟩

/-- The word of a kind, as bytes; how many numbers its text has. -/
def word (k : Int) : List UInt8 :=
  if k = 1 then [119, 111, 114, 107] else if k = 2 then [115, 97, 118, 101] else if k = 3 then [112, 111, 115, 116] else if k = 4 then [98, 97, 99, 107]
  else if k = 5 then [97, 100, 118, 97, 110, 99, 101] else if k = 6 then [100, 101, 108, 105, 118, 101, 114] else if k = 7 then [99, 111, 112, 121]
  else if k = 8 then [100, 114, 111, 112] else if k = 9 then [99, 114, 97, 115, 104] else []
def many (k : Int) : Int := if k = 3 ∨ k = 4 then 2 else if 1 ≤ k ∧ k ≤ 9 then 1 else 0

theorem deedWord_any (k : Int) (w : World) : Calls Tryd.prog 11 #[.int .i64 k] w fun e w' => e = .returned (.tuple #[.string ⟨(word k).toArray⟩, .int .i64 (many k)]) ∧ w = w' := by
  by_cases hk : 1 ≤ k ∧ k ≤ 9
  · obtain ⟨h1, h9⟩ := hk
    have hc : k = 1 ∨ k = 2 ∨ k = 3 ∨ k = 4 ∨ k = 5 ∨ k = 6 ∨ k = 7 ∨ k = 8 ∨ k = 9 := by omega
    rcases hc with rfl | rfl | rfl | rfl | rfl | rfl | rfl | rfl | rfl
    all_goals
      go_enter Tryd.func11, Tryd.ntmps11
      go_wp2
      go_ret2
      exact ⟨rfl, rfl⟩
  · have e : word k = [] ∧ many k = 0 := by unfold word many; constructor <;> (repeat' split) <;> first | rfl | omega
    obtain ⟨e1, e2⟩ := e
    have n1 : (k == 1) = false := by simp; omega
    have n2 : (k == 2) = false := by simp; omega
    have n3 : (k == 3) = false := by simp; omega
    have n4 : (k == 4) = false := by simp; omega
    have n5 : (k == 5) = false := by simp; omega
    have n6 : (k == 6) = false := by simp; omega
    have n7 : (k == 7) = false := by simp; omega
    have n8 : (k == 8) = false := by simp; omega
    have n9 : (k == 9) = false := by simp; omega
    rw [e1, e2]
    clear e1 e2 hk
    go_enter Tryd.func11, Tryd.ntmps11
    go_wp2
    go_ret2
    exact ⟨rfl, rfl⟩

def kindB (k : Int) : Bool := decide (1 ≤ k) && decide (k ≤ 9)
theorem word_nil {k : Int} (h : word k = []) : kindB k = false := by
  unfold kindB; unfold word at h
  by_cases h1 : 1 ≤ k <;> by_cases h9 : k ≤ 9 <;> simp [h1, h9]
  have hc : k = 1 ∨ k = 2 ∨ k = 3 ∨ k = 4 ∨ k = 5 ∨ k = 6 ∨ k = 7 ∨ k = 8 ∨ k = 9 := by omega
  rcases hc with rfl | rfl | rfl | rfl | rfl | rfl | rfl | rfl | rfl <;> simp at h
theorem word_some {k : Int} (h : ¬ word k = []) : kindB k = true := by
  unfold kindB
  by_cases h1 : 1 ≤ k <;> by_cases h9 : k ≤ 9 <;> simp [h1, h9] <;> exact h (by unfold word; (repeat' split) <;> first | rfl | omega)
def validB (k a b : Int) : Bool := kindB k && inR a 0 999 && inR b 0 999 && (decide (1 < many k) || decide (b = 0))

theorem implValid_any (k a b : Int) (w : World) : Calls Tryd.prog 10 #[.agg #[.int .i64 k, .int .i64 a, .int .i64 b]] w fun e w' => e = .returned (.bool (validB k a b)) ∧ Below w.heap.size w w' := by
  obtain ⟨B, hB⟩ : ∃ B, B = validB k a b := ⟨_, rfl⟩
  rw [← hB]
  have HB := hid hB
  clear hB
  go_enter Tryd.func10, Tryd.ntmps10
  go_wp2_with (first | (go_at_call 11; refine (deedWord_any _ _).mono ?_; rintro e w' ⟨rfl, rfl⟩) | (go_at_call 14; refine (inRange_any _ _ _ _).mono ?_; rintro e w' ⟨rfl, rfl⟩))
  all_goals go_ret
  all_goals refine ⟨?_, (Below.refl _ _).alloc (Nat.le_refl _) _⟩
  all_goals rw [HB.out]
  all_goals refine ret_bool ?_
  all_goals first
    | (have k1 := word_nil ‹_›; simp [validB, k1]; done)
    | (have k1 := word_some ‹_›; have k2 : (!(word k).isEmpty) = true := by simp [*]
       rw [validB, k1]; simp_all; done)
    | (have k1 := word_some ‹_›; have k2 : (!(word k).isEmpty) = true := by simp [*]
       have k3 : decide (1 < many k) = false := by simp [*]
       rw [validB, k1]; simp [*]; rfl)

theorem words_any (w : World) : Calls Tryd.prog 8 #[] w fun e w' =>
    ∃ a b : Nat, w.heap.size ≤ a ∧ w.heap.size ≤ b ∧ e = .returned (.tuple #[.slice (some ⟨a, 0, none⟩) 10 10, .slice (some ⟨b, 0, none⟩) 10 10]) ∧
      w'.heap[a]? = some (.cells #[.string ⟨#[]⟩, .string ⟨#[119, 111, 114, 107]⟩, .string ⟨#[115, 97, 118, 101]⟩, .string ⟨#[112, 111, 115, 116]⟩, .string ⟨#[98, 97, 99, 107]⟩, .string ⟨#[97, 100, 118, 97, 110, 99, 101]⟩, .string ⟨#[100, 101, 108, 105, 118, 101, 114]⟩, .string ⟨#[99, 111, 112, 121]⟩, .string ⟨#[100, 114, 111, 112]⟩, .string ⟨#[99, 114, 97, 115, 104]⟩] 9) ∧
      w'.heap[b]? = some (.cells #[.int .i64 0, .int .i64 1, .int .i64 1, .int .i64 2, .int .i64 2, .int .i64 1, .int .i64 1, .int .i64 1, .int .i64 1, .int .i64 1] 3) ∧ Below w.heap.size w w' := by
  go_enter Tryd.func8, Tryd.ntmps8
  go_wp2
  go_ret2
  refine ⟨_, _, Nat.le_refl _, ?_, rfl, ?_, by simpa using heap_alloc_new (w.alloc _) _, ((Below.refl _ _).alloc (Nat.le_refl _) _).alloc (by simp) _⟩
  · simp
  · rw [Below.heap_alloc _ _ _ (by simp)]
    exact heap_alloc_new w _

theorem in_kind {k : Int} : inR k 1 9 = kindB k := rfl

theorem conv1 (w : World) (x : Int) : (convert 38 9 (.slice (some ⟨w.heap.size, 0, none⟩) 1 1)).run Tryd.prog (w.alloc (.cells #[.int .u8 x] 5)) = .ok (.string ⟨#[UInt8.ofNat x.toNat]⟩) (w.alloc (.cells #[.int .u8 x] 5)) :=
  run_convert_bytes_arg (w.alloc (.cells #[.int .u8 x] 5)) 38 5 Tryd.underlying38 Tryd.underlying5 w.heap.size 0 1 1 [x] rfl
    (fun i hi => by obtain rfl : i = 0 := by omega
                    simp [cell_of_block (heap_alloc_new w _)]) 9 Tryd.underlying9

/-- Numbers of one, two, three digits by the reference's own Decimal. -/
theorem dec1_any (n : Nat) (hn : n < 10) (w : World) : Calls Tryd.prog 9 #[.int .i64 n] w fun e w' => e = .returned (.string ⟨(Lib.decDigits n).toArray⟩) ∧ Below w.heap.size w w' := by
  have hn' : (n : Int) < 10 := by omega
  have hc := conv1
  go_enter Tryd.func9, Tryd.ntmps9
  go_wp2
  go_ret
  exact ⟨by rw [Lib.decDigits_one hn]; rfl, (Below.refl _ _).alloc (Nat.le_refl _) _⟩

theorem convAt {w w' : World} {x : Int} (hb : Below (w.alloc (.cells #[.int .u8 x] 5)).heap.size (w.alloc (.cells #[.int .u8 x] 5)) w') :
    (convert 38 9 (.slice (some ⟨w.heap.size, 0, none⟩) 1 1)).run Tryd.prog w' = .ok (.string ⟨#[UInt8.ofNat x.toNat]⟩) w' :=
  run_convert_bytes_arg w' 38 5 Tryd.underlying38 Tryd.underlying5 w.heap.size 0 1 1 [x] rfl
    (fun i hi => by obtain rfl : i = 0 := by omega
                    rw [hb.cell (p := ⟨w.heap.size, 0 + 0, none⟩) (by simp)]
                    simp [cell_of_block (heap_alloc_new w _)]) 9 Tryd.underlying9

end Go.Proofs.YtjdfgmhlojfkkabDoor.DeedText
