/- Walks, printed by program (wip/tools/gv.py): what each function comes to, for all arguments. -/
import Derived.Test.YtkmlihdacnfhdaaGreatG2
import Derived.Test.YtkmlihdacnfhdaaGreatC
namespace Go.Proofs.YtkmlihdacnfhdaaGreat
open Go.Proofs.YtkmlihdacnfhdaaGreat.Tot (tot)
open Go.Proofs.YtkmlihdacnfhdaaGreat.Mark (cnt mrk mkd mkd_mark cnt_mark)
open Go.RowKit
set_option linter.unusedVariables false
set_option linter.unusedSimpArgs false
set_option maxRecDepth 100000
set_option maxHeartbeats 4000000


theorem St.open_Int {W w : World} {ps : List Prv} {F : List Nat} {b o m c : Nat} {l : List Int} (H : St W w ps [isF true F (.slice (some ⟨b, o, none⟩) m c) l]) (N : F.Nodup) (k : Nat) (hk : k < l.length) {y : Int} (hy : l[k]! = y) :
    ∃ (xs1 xs2 : List Value) (F1 F2 : List Nat) , F = b :: (F1 ++ [] ++ F2) ∧ xs1.length = k * 1 ∧ St W w ps [Xj b o xs1 [.int .i64 y] xs2 F1 F2 (l.take k) (l.drop (k + 1))] ∧
      ([b :: (F1 ++ F2)] : List (List Nat)).flatten.Nodup := by
  obtain ⟨cs, xs1, xs2, F1, Fk, F2, rfl, hx, hr, hfr, hlt, H⟩ := H.openAt k hk
  rw [hy] at hr
  obtain ⟨hFF, rfl⟩ := hr
  exact ⟨xs1, xs2, F1, F2, by rw [hFF], hx, H, by have N' := nodup_hole N; rw [hFF] at N'; simpa using N'⟩

theorem St.open_Bool {W w : World} {ps : List Prv} {F : List Nat} {b o m c : Nat} {l : List Bool} (H : St W w ps [isF true F (.slice (some ⟨b, o, none⟩) m c) l]) (N : F.Nodup) (k : Nat) (hk : k < l.length) {y : Bool} (hy : l[k]! = y) :
    ∃ (xs1 xs2 : List Value) (F1 F2 : List Nat) , F = b :: (F1 ++ [] ++ F2) ∧ xs1.length = k * 1 ∧ St W w ps [Xj b o xs1 [.bool y] xs2 F1 F2 (l.take k) (l.drop (k + 1))] ∧
      ([b :: (F1 ++ F2)] : List (List Nat)).flatten.Nodup := by
  obtain ⟨cs, xs1, xs2, F1, Fk, F2, rfl, hx, hr, hfr, hlt, H⟩ := H.openAt k hk
  rw [hy] at hr
  obtain ⟨hFF, rfl⟩ := hr
  exact ⟨xs1, xs2, F1, F2, by rw [hFF], hx, H, by have N' := nodup_hole N; rw [hFF] at N'; simpa using N'⟩

theorem St.open_List {α : Type} [qM α] {W w : World} {ps : List Prv} {F : List Nat} {b o m c : Nat} {l : List (List α)} (H : St W w ps [isF true F (.slice (some ⟨b, o, none⟩) m c) l]) (N : F.Nodup) (k : Nat) (hk : k < l.length) {y : List α} (hy : l[k]! = y) :
    ∃ (xs1 xs2 : List Value) (F1 F2 : List Nat) (a : Option Addr) (c' : Nat) (Fk : List Nat), F = b :: (F1 ++ Fk ++ F2) ∧ xs1.length = k * 1 ∧ St W w ps [Xj b o xs1 [.slice a y.length c'] xs2 F1 F2 (l.take k) (l.drop (k + 1)), isF true Fk (.slice a y.length c') y] ∧
      ([b :: (F1 ++ F2), Fk] : List (List Nat)).flatten.Nodup := by
  obtain ⟨cs, xs1, xs2, F1, Fk, F2, rfl, hx, hr, hfr, hlt, H⟩ := H.openAt k hk
  rw [hy] at hr
  obtain ⟨a, c', rfl, _⟩ := id hr
  exact ⟨xs1, xs2, F1, F2, a, c', Fk, rfl, hx, (H.add (isF true Fk (.slice a y.length c') y) ⟨hr, fun _ => hfr⟩ hlt).sel _ (.refl _) _ (all_of ⟨.tail _ (.head _), ⟨.head _, trivial⟩⟩), by simpa using nodup_hole N⟩

instance : Mark IntoD where
  cnt x := 1 + cnt x.zF
  mrk x k := ⟨mrk x.qw (k), mrk x.zF (k + 1)⟩
  mkd x k := mkd x.qw (k) ∧ mkd x.zF (k + 1)
  mkd_mark x k := by
    simp only [cnt_mark]
    exact ⟨mkd_mark _ _, mkd_mark _ _⟩
  cnt_mark x k := by simp only [cnt_mark]
theorem cnt_IntoD (x : IntoD) : cnt x = 1 + cnt x.zF := rfl

theorem St.open_IntoD {W w : World} {ps : List Prv} {F : List Nat} {b o m c : Nat} {l : List IntoD} (H : St W w ps [isF true F (.slice (some ⟨b, o, none⟩) m c) l]) (N : F.Nodup) (k : Nat) (hk : k < l.length) {y : IntoD} (hy : l[k]! = y) :
    ∃ (xs1 xs2 : List Value) (F1 F2 : List Nat) (aBag : Option Addr) (cBag : Nat) (FBag : List Nat), F = b :: (F1 ++ (FBag) ++ F2) ∧ xs1.length = k * 2 ∧ St W w ps [Xj b o xs1 [.int .i64 y.qw, .slice aBag y.zF.length cBag] xs2 F1 F2 (l.take k) (l.drop (k + 1)), isF true FBag (.slice aBag y.zF.length cBag) y.zF] ∧
      ([b :: (F1 ++ F2), FBag] : List (List Nat)).flatten.Nodup := by
  obtain ⟨cs, xs1, xs2, F1, Fk, F2, rfl, hx, hr, hfr, hlt, H⟩ := H.openAt k hk
  rw [hy] at hr
  obtain ⟨vBag, FBag, rfl, hFF, hBag⟩ := hr
  obtain ⟨aBag, cBag, rfl⟩ := slice_form hBag
  exact ⟨xs1, xs2, F1, F2, _, _, _, by rw [hFF], hx, (H.add (isF true FBag (.slice aBag y.zF.length cBag) y.zF) ⟨hBag, fun _ => hfr.sub (by rw [hFF]; intro z hz; simp [hz])⟩ (fun z hz => hlt z (by rw [hFF]; have hz : z ∈ FBag := hz; simp [hz]))).sel _ (.refl _) _ (all_of ⟨.tail _ (.head _), ⟨.head _, trivial⟩⟩), by have N' := nodup_hole N; rw [hFF] at N'; simpa using N'⟩

instance : Mark yB where
  cnt x := 1 + 1 + cnt x.qI + cnt x.qW + cnt x.qX + cnt x.xe + cnt x.xO + cnt x.qx + 1
  mrk x k := ⟨mrk x.qw (k), mrk x.xM (k + 1), mrk x.qI (k + 1 + 1), mrk x.qW (k + 1 + 1 + (cnt x.qI : Nat)), mrk x.qX (k + 1 + 1 + (cnt x.qI : Nat) + (cnt x.qW : Nat)), mrk x.xe (k + 1 + 1 + (cnt x.qI : Nat) + (cnt x.qW : Nat) + (cnt x.qX : Nat)), mrk x.xO (k + 1 + 1 + (cnt x.qI : Nat) + (cnt x.qW : Nat) + (cnt x.qX : Nat) + (cnt x.xe : Nat)), mrk x.qx (k + 1 + 1 + (cnt x.qI : Nat) + (cnt x.qW : Nat) + (cnt x.qX : Nat) + (cnt x.xe : Nat) + (cnt x.xO : Nat)), mrk x.xG (k + 1 + 1 + (cnt x.qI : Nat) + (cnt x.qW : Nat) + (cnt x.qX : Nat) + (cnt x.xe : Nat) + (cnt x.xO : Nat) + (cnt x.qx : Nat))⟩
  mkd x k := mkd x.qw (k) ∧ mkd x.xM (k + 1) ∧ mkd x.qI (k + 1 + 1) ∧ mkd x.qW (k + 1 + 1 + (cnt x.qI : Nat)) ∧ mkd x.qX (k + 1 + 1 + (cnt x.qI : Nat) + (cnt x.qW : Nat)) ∧ mkd x.xe (k + 1 + 1 + (cnt x.qI : Nat) + (cnt x.qW : Nat) + (cnt x.qX : Nat)) ∧ mkd x.xO (k + 1 + 1 + (cnt x.qI : Nat) + (cnt x.qW : Nat) + (cnt x.qX : Nat) + (cnt x.xe : Nat)) ∧ mkd x.qx (k + 1 + 1 + (cnt x.qI : Nat) + (cnt x.qW : Nat) + (cnt x.qX : Nat) + (cnt x.xe : Nat) + (cnt x.xO : Nat)) ∧ mkd x.xG (k + 1 + 1 + (cnt x.qI : Nat) + (cnt x.qW : Nat) + (cnt x.qX : Nat) + (cnt x.xe : Nat) + (cnt x.xO : Nat) + (cnt x.qx : Nat))
  mkd_mark x k := by
    simp only [cnt_mark]
    exact ⟨mkd_mark _ _, mkd_mark _ _, mkd_mark _ _, mkd_mark _ _, mkd_mark _ _, mkd_mark _ _, mkd_mark _ _, mkd_mark _ _, mkd_mark _ _⟩
  cnt_mark x k := by simp only [cnt_mark]
theorem ji (x : yB) : cnt x = 1 + 1 + cnt x.qI + cnt x.qW + cnt x.qX + cnt x.xe + cnt x.xO + cnt x.qx + 1 := rfl

theorem St.open_RuleD {W w : World} {ps : List Prv} {F : List Nat} {b o m c : Nat} {l : List yB} (H : St W w ps [isF true F (.slice (some ⟨b, o, none⟩) m c) l]) (N : F.Nodup) (k : Nat) (hk : k < l.length) {y : yB} (hy : l[k]! = y) :
    ∃ (xs1 xs2 : List Value) (F1 F2 : List Nat) (aNeed : Option Addr) (cNeed : Nat) (Xv : List Nat) (aHave : Option Addr) (cHave : Nat) (Xz : List Nat) (aLack : Option Addr) (cLack : Nat) (Xw : List Nat) (aHere : Option Addr) (cHere : Nat) (Xy : List Nat) (aOut : Option Addr) (cOut : Nat) (FOut : List Nat) (aInto : Option Addr) (cInto : Nat) (Xx : List Nat), F = b :: (F1 ++ (Xv ++ Xz ++ Xw ++ Xy ++ FOut ++ Xx) ++ F2) ∧ xs1.length = k * 9 ∧ St W w ps [Xj b o xs1 [.int .i64 y.qw, .int .i64 y.xM, .slice aNeed y.qI.length cNeed, .slice aHave y.qW.length cHave, .slice aLack y.qX.length cLack, .slice aHere y.xe.length cHere, .slice aOut y.xO.length cOut, .slice aInto y.qx.length cInto, .bool y.xG] xs2 F1 F2 (l.take k) (l.drop (k + 1)), isF true Xv (.slice aNeed y.qI.length cNeed) y.qI, isF true Xz (.slice aHave y.qW.length cHave) y.qW, isF true Xw (.slice aLack y.qX.length cLack) y.qX, isF true Xy (.slice aHere y.xe.length cHere) y.xe, isF true FOut (.slice aOut y.xO.length cOut) y.xO, isF true Xx (.slice aInto y.qx.length cInto) y.qx] ∧
      ([b :: (F1 ++ F2), Xv, Xz, Xw, Xy, FOut, Xx] : List (List Nat)).flatten.Nodup := by
  obtain ⟨cs, xs1, xs2, F1, Fk, F2, rfl, hx, hr, hfr, hlt, H⟩ := H.openAt k hk
  rw [hy] at hr
  obtain ⟨vNeed, vHave, vLack, vHere, vOut, vInto, Xv, Xz, Xw, Xy, FOut, Xx, rfl, hFF, hNeed, hHave, hLack, hHere, hOut, hInto⟩ := hr
  obtain ⟨aNeed, cNeed, rfl⟩ := slice_form hNeed
  obtain ⟨aHave, cHave, rfl⟩ := slice_form hHave
  obtain ⟨aLack, cLack, rfl⟩ := slice_form hLack
  obtain ⟨aHere, cHere, rfl⟩ := slice_form hHere
  obtain ⟨aOut, cOut, rfl⟩ := slice_form hOut
  obtain ⟨aInto, cInto, rfl⟩ := slice_form hInto
  exact ⟨xs1, xs2, F1, F2, _, _, _, _, _, _, _, _, _, _, _, _, _, _, _, _, _, _, by rw [hFF], hx, ((((((H.add (isF true Xx (.slice aInto y.qx.length cInto) y.qx) ⟨hInto, fun _ => hfr.sub (by rw [hFF]; intro z hz; simp [hz])⟩ (fun z hz => hlt z (by rw [hFF]; have hz : z ∈ Xx := hz; simp [hz]))).add (isF true FOut (.slice aOut y.xO.length cOut) y.xO) ⟨hOut, fun _ => hfr.sub (by rw [hFF]; intro z hz; simp [hz])⟩ (fun z hz => hlt z (by rw [hFF]; have hz : z ∈ FOut := hz; simp [hz]))).add (isF true Xy (.slice aHere y.xe.length cHere) y.xe) ⟨hHere, fun _ => hfr.sub (by rw [hFF]; intro z hz; simp [hz])⟩ (fun z hz => hlt z (by rw [hFF]; have hz : z ∈ Xy := hz; simp [hz]))).add (isF true Xw (.slice aLack y.qX.length cLack) y.qX) ⟨hLack, fun _ => hfr.sub (by rw [hFF]; intro z hz; simp [hz])⟩ (fun z hz => hlt z (by rw [hFF]; have hz : z ∈ Xw := hz; simp [hz]))).add (isF true Xz (.slice aHave y.qW.length cHave) y.qW) ⟨hHave, fun _ => hfr.sub (by rw [hFF]; intro z hz; simp [hz])⟩ (fun z hz => hlt z (by rw [hFF]; have hz : z ∈ Xz := hz; simp [hz]))).add (isF true Xv (.slice aNeed y.qI.length cNeed) y.qI) ⟨hNeed, fun _ => hfr.sub (by rw [hFF]; intro z hz; simp [hz])⟩ (fun z hz => hlt z (by rw [hFF]; have hz : z ∈ Xv := hz; simp [hz]))).sel _ (.refl _) _ (all_of ⟨.tail _ (.tail _ (.tail _ (.tail _ (.tail _ (.tail _ (.head _)))))), ⟨.head _, ⟨.tail _ (.head _), ⟨.tail _ (.tail _ (.head _)), ⟨.tail _ (.tail _ (.tail _ (.head _))), ⟨.tail _ (.tail _ (.tail _ (.tail _ (.head _)))), ⟨.tail _ (.tail _ (.tail _ (.tail _ (.tail _ (.head _))))), trivial⟩⟩⟩⟩⟩⟩⟩), by have N' := nodup_hole N; rw [hFF] at N'; simpa using N'⟩

instance : Mark xF where
  cnt x := cnt x.qy + cnt x.qG + cnt x.qB
  mrk x k := ⟨mrk x.qy (k), mrk x.qG (k + (cnt x.qy : Nat)), mrk x.qB (k + (cnt x.qy : Nat) + (cnt x.qG : Nat))⟩
  mkd x k := mkd x.qy (k) ∧ mkd x.qG (k + (cnt x.qy : Nat)) ∧ mkd x.qB (k + (cnt x.qy : Nat) + (cnt x.qG : Nat))
  mkd_mark x k := by
    simp only [cnt_mark]
    exact ⟨mkd_mark _ _, mkd_mark _ _, mkd_mark _ _⟩
  cnt_mark x k := by simp only [cnt_mark]
end Go.Proofs.YtkmlihdacnfhdaaGreat
