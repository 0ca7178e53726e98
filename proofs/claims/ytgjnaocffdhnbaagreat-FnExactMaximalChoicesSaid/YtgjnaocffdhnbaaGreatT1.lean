/- Walks, printed by program (wip/tools/gv.py): what each function comes to, for all arguments. -/
import Derived.Test.YtgjnaocffdhnbaaGreatG2
import Derived.Test.YtgjnaocffdhnbaaGreatC
import Derived.Test.YtgjnaocffdhnbaaGreatI
import Derived.Test.YtgjnaocffdhnbaaGreatTI
namespace Go.Proofs.YtgjnaocffdhnbaaGreat
set_option linter.unusedVariables false
set_option linter.unusedSimpArgs false
open Go.Proofs.YtgjnaocffdhnbaaGreat.Tot (tot)
open Go.Proofs.YtgjnaocffdhnbaaGreat.Mark (cnt mrk mkd mkd_mark cnt_mark)
open Go.RowKit
set_option linter.unusedVariables false
set_option linter.unusedSimpArgs false
set_option maxRecDepth 100000
set_option maxHeartbeats 4000000


theorem St.open_Int {W w : World} {ps : List Prv} {F : List Nat} {b o m c : Nat} {l : List Int} (H : St W w ps [isF true F (.slice (some ⟨b, o, none⟩) m c) l]) (N : F.Nodup) (k : Nat) (hk : k < l.length) {y : Int} (hy : l[k]! = y) :
    ∃ (xs1 xs2 : List Value) (F1 F2 : List Nat) , F = b :: (F1 ++ [] ++ F2) ∧ xs1.length = k * 1 ∧ St W w ps [Q9 b o xs1 [.int .i64 y] xs2 F1 F2 (l.take k) (l.drop (k + 1))] ∧
      ([b :: (F1 ++ F2)] : List (List Nat)).flatten.Nodup := by
  obtain ⟨cs, xs1, xs2, F1, Fk, F2, rfl, hx, hr, hfr, hlt, H⟩ := H.openAt k hk
  rw [hy] at hr
  obtain ⟨hFF, rfl⟩ := hr
  exact ⟨xs1, xs2, F1, F2, by rw [hFF], hx, H, by have N' := nodup_hole N; rw [hFF] at N'; simpa using N'⟩

theorem St.open_Bool {W w : World} {ps : List Prv} {F : List Nat} {b o m c : Nat} {l : List Bool} (H : St W w ps [isF true F (.slice (some ⟨b, o, none⟩) m c) l]) (N : F.Nodup) (k : Nat) (hk : k < l.length) {y : Bool} (hy : l[k]! = y) :
    ∃ (xs1 xs2 : List Value) (F1 F2 : List Nat) , F = b :: (F1 ++ [] ++ F2) ∧ xs1.length = k * 1 ∧ St W w ps [Q9 b o xs1 [.bool y] xs2 F1 F2 (l.take k) (l.drop (k + 1))] ∧
      ([b :: (F1 ++ F2)] : List (List Nat)).flatten.Nodup := by
  obtain ⟨cs, xs1, xs2, F1, Fk, F2, rfl, hx, hr, hfr, hlt, H⟩ := H.openAt k hk
  rw [hy] at hr
  obtain ⟨hFF, rfl⟩ := hr
  exact ⟨xs1, xs2, F1, F2, by rw [hFF], hx, H, by have N' := nodup_hole N; rw [hFF] at N'; simpa using N'⟩

theorem St.open_List {α : Type} [qE α] {W w : World} {ps : List Prv} {F : List Nat} {b o m c : Nat} {l : List (List α)} (H : St W w ps [isF true F (.slice (some ⟨b, o, none⟩) m c) l]) (N : F.Nodup) (k : Nat) (hk : k < l.length) {y : List α} (hy : l[k]! = y) :
    ∃ (xs1 xs2 : List Value) (F1 F2 : List Nat) (a : Option Addr) (c' : Nat) (Fk : List Nat), F = b :: (F1 ++ Fk ++ F2) ∧ xs1.length = k * 1 ∧ St W w ps [Q9 b o xs1 [.slice a y.length c'] xs2 F1 F2 (l.take k) (l.drop (k + 1)), isF true Fk (.slice a y.length c') y] ∧
      ([b :: (F1 ++ F2), Fk] : List (List Nat)).flatten.Nodup := by
  obtain ⟨cs, xs1, xs2, F1, Fk, F2, rfl, hx, hr, hfr, hlt, H⟩ := H.openAt k hk
  rw [hy] at hr
  obtain ⟨a, c', rfl, _⟩ := id hr
  exact ⟨xs1, xs2, F1, F2, a, c', Fk, rfl, hx, (H.add (isF true Fk (.slice a y.length c') y) ⟨hr, fun _ => hfr⟩ hlt).sel _ (.refl _) _ (all_of ⟨.tail _ (.head _), ⟨.head _, trivial⟩⟩), by simpa using nodup_hole N⟩

instance : Mark IntoD where
  cnt x := 1 + cnt x.zZ
  mrk x k := ⟨mrk x.qw (k), mrk x.zZ (k + 1)⟩
  mkd x k := mkd x.qw (k) ∧ mkd x.zZ (k + 1)
  mkd_mark x k := by
    simp only [cnt_mark]
    exact ⟨mkd_mark _ _, mkd_mark _ _⟩
  cnt_mark x k := by simp only [cnt_mark]
theorem cnt_IntoD (x : IntoD) : cnt x = 1 + cnt x.zZ := rfl

theorem St.open_IntoD {W w : World} {ps : List Prv} {F : List Nat} {b o m c : Nat} {l : List IntoD} (H : St W w ps [isF true F (.slice (some ⟨b, o, none⟩) m c) l]) (N : F.Nodup) (k : Nat) (hk : k < l.length) {y : IntoD} (hy : l[k]! = y) :
    ∃ (xs1 xs2 : List Value) (F1 F2 : List Nat) (aBag : Option Addr) (cBag : Nat) (FBag : List Nat), F = b :: (F1 ++ (FBag) ++ F2) ∧ xs1.length = k * 2 ∧ St W w ps [Q9 b o xs1 [.int .i64 y.qw, .slice aBag y.zZ.length cBag] xs2 F1 F2 (l.take k) (l.drop (k + 1)), isF true FBag (.slice aBag y.zZ.length cBag) y.zZ] ∧
      ([b :: (F1 ++ F2), FBag] : List (List Nat)).flatten.Nodup := by
  obtain ⟨cs, xs1, xs2, F1, Fk, F2, rfl, hx, hr, hfr, hlt, H⟩ := H.openAt k hk
  rw [hy] at hr
  obtain ⟨vBag, FBag, rfl, hFF, hBag⟩ := hr
  obtain ⟨aBag, cBag, rfl⟩ := slice_form hBag
  exact ⟨xs1, xs2, F1, F2, _, _, _, by rw [hFF], hx, (H.add (isF true FBag (.slice aBag y.zZ.length cBag) y.zZ) ⟨hBag, fun _ => hfr.sub (by rw [hFF]; intro z hz; simp [hz])⟩ (fun z hz => hlt z (by rw [hFF]; have hz : z ∈ FBag := hz; simp [hz]))).sel _ (.refl _) _ (all_of ⟨.tail _ (.head _), ⟨.head _, trivial⟩⟩), by have N' := nodup_hole N; rw [hFF] at N'; simpa using N'⟩

instance : Mark Qm where
  cnt x := 1 + 1 + cnt x.qO + cnt x.qX + cnt x.xe + cnt x.xm + cnt x.xZ + cnt x.qF + 1
  mrk x k := ⟨mrk x.qw (k), mrk x.xN (k + 1), mrk x.qO (k + 1 + 1), mrk x.qX (k + 1 + 1 + (cnt x.qO : Nat)), mrk x.xe (k + 1 + 1 + (cnt x.qO : Nat) + (cnt x.qX : Nat)), mrk x.xm (k + 1 + 1 + (cnt x.qO : Nat) + (cnt x.qX : Nat) + (cnt x.xe : Nat)), mrk x.xZ (k + 1 + 1 + (cnt x.qO : Nat) + (cnt x.qX : Nat) + (cnt x.xe : Nat) + (cnt x.xm : Nat)), mrk x.qF (k + 1 + 1 + (cnt x.qO : Nat) + (cnt x.qX : Nat) + (cnt x.xe : Nat) + (cnt x.xm : Nat) + (cnt x.xZ : Nat)), mrk x.xO (k + 1 + 1 + (cnt x.qO : Nat) + (cnt x.qX : Nat) + (cnt x.xe : Nat) + (cnt x.xm : Nat) + (cnt x.xZ : Nat) + (cnt x.qF : Nat))⟩
  mkd x k := mkd x.qw (k) ∧ mkd x.xN (k + 1) ∧ mkd x.qO (k + 1 + 1) ∧ mkd x.qX (k + 1 + 1 + (cnt x.qO : Nat)) ∧ mkd x.xe (k + 1 + 1 + (cnt x.qO : Nat) + (cnt x.qX : Nat)) ∧ mkd x.xm (k + 1 + 1 + (cnt x.qO : Nat) + (cnt x.qX : Nat) + (cnt x.xe : Nat)) ∧ mkd x.xZ (k + 1 + 1 + (cnt x.qO : Nat) + (cnt x.qX : Nat) + (cnt x.xe : Nat) + (cnt x.xm : Nat)) ∧ mkd x.qF (k + 1 + 1 + (cnt x.qO : Nat) + (cnt x.qX : Nat) + (cnt x.xe : Nat) + (cnt x.xm : Nat) + (cnt x.xZ : Nat)) ∧ mkd x.xO (k + 1 + 1 + (cnt x.qO : Nat) + (cnt x.qX : Nat) + (cnt x.xe : Nat) + (cnt x.xm : Nat) + (cnt x.xZ : Nat) + (cnt x.qF : Nat))
  mkd_mark x k := by
    simp only [cnt_mark]
    exact ⟨mkd_mark _ _, mkd_mark _ _, mkd_mark _ _, mkd_mark _ _, mkd_mark _ _, mkd_mark _ _, mkd_mark _ _, mkd_mark _ _, mkd_mark _ _⟩
  cnt_mark x k := by simp only [cnt_mark]
theorem ji (x : Qm) : cnt x = 1 + 1 + cnt x.qO + cnt x.qX + cnt x.xe + cnt x.xm + cnt x.xZ + cnt x.qF + 1 := rfl

theorem St.open_RuleD {W w : World} {ps : List Prv} {F : List Nat} {b o m c : Nat} {l : List Qm} (H : St W w ps [isF true F (.slice (some ⟨b, o, none⟩) m c) l]) (N : F.Nodup) (k : Nat) (hk : k < l.length) {y : Qm} (hy : l[k]! = y) :
    ∃ (xs1 xs2 : List Value) (F1 F2 : List Nat) (aNeed : Option Addr) (cNeed : Nat) (XK : List Nat) (aHave : Option Addr) (cHave : Nat) (XO : List Nat) (aLack : Option Addr) (cLack : Nat) (XL : List Nat) (aHere : Option Addr) (cHere : Nat) (XN : List Nat) (aOut : Option Addr) (cOut : Nat) (FOut : List Nat) (aInto : Option Addr) (cInto : Nat) (XM : List Nat), F = b :: (F1 ++ (XK ++ XO ++ XL ++ XN ++ FOut ++ XM) ++ F2) ∧ xs1.length = k * 9 ∧ St W w ps [Q9 b o xs1 [.int .i64 y.qw, .int .i64 y.xN, .slice aNeed y.qO.length cNeed, .slice aHave y.qX.length cHave, .slice aLack y.xe.length cLack, .slice aHere y.xm.length cHere, .slice aOut y.xZ.length cOut, .slice aInto y.qF.length cInto, .bool y.xO] xs2 F1 F2 (l.take k) (l.drop (k + 1)), isF true XK (.slice aNeed y.qO.length cNeed) y.qO, isF true XO (.slice aHave y.qX.length cHave) y.qX, isF true XL (.slice aLack y.xe.length cLack) y.xe, isF true XN (.slice aHere y.xm.length cHere) y.xm, isF true FOut (.slice aOut y.xZ.length cOut) y.xZ, isF true XM (.slice aInto y.qF.length cInto) y.qF] ∧
      ([b :: (F1 ++ F2), XK, XO, XL, XN, FOut, XM] : List (List Nat)).flatten.Nodup := by
  obtain ⟨cs, xs1, xs2, F1, Fk, F2, rfl, hx, hr, hfr, hlt, H⟩ := H.openAt k hk
  rw [hy] at hr
  obtain ⟨vNeed, vHave, vLack, vHere, vOut, vInto, XK, XO, XL, XN, FOut, XM, rfl, hFF, hNeed, hHave, hLack, hHere, hOut, hInto⟩ := hr
  obtain ⟨aNeed, cNeed, rfl⟩ := slice_form hNeed
  obtain ⟨aHave, cHave, rfl⟩ := slice_form hHave
  obtain ⟨aLack, cLack, rfl⟩ := slice_form hLack
  obtain ⟨aHere, cHere, rfl⟩ := slice_form hHere
  obtain ⟨aOut, cOut, rfl⟩ := slice_form hOut
  obtain ⟨aInto, cInto, rfl⟩ := slice_form hInto
  exact ⟨xs1, xs2, F1, F2, _, _, _, _, _, _, _, _, _, _, _, _, _, _, _, _, _, _, by rw [hFF], hx, ((((((H.add (isF true XM (.slice aInto y.qF.length cInto) y.qF) ⟨hInto, fun _ => hfr.sub (by rw [hFF]; intro z hz; simp [hz])⟩ (fun z hz => hlt z (by rw [hFF]; have hz : z ∈ XM := hz; simp [hz]))).add (isF true FOut (.slice aOut y.xZ.length cOut) y.xZ) ⟨hOut, fun _ => hfr.sub (by rw [hFF]; intro z hz; simp [hz])⟩ (fun z hz => hlt z (by rw [hFF]; have hz : z ∈ FOut := hz; simp [hz]))).add (isF true XN (.slice aHere y.xm.length cHere) y.xm) ⟨hHere, fun _ => hfr.sub (by rw [hFF]; intro z hz; simp [hz])⟩ (fun z hz => hlt z (by rw [hFF]; have hz : z ∈ XN := hz; simp [hz]))).add (isF true XL (.slice aLack y.xe.length cLack) y.xe) ⟨hLack, fun _ => hfr.sub (by rw [hFF]; intro z hz; simp [hz])⟩ (fun z hz => hlt z (by rw [hFF]; have hz : z ∈ XL := hz; simp [hz]))).add (isF true XO (.slice aHave y.qX.length cHave) y.qX) ⟨hHave, fun _ => hfr.sub (by rw [hFF]; intro z hz; simp [hz])⟩ (fun z hz => hlt z (by rw [hFF]; have hz : z ∈ XO := hz; simp [hz]))).add (isF true XK (.slice aNeed y.qO.length cNeed) y.qO) ⟨hNeed, fun _ => hfr.sub (by rw [hFF]; intro z hz; simp [hz])⟩ (fun z hz => hlt z (by rw [hFF]; have hz : z ∈ XK := hz; simp [hz]))).sel _ (.refl _) _ (all_of ⟨.tail _ (.tail _ (.tail _ (.tail _ (.tail _ (.tail _ (.head _)))))), ⟨.head _, ⟨.tail _ (.head _), ⟨.tail _ (.tail _ (.head _)), ⟨.tail _ (.tail _ (.tail _ (.head _))), ⟨.tail _ (.tail _ (.tail _ (.tail _ (.head _)))), ⟨.tail _ (.tail _ (.tail _ (.tail _ (.tail _ (.head _))))), trivial⟩⟩⟩⟩⟩⟩⟩), by have N' := nodup_hole N; rw [hFF] at N'; simpa using N'⟩

instance : Mark xu where
  cnt x := cnt x.qo + cnt x.qy + cnt x.qm
  mrk x k := ⟨mrk x.qo (k), mrk x.qy (k + (cnt x.qo : Nat)), mrk x.qm (k + (cnt x.qo : Nat) + (cnt x.qy : Nat))⟩
  mkd x k := mkd x.qo (k) ∧ mkd x.qy (k + (cnt x.qo : Nat)) ∧ mkd x.qm (k + (cnt x.qo : Nat) + (cnt x.qy : Nat))
  mkd_mark x k := by
    simp only [cnt_mark]
    exact ⟨mkd_mark _ _, mkd_mark _ _, mkd_mark _ _⟩
  cnt_mark x k := by simp only [cnt_mark]
end Go.Proofs.YtgjnaocffdhnbaaGreat
