/- Walks, printed by program (wip/tools/gv.py): what each function comes to, for all arguments. -/
import Derived.Test.YtkmlihdacnfhdaaG2
import Derived.Test.YtkmlihdacnfhdaaC
namespace Go.Proofs.Ytkmlihdacnfhdaa
open Go.Proofs.Ytkmlihdacnfhdaa.Tot (tot)
open Go.Proofs.Ytkmlihdacnfhdaa.Mark (cnt mrk mkd mkd_mark cnt_mark)
open Go.RowKit
set_option linter.unusedVariables false
set_option linter.unusedSimpArgs false
set_option maxRecDepth 100000
set_option maxHeartbeats 4000000


theorem St.open_Int {W w : World} {ps : List Prv} {F : List Nat} {b o m c : Nat} {l : List Int} (H : St W w ps [isF true F (.slice (some ⟨b, o, none⟩) m c) l]) (N : F.Nodup) (k : Nat) (hk : k < l.length) {y : Int} (hy : l[k]! = y) :
    ∃ (xs1 xs2 : List Value) (F1 F2 : List Nat) , F = b :: (F1 ++ [] ++ F2) ∧ xs1.length = k * 1 ∧ St W w ps [Vh b o xs1 [.int .i64 y] xs2 F1 F2 (l.take k) (l.drop (k + 1))] ∧
      ([b :: (F1 ++ F2)] : List (List Nat)).flatten.Nodup := by
  obtain ⟨cs, xs1, xs2, F1, Fk, F2, rfl, hx, hr, hfr, hlt, H⟩ := H.openAt k hk
  rw [hy] at hr
  obtain ⟨hFF, rfl⟩ := hr
  exact ⟨xs1, xs2, F1, F2, by rw [hFF], hx, H, by have N' := nodup_hole N; rw [hFF] at N'; simpa using N'⟩

theorem St.open_Bool {W w : World} {ps : List Prv} {F : List Nat} {b o m c : Nat} {l : List Bool} (H : St W w ps [isF true F (.slice (some ⟨b, o, none⟩) m c) l]) (N : F.Nodup) (k : Nat) (hk : k < l.length) {y : Bool} (hy : l[k]! = y) :
    ∃ (xs1 xs2 : List Value) (F1 F2 : List Nat) , F = b :: (F1 ++ [] ++ F2) ∧ xs1.length = k * 1 ∧ St W w ps [Vh b o xs1 [.bool y] xs2 F1 F2 (l.take k) (l.drop (k + 1))] ∧
      ([b :: (F1 ++ F2)] : List (List Nat)).flatten.Nodup := by
  obtain ⟨cs, xs1, xs2, F1, Fk, F2, rfl, hx, hr, hfr, hlt, H⟩ := H.openAt k hk
  rw [hy] at hr
  obtain ⟨hFF, rfl⟩ := hr
  exact ⟨xs1, xs2, F1, F2, by rw [hFF], hx, H, by have N' := nodup_hole N; rw [hFF] at N'; simpa using N'⟩

theorem St.open_List {α : Type} [qW α] {W w : World} {ps : List Prv} {F : List Nat} {b o m c : Nat} {l : List (List α)} (H : St W w ps [isF true F (.slice (some ⟨b, o, none⟩) m c) l]) (N : F.Nodup) (k : Nat) (hk : k < l.length) {y : List α} (hy : l[k]! = y) :
    ∃ (xs1 xs2 : List Value) (F1 F2 : List Nat) (a : Option Addr) (c' : Nat) (Fk : List Nat), F = b :: (F1 ++ Fk ++ F2) ∧ xs1.length = k * 1 ∧ St W w ps [Vh b o xs1 [.slice a y.length c'] xs2 F1 F2 (l.take k) (l.drop (k + 1)), isF true Fk (.slice a y.length c') y] ∧
      ([b :: (F1 ++ F2), Fk] : List (List Nat)).flatten.Nodup := by
  obtain ⟨cs, xs1, xs2, F1, Fk, F2, rfl, hx, hr, hfr, hlt, H⟩ := H.openAt k hk
  rw [hy] at hr
  obtain ⟨a, c', rfl, _⟩ := id hr
  exact ⟨xs1, xs2, F1, F2, a, c', Fk, rfl, hx, (H.add (isF true Fk (.slice a y.length c') y) ⟨hr, fun _ => hfr⟩ hlt).sel _ (.refl _) _ (all_of ⟨.tail _ (.head _), ⟨.head _, trivial⟩⟩), by simpa using nodup_hole N⟩

instance : Mark IntoD where
  cnt x := 1 + cnt x.vK
  mrk x k := ⟨mrk x.qy (k), mrk x.vK (k + 1)⟩
  mkd x k := mkd x.qy (k) ∧ mkd x.vK (k + 1)
  mkd_mark x k := by
    simp only [cnt_mark]
    exact ⟨mkd_mark _ _, mkd_mark _ _⟩
  cnt_mark x k := by simp only [cnt_mark]
theorem cnt_IntoD (x : IntoD) : cnt x = 1 + cnt x.vK := rfl

theorem St.open_IntoD {W w : World} {ps : List Prv} {F : List Nat} {b o m c : Nat} {l : List IntoD} (H : St W w ps [isF true F (.slice (some ⟨b, o, none⟩) m c) l]) (N : F.Nodup) (k : Nat) (hk : k < l.length) {y : IntoD} (hy : l[k]! = y) :
    ∃ (xs1 xs2 : List Value) (F1 F2 : List Nat) (aBag : Option Addr) (cBag : Nat) (FBag : List Nat), F = b :: (F1 ++ (FBag) ++ F2) ∧ xs1.length = k * 2 ∧ St W w ps [Vh b o xs1 [.int .i64 y.qy, .slice aBag y.vK.length cBag] xs2 F1 F2 (l.take k) (l.drop (k + 1)), isF true FBag (.slice aBag y.vK.length cBag) y.vK] ∧
      ([b :: (F1 ++ F2), FBag] : List (List Nat)).flatten.Nodup := by
  obtain ⟨cs, xs1, xs2, F1, Fk, F2, rfl, hx, hr, hfr, hlt, H⟩ := H.openAt k hk
  rw [hy] at hr
  obtain ⟨vBag, FBag, rfl, hFF, hBag⟩ := hr
  obtain ⟨aBag, cBag, rfl⟩ := slice_form hBag
  exact ⟨xs1, xs2, F1, F2, _, _, _, by rw [hFF], hx, (H.add (isF true FBag (.slice aBag y.vK.length cBag) y.vK) ⟨hBag, fun _ => hfr.sub (by rw [hFF]; intro z hz; simp [hz])⟩ (fun z hz => hlt z (by rw [hFF]; have hz : z ∈ FBag := hz; simp [hz]))).sel _ (.refl _) _ (all_of ⟨.tail _ (.head _), ⟨.head _, trivial⟩⟩), by have N' := nodup_hole N; rw [hFF] at N'; simpa using N'⟩

instance : Mark QK where
  cnt x := 1 + 1 + cnt x.qR + cnt x.xg + cnt x.xk + cnt x.xw + cnt x.zo + cnt x.qE + 1
  mrk x k := ⟨mrk x.qy (k), mrk x.zk (k + 1), mrk x.qR (k + 1 + 1), mrk x.xg (k + 1 + 1 + (cnt x.qR : Nat)), mrk x.xk (k + 1 + 1 + (cnt x.qR : Nat) + (cnt x.xg : Nat)), mrk x.xw (k + 1 + 1 + (cnt x.qR : Nat) + (cnt x.xg : Nat) + (cnt x.xk : Nat)), mrk x.zo (k + 1 + 1 + (cnt x.qR : Nat) + (cnt x.xg : Nat) + (cnt x.xk : Nat) + (cnt x.xw : Nat)), mrk x.qE (k + 1 + 1 + (cnt x.qR : Nat) + (cnt x.xg : Nat) + (cnt x.xk : Nat) + (cnt x.xw : Nat) + (cnt x.zo : Nat)), mrk x.xQ (k + 1 + 1 + (cnt x.qR : Nat) + (cnt x.xg : Nat) + (cnt x.xk : Nat) + (cnt x.xw : Nat) + (cnt x.zo : Nat) + (cnt x.qE : Nat))⟩
  mkd x k := mkd x.qy (k) ∧ mkd x.zk (k + 1) ∧ mkd x.qR (k + 1 + 1) ∧ mkd x.xg (k + 1 + 1 + (cnt x.qR : Nat)) ∧ mkd x.xk (k + 1 + 1 + (cnt x.qR : Nat) + (cnt x.xg : Nat)) ∧ mkd x.xw (k + 1 + 1 + (cnt x.qR : Nat) + (cnt x.xg : Nat) + (cnt x.xk : Nat)) ∧ mkd x.zo (k + 1 + 1 + (cnt x.qR : Nat) + (cnt x.xg : Nat) + (cnt x.xk : Nat) + (cnt x.xw : Nat)) ∧ mkd x.qE (k + 1 + 1 + (cnt x.qR : Nat) + (cnt x.xg : Nat) + (cnt x.xk : Nat) + (cnt x.xw : Nat) + (cnt x.zo : Nat)) ∧ mkd x.xQ (k + 1 + 1 + (cnt x.qR : Nat) + (cnt x.xg : Nat) + (cnt x.xk : Nat) + (cnt x.xw : Nat) + (cnt x.zo : Nat) + (cnt x.qE : Nat))
  mkd_mark x k := by
    simp only [cnt_mark]
    exact ⟨mkd_mark _ _, mkd_mark _ _, mkd_mark _ _, mkd_mark _ _, mkd_mark _ _, mkd_mark _ _, mkd_mark _ _, mkd_mark _ _, mkd_mark _ _⟩
  cnt_mark x k := by simp only [cnt_mark]
theorem yE (x : QK) : cnt x = 1 + 1 + cnt x.qR + cnt x.xg + cnt x.xk + cnt x.xw + cnt x.zo + cnt x.qE + 1 := rfl

theorem St.open_RuleD {W w : World} {ps : List Prv} {F : List Nat} {b o m c : Nat} {l : List QK} (H : St W w ps [isF true F (.slice (some ⟨b, o, none⟩) m c) l]) (N : F.Nodup) (k : Nat) (hk : k < l.length) {y : QK} (hy : l[k]! = y) :
    ∃ (xs1 xs2 : List Value) (F1 F2 : List Nat) (aNeed : Option Addr) (cNeed : Nat) (VD : List Nat) (aHave : Option Addr) (cHave : Nat) (VH : List Nat) (aLack : Option Addr) (cLack : Nat) (VE : List Nat) (aHere : Option Addr) (cHere : Nat) (VG : List Nat) (aOut : Option Addr) (cOut : Nat) (FOut : List Nat) (aInto : Option Addr) (cInto : Nat) (VF : List Nat), F = b :: (F1 ++ (VD ++ VH ++ VE ++ VG ++ FOut ++ VF) ++ F2) ∧ xs1.length = k * 9 ∧ St W w ps [Vh b o xs1 [.int .i64 y.qy, .int .i64 y.zk, .slice aNeed y.qR.length cNeed, .slice aHave y.xg.length cHave, .slice aLack y.xk.length cLack, .slice aHere y.xw.length cHere, .slice aOut y.zo.length cOut, .slice aInto y.qE.length cInto, .bool y.xQ] xs2 F1 F2 (l.take k) (l.drop (k + 1)), isF true VD (.slice aNeed y.qR.length cNeed) y.qR, isF true VH (.slice aHave y.xg.length cHave) y.xg, isF true VE (.slice aLack y.xk.length cLack) y.xk, isF true VG (.slice aHere y.xw.length cHere) y.xw, isF true FOut (.slice aOut y.zo.length cOut) y.zo, isF true VF (.slice aInto y.qE.length cInto) y.qE] ∧
      ([b :: (F1 ++ F2), VD, VH, VE, VG, FOut, VF] : List (List Nat)).flatten.Nodup := by
  obtain ⟨cs, xs1, xs2, F1, Fk, F2, rfl, hx, hr, hfr, hlt, H⟩ := H.openAt k hk
  rw [hy] at hr
  obtain ⟨vNeed, vHave, vLack, vHere, vOut, vInto, VD, VH, VE, VG, FOut, VF, rfl, hFF, hNeed, hHave, hLack, hHere, hOut, hInto⟩ := hr
  obtain ⟨aNeed, cNeed, rfl⟩ := slice_form hNeed
  obtain ⟨aHave, cHave, rfl⟩ := slice_form hHave
  obtain ⟨aLack, cLack, rfl⟩ := slice_form hLack
  obtain ⟨aHere, cHere, rfl⟩ := slice_form hHere
  obtain ⟨aOut, cOut, rfl⟩ := slice_form hOut
  obtain ⟨aInto, cInto, rfl⟩ := slice_form hInto
  exact ⟨xs1, xs2, F1, F2, _, _, _, _, _, _, _, _, _, _, _, _, _, _, _, _, _, _, by rw [hFF], hx, ((((((H.add (isF true VF (.slice aInto y.qE.length cInto) y.qE) ⟨hInto, fun _ => hfr.sub (by rw [hFF]; intro z hz; simp [hz])⟩ (fun z hz => hlt z (by rw [hFF]; have hz : z ∈ VF := hz; simp [hz]))).add (isF true FOut (.slice aOut y.zo.length cOut) y.zo) ⟨hOut, fun _ => hfr.sub (by rw [hFF]; intro z hz; simp [hz])⟩ (fun z hz => hlt z (by rw [hFF]; have hz : z ∈ FOut := hz; simp [hz]))).add (isF true VG (.slice aHere y.xw.length cHere) y.xw) ⟨hHere, fun _ => hfr.sub (by rw [hFF]; intro z hz; simp [hz])⟩ (fun z hz => hlt z (by rw [hFF]; have hz : z ∈ VG := hz; simp [hz]))).add (isF true VE (.slice aLack y.xk.length cLack) y.xk) ⟨hLack, fun _ => hfr.sub (by rw [hFF]; intro z hz; simp [hz])⟩ (fun z hz => hlt z (by rw [hFF]; have hz : z ∈ VE := hz; simp [hz]))).add (isF true VH (.slice aHave y.xg.length cHave) y.xg) ⟨hHave, fun _ => hfr.sub (by rw [hFF]; intro z hz; simp [hz])⟩ (fun z hz => hlt z (by rw [hFF]; have hz : z ∈ VH := hz; simp [hz]))).add (isF true VD (.slice aNeed y.qR.length cNeed) y.qR) ⟨hNeed, fun _ => hfr.sub (by rw [hFF]; intro z hz; simp [hz])⟩ (fun z hz => hlt z (by rw [hFF]; have hz : z ∈ VD := hz; simp [hz]))).sel _ (.refl _) _ (all_of ⟨.tail _ (.tail _ (.tail _ (.tail _ (.tail _ (.tail _ (.head _)))))), ⟨.head _, ⟨.tail _ (.head _), ⟨.tail _ (.tail _ (.head _)), ⟨.tail _ (.tail _ (.tail _ (.head _))), ⟨.tail _ (.tail _ (.tail _ (.tail _ (.head _)))), ⟨.tail _ (.tail _ (.tail _ (.tail _ (.tail _ (.head _))))), trivial⟩⟩⟩⟩⟩⟩⟩), by have N' := nodup_hole N; rw [hFF] at N'; simpa using N'⟩

instance : Mark qQ where
  cnt x := cnt x.qh + cnt x.qp + cnt x.ql
  mrk x k := ⟨mrk x.qh (k), mrk x.qp (k + (cnt x.qh : Nat)), mrk x.ql (k + (cnt x.qh : Nat) + (cnt x.qp : Nat))⟩
  mkd x k := mkd x.qh (k) ∧ mkd x.qp (k + (cnt x.qh : Nat)) ∧ mkd x.ql (k + (cnt x.qh : Nat) + (cnt x.qp : Nat))
  mkd_mark x k := by
    simp only [cnt_mark]
    exact ⟨mkd_mark _ _, mkd_mark _ _, mkd_mark _ _⟩
  cnt_mark x k := by simp only [cnt_mark]
end Go.Proofs.Ytkmlihdacnfhdaa
