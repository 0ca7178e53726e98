/- Walks, printed by program (wip/tools/gv.py): what each function comes to, for all arguments. -/
import Derived.Test.YtkmlihdacnfhdaaGreatG2
import Derived.Test.YtkmlihdacnfhdaaGreatC
namespace Go.Proofs.YtkmlihdacnfhdaaGreat
open Go.Proofs.YtkmlihdacnfhdaaGreat.Tot (tot)
open Go.Proofs.YtkmlihdacnfhdaaGreat.Mark (cnt mrk mkd mkd_mark cnt_mark)
open Go.RowKit
set_option linter.unusedVariables false
set_option linter.unusedSimpArgs false
set_option maxRecDepth 100000
set_option maxHeartbeats 4000000


theorem St.open_Int {W w : World} {ps : List Prv} {F : List Nat} {b o m c : Nat} {l : List Int} (H : St W w ps [isF true F (.slice (some ⟨b, o, none⟩) m c) l]) (N : F.Nodup) (k : Nat) (hk : k < l.length) {y : Int} (hy : l[k]! = y) :
    ∃ (xs1 xs2 : List Value) (F1 F2 : List Nat) , F = b :: (F1 ++ [] ++ F2) ∧ xs1.length = k * 1 ∧ St W w ps [XQ b o xs1 [.int .i64 y] xs2 F1 F2 (l.take k) (l.drop (k + 1))] ∧
      ([b :: (F1 ++ F2)] : List (List Nat)).flatten.Nodup := by
  obtain ⟨cs, xs1, xs2, F1, Fk, F2, rfl, hx, hr, hfr, hlt, H⟩ := H.openAt k hk
  rw [hy] at hr
  obtain ⟨hFF, rfl⟩ := hr
  exact ⟨xs1, xs2, F1, F2, by rw [hFF], hx, H, by have N' := nodup_hole N; rw [hFF] at N'; simpa using N'⟩

theorem St.open_Bool {W w : World} {ps : List Prv} {F : List Nat} {b o m c : Nat} {l : List Bool} (H : St W w ps [isF true F (.slice (some ⟨b, o, none⟩) m c) l]) (N : F.Nodup) (k : Nat) (hk : k < l.length) {y : Bool} (hy : l[k]! = y) :
    ∃ (xs1 xs2 : List Value) (F1 F2 : List Nat) , F = b :: (F1 ++ [] ++ F2) ∧ xs1.length = k * 1 ∧ St W w ps [XQ b o xs1 [.bool y] xs2 F1 F2 (l.take k) (l.drop (k + 1))] ∧
      ([b :: (F1 ++ F2)] : List (List Nat)).flatten.Nodup := by
  obtain ⟨cs, xs1, xs2, F1, Fk, F2, rfl, hx, hr, hfr, hlt, H⟩ := H.openAt k hk
  rw [hy] at hr
  obtain ⟨hFF, rfl⟩ := hr
  exact ⟨xs1, xs2, F1, F2, by rw [hFF], hx, H, by have N' := nodup_hole N; rw [hFF] at N'; simpa using N'⟩

theorem St.open_List {α : Type} [qQ α] {W w : World} {ps : List Prv} {F : List Nat} {b o m c : Nat} {l : List (List α)} (H : St W w ps [isF true F (.slice (some ⟨b, o, none⟩) m c) l]) (N : F.Nodup) (k : Nat) (hk : k < l.length) {y : List α} (hy : l[k]! = y) :
    ∃ (xs1 xs2 : List Value) (F1 F2 : List Nat) (a : Option Addr) (c' : Nat) (Fk : List Nat), F = b :: (F1 ++ Fk ++ F2) ∧ xs1.length = k * 1 ∧ St W w ps [XQ b o xs1 [.slice a y.length c'] xs2 F1 F2 (l.take k) (l.drop (k + 1)), isF true Fk (.slice a y.length c') y] ∧
      ([b :: (F1 ++ F2), Fk] : List (List Nat)).flatten.Nodup := by
  obtain ⟨cs, xs1, xs2, F1, Fk, F2, rfl, hx, hr, hfr, hlt, H⟩ := H.openAt k hk
  rw [hy] at hr
  obtain ⟨a, c', rfl, _⟩ := id hr
  exact ⟨xs1, xs2, F1, F2, a, c', Fk, rfl, hx, (H.add (isF true Fk (.slice a y.length c') y) ⟨hr, fun _ => hfr⟩ hlt).sel _ (.refl _) _ (all_of ⟨.tail _ (.head _), ⟨.head _, trivial⟩⟩), by simpa using nodup_hole N⟩

instance : Mark IntoD where
  cnt x := 1 + cnt x.vz
  mrk x k := ⟨mrk x.qy (k), mrk x.vz (k + 1)⟩
  mkd x k := mkd x.qy (k) ∧ mkd x.vz (k + 1)
  mkd_mark x k := by
    simp only [cnt_mark]
    exact ⟨mkd_mark _ _, mkd_mark _ _⟩
  cnt_mark x k := by simp only [cnt_mark]
theorem cnt_IntoD (x : IntoD) : cnt x = 1 + cnt x.vz := rfl

theorem St.open_IntoD {W w : World} {ps : List Prv} {F : List Nat} {b o m c : Nat} {l : List IntoD} (H : St W w ps [isF true F (.slice (some ⟨b, o, none⟩) m c) l]) (N : F.Nodup) (k : Nat) (hk : k < l.length) {y : IntoD} (hy : l[k]! = y) :
    ∃ (xs1 xs2 : List Value) (F1 F2 : List Nat) (aBag : Option Addr) (cBag : Nat) (FBag : List Nat), F = b :: (F1 ++ (FBag) ++ F2) ∧ xs1.length = k * 2 ∧ St W w ps [XQ b o xs1 [.int .i64 y.qy, .slice aBag y.vz.length cBag] xs2 F1 F2 (l.take k) (l.drop (k + 1)), isF true FBag (.slice aBag y.vz.length cBag) y.vz] ∧
      ([b :: (F1 ++ F2), FBag] : List (List Nat)).flatten.Nodup := by
  obtain ⟨cs, xs1, xs2, F1, Fk, F2, rfl, hx, hr, hfr, hlt, H⟩ := H.openAt k hk
  rw [hy] at hr
  obtain ⟨vBag, FBag, rfl, hFF, hBag⟩ := hr
  obtain ⟨aBag, cBag, rfl⟩ := slice_form hBag
  exact ⟨xs1, xs2, F1, F2, _, _, _, by rw [hFF], hx, (H.add (isF true FBag (.slice aBag y.vz.length cBag) y.vz) ⟨hBag, fun _ => hfr.sub (by rw [hFF]; intro z hz; simp [hz])⟩ (fun z hz => hlt z (by rw [hFF]; have hz : z ∈ FBag := hz; simp [hz]))).sel _ (.refl _) _ (all_of ⟨.tail _ (.head _), ⟨.head _, trivial⟩⟩), by have N' := nodup_hole N; rw [hFF] at N'; simpa using N'⟩

instance : Mark QB where
  cnt x := 1 + 1 + cnt x.qV + cnt x.xh + cnt x.xk + cnt x.xm + cnt x.zg + cnt x.qB + 1
  mrk x k := ⟨mrk x.qy (k), mrk x.xZ (k + 1), mrk x.qV (k + 1 + 1), mrk x.xh (k + 1 + 1 + (cnt x.qV : Nat)), mrk x.xk (k + 1 + 1 + (cnt x.qV : Nat) + (cnt x.xh : Nat)), mrk x.xm (k + 1 + 1 + (cnt x.qV : Nat) + (cnt x.xh : Nat) + (cnt x.xk : Nat)), mrk x.zg (k + 1 + 1 + (cnt x.qV : Nat) + (cnt x.xh : Nat) + (cnt x.xk : Nat) + (cnt x.xm : Nat)), mrk x.qB (k + 1 + 1 + (cnt x.qV : Nat) + (cnt x.xh : Nat) + (cnt x.xk : Nat) + (cnt x.xm : Nat) + (cnt x.zg : Nat)), mrk x.xO (k + 1 + 1 + (cnt x.qV : Nat) + (cnt x.xh : Nat) + (cnt x.xk : Nat) + (cnt x.xm : Nat) + (cnt x.zg : Nat) + (cnt x.qB : Nat))⟩
  mkd x k := mkd x.qy (k) ∧ mkd x.xZ (k + 1) ∧ mkd x.qV (k + 1 + 1) ∧ mkd x.xh (k + 1 + 1 + (cnt x.qV : Nat)) ∧ mkd x.xk (k + 1 + 1 + (cnt x.qV : Nat) + (cnt x.xh : Nat)) ∧ mkd x.xm (k + 1 + 1 + (cnt x.qV : Nat) + (cnt x.xh : Nat) + (cnt x.xk : Nat)) ∧ mkd x.zg (k + 1 + 1 + (cnt x.qV : Nat) + (cnt x.xh : Nat) + (cnt x.xk : Nat) + (cnt x.xm : Nat)) ∧ mkd x.qB (k + 1 + 1 + (cnt x.qV : Nat) + (cnt x.xh : Nat) + (cnt x.xk : Nat) + (cnt x.xm : Nat) + (cnt x.zg : Nat)) ∧ mkd x.xO (k + 1 + 1 + (cnt x.qV : Nat) + (cnt x.xh : Nat) + (cnt x.xk : Nat) + (cnt x.xm : Nat) + (cnt x.zg : Nat) + (cnt x.qB : Nat))
  mkd_mark x k := by
    simp only [cnt_mark]
    exact ⟨mkd_mark _ _, mkd_mark _ _, mkd_mark _ _, mkd_mark _ _, mkd_mark _ _, mkd_mark _ _, mkd_mark _ _, mkd_mark _ _, mkd_mark _ _⟩
  cnt_mark x k := by simp only [cnt_mark]
theorem yx (x : QB) : cnt x = 1 + 1 + cnt x.qV + cnt x.xh + cnt x.xk + cnt x.xm + cnt x.zg + cnt x.qB + 1 := rfl

theorem St.open_RuleD {W w : World} {ps : List Prv} {F : List Nat} {b o m c : Nat} {l : List QB} (H : St W w ps [isF true F (.slice (some ⟨b, o, none⟩) m c) l]) (N : F.Nodup) (k : Nat) (hk : k < l.length) {y : QB} (hy : l[k]! = y) :
    ∃ (xs1 xs2 : List Value) (F1 F2 : List Nat) (aNeed : Option Addr) (cNeed : Nat) (Ve : List Nat) (aHave : Option Addr) (cHave : Nat) (Vj : List Nat) (aLack : Option Addr) (cLack : Nat) (Vf : List Nat) (aHere : Option Addr) (cHere : Nat) (Vh : List Nat) (aOut : Option Addr) (cOut : Nat) (FOut : List Nat) (aInto : Option Addr) (cInto : Nat) (Vg : List Nat), F = b :: (F1 ++ (Ve ++ Vj ++ Vf ++ Vh ++ FOut ++ Vg) ++ F2) ∧ xs1.length = k * 9 ∧ St W w ps [XQ b o xs1 [.int .i64 y.qy, .int .i64 y.xZ, .slice aNeed y.qV.length cNeed, .slice aHave y.xh.length cHave, .slice aLack y.xk.length cLack, .slice aHere y.xm.length cHere, .slice aOut y.zg.length cOut, .slice aInto y.qB.length cInto, .bool y.xO] xs2 F1 F2 (l.take k) (l.drop (k + 1)), isF true Ve (.slice aNeed y.qV.length cNeed) y.qV, isF true Vj (.slice aHave y.xh.length cHave) y.xh, isF true Vf (.slice aLack y.xk.length cLack) y.xk, isF true Vh (.slice aHere y.xm.length cHere) y.xm, isF true FOut (.slice aOut y.zg.length cOut) y.zg, isF true Vg (.slice aInto y.qB.length cInto) y.qB] ∧
      ([b :: (F1 ++ F2), Ve, Vj, Vf, Vh, FOut, Vg] : List (List Nat)).flatten.Nodup := by
  obtain ⟨cs, xs1, xs2, F1, Fk, F2, rfl, hx, hr, hfr, hlt, H⟩ := H.openAt k hk
  rw [hy] at hr
  obtain ⟨vNeed, vHave, vLack, vHere, vOut, vInto, Ve, Vj, Vf, Vh, FOut, Vg, rfl, hFF, hNeed, hHave, hLack, hHere, hOut, hInto⟩ := hr
  obtain ⟨aNeed, cNeed, rfl⟩ := slice_form hNeed
  obtain ⟨aHave, cHave, rfl⟩ := slice_form hHave
  obtain ⟨aLack, cLack, rfl⟩ := slice_form hLack
  obtain ⟨aHere, cHere, rfl⟩ := slice_form hHere
  obtain ⟨aOut, cOut, rfl⟩ := slice_form hOut
  obtain ⟨aInto, cInto, rfl⟩ := slice_form hInto
  exact ⟨xs1, xs2, F1, F2, _, _, _, _, _, _, _, _, _, _, _, _, _, _, _, _, _, _, by rw [hFF], hx, ((((((H.add (isF true Vg (.slice aInto y.qB.length cInto) y.qB) ⟨hInto, fun _ => hfr.sub (by rw [hFF]; intro z hz; simp [hz])⟩ (fun z hz => hlt z (by rw [hFF]; have hz : z ∈ Vg := hz; simp [hz]))).add (isF true FOut (.slice aOut y.zg.length cOut) y.zg) ⟨hOut, fun _ => hfr.sub (by rw [hFF]; intro z hz; simp [hz])⟩ (fun z hz => hlt z (by rw [hFF]; have hz : z ∈ FOut := hz; simp [hz]))).add (isF true Vh (.slice aHere y.xm.length cHere) y.xm) ⟨hHere, fun _ => hfr.sub (by rw [hFF]; intro z hz; simp [hz])⟩ (fun z hz => hlt z (by rw [hFF]; have hz : z ∈ Vh := hz; simp [hz]))).add (isF true Vf (.slice aLack y.xk.length cLack) y.xk) ⟨hLack, fun _ => hfr.sub (by rw [hFF]; intro z hz; simp [hz])⟩ (fun z hz => hlt z (by rw [hFF]; have hz : z ∈ Vf := hz; simp [hz]))).add (isF true Vj (.slice aHave y.xh.length cHave) y.xh) ⟨hHave, fun _ => hfr.sub (by rw [hFF]; intro z hz; simp [hz])⟩ (fun z hz => hlt z (by rw [hFF]; have hz : z ∈ Vj := hz; simp [hz]))).add (isF true Ve (.slice aNeed y.qV.length cNeed) y.qV) ⟨hNeed, fun _ => hfr.sub (by rw [hFF]; intro z hz; simp [hz])⟩ (fun z hz => hlt z (by rw [hFF]; have hz : z ∈ Ve := hz; simp [hz]))).sel _ (.refl _) _ (all_of ⟨.tail _ (.tail _ (.tail _ (.tail _ (.tail _ (.tail _ (.head _)))))), ⟨.head _, ⟨.tail _ (.head _), ⟨.tail _ (.tail _ (.head _)), ⟨.tail _ (.tail _ (.tail _ (.head _))), ⟨.tail _ (.tail _ (.tail _ (.tail _ (.head _)))), ⟨.tail _ (.tail _ (.tail _ (.tail _ (.tail _ (.head _))))), trivial⟩⟩⟩⟩⟩⟩⟩), by have N' := nodup_hole N; rw [hFF] at N'; simpa using N'⟩

instance : Mark qU where
  cnt x := cnt x.qh + cnt x.qo + cnt x.ql
  mrk x k := ⟨mrk x.qh (k), mrk x.qo (k + (cnt x.qh : Nat)), mrk x.ql (k + (cnt x.qh : Nat) + (cnt x.qo : Nat))⟩
  mkd x k := mkd x.qh (k) ∧ mkd x.qo (k + (cnt x.qh : Nat)) ∧ mkd x.ql (k + (cnt x.qh : Nat) + (cnt x.qo : Nat))
  mkd_mark x k := by
    simp only [cnt_mark]
    exact ⟨mkd_mark _ _, mkd_mark _ _, mkd_mark _ _⟩
  cnt_mark x k := by simp only [cnt_mark]
end Go.Proofs.YtkmlihdacnfhdaaGreat
