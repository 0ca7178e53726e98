/- Walks, printed by program (wip/tools/gv.py): what each function comes to, for all arguments. -/
import Derived.Test.YtkmlihdacnfhdaaGreatG2
import Derived.Test.YtkmlihdacnfhdaaGreatC
namespace Go.Proofs.YtkmlihdacnfhdaaGreat
open Go.Proofs.YtkmlihdacnfhdaaGreat.Tot (tot)
open Go.Proofs.YtkmlihdacnfhdaaGreat.Mark (cnt mrk mkd mkd_mark cnt_mark)
open Go.RowKit
set_option linter.unusedVariables false
set_option linter.unusedSimpArgs false
set_option maxRecDepth 100000
set_option maxHeartbeats 4000000


theorem St.open_Int {W w : World} {ps : List Prv} {F : List Nat} {b o m c : Nat} {l : List Int} (H : St W w ps [isF true F (.slice (some ⟨b, o, none⟩) m c) l]) (N : F.Nodup) (k : Nat) (hk : k < l.length) {y : Int} (hy : l[k]! = y) :
    ∃ (xs1 xs2 : List Value) (F1 F2 : List Nat) , F = b :: (F1 ++ [] ++ F2) ∧ xs1.length = k * 1 ∧ St W w ps [Vf b o xs1 [.int .i64 y] xs2 F1 F2 (l.take k) (l.drop (k + 1))] ∧
      ([b :: (F1 ++ F2)] : List (List Nat)).flatten.Nodup := by
  obtain ⟨cs, xs1, xs2, F1, Fk, F2, rfl, hx, hr, hfr, hlt, H⟩ := H.openAt k hk
  rw [hy] at hr
  obtain ⟨hFF, rfl⟩ := hr
  exact ⟨xs1, xs2, F1, F2, by rw [hFF], hx, H, by have N' := nodup_hole N; rw [hFF] at N'; simpa using N'⟩

theorem St.open_Bool {W w : World} {ps : List Prv} {F : List Nat} {b o m c : Nat} {l : List Bool} (H : St W w ps [isF true F (.slice (some ⟨b, o, none⟩) m c) l]) (N : F.Nodup) (k : Nat) (hk : k < l.length) {y : Bool} (hy : l[k]! = y) :
    ∃ (xs1 xs2 : List Value) (F1 F2 : List Nat) , F = b :: (F1 ++ [] ++ F2) ∧ xs1.length = k * 1 ∧ St W w ps [Vf b o xs1 [.bool y] xs2 F1 F2 (l.take k) (l.drop (k + 1))] ∧
      ([b :: (F1 ++ F2)] : List (List Nat)).flatten.Nodup := by
  obtain ⟨cs, xs1, xs2, F1, Fk, F2, rfl, hx, hr, hfr, hlt, H⟩ := H.openAt k hk
  rw [hy] at hr
  obtain ⟨hFF, rfl⟩ := hr
  exact ⟨xs1, xs2, F1, F2, by rw [hFF], hx, H, by have N' := nodup_hole N; rw [hFF] at N'; simpa using N'⟩

theorem St.open_List {α : Type} [qV α] {W w : World} {ps : List Prv} {F : List Nat} {b o m c : Nat} {l : List (List α)} (H : St W w ps [isF true F (.slice (some ⟨b, o, none⟩) m c) l]) (N : F.Nodup) (k : Nat) (hk : k < l.length) {y : List α} (hy : l[k]! = y) :
    ∃ (xs1 xs2 : List Value) (F1 F2 : List Nat) (a : Option Addr) (c' : Nat) (Fk : List Nat), F = b :: (F1 ++ Fk ++ F2) ∧ xs1.length = k * 1 ∧ St W w ps [Vf b o xs1 [.slice a y.length c'] xs2 F1 F2 (l.take k) (l.drop (k + 1)), isF true Fk (.slice a y.length c') y] ∧
      ([b :: (F1 ++ F2), Fk] : List (List Nat)).flatten.Nodup := by
  obtain ⟨cs, xs1, xs2, F1, Fk, F2, rfl, hx, hr, hfr, hlt, H⟩ := H.openAt k hk
  rw [hy] at hr
  obtain ⟨a, c', rfl, _⟩ := id hr
  exact ⟨xs1, xs2, F1, F2, a, c', Fk, rfl, hx, (H.add (isF true Fk (.slice a y.length c') y) ⟨hr, fun _ => hfr⟩ hlt).sel _ (.refl _) _ (all_of ⟨.tail _ (.head _), ⟨.head _, trivial⟩⟩), by simpa using nodup_hole N⟩

instance : Mark IntoD where
  cnt x := 1 + cnt x.vH
  mrk x k := ⟨mrk x.qy (k), mrk x.vH (k + 1)⟩
  mkd x k := mkd x.qy (k) ∧ mkd x.vH (k + 1)
  mkd_mark x k := by
    simp only [cnt_mark]
    exact ⟨mkd_mark _ _, mkd_mark _ _⟩
  cnt_mark x k := by simp only [cnt_mark]
theorem cnt_IntoD (x : IntoD) : cnt x = 1 + cnt x.vH := rfl

theorem St.open_IntoD {W w : World} {ps : List Prv} {F : List Nat} {b o m c : Nat} {l : List IntoD} (H : St W w ps [isF true F (.slice (some ⟨b, o, none⟩) m c) l]) (N : F.Nodup) (k : Nat) (hk : k < l.length) {y : IntoD} (hy : l[k]! = y) :
    ∃ (xs1 xs2 : List Value) (F1 F2 : List Nat) (aBag : Option Addr) (cBag : Nat) (FBag : List Nat), F = b :: (F1 ++ (FBag) ++ F2) ∧ xs1.length = k * 2 ∧ St W w ps [Vf b o xs1 [.int .i64 y.qy, .slice aBag y.vH.length cBag] xs2 F1 F2 (l.take k) (l.drop (k + 1)), isF true FBag (.slice aBag y.vH.length cBag) y.vH] ∧
      ([b :: (F1 ++ F2), FBag] : List (List Nat)).flatten.Nodup := by
  obtain ⟨cs, xs1, xs2, F1, Fk, F2, rfl, hx, hr, hfr, hlt, H⟩ := H.openAt k hk
  rw [hy] at hr
  obtain ⟨vBag, FBag, rfl, hFF, hBag⟩ := hr
  obtain ⟨aBag, cBag, rfl⟩ := slice_form hBag
  exact ⟨xs1, xs2, F1, F2, _, _, _, by rw [hFF], hx, (H.add (isF true FBag (.slice aBag y.vH.length cBag) y.vH) ⟨hBag, fun _ => hfr.sub (by rw [hFF]; intro z hz; simp [hz])⟩ (fun z hz => hlt z (by rw [hFF]; have hz : z ∈ FBag := hz; simp [hz]))).sel _ (.refl _) _ (all_of ⟨.tail _ (.head _), ⟨.head _, trivial⟩⟩), by have N' := nodup_hole N; rw [hFF] at N'; simpa using N'⟩

instance : Mark QG where
  cnt x := 1 + 1 + cnt x.qR + cnt x.xh + cnt x.xm + cnt x.xB + cnt x.zk + cnt x.qC + 1
  mrk x k := ⟨mrk x.qy (k), mrk x.zh (k + 1), mrk x.qR (k + 1 + 1), mrk x.xh (k + 1 + 1 + (cnt x.qR : Nat)), mrk x.xm (k + 1 + 1 + (cnt x.qR : Nat) + (cnt x.xh : Nat)), mrk x.xB (k + 1 + 1 + (cnt x.qR : Nat) + (cnt x.xh : Nat) + (cnt x.xm : Nat)), mrk x.zk (k + 1 + 1 + (cnt x.qR : Nat) + (cnt x.xh : Nat) + (cnt x.xm : Nat) + (cnt x.xB : Nat)), mrk x.qC (k + 1 + 1 + (cnt x.qR : Nat) + (cnt x.xh : Nat) + (cnt x.xm : Nat) + (cnt x.xB : Nat) + (cnt x.zk : Nat)), mrk x.xQ (k + 1 + 1 + (cnt x.qR : Nat) + (cnt x.xh : Nat) + (cnt x.xm : Nat) + (cnt x.xB : Nat) + (cnt x.zk : Nat) + (cnt x.qC : Nat))⟩
  mkd x k := mkd x.qy (k) ∧ mkd x.zh (k + 1) ∧ mkd x.qR (k + 1 + 1) ∧ mkd x.xh (k + 1 + 1 + (cnt x.qR : Nat)) ∧ mkd x.xm (k + 1 + 1 + (cnt x.qR : Nat) + (cnt x.xh : Nat)) ∧ mkd x.xB (k + 1 + 1 + (cnt x.qR : Nat) + (cnt x.xh : Nat) + (cnt x.xm : Nat)) ∧ mkd x.zk (k + 1 + 1 + (cnt x.qR : Nat) + (cnt x.xh : Nat) + (cnt x.xm : Nat) + (cnt x.xB : Nat)) ∧ mkd x.qC (k + 1 + 1 + (cnt x.qR : Nat) + (cnt x.xh : Nat) + (cnt x.xm : Nat) + (cnt x.xB : Nat) + (cnt x.zk : Nat)) ∧ mkd x.xQ (k + 1 + 1 + (cnt x.qR : Nat) + (cnt x.xh : Nat) + (cnt x.xm : Nat) + (cnt x.xB : Nat) + (cnt x.zk : Nat) + (cnt x.qC : Nat))
  mkd_mark x k := by
    simp only [cnt_mark]
    exact ⟨mkd_mark _ _, mkd_mark _ _, mkd_mark _ _, mkd_mark _ _, mkd_mark _ _, mkd_mark _ _, mkd_mark _ _, mkd_mark _ _, mkd_mark _ _⟩
  cnt_mark x k := by simp only [cnt_mark]
theorem yO (x : QG) : cnt x = 1 + 1 + cnt x.qR + cnt x.xh + cnt x.xm + cnt x.xB + cnt x.zk + cnt x.qC + 1 := rfl

theorem St.open_RuleD {W w : World} {ps : List Prv} {F : List Nat} {b o m c : Nat} {l : List QG} (H : St W w ps [isF true F (.slice (some ⟨b, o, none⟩) m c) l]) (N : F.Nodup) (k : Nat) (hk : k < l.length) {y : QG} (hy : l[k]! = y) :
    ∃ (xs1 xs2 : List Value) (F1 F2 : List Nat) (aNeed : Option Addr) (cNeed : Nat) (VF : List Nat) (aHave : Option Addr) (cHave : Nat) (VJ : List Nat) (aLack : Option Addr) (cLack : Nat) (VG : List Nat) (aHere : Option Addr) (cHere : Nat) (VI : List Nat) (aOut : Option Addr) (cOut : Nat) (FOut : List Nat) (aInto : Option Addr) (cInto : Nat) (VH : List Nat), F = b :: (F1 ++ (VF ++ VJ ++ VG ++ VI ++ FOut ++ VH) ++ F2) ∧ xs1.length = k * 9 ∧ St W w ps [Vf b o xs1 [.int .i64 y.qy, .int .i64 y.zh, .slice aNeed y.qR.length cNeed, .slice aHave y.xh.length cHave, .slice aLack y.xm.length cLack, .slice aHere y.xB.length cHere, .slice aOut y.zk.length cOut, .slice aInto y.qC.length cInto, .bool y.xQ] xs2 F1 F2 (l.take k) (l.drop (k + 1)), isF true VF (.slice aNeed y.qR.length cNeed) y.qR, isF true VJ (.slice aHave y.xh.length cHave) y.xh, isF true VG (.slice aLack y.xm.length cLack) y.xm, isF true VI (.slice aHere y.xB.length cHere) y.xB, isF true FOut (.slice aOut y.zk.length cOut) y.zk, isF true VH (.slice aInto y.qC.length cInto) y.qC] ∧
      ([b :: (F1 ++ F2), VF, VJ, VG, VI, FOut, VH] : List (List Nat)).flatten.Nodup := by
  obtain ⟨cs, xs1, xs2, F1, Fk, F2, rfl, hx, hr, hfr, hlt, H⟩ := H.openAt k hk
  rw [hy] at hr
  obtain ⟨vNeed, vHave, vLack, vHere, vOut, vInto, VF, VJ, VG, VI, FOut, VH, rfl, hFF, hNeed, hHave, hLack, hHere, hOut, hInto⟩ := hr
  obtain ⟨aNeed, cNeed, rfl⟩ := slice_form hNeed
  obtain ⟨aHave, cHave, rfl⟩ := slice_form hHave
  obtain ⟨aLack, cLack, rfl⟩ := slice_form hLack
  obtain ⟨aHere, cHere, rfl⟩ := slice_form hHere
  obtain ⟨aOut, cOut, rfl⟩ := slice_form hOut
  obtain ⟨aInto, cInto, rfl⟩ := slice_form hInto
  exact ⟨xs1, xs2, F1, F2, _, _, _, _, _, _, _, _, _, _, _, _, _, _, _, _, _, _, by rw [hFF], hx, ((((((H.add (isF true VH (.slice aInto y.qC.length cInto) y.qC) ⟨hInto, fun _ => hfr.sub (by rw [hFF]; intro z hz; simp [hz])⟩ (fun z hz => hlt z (by rw [hFF]; have hz : z ∈ VH := hz; simp [hz]))).add (isF true FOut (.slice aOut y.zk.length cOut) y.zk) ⟨hOut, fun _ => hfr.sub (by rw [hFF]; intro z hz; simp [hz])⟩ (fun z hz => hlt z (by rw [hFF]; have hz : z ∈ FOut := hz; simp [hz]))).add (isF true VI (.slice aHere y.xB.length cHere) y.xB) ⟨hHere, fun _ => hfr.sub (by rw [hFF]; intro z hz; simp [hz])⟩ (fun z hz => hlt z (by rw [hFF]; have hz : z ∈ VI := hz; simp [hz]))).add (isF true VG (.slice aLack y.xm.length cLack) y.xm) ⟨hLack, fun _ => hfr.sub (by rw [hFF]; intro z hz; simp [hz])⟩ (fun z hz => hlt z (by rw [hFF]; have hz : z ∈ VG := hz; simp [hz]))).add (isF true VJ (.slice aHave y.xh.length cHave) y.xh) ⟨hHave, fun _ => hfr.sub (by rw [hFF]; intro z hz; simp [hz])⟩ (fun z hz => hlt z (by rw [hFF]; have hz : z ∈ VJ := hz; simp [hz]))).add (isF true VF (.slice aNeed y.qR.length cNeed) y.qR) ⟨hNeed, fun _ => hfr.sub (by rw [hFF]; intro z hz; simp [hz])⟩ (fun z hz => hlt z (by rw [hFF]; have hz : z ∈ VF := hz; simp [hz]))).sel _ (.refl _) _ (all_of ⟨.tail _ (.tail _ (.tail _ (.tail _ (.tail _ (.tail _ (.head _)))))), ⟨.head _, ⟨.tail _ (.head _), ⟨.tail _ (.tail _ (.head _)), ⟨.tail _ (.tail _ (.tail _ (.head _))), ⟨.tail _ (.tail _ (.tail _ (.tail _ (.head _)))), ⟨.tail _ (.tail _ (.tail _ (.tail _ (.tail _ (.head _))))), trivial⟩⟩⟩⟩⟩⟩⟩), by have N' := nodup_hole N; rw [hFF] at N'; simpa using N'⟩

instance : Mark qU where
  cnt x := cnt x.qh + cnt x.qp + cnt x.ql
  mrk x k := ⟨mrk x.qh (k), mrk x.qp (k + (cnt x.qh : Nat)), mrk x.ql (k + (cnt x.qh : Nat) + (cnt x.qp : Nat))⟩
  mkd x k := mkd x.qh (k) ∧ mkd x.qp (k + (cnt x.qh : Nat)) ∧ mkd x.ql (k + (cnt x.qh : Nat) + (cnt x.qp : Nat))
  mkd_mark x k := by
    simp only [cnt_mark]
    exact ⟨mkd_mark _ _, mkd_mark _ _, mkd_mark _ _⟩
  cnt_mark x k := by simp only [cnt_mark]
end Go.Proofs.YtkmlihdacnfhdaaGreat
