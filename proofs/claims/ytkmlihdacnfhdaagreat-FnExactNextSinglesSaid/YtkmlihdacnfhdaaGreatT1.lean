/- Walks, printed by program (wip/tools/gv.py): what each function comes to, for all arguments. -/
import Derived.Test.YtkmlihdacnfhdaaGreatG2
import Derived.Test.YtkmlihdacnfhdaaGreatC
namespace Go.Proofs.YtkmlihdacnfhdaaGreat
open Go.Proofs.YtkmlihdacnfhdaaGreat.Tot (tot)
open Go.Proofs.YtkmlihdacnfhdaaGreat.Mark (cnt mrk mkd mkd_mark cnt_mark)
open Go.RowKit
set_option linter.unusedVariables false
set_option linter.unusedSimpArgs false
set_option maxRecDepth 100000
set_option maxHeartbeats 4000000


theorem St.open_Int {W w : World} {ps : List Prv} {F : List Nat} {b o m c : Nat} {l : List Int} (H : St W w ps [isF true F (.slice (some ⟨b, o, none⟩) m c) l]) (N : F.Nodup) (k : Nat) (hk : k < l.length) {y : Int} (hy : l[k]! = y) :
    ∃ (xs1 xs2 : List Value) (F1 F2 : List Nat) , F = b :: (F1 ++ [] ++ F2) ∧ xs1.length = k * 1 ∧ St W w ps [XC b o xs1 [.int .i64 y] xs2 F1 F2 (l.take k) (l.drop (k + 1))] ∧
      ([b :: (F1 ++ F2)] : List (List Nat)).flatten.Nodup := by
  obtain ⟨cs, xs1, xs2, F1, Fk, F2, rfl, hx, hr, hfr, hlt, H⟩ := H.openAt k hk
  rw [hy] at hr
  obtain ⟨hFF, rfl⟩ := hr
  exact ⟨xs1, xs2, F1, F2, by rw [hFF], hx, H, by have N' := nodup_hole N; rw [hFF] at N'; simpa using N'⟩

theorem St.open_Bool {W w : World} {ps : List Prv} {F : List Nat} {b o m c : Nat} {l : List Bool} (H : St W w ps [isF true F (.slice (some ⟨b, o, none⟩) m c) l]) (N : F.Nodup) (k : Nat) (hk : k < l.length) {y : Bool} (hy : l[k]! = y) :
    ∃ (xs1 xs2 : List Value) (F1 F2 : List Nat) , F = b :: (F1 ++ [] ++ F2) ∧ xs1.length = k * 1 ∧ St W w ps [XC b o xs1 [.bool y] xs2 F1 F2 (l.take k) (l.drop (k + 1))] ∧
      ([b :: (F1 ++ F2)] : List (List Nat)).flatten.Nodup := by
  obtain ⟨cs, xs1, xs2, F1, Fk, F2, rfl, hx, hr, hfr, hlt, H⟩ := H.openAt k hk
  rw [hy] at hr
  obtain ⟨hFF, rfl⟩ := hr
  exact ⟨xs1, xs2, F1, F2, by rw [hFF], hx, H, by have N' := nodup_hole N; rw [hFF] at N'; simpa using N'⟩

theorem St.open_List {α : Type} [qQ α] {W w : World} {ps : List Prv} {F : List Nat} {b o m c : Nat} {l : List (List α)} (H : St W w ps [isF true F (.slice (some ⟨b, o, none⟩) m c) l]) (N : F.Nodup) (k : Nat) (hk : k < l.length) {y : List α} (hy : l[k]! = y) :
    ∃ (xs1 xs2 : List Value) (F1 F2 : List Nat) (a : Option Addr) (c' : Nat) (Fk : List Nat), F = b :: (F1 ++ Fk ++ F2) ∧ xs1.length = k * 1 ∧ St W w ps [XC b o xs1 [.slice a y.length c'] xs2 F1 F2 (l.take k) (l.drop (k + 1)), isF true Fk (.slice a y.length c') y] ∧
      ([b :: (F1 ++ F2), Fk] : List (List Nat)).flatten.Nodup := by
  obtain ⟨cs, xs1, xs2, F1, Fk, F2, rfl, hx, hr, hfr, hlt, H⟩ := H.openAt k hk
  rw [hy] at hr
  obtain ⟨a, c', rfl, _⟩ := id hr
  exact ⟨xs1, xs2, F1, F2, a, c', Fk, rfl, hx, (H.add (isF true Fk (.slice a y.length c') y) ⟨hr, fun _ => hfr⟩ hlt).sel _ (.refl _) _ (all_of ⟨.tail _ (.head _), ⟨.head _, trivial⟩⟩), by simpa using nodup_hole N⟩

instance : Mark IntoD where
  cnt x := 1 + cnt x.zW
  mrk x k := ⟨mrk x.qA (k), mrk x.zW (k + 1)⟩
  mkd x k := mkd x.qA (k) ∧ mkd x.zW (k + 1)
  mkd_mark x k := by
    simp only [cnt_mark]
    exact ⟨mkd_mark _ _, mkd_mark _ _⟩
  cnt_mark x k := by simp only [cnt_mark]
theorem cnt_IntoD (x : IntoD) : cnt x = 1 + cnt x.zW := rfl

theorem St.open_IntoD {W w : World} {ps : List Prv} {F : List Nat} {b o m c : Nat} {l : List IntoD} (H : St W w ps [isF true F (.slice (some ⟨b, o, none⟩) m c) l]) (N : F.Nodup) (k : Nat) (hk : k < l.length) {y : IntoD} (hy : l[k]! = y) :
    ∃ (xs1 xs2 : List Value) (F1 F2 : List Nat) (aBag : Option Addr) (cBag : Nat) (FBag : List Nat), F = b :: (F1 ++ (FBag) ++ F2) ∧ xs1.length = k * 2 ∧ St W w ps [XC b o xs1 [.int .i64 y.qA, .slice aBag y.zW.length cBag] xs2 F1 F2 (l.take k) (l.drop (k + 1)), isF true FBag (.slice aBag y.zW.length cBag) y.zW] ∧
      ([b :: (F1 ++ F2), FBag] : List (List Nat)).flatten.Nodup := by
  obtain ⟨cs, xs1, xs2, F1, Fk, F2, rfl, hx, hr, hfr, hlt, H⟩ := H.openAt k hk
  rw [hy] at hr
  obtain ⟨vBag, FBag, rfl, hFF, hBag⟩ := hr
  obtain ⟨aBag, cBag, rfl⟩ := slice_form hBag
  exact ⟨xs1, xs2, F1, F2, _, _, _, by rw [hFF], hx, (H.add (isF true FBag (.slice aBag y.zW.length cBag) y.zW) ⟨hBag, fun _ => hfr.sub (by rw [hFF]; intro z hz; simp [hz])⟩ (fun z hz => hlt z (by rw [hFF]; have hz : z ∈ FBag := hz; simp [hz]))).sel _ (.refl _) _ (all_of ⟨.tail _ (.head _), ⟨.head _, trivial⟩⟩), by have N' := nodup_hole N; rw [hFF] at N'; simpa using N'⟩

instance : Mark QB where
  cnt x := 1 + 1 + cnt x.qW + cnt x.xg + cnt x.xk + cnt x.xw + cnt x.zf + cnt x.qB + 1
  mrk x k := ⟨mrk x.qA (k), mrk x.xZ (k + 1), mrk x.qW (k + 1 + 1), mrk x.xg (k + 1 + 1 + (cnt x.qW : Nat)), mrk x.xk (k + 1 + 1 + (cnt x.qW : Nat) + (cnt x.xg : Nat)), mrk x.xw (k + 1 + 1 + (cnt x.qW : Nat) + (cnt x.xg : Nat) + (cnt x.xk : Nat)), mrk x.zf (k + 1 + 1 + (cnt x.qW : Nat) + (cnt x.xg : Nat) + (cnt x.xk : Nat) + (cnt x.xw : Nat)), mrk x.qB (k + 1 + 1 + (cnt x.qW : Nat) + (cnt x.xg : Nat) + (cnt x.xk : Nat) + (cnt x.xw : Nat) + (cnt x.zf : Nat)), mrk x.xP (k + 1 + 1 + (cnt x.qW : Nat) + (cnt x.xg : Nat) + (cnt x.xk : Nat) + (cnt x.xw : Nat) + (cnt x.zf : Nat) + (cnt x.qB : Nat))⟩
  mkd x k := mkd x.qA (k) ∧ mkd x.xZ (k + 1) ∧ mkd x.qW (k + 1 + 1) ∧ mkd x.xg (k + 1 + 1 + (cnt x.qW : Nat)) ∧ mkd x.xk (k + 1 + 1 + (cnt x.qW : Nat) + (cnt x.xg : Nat)) ∧ mkd x.xw (k + 1 + 1 + (cnt x.qW : Nat) + (cnt x.xg : Nat) + (cnt x.xk : Nat)) ∧ mkd x.zf (k + 1 + 1 + (cnt x.qW : Nat) + (cnt x.xg : Nat) + (cnt x.xk : Nat) + (cnt x.xw : Nat)) ∧ mkd x.qB (k + 1 + 1 + (cnt x.qW : Nat) + (cnt x.xg : Nat) + (cnt x.xk : Nat) + (cnt x.xw : Nat) + (cnt x.zf : Nat)) ∧ mkd x.xP (k + 1 + 1 + (cnt x.qW : Nat) + (cnt x.xg : Nat) + (cnt x.xk : Nat) + (cnt x.xw : Nat) + (cnt x.zf : Nat) + (cnt x.qB : Nat))
  mkd_mark x k := by
    simp only [cnt_mark]
    exact ⟨mkd_mark _ _, mkd_mark _ _, mkd_mark _ _, mkd_mark _ _, mkd_mark _ _, mkd_mark _ _, mkd_mark _ _, mkd_mark _ _, mkd_mark _ _⟩
  cnt_mark x k := by simp only [cnt_mark]
theorem jZ (x : QB) : cnt x = 1 + 1 + cnt x.qW + cnt x.xg + cnt x.xk + cnt x.xw + cnt x.zf + cnt x.qB + 1 := rfl

theorem St.open_RuleD {W w : World} {ps : List Prv} {F : List Nat} {b o m c : Nat} {l : List QB} (H : St W w ps [isF true F (.slice (some ⟨b, o, none⟩) m c) l]) (N : F.Nodup) (k : Nat) (hk : k < l.length) {y : QB} (hy : l[k]! = y) :
    ∃ (xs1 xs2 : List Value) (F1 F2 : List Nat) (aNeed : Option Addr) (cNeed : Nat) (VC : List Nat) (aHave : Option Addr) (cHave : Nat) (VG : List Nat) (aLack : Option Addr) (cLack : Nat) (VD : List Nat) (aHere : Option Addr) (cHere : Nat) (VF : List Nat) (aOut : Option Addr) (cOut : Nat) (FOut : List Nat) (aInto : Option Addr) (cInto : Nat) (VE : List Nat), F = b :: (F1 ++ (VC ++ VG ++ VD ++ VF ++ FOut ++ VE) ++ F2) ∧ xs1.length = k * 9 ∧ St W w ps [XC b o xs1 [.int .i64 y.qA, .int .i64 y.xZ, .slice aNeed y.qW.length cNeed, .slice aHave y.xg.length cHave, .slice aLack y.xk.length cLack, .slice aHere y.xw.length cHere, .slice aOut y.zf.length cOut, .slice aInto y.qB.length cInto, .bool y.xP] xs2 F1 F2 (l.take k) (l.drop (k + 1)), isF true VC (.slice aNeed y.qW.length cNeed) y.qW, isF true VG (.slice aHave y.xg.length cHave) y.xg, isF true VD (.slice aLack y.xk.length cLack) y.xk, isF true VF (.slice aHere y.xw.length cHere) y.xw, isF true FOut (.slice aOut y.zf.length cOut) y.zf, isF true VE (.slice aInto y.qB.length cInto) y.qB] ∧
      ([b :: (F1 ++ F2), VC, VG, VD, VF, FOut, VE] : List (List Nat)).flatten.Nodup := by
  obtain ⟨cs, xs1, xs2, F1, Fk, F2, rfl, hx, hr, hfr, hlt, H⟩ := H.openAt k hk
  rw [hy] at hr
  obtain ⟨vNeed, vHave, vLack, vHere, vOut, vInto, VC, VG, VD, VF, FOut, VE, rfl, hFF, hNeed, hHave, hLack, hHere, hOut, hInto⟩ := hr
  obtain ⟨aNeed, cNeed, rfl⟩ := slice_form hNeed
  obtain ⟨aHave, cHave, rfl⟩ := slice_form hHave
  obtain ⟨aLack, cLack, rfl⟩ := slice_form hLack
  obtain ⟨aHere, cHere, rfl⟩ := slice_form hHere
  obtain ⟨aOut, cOut, rfl⟩ := slice_form hOut
  obtain ⟨aInto, cInto, rfl⟩ := slice_form hInto
  exact ⟨xs1, xs2, F1, F2, _, _, _, _, _, _, _, _, _, _, _, _, _, _, _, _, _, _, by rw [hFF], hx, ((((((H.add (isF true VE (.slice aInto y.qB.length cInto) y.qB) ⟨hInto, fun _ => hfr.sub (by rw [hFF]; intro z hz; simp [hz])⟩ (fun z hz => hlt z (by rw [hFF]; have hz : z ∈ VE := hz; simp [hz]))).add (isF true FOut (.slice aOut y.zf.length cOut) y.zf) ⟨hOut, fun _ => hfr.sub (by rw [hFF]; intro z hz; simp [hz])⟩ (fun z hz => hlt z (by rw [hFF]; have hz : z ∈ FOut := hz; simp [hz]))).add (isF true VF (.slice aHere y.xw.length cHere) y.xw) ⟨hHere, fun _ => hfr.sub (by rw [hFF]; intro z hz; simp [hz])⟩ (fun z hz => hlt z (by rw [hFF]; have hz : z ∈ VF := hz; simp [hz]))).add (isF true VD (.slice aLack y.xk.length cLack) y.xk) ⟨hLack, fun _ => hfr.sub (by rw [hFF]; intro z hz; simp [hz])⟩ (fun z hz => hlt z (by rw [hFF]; have hz : z ∈ VD := hz; simp [hz]))).add (isF true VG (.slice aHave y.xg.length cHave) y.xg) ⟨hHave, fun _ => hfr.sub (by rw [hFF]; intro z hz; simp [hz])⟩ (fun z hz => hlt z (by rw [hFF]; have hz : z ∈ VG := hz; simp [hz]))).add (isF true VC (.slice aNeed y.qW.length cNeed) y.qW) ⟨hNeed, fun _ => hfr.sub (by rw [hFF]; intro z hz; simp [hz])⟩ (fun z hz => hlt z (by rw [hFF]; have hz : z ∈ VC := hz; simp [hz]))).sel _ (.refl _) _ (all_of ⟨.tail _ (.tail _ (.tail _ (.tail _ (.tail _ (.tail _ (.head _)))))), ⟨.head _, ⟨.tail _ (.head _), ⟨.tail _ (.tail _ (.head _)), ⟨.tail _ (.tail _ (.tail _ (.head _))), ⟨.tail _ (.tail _ (.tail _ (.tail _ (.head _)))), ⟨.tail _ (.tail _ (.tail _ (.tail _ (.tail _ (.head _))))), trivial⟩⟩⟩⟩⟩⟩⟩), by have N' := nodup_hole N; rw [hFF] at N'; simpa using N'⟩

instance : Mark qP where
  cnt x := cnt x.qh + cnt x.qx + cnt x.ql
  mrk x k := ⟨mrk x.qh (k), mrk x.qx (k + (cnt x.qh : Nat)), mrk x.ql (k + (cnt x.qh : Nat) + (cnt x.qx : Nat))⟩
  mkd x k := mkd x.qh (k) ∧ mkd x.qx (k + (cnt x.qh : Nat)) ∧ mkd x.ql (k + (cnt x.qh : Nat) + (cnt x.qx : Nat))
  mkd_mark x k := by
    simp only [cnt_mark]
    exact ⟨mkd_mark _ _, mkd_mark _ _, mkd_mark _ _⟩
  cnt_mark x k := by simp only [cnt_mark]
theorem jY (x : qP) : cnt x = cnt x.qh + cnt x.qx + cnt x.ql := rfl

theorem St.open_StateD {W w : World} {ps : List Prv} {F : List Nat} {b o m c : Nat} {l : List qP} (H : St W w ps [isF true F (.slice (some ⟨b, o, none⟩) m c) l]) (N : F.Nodup) (k : Nat) (hk : k < l.length) {y : qP} (hy : l[k]! = y) :
    ∃ (xs1 xs2 : List Value) (F1 F2 : List Nat) (aAlive : Option Addr) (cAlive : Nat) (QS : List Nat) (aBags : Option Addr) (cBags : Nat) (VH : List Nat) (Vj : Option Addr) (Vh : Nat) (yj : List Nat), F = b :: (F1 ++ (QS ++ VH ++ yj) ++ F2) ∧ xs1.length = k * 3 ∧ St W w ps [XC b o xs1 [.slice aAlive y.qh.length cAlive, .slice aBags y.qx.length cBags, .slice Vj y.ql.length Vh] xs2 F1 F2 (l.take k) (l.drop (k + 1)), isF true QS (.slice aAlive y.qh.length cAlive) y.qh, isF true VH (.slice aBags y.qx.length cBags) y.qx, isF true yj (.slice Vj y.ql.length Vh) y.ql] ∧
      ([b :: (F1 ++ F2), QS, VH, yj] : List (List Nat)).flatten.Nodup := by
  obtain ⟨cs, xs1, xs2, F1, Fk, F2, rfl, hx, hr, hfr, hlt, H⟩ := H.openAt k hk
  rw [hy] at hr
  obtain ⟨vAlive, vBags, vAround, QS, VH, yj, rfl, hFF, hAlive, hBags, Xv⟩ := hr
  obtain ⟨aAlive, cAlive, rfl⟩ := slice_form hAlive
  obtain ⟨aBags, cBags, rfl⟩ := slice_form hBags
  obtain ⟨Vj, Vh, rfl⟩ := slice_form Xv
  exact ⟨xs1, xs2, F1, F2, _, _, _, _, _, _, _, _, _, by rw [hFF], hx, (((H.add (isF true yj (.slice Vj y.ql.length Vh) y.ql) ⟨Xv, fun _ => hfr.sub (by rw [hFF]; intro z hz; simp [hz])⟩ (fun z hz => hlt z (by rw [hFF]; have hz : z ∈ yj := hz; simp [hz]))).add (isF true VH (.slice aBags y.qx.length cBags) y.qx) ⟨hBags, fun _ => hfr.sub (by rw [hFF]; intro z hz; simp [hz])⟩ (fun z hz => hlt z (by rw [hFF]; have hz : z ∈ VH := hz; simp [hz]))).add (isF true QS (.slice aAlive y.qh.length cAlive) y.qh) ⟨hAlive, fun _ => hfr.sub (by rw [hFF]; intro z hz; simp [hz])⟩ (fun z hz => hlt z (by rw [hFF]; have hz : z ∈ QS := hz; simp [hz]))).sel _ (.refl _) _ (all_of ⟨.tail _ (.tail _ (.tail _ (.head _))), ⟨.head _, ⟨.tail _ (.head _), ⟨.tail _ (.tail _ (.head _)), trivial⟩⟩⟩⟩), by have N' := nodup_hole N; rw [hFF] at N'; simpa using N'⟩



end Go.Proofs.YtkmlihdacnfhdaaGreat
