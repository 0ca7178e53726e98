/- Walks, printed by program (wip/tools/gv.py): what each function comes to, for all arguments. -/
import Derived.Test.YtkmlihdacnfhdaaG2
import Derived.Test.YtkmlihdacnfhdaaC
namespace Go.Proofs.Ytkmlihdacnfhdaa
open Go.Proofs.Ytkmlihdacnfhdaa.Tot (tot)
open Go.Proofs.Ytkmlihdacnfhdaa.Mark (cnt mrk mkd mkd_mark cnt_mark)
open Go.RowKit
set_option linter.unusedVariables false
set_option linter.unusedSimpArgs false
set_option maxRecDepth 100000
set_option maxHeartbeats 4000000


theorem St.open_Int {W w : World} {ps : List Prv} {F : List Nat} {b o m c : Nat} {l : List Int} (H : St W w ps [isF true F (.slice (some ⟨b, o, none⟩) m c) l]) (N : F.Nodup) (k : Nat) (hk : k < l.length) {y : Int} (hy : l[k]! = y) :
    ∃ (xs1 xs2 : List Value) (F1 F2 : List Nat) , F = b :: (F1 ++ [] ++ F2) ∧ xs1.length = k * 1 ∧ St W w ps [holeF b o xs1 [.int .i64 y] xs2 F1 F2 (l.take k) (l.drop (k + 1))] ∧
      ([b :: (F1 ++ F2)] : List (List Nat)).flatten.Nodup := by
  obtain ⟨cs, xs1, xs2, F1, Fk, F2, rfl, hx, hr, hfr, hlt, H⟩ := H.openAt k hk
  rw [hy] at hr
  obtain ⟨hFF, rfl⟩ := hr
  exact ⟨xs1, xs2, F1, F2, by rw [hFF], hx, H, by have N' := nodup_hole N; rw [hFF] at N'; simpa using N'⟩

theorem St.open_Bool {W w : World} {ps : List Prv} {F : List Nat} {b o m c : Nat} {l : List Bool} (H : St W w ps [isF true F (.slice (some ⟨b, o, none⟩) m c) l]) (N : F.Nodup) (k : Nat) (hk : k < l.length) {y : Bool} (hy : l[k]! = y) :
    ∃ (xs1 xs2 : List Value) (F1 F2 : List Nat) , F = b :: (F1 ++ [] ++ F2) ∧ xs1.length = k * 1 ∧ St W w ps [holeF b o xs1 [.bool y] xs2 F1 F2 (l.take k) (l.drop (k + 1))] ∧
      ([b :: (F1 ++ F2)] : List (List Nat)).flatten.Nodup := by
  obtain ⟨cs, xs1, xs2, F1, Fk, F2, rfl, hx, hr, hfr, hlt, H⟩ := H.openAt k hk
  rw [hy] at hr
  obtain ⟨hFF, rfl⟩ := hr
  exact ⟨xs1, xs2, F1, F2, by rw [hFF], hx, H, by have N' := nodup_hole N; rw [hFF] at N'; simpa using N'⟩

theorem St.open_List {α : Type} [GoRep α] {W w : World} {ps : List Prv} {F : List Nat} {b o m c : Nat} {l : List (List α)} (H : St W w ps [isF true F (.slice (some ⟨b, o, none⟩) m c) l]) (N : F.Nodup) (k : Nat) (hk : k < l.length) {y : List α} (hy : l[k]! = y) :
    ∃ (xs1 xs2 : List Value) (F1 F2 : List Nat) (a : Option Addr) (c' : Nat) (Fk : List Nat), F = b :: (F1 ++ Fk ++ F2) ∧ xs1.length = k * 1 ∧ St W w ps [holeF b o xs1 [.slice a y.length c'] xs2 F1 F2 (l.take k) (l.drop (k + 1)), isF true Fk (.slice a y.length c') y] ∧
      ([b :: (F1 ++ F2), Fk] : List (List Nat)).flatten.Nodup := by
  obtain ⟨cs, xs1, xs2, F1, Fk, F2, rfl, hx, hr, hfr, hlt, H⟩ := H.openAt k hk
  rw [hy] at hr
  obtain ⟨a, c', rfl, _⟩ := id hr
  exact ⟨xs1, xs2, F1, F2, a, c', Fk, rfl, hx, (H.add (isF true Fk (.slice a y.length c') y) ⟨hr, fun _ => hfr⟩ hlt).sel _ (.refl _) _ (all_of ⟨.tail _ (.head _), ⟨.head _, trivial⟩⟩), by simpa using nodup_hole N⟩

instance : Mark IntoD where
  cnt x := 1 + cnt x.fBag
  mrk x k := ⟨mrk x.fCell (k), mrk x.fBag (k + 1)⟩
  mkd x k := mkd x.fCell (k) ∧ mkd x.fBag (k + 1)
  mkd_mark x k := by
    simp only [cnt_mark]
    exact ⟨mkd_mark _ _, mkd_mark _ _⟩
  cnt_mark x k := by simp only [cnt_mark]
theorem cnt_IntoD (x : IntoD) : cnt x = 1 + cnt x.fBag := rfl

theorem St.open_IntoD {W w : World} {ps : List Prv} {F : List Nat} {b o m c : Nat} {l : List IntoD} (H : St W w ps [isF true F (.slice (some ⟨b, o, none⟩) m c) l]) (N : F.Nodup) (k : Nat) (hk : k < l.length) {y : IntoD} (hy : l[k]! = y) :
    ∃ (xs1 xs2 : List Value) (F1 F2 : List Nat) (aBag : Option Addr) (cBag : Nat) (FBag : List Nat), F = b :: (F1 ++ (FBag) ++ F2) ∧ xs1.length = k * 2 ∧ St W w ps [holeF b o xs1 [.int .i64 y.fCell, .slice aBag y.fBag.length cBag] xs2 F1 F2 (l.take k) (l.drop (k + 1)), isF true FBag (.slice aBag y.fBag.length cBag) y.fBag] ∧
      ([b :: (F1 ++ F2), FBag] : List (List Nat)).flatten.Nodup := by
  obtain ⟨cs, xs1, xs2, F1, Fk, F2, rfl, hx, hr, hfr, hlt, H⟩ := H.openAt k hk
  rw [hy] at hr
  obtain ⟨vBag, FBag, rfl, hFF, hBag⟩ := hr
  obtain ⟨aBag, cBag, rfl⟩ := slice_form hBag
  exact ⟨xs1, xs2, F1, F2, _, _, _, by rw [hFF], hx, (H.add (isF true FBag (.slice aBag y.fBag.length cBag) y.fBag) ⟨hBag, fun _ => hfr.sub (by rw [hFF]; intro z hz; simp [hz])⟩ (fun z hz => hlt z (by rw [hFF]; have hz : z ∈ FBag := hz; simp [hz]))).sel _ (.refl _) _ (all_of ⟨.tail _ (.head _), ⟨.head _, trivial⟩⟩), by have N' := nodup_hole N; rw [hFF] at N'; simpa using N'⟩

instance : Mark RuleD where
  cnt x := 1 + 1 + cnt x.fNeed + cnt x.fHave + cnt x.fLack + cnt x.fHere + cnt x.fOut + cnt x.fInto + 1
  mrk x k := ⟨mrk x.fCell (k), mrk x.fRank (k + 1), mrk x.fNeed (k + 1 + 1), mrk x.fHave (k + 1 + 1 + (cnt x.fNeed : Nat)), mrk x.fLack (k + 1 + 1 + (cnt x.fNeed : Nat) + (cnt x.fHave : Nat)), mrk x.fHere (k + 1 + 1 + (cnt x.fNeed : Nat) + (cnt x.fHave : Nat) + (cnt x.fLack : Nat)), mrk x.fOut (k + 1 + 1 + (cnt x.fNeed : Nat) + (cnt x.fHave : Nat) + (cnt x.fLack : Nat) + (cnt x.fHere : Nat)), mrk x.fInto (k + 1 + 1 + (cnt x.fNeed : Nat) + (cnt x.fHave : Nat) + (cnt x.fLack : Nat) + (cnt x.fHere : Nat) + (cnt x.fOut : Nat)), mrk x.fMelts (k + 1 + 1 + (cnt x.fNeed : Nat) + (cnt x.fHave : Nat) + (cnt x.fLack : Nat) + (cnt x.fHere : Nat) + (cnt x.fOut : Nat) + (cnt x.fInto : Nat))⟩
  mkd x k := mkd x.fCell (k) ∧ mkd x.fRank (k + 1) ∧ mkd x.fNeed (k + 1 + 1) ∧ mkd x.fHave (k + 1 + 1 + (cnt x.fNeed : Nat)) ∧ mkd x.fLack (k + 1 + 1 + (cnt x.fNeed : Nat) + (cnt x.fHave : Nat)) ∧ mkd x.fHere (k + 1 + 1 + (cnt x.fNeed : Nat) + (cnt x.fHave : Nat) + (cnt x.fLack : Nat)) ∧ mkd x.fOut (k + 1 + 1 + (cnt x.fNeed : Nat) + (cnt x.fHave : Nat) + (cnt x.fLack : Nat) + (cnt x.fHere : Nat)) ∧ mkd x.fInto (k + 1 + 1 + (cnt x.fNeed : Nat) + (cnt x.fHave : Nat) + (cnt x.fLack : Nat) + (cnt x.fHere : Nat) + (cnt x.fOut : Nat)) ∧ mkd x.fMelts (k + 1 + 1 + (cnt x.fNeed : Nat) + (cnt x.fHave : Nat) + (cnt x.fLack : Nat) + (cnt x.fHere : Nat) + (cnt x.fOut : Nat) + (cnt x.fInto : Nat))
  mkd_mark x k := by
    simp only [cnt_mark]
    exact ⟨mkd_mark _ _, mkd_mark _ _, mkd_mark _ _, mkd_mark _ _, mkd_mark _ _, mkd_mark _ _, mkd_mark _ _, mkd_mark _ _, mkd_mark _ _⟩
  cnt_mark x k := by simp only [cnt_mark]
theorem cnt_RuleD (x : RuleD) : cnt x = 1 + 1 + cnt x.fNeed + cnt x.fHave + cnt x.fLack + cnt x.fHere + cnt x.fOut + cnt x.fInto + 1 := rfl

theorem St.open_RuleD {W w : World} {ps : List Prv} {F : List Nat} {b o m c : Nat} {l : List RuleD} (H : St W w ps [isF true F (.slice (some ⟨b, o, none⟩) m c) l]) (N : F.Nodup) (k : Nat) (hk : k < l.length) {y : RuleD} (hy : l[k]! = y) :
    ∃ (xs1 xs2 : List Value) (F1 F2 : List Nat) (aNeed : Option Addr) (cNeed : Nat) (FNeed : List Nat) (aHave : Option Addr) (cHave : Nat) (FHave : List Nat) (aLack : Option Addr) (cLack : Nat) (FLack : List Nat) (aHere : Option Addr) (cHere : Nat) (FHere : List Nat) (aOut : Option Addr) (cOut : Nat) (FOut : List Nat) (aInto : Option Addr) (cInto : Nat) (FInto : List Nat), F = b :: (F1 ++ (FNeed ++ FHave ++ FLack ++ FHere ++ FOut ++ FInto) ++ F2) ∧ xs1.length = k * 9 ∧ St W w ps [holeF b o xs1 [.int .i64 y.fCell, .int .i64 y.fRank, .slice aNeed y.fNeed.length cNeed, .slice aHave y.fHave.length cHave, .slice aLack y.fLack.length cLack, .slice aHere y.fHere.length cHere, .slice aOut y.fOut.length cOut, .slice aInto y.fInto.length cInto, .bool y.fMelts] xs2 F1 F2 (l.take k) (l.drop (k + 1)), isF true FNeed (.slice aNeed y.fNeed.length cNeed) y.fNeed, isF true FHave (.slice aHave y.fHave.length cHave) y.fHave, isF true FLack (.slice aLack y.fLack.length cLack) y.fLack, isF true FHere (.slice aHere y.fHere.length cHere) y.fHere, isF true FOut (.slice aOut y.fOut.length cOut) y.fOut, isF true FInto (.slice aInto y.fInto.length cInto) y.fInto] ∧
      ([b :: (F1 ++ F2), FNeed, FHave, FLack, FHere, FOut, FInto] : List (List Nat)).flatten.Nodup := by
  obtain ⟨cs, xs1, xs2, F1, Fk, F2, rfl, hx, hr, hfr, hlt, H⟩ := H.openAt k hk
  rw [hy] at hr
  obtain ⟨vNeed, vHave, vLack, vHere, vOut, vInto, FNeed, FHave, FLack, FHere, FOut, FInto, rfl, hFF, hNeed, hHave, hLack, hHere, hOut, hInto⟩ := hr
  obtain ⟨aNeed, cNeed, rfl⟩ := slice_form hNeed
  obtain ⟨aHave, cHave, rfl⟩ := slice_form hHave
  obtain ⟨aLack, cLack, rfl⟩ := slice_form hLack
  obtain ⟨aHere, cHere, rfl⟩ := slice_form hHere
  obtain ⟨aOut, cOut, rfl⟩ := slice_form hOut
  obtain ⟨aInto, cInto, rfl⟩ := slice_form hInto
  exact ⟨xs1, xs2, F1, F2, _, _, _, _, _, _, _, _, _, _, _, _, _, _, _, _, _, _, by rw [hFF], hx, ((((((H.add (isF true FInto (.slice aInto y.fInto.length cInto) y.fInto) ⟨hInto, fun _ => hfr.sub (by rw [hFF]; intro z hz; simp [hz])⟩ (fun z hz => hlt z (by rw [hFF]; have hz : z ∈ FInto := hz; simp [hz]))).add (isF true FOut (.slice aOut y.fOut.length cOut) y.fOut) ⟨hOut, fun _ => hfr.sub (by rw [hFF]; intro z hz; simp [hz])⟩ (fun z hz => hlt z (by rw [hFF]; have hz : z ∈ FOut := hz; simp [hz]))).add (isF true FHere (.slice aHere y.fHere.length cHere) y.fHere) ⟨hHere, fun _ => hfr.sub (by rw [hFF]; intro z hz; simp [hz])⟩ (fun z hz => hlt z (by rw [hFF]; have hz : z ∈ FHere := hz; simp [hz]))).add (isF true FLack (.slice aLack y.fLack.length cLack) y.fLack) ⟨hLack, fun _ => hfr.sub (by rw [hFF]; intro z hz; simp [hz])⟩ (fun z hz => hlt z (by rw [hFF]; have hz : z ∈ FLack := hz; simp [hz]))).add (isF true FHave (.slice aHave y.fHave.length cHave) y.fHave) ⟨hHave, fun _ => hfr.sub (by rw [hFF]; intro z hz; simp [hz])⟩ (fun z hz => hlt z (by rw [hFF]; have hz : z ∈ FHave := hz; simp [hz]))).add (isF true FNeed (.slice aNeed y.fNeed.length cNeed) y.fNeed) ⟨hNeed, fun _ => hfr.sub (by rw [hFF]; intro z hz; simp [hz])⟩ (fun z hz => hlt z (by rw [hFF]; have hz : z ∈ FNeed := hz; simp [hz]))).sel _ (.refl _) _ (all_of ⟨.tail _ (.tail _ (.tail _ (.tail _ (.tail _ (.tail _ (.head _)))))), ⟨.head _, ⟨.tail _ (.head _), ⟨.tail _ (.tail _ (.head _)), ⟨.tail _ (.tail _ (.tail _ (.head _))), ⟨.tail _ (.tail _ (.tail _ (.tail _ (.head _)))), ⟨.tail _ (.tail _ (.tail _ (.tail _ (.tail _ (.head _))))), trivial⟩⟩⟩⟩⟩⟩⟩), by have N' := nodup_hole N; rw [hFF] at N'; simpa using N'⟩

instance : Mark StateD where
  cnt x := cnt x.fAlive + cnt x.fBags + cnt x.fAround
  mrk x k := ⟨mrk x.fAlive (k), mrk x.fBags (k + (cnt x.fAlive : Nat)), mrk x.fAround (k + (cnt x.fAlive : Nat) + (cnt x.fBags : Nat))⟩
  mkd x k := mkd x.fAlive (k) ∧ mkd x.fBags (k + (cnt x.fAlive : Nat)) ∧ mkd x.fAround (k + (cnt x.fAlive : Nat) + (cnt x.fBags : Nat))
  mkd_mark x k := by
    simp only [cnt_mark]
    exact ⟨mkd_mark _ _, mkd_mark _ _, mkd_mark _ _⟩
  cnt_mark x k := by simp only [cnt_mark]
theorem cnt_StateD (x : StateD) : cnt x = cnt x.fAlive + cnt x.fBags + cnt x.fAround := rfl

theorem St.open_StateD {W w : World} {ps : List Prv} {F : List Nat} {b o m c : Nat} {l : List StateD} (H : St W w ps [isF true F (.slice (some ⟨b, o, none⟩) m c) l]) (N : F.Nodup) (k : Nat) (hk : k < l.length) {y : StateD} (hy : l[k]! = y) :
    ∃ (xs1 xs2 : List Value) (F1 F2 : List Nat) (aAlive : Option Addr) (cAlive : Nat) (FAlive : List Nat) (aBags : Option Addr) (cBags : Nat) (FBags : List Nat) (aAround : Option Addr) (cAround : Nat) (FAround : List Nat), F = b :: (F1 ++ (FAlive ++ FBags ++ FAround) ++ F2) ∧ xs1.length = k * 3 ∧ St W w ps [holeF b o xs1 [.slice aAlive y.fAlive.length cAlive, .slice aBags y.fBags.length cBags, .slice aAround y.fAround.length cAround] xs2 F1 F2 (l.take k) (l.drop (k + 1)), isF true FAlive (.slice aAlive y.fAlive.length cAlive) y.fAlive, isF true FBags (.slice aBags y.fBags.length cBags) y.fBags, isF true FAround (.slice aAround y.fAround.length cAround) y.fAround] ∧
      ([b :: (F1 ++ F2), FAlive, FBags, FAround] : List (List Nat)).flatten.Nodup := by
  obtain ⟨cs, xs1, xs2, F1, Fk, F2, rfl, hx, hr, hfr, hlt, H⟩ := H.openAt k hk
  rw [hy] at hr
  obtain ⟨vAlive, vBags, vAround, FAlive, FBags, FAround, rfl, hFF, hAlive, hBags, hAround⟩ := hr
  obtain ⟨aAlive, cAlive, rfl⟩ := slice_form hAlive
  obtain ⟨aBags, cBags, rfl⟩ := slice_form hBags
  obtain ⟨aAround, cAround, rfl⟩ := slice_form hAround
  exact ⟨xs1, xs2, F1, F2, _, _, _, _, _, _, _, _, _, by rw [hFF], hx, (((H.add (isF true FAround (.slice aAround y.fAround.length cAround) y.fAround) ⟨hAround, fun _ => hfr.sub (by rw [hFF]; intro z hz; simp [hz])⟩ (fun z hz => hlt z (by rw [hFF]; have hz : z ∈ FAround := hz; simp [hz]))).add (isF true FBags (.slice aBags y.fBags.length cBags) y.fBags) ⟨hBags, fun _ => hfr.sub (by rw [hFF]; intro z hz; simp [hz])⟩ (fun z hz => hlt z (by rw [hFF]; have hz : z ∈ FBags := hz; simp [hz]))).add (isF true FAlive (.slice aAlive y.fAlive.length cAlive) y.fAlive) ⟨hAlive, fun _ => hfr.sub (by rw [hFF]; intro z hz; simp [hz])⟩ (fun z hz => hlt z (by rw [hFF]; have hz : z ∈ FAlive := hz; simp [hz]))).sel _ (.refl _) _ (all_of ⟨.tail _ (.tail _ (.tail _ (.head _))), ⟨.head _, ⟨.tail _ (.head _), ⟨.tail _ (.tail _ (.head _)), trivial⟩⟩⟩⟩), by have N' := nodup_hole N; rw [hFF] at N'; simpa using N'⟩



end Go.Proofs.Ytkmlihdacnfhdaa
