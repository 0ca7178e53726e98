/- Walks, printed by program (wip/tools/gv.py): what each function comes to, for all arguments. -/
import Derived.Test.YtgjnaocffdhnbaaGreatG1
import Derived.Test.YtgjnaocffdhnbaaGreatI
import Derived.Test.YtgjnaocffdhnbaaGreatTI
namespace Go.Proofs.YtgjnaocffdhnbaaGreat
set_option linter.unusedVariables false
set_option linter.unusedSimpArgs false
open Go.Proofs.YtgjnaocffdhnbaaGreat.Tot (tot)
open Go.Proofs.YtgjnaocffdhnbaaGreat.Mark (cnt mrk mkd mkd_mark cnt_mark)
open Go.RowKit
set_option linter.unusedVariables false
set_option linter.unusedSimpArgs false
set_option maxRecDepth 100000
set_option maxHeartbeats 4000000

instance iS26_G2 : SliC Tryz.prog 26 4 := ⟨Tryz.underlying26⟩
instance iS27_G2 : SliC Tryz.prog 27 22 := ⟨Tryz.underlying27⟩
instance iT22_G2 : TIC Tryz.prog 22 (.slice none 0 0) 1 24 := ⟨ti22⟩
instance iA22_G2 : SclC Tryz.prog 22 := ⟨Tryz.isAgg22⟩
instance iC53_G2 : Qn Tryz.prog 53 := ⟨Tryz.call53⟩
instance iF190_1G2 : FldC Tryz.prog 190 1 1 := ⟨⟨_, _, _, Tryz.underlying190, rfl, rfl, Tryz.sizeOf22⟩⟩
instance iS109_G2 : SliC Tryz.prog 109 190 := ⟨Tryz.underlying109⟩
instance iT190_G2 : TIC Tryz.prog 190 (.agg #[.int .i64 0, .slice none 0 0]) 2 32 := ⟨ti190⟩
instance iC169_G2 : Qn Tryz.prog 169 := ⟨Tryz.call169⟩
instance iF111_2G2 : FldC Tryz.prog 111 2 2 := ⟨⟨_, _, _, Tryz.underlying111, rfl, rfl, Tryz.sizeOf22⟩⟩
instance iF111_3G2 : FldC Tryz.prog 111 3 3 := ⟨⟨_, _, _, Tryz.underlying111, rfl, rfl, Tryz.sizeOf22⟩⟩
instance iF111_4G2 : FldC Tryz.prog 111 4 4 := ⟨⟨_, _, _, Tryz.underlying111, rfl, rfl, Tryz.sizeOf22⟩⟩
instance iF111_5G2 : FldC Tryz.prog 111 5 5 := ⟨⟨_, _, _, Tryz.underlying111, rfl, rfl, Tryz.sizeOf22⟩⟩
instance iF111_6G2 : FldC Tryz.prog 111 6 6 := ⟨⟨_, _, _, Tryz.underlying111, rfl, rfl, Tryz.sizeOf22⟩⟩
instance iF111_7G2 : FldC Tryz.prog 111 7 7 := ⟨⟨_, _, _, Tryz.underlying111, rfl, rfl, Tryz.sizeOf109⟩⟩
instance iA109_G2 : SclC Tryz.prog 109 := ⟨Tryz.isAgg109⟩
instance iC132_G2 : Qn Tryz.prog 132 := ⟨Tryz.call132⟩
instance iS23_G2 : SliC Tryz.prog 23 111 := ⟨Tryz.underlying23⟩
instance iT111_G2 : TIC Tryz.prog 111 (.agg #[.int .i64 0, .int .i64 0, .slice none 0 0, .slice none 0 0, .slice none 0 0, .slice none 0 0, .slice none 0 0, .slice none 0 0, .bool false]) 9 168 := ⟨ti111⟩
instance iC97_G2 : Qn Tryz.prog 97 := ⟨Tryz.call97⟩
instance iF25_1G2 : FldC Tryz.prog 25 1 1 := ⟨⟨_, _, _, Tryz.underlying25, rfl, rfl, Tryz.sizeOf22⟩⟩
instance iF25_2G2 : FldC Tryz.prog 25 2 2 := ⟨⟨_, _, _, Tryz.underlying25, rfl, rfl, Tryz.sizeOf23⟩⟩
instance iA23_G2 : SclC Tryz.prog 23 := ⟨Tryz.isAgg23⟩
instance iC54_G2 : Qn Tryz.prog 54 := ⟨Tryz.call54⟩
instance iF29_0G2 : FldC Tryz.prog 29 0 0 := ⟨⟨_, _, _, Tryz.underlying29, rfl, rfl, Tryz.sizeOf26⟩⟩
instance iA26_G2 : SclC Tryz.prog 26 := ⟨Tryz.isAgg26⟩
instance iC55_G2 : Qn Tryz.prog 55 := ⟨Tryz.call55⟩
instance iF29_1G2 : FldC Tryz.prog 29 1 1 := ⟨⟨_, _, _, Tryz.underlying29, rfl, rfl, Tryz.sizeOf27⟩⟩
instance iA27_G2 : SclC Tryz.prog 27 := ⟨Tryz.isAgg27⟩
instance iC56_G2 : Qn Tryz.prog 56 := ⟨Tryz.call56⟩
instance iF29_2G2 : FldC Tryz.prog 29 2 2 := ⟨⟨_, _, _, Tryz.underlying29, rfl, rfl, Tryz.sizeOf22⟩⟩
instance iT4_G2 : TIC Tryz.prog 4 (.bool false) 1 1 := ⟨ti4⟩
instance iA4_G2 : SclC Tryz.prog 4 := ⟨Tryz.isAgg4⟩
instance iC59_G2 : Qn Tryz.prog 59 := ⟨Tryz.call59⟩
instance iF190_0G2 : FldC Tryz.prog 190 0 0 := ⟨⟨_, _, _, Tryz.underlying190, rfl, rfl, Tryz.sizeOf2⟩⟩
instance iF164_0G2 : FldC Tryz.prog 164 0 0 := ⟨⟨_, _, _, Tryz.underlying164, rfl, rfl, Tryz.sizeOf2⟩⟩
instance iF164_1G2 : FldC Tryz.prog 164 1 1 := ⟨⟨_, _, _, Tryz.underlying164, rfl, rfl, Tryz.sizeOf22⟩⟩
instance iC172_G2 : Qn Tryz.prog 172 := ⟨Tryz.call172⟩
instance iS119_G2 : SliC Tryz.prog 119 164 := ⟨Tryz.underlying119⟩
instance iT164_G2 : TIC Tryz.prog 164 (.agg #[.int .i64 0, .slice none 0 0]) 2 32 := ⟨ti164⟩
instance iF111_0G2 : FldC Tryz.prog 111 0 0 := ⟨⟨_, _, _, Tryz.underlying111, rfl, rfl, Tryz.sizeOf2⟩⟩
instance iF121_0G2 : FldC Tryz.prog 121 0 0 := ⟨⟨_, _, _, Tryz.underlying121, rfl, rfl, Tryz.sizeOf2⟩⟩
instance iF111_1G2 : FldC Tryz.prog 111 1 1 := ⟨⟨_, _, _, Tryz.underlying111, rfl, rfl, Tryz.sizeOf2⟩⟩
instance iF121_1G2 : FldC Tryz.prog 121 1 1 := ⟨⟨_, _, _, Tryz.underlying121, rfl, rfl, Tryz.sizeOf2⟩⟩
instance iF121_2G2 : FldC Tryz.prog 121 2 2 := ⟨⟨_, _, _, Tryz.underlying121, rfl, rfl, Tryz.sizeOf22⟩⟩
instance iF121_3G2 : FldC Tryz.prog 121 3 3 := ⟨⟨_, _, _, Tryz.underlying121, rfl, rfl, Tryz.sizeOf22⟩⟩
instance iF121_4G2 : FldC Tryz.prog 121 4 4 := ⟨⟨_, _, _, Tryz.underlying121, rfl, rfl, Tryz.sizeOf22⟩⟩
instance iF121_5G2 : FldC Tryz.prog 121 5 5 := ⟨⟨_, _, _, Tryz.underlying121, rfl, rfl, Tryz.sizeOf22⟩⟩
instance iF121_6G2 : FldC Tryz.prog 121 6 6 := ⟨⟨_, _, _, Tryz.underlying121, rfl, rfl, Tryz.sizeOf22⟩⟩
instance iC137_G2 : Qn Tryz.prog 137 := ⟨Tryz.call137⟩
instance iF121_7G2 : FldC Tryz.prog 121 7 7 := ⟨⟨_, _, _, Tryz.underlying121, rfl, rfl, Tryz.sizeOf119⟩⟩
instance iF111_8G2 : FldC Tryz.prog 111 8 8 := ⟨⟨_, _, _, Tryz.underlying111, rfl, rfl, Tryz.sizeOf4⟩⟩
instance iF121_8G2 : FldC Tryz.prog 121 8 8 := ⟨⟨_, _, _, Tryz.underlying121, rfl, rfl, Tryz.sizeOf4⟩⟩
instance iC103_G2 : Qn Tryz.prog 103 := ⟨Tryz.call103⟩
instance iS34_G2 : SliC Tryz.prog 34 121 := ⟨Tryz.underlying34⟩
instance iT121_G2 : TIC Tryz.prog 121 (.agg #[.int .i64 0, .int .i64 0, .slice none 0 0, .slice none 0 0, .slice none 0 0, .slice none 0 0, .slice none 0 0, .slice none 0 0, .bool false]) 9 168 := ⟨ti121⟩
instance iF25_0G2 : FldC Tryz.prog 25 0 0 := ⟨⟨_, _, _, Tryz.underlying25, rfl, rfl, Tryz.sizeOf2⟩⟩
instance iF36_0G2 : FldC Tryz.prog 36 0 0 := ⟨⟨_, _, _, Tryz.underlying36, rfl, rfl, Tryz.sizeOf2⟩⟩
instance iF36_1G2 : FldC Tryz.prog 36 1 1 := ⟨⟨_, _, _, Tryz.underlying36, rfl, rfl, Tryz.sizeOf22⟩⟩
instance iC60_G2 : Qn Tryz.prog 60 := ⟨Tryz.call60⟩
instance iF36_2G2 : FldC Tryz.prog 36 2 2 := ⟨⟨_, _, _, Tryz.underlying36, rfl, rfl, Tryz.sizeOf34⟩⟩
instance iC61_G2 : Qn Tryz.prog 61 := ⟨Tryz.call61⟩
instance iF38_0G2 : FldC Tryz.prog 38 0 0 := ⟨⟨_, _, _, Tryz.underlying38, rfl, rfl, Tryz.sizeOf26⟩⟩
instance iC62_G2 : Qn Tryz.prog 62 := ⟨Tryz.call62⟩
instance iF38_1G2 : FldC Tryz.prog 38 1 1 := ⟨⟨_, _, _, Tryz.underlying38, rfl, rfl, Tryz.sizeOf27⟩⟩
instance iF38_2G2 : FldC Tryz.prog 38 2 2 := ⟨⟨_, _, _, Tryz.underlying38, rfl, rfl, Tryz.sizeOf22⟩⟩
instance iC65_G2 : Qn Tryz.prog 65 := ⟨Tryz.call65⟩
instance iC179_G2 : Qn Tryz.prog 179 := ⟨Tryz.call179⟩
instance iA119_G2 : SclC Tryz.prog 119 := ⟨Tryz.isAgg119⟩
instance iC143_G2 : Qn Tryz.prog 143 := ⟨Tryz.call143⟩
instance iC109_G2 : Qn Tryz.prog 109 := ⟨Tryz.call109⟩
instance iA34_G2 : SclC Tryz.prog 34 := ⟨Tryz.isAgg34⟩
instance iC66_G2 : Qn Tryz.prog 66 := ⟨Tryz.call66⟩
instance iC67_G2 : Qn Tryz.prog 67 := ⟨Tryz.call67⟩
instance iC20_G2 : Qn Tryz.prog 20 := ⟨Tryz.call20⟩


theorem Qr (w : World) (x : List Int) (left : Int) (ax : Option Addr) (cx : Nat) (Fx : List Nat) (hx : qE.rep w Fx [.slice ax x.length cx] x) (p0 : 0 ≤ left ∧ left ≤ 2000000) : Calls Tryz.prog 53 #[.slice ax x.length cx, .int .i64 left] w (Ret (fun v w' => v = .int .i64 (szR (tot x) left)) w) := by
 refine en Tryz.func53 Tryz.ntmps53 ?_
 have H := (St.start w).arg hx
 have nhx := qA hx
 clear hx
 refine qi (ql ?_)
 refine sp (.int .i64 0) ?_
 refine qj (t_n (qi (ql ?_)))
 refine sps [.int .i64 left, .slice ax x.length cx] ?_
 refine oN rfl ?_
 refine sw (o_sub left x.length rfl rfl (by omega) ?_)
 refine sp (.int .i64 (left - x.length)) ?_
 refine qj (t_n (qi (qi (ql ?_))))
 refine sps [.int .i64 (left - x.length), .bool (decide ((left - x.length : Int) < 0))] ?_
 refine qj (t_n ?_)
 refine qC (decide ((left - x.length : Int) < 0)) rfl (fun h1 => ?_) (fun h1 => ?_)
 ·skip
  replace h1 := of_decide_eq_true h1
  refine qi (ql ?_)
  refine sp (.int .i64 (-1)) ?_
  refine qj (t_n (qV (t_r ?_)))
  refine ret1 (.int .i64 (-1)) rfl rfl ⟨_, rfl, ?_, H.base⟩
  refine congrArg (Value.int .i64) ?_
  have := xM (tot x) left
  rw [tot_ints] at *
  try omega
 replace h1 := of_decide_eq_false h1
 refine qM (t_n (qi (ql ?_)))
 refine sps [.int .i64 (left - x.length), .int .i64 (left - x.length)] ?_
 refine qj (t_n (qV ?_))
 refine ret1 (.int .i64 (left - x.length)) rfl rfl ⟨_, rfl, ?_, H.base⟩
 refine congrArg (Value.int .i64) ?_
 have := xM (tot x) left
 rw [tot_ints] at *
 try omega

theorem szBoolS_ok (w : World) (x : List Bool) (left : Int) (ax : Option Addr) (cx : Nat) (Fx : List Nat) (hx : qE.rep w Fx [.slice ax x.length cx] x) (p0 : 0 ≤ left ∧ left ≤ 2000000) : Calls Tryz.prog 55 #[.slice ax x.length cx, .int .i64 left] w (Ret (fun v w' => v = .int .i64 (szR (tot x) left)) w) := by
 refine en Tryz.func55 Tryz.ntmps55 ?_
 have H := (St.start w).arg hx
 have nhx := qA hx
 clear hx
 refine qi (ql ?_)
 refine sp (.int .i64 0) ?_
 refine qj (t_n (qi (ql ?_)))
 refine sps [.int .i64 left, .slice ax x.length cx] ?_
 refine oN rfl ?_
 refine sw (o_sub left x.length rfl rfl (by omega) ?_)
 refine sp (.int .i64 (left - x.length)) ?_
 refine qj (t_n (qi (qi (ql ?_))))
 refine sps [.int .i64 (left - x.length), .bool (decide ((left - x.length : Int) < 0))] ?_
 refine qj (t_n ?_)
 refine qC (decide ((left - x.length : Int) < 0)) rfl (fun h1 => ?_) (fun h1 => ?_)
 ·skip
  replace h1 := of_decide_eq_true h1
  refine qi (ql ?_)
  refine sp (.int .i64 (-1)) ?_
  refine qj (t_n (qV (t_r ?_)))
  refine ret1 (.int .i64 (-1)) rfl rfl ⟨_, rfl, ?_, H.base⟩
  refine congrArg (Value.int .i64) ?_
  have := xM (tot x) left
  rw [tot_bools] at *
  try omega
 replace h1 := of_decide_eq_false h1
 refine qM (t_n (qi (ql ?_)))
 refine sps [.int .i64 (left - x.length), .int .i64 (left - x.length)] ?_
 refine qj (t_n (qV ?_))
 refine ret1 (.int .i64 (left - x.length)) rfl rfl ⟨_, rfl, ?_, H.base⟩
 refine congrArg (Value.int .i64) ?_
 have := xM (tot x) left
 rw [tot_bools] at *
 try omega

theorem szInt64SS_ok (w : World) (x : List (List Int)) (left : Int) (ax : Option Addr) (cx : Nat) (Fx : List Nat) (hx : qE.rep w Fx [.slice ax x.length cx] x) (p0 : 0 ≤ left ∧ left ≤ 2000000) : Calls Tryz.prog 56 #[.slice ax x.length cx, .int .i64 left] w (Ret (fun v w' => v = .int .i64 (szR (tot x) left)) w) := by
 refine en Tryz.func56 Tryz.ntmps56 ?_
 have H := (St.start w).arg hx
 have nhx := qA hx
 clear hx
 refine qi (ql ?_)
 refine sp (.int .i64 0) ?_
 refine qj (t_n (qi (ql ?_)))
 refine sps [.int .i64 left, .slice ax x.length cx] ?_
 refine oN rfl ?_
 refine sw (o_sub left x.length rfl rfl (by omega) ?_)
 refine sp (.int .i64 (left - x.length)) ?_
 refine qj (t_n (qi (qi (ql ?_))))
 refine sps [.int .i64 (left - x.length), .bool (decide ((left - x.length : Int) < 0))] ?_
 refine qj (t_n ?_)
 refine qC (decide ((left - x.length : Int) < 0)) rfl (fun h1 => ?_) (fun h1 => ?_)
 ·skip
  replace h1 := of_decide_eq_true h1
  refine qi (ql ?_)
  refine sp (.int .i64 (-1)) ?_
  refine qj (t_n (qV (t_r ?_)))
  refine ret1 (.int .i64 (-1)) rfl rfl ⟨_, rfl, ?_, H.base⟩
  refine congrArg (Value.int .i64) ?_
  have := xM (tot x) left
  have := len_tot x
  omega
 replace h1 := of_decide_eq_false h1
 refine qM (t_n (qi (qi (ql ?_))))
 refine sp (.int .i64 0) ?_
 refine qj (t_n (qW ?_))
 refine zf (fun m' ρ w2 => ∃ (junk : Env) (k : Nat) (r : Int), ρ = upd (upd (upd junk 0 (.slice ax x.length cx)) 1 (.int .i64 r)) 5 (.int .i64 k) ∧ (k ≤ x.length) ∧ (r = left - (x.length : Int) - (totTo x k : Nat)) ∧ (0 ≤ r) ∧ m' = x.length - k ∧ St w w2 [] [isF false Fx (.slice ax x.length cx) x]) (x.length - 0) ⟨_, 0, left - (x.length : Int), (by exact qg (qg (qg (rfl) rfl) rfl) rfl), (by omega), (by rw [totTo_zero]; omega), (by omega), rfl, H⟩ ?_
 clear H
 rintro m' ρ w3 ⟨junk, k, r, rfl, i0, i1, i2, rfl, H⟩
 refine qi (qi (ql ?_))
 refine sps [.int .i64 k, .slice ax x.length cx] ?_
 refine oN rfl ?_
 refine sp (.bool (decide ((k : Int) < x.length))) ?_
 refine qj (t_n ?_)
 refine qC (decide ((k : Int) < x.length)) rfl (fun h4 => ?_) (fun h4 => ?_)
 ·skip
  replace h4 := of_decide_eq_true h4
  refine qM (t_n (qi (qW (qi (ql ?_)))))
  refine sps [.slice ax x.length cx, .int .i64 k] ?_
  obtain ⟨b5, o6, rfl⟩ := H.addr 0 rfl (by omega)
  obtain ⟨ae7, ce7, Fe7, H⟩ := H.jo 0 rfl k k (by omega) (by omega) (by omega)
  refine oI rfl rfl ?_
  refine oL rfl (H.xJ 1 rfl 0 rfl) ?_
  refine sp (.int .i64 r) ?_
  refine sw (oc (Qr _ (x[k]!) r _ _ _ (H.get 0 rfl).1 (by omega)) ?_)
  rintro _ w8 rfl x9
  replace H := H.ext x9
  have := xM (tot (x[k]!)) r
  refine sp (.int .i64 (szR (tot (x[k]!)) r)) ?_
  refine qj (t_n (qi (ql ?_)))
  refine sps [.int .i64 (szR (tot (x[k]!)) r), .bool (decide ((szR (tot (x[k]!)) r : Int) < 0))] ?_
  refine qj (t_n ?_)
  refine qC (decide ((szR (tot (x[k]!)) r : Int) < 0)) rfl (fun h10 => ?_) (fun h10 => ?_)
  ·skip
   replace h10 := of_decide_eq_true h10
   refine qi (ql ?_)
   refine sp (.int .i64 (-1)) ?_
   refine qj (t_n (qV (b_r (t_r (t_r (b_r (t_r ?_)))))))
   refine ret1 (.int .i64 (-1)) rfl rfl ⟨_, rfl, ?_, H.base⟩
   refine congrArg (Value.int .i64) ?_
   have := xM (tot x) left
   have := tot_get (l := x) (k := k) (by omega)
   omega
  replace h10 := of_decide_eq_false h10
  refine qM (b_n (t_n (ql ?_)))
  refine sp (.int .i64 k) ?_
  refine sw (zk k 1 rfl rfl (by omega) ?_)
  refine sp (.int .i64 (k + 1)) ?_
  refine qj ?_
  refine xk (m' := x.length - (k + 1)) (by omega) ⟨_, k + 1, szR (tot (x[k]!)) r, (by exact qg (qg (qg (rfl) rfl) rfl) rfl), ?_, ?_, ?_, rfl, H.sel _ (.refl _) _ (by simp)⟩
  · omega
  · rw [totTo_succ]; omega
  · omega
 replace h4 := of_decide_eq_false h4
 refine xQ (t_x (t_x (b_x (t_n (qi (ql ?_))))))
 refine sps [.int .i64 r, .int .i64 r] ?_
 refine qj (t_n (qV ?_))
 refine ret1 (.int .i64 r) rfl rfl ⟨_, rfl, ?_, H.base⟩
 refine congrArg (Value.int .i64) ?_
 obtain rfl : k = x.length := by omega
 have := xM (tot x) left
 rw [tot_list] at *
 omega

theorem szInto_ok (w : World) (x : IntoD) (left : Int) (axBag : Option Addr) (cxBag : Nat) (FxBag : List Nat) (hxBag : qE.rep w FxBag [.slice axBag x.zZ.length cxBag] x.zZ) (p0 : 0 ≤ left ∧ left ≤ 2000000) : Calls Tryz.prog 169 #[.agg #[.int .i64 x.qw, .slice axBag x.zZ.length cxBag], .int .i64 left] w (Ret (fun v w' => v = .int .i64 (szR (tot x) left)) w) := by
 refine en Tryz.func169 Tryz.ntmps169 ?_
 have H := (St.start w).arg hxBag
 have nhxBag := qA hxBag
 clear hxBag
 refine qi (ql ?_)
 refine sw (o_box H (.agg #[.int .i64 x.qw, .slice axBag x.zZ.length cxBag]) rfl fun b1 w2 H => ?_)
 replace H : St _ _ [.box b1 [.int .i64 x.qw, .slice axBag x.zZ.length cxBag] 190] _ := H
 refine sp (.int .i64 0) ?_
 refine qj (t_n (qi (ql ?_)))
 refine oF rfl ?_
 refine oL rfl (H.cell 0 rfl rfl) ?_
 refine sp (.int .i64 left) ?_
 refine sw (oc (Qr _ x.zZ left _ _ _ (H.get 0 rfl).1 (by omega)) ?_)
 rintro _ w3 rfl x4
 replace H := H.ext x4
 have := xM (tot x.zZ) left
 refine sp (.int .i64 (szR (tot x.zZ) left)) ?_
 refine qj (t_n (qi (qi (ql ?_))))
 refine sps [.int .i64 (szR (tot x.zZ) left), .bool (decide ((szR (tot x.zZ) left : Int) < 0))] ?_
 refine qj (t_n ?_)
 refine qC (decide ((szR (tot x.zZ) left : Int) < 0)) rfl (fun h5 => ?_) (fun h5 => ?_)
 ·skip
  replace h5 := of_decide_eq_true h5
  refine qi (ql ?_)
  refine sp (.int .i64 (-1)) ?_
  refine qj (t_n (qV (t_r ?_)))
  refine ret1 (.int .i64 (-1)) rfl rfl ⟨_, rfl, ?_, H.base⟩
  refine congrArg (Value.int .i64) ?_
  have := xM (tot x) left
  rw [tot_IntoD] at *
  try omega
 replace h5 := of_decide_eq_false h5
 refine qM (t_n (qi (ql ?_)))
 refine sps [.int .i64 (szR (tot x.zZ) left), .int .i64 (szR (tot x.zZ) left)] ?_
 refine qj (t_n (qV ?_))
 refine ret1 (.int .i64 (szR (tot x.zZ) left)) rfl rfl ⟨_, rfl, ?_, H.base⟩
 refine congrArg (Value.int .i64) ?_
 have := xM (tot x) left
 rw [tot_IntoD] at *
 try omega

theorem szIntoS_ok (w : World) (x : List IntoD) (left : Int) (ax : Option Addr) (cx : Nat) (Fx : List Nat) (hx : qE.rep w Fx [.slice ax x.length cx] x) (p0 : 0 ≤ left ∧ left ≤ 2000000) : Calls Tryz.prog 132 #[.slice ax x.length cx, .int .i64 left] w (Ret (fun v w' => v = .int .i64 (szR (tot x) left)) w) := by
 refine en Tryz.func132 Tryz.ntmps132 ?_
 have H := (St.start w).arg hx
 have nhx := qA hx
 clear hx
 refine qi (ql ?_)
 refine sp (.int .i64 0) ?_
 refine qj (t_n (qi (ql ?_)))
 refine sps [.int .i64 left, .slice ax x.length cx] ?_
 refine oN rfl ?_
 refine sw (o_sub left x.length rfl rfl (by omega) ?_)
 refine sp (.int .i64 (left - x.length)) ?_
 refine qj (t_n (qi (qi (ql ?_))))
 refine sps [.int .i64 (left - x.length), .bool (decide ((left - x.length : Int) < 0))] ?_
 refine qj (t_n ?_)
 refine qC (decide ((left - x.length : Int) < 0)) rfl (fun h1 => ?_) (fun h1 => ?_)
 ·skip
  replace h1 := of_decide_eq_true h1
  refine qi (ql ?_)
  refine sp (.int .i64 (-1)) ?_
  refine qj (t_n (qV (t_r ?_)))
  refine ret1 (.int .i64 (-1)) rfl rfl ⟨_, rfl, ?_, H.base⟩
  refine congrArg (Value.int .i64) ?_
  have := xM (tot x) left
  have := len_tot x
  omega
 replace h1 := of_decide_eq_false h1
 refine qM (t_n (qi (qi (ql ?_))))
 refine sp (.int .i64 0) ?_
 refine qj (t_n (qW ?_))
 refine zf (fun m' ρ w2 => ∃ (junk : Env) (k : Nat) (r : Int), ρ = upd (upd (upd junk 0 (.slice ax x.length cx)) 1 (.int .i64 r)) 5 (.int .i64 k) ∧ (k ≤ x.length) ∧ (r = left - (x.length : Int) - (totTo x k : Nat)) ∧ (0 ≤ r) ∧ m' = x.length - k ∧ St w w2 [] [isF false Fx (.slice ax x.length cx) x]) (x.length - 0) ⟨_, 0, left - (x.length : Int), (by exact qg (qg (qg (rfl) rfl) rfl) rfl), (by omega), (by rw [totTo_zero]; omega), (by omega), rfl, H⟩ ?_
 clear H
 rintro m' ρ w3 ⟨junk, k, r, rfl, i0, i1, i2, rfl, H⟩
 refine qi (qi (ql ?_))
 refine sps [.int .i64 k, .slice ax x.length cx] ?_
 refine oN rfl ?_
 refine sp (.bool (decide ((k : Int) < x.length))) ?_
 refine qj (t_n ?_)
 refine qC (decide ((k : Int) < x.length)) rfl (fun h4 => ?_) (fun h4 => ?_)
 ·skip
  replace h4 := of_decide_eq_true h4
  refine qM (t_n (qi (qW (qi (ql ?_)))))
  refine sps [.slice ax x.length cx, .int .i64 k] ?_
  obtain ⟨b5, o6, rfl⟩ := H.addr 0 rfl (by omega)
  obtain ⟨ae7Bag, ce7Bag, Fe7Bag, H⟩ := H.jC 0 rfl k k (by omega) (by omega) (by omega)
  refine oI rfl rfl ?_
  refine sw (zC [.int .i64 ((x[k]!).qw), .slice ae7Bag (((x[k]!).zZ).length) ce7Bag] Tryz.isAgg190 Tryz.sizeOf190 rfl (qI (H.get 1 rfl) 0 2) ?_)
  refine sp (.int .i64 r) ?_
  refine sw (oc (szInto_ok _ (x[k]!) r _ _ _ (H.get 0 rfl).1 (by omega)) ?_)
  rintro _ w8 rfl x9
  replace H := H.ext x9
  have := xM (tot (x[k]!)) r
  refine sp (.int .i64 (szR (tot (x[k]!)) r)) ?_
  refine qj (t_n (qi (ql ?_)))
  refine sps [.int .i64 (szR (tot (x[k]!)) r), .bool (decide ((szR (tot (x[k]!)) r : Int) < 0))] ?_
  refine qj (t_n ?_)
  refine qC (decide ((szR (tot (x[k]!)) r : Int) < 0)) rfl (fun h10 => ?_) (fun h10 => ?_)
  ·skip
   replace h10 := of_decide_eq_true h10
   refine qi (ql ?_)
   refine sp (.int .i64 (-1)) ?_
   refine qj (t_n (qV (b_r (t_r (t_r (b_r (t_r ?_)))))))
   refine ret1 (.int .i64 (-1)) rfl rfl ⟨_, rfl, ?_, H.base⟩
   refine congrArg (Value.int .i64) ?_
   have := xM (tot x) left
   have := tot_get (l := x) (k := k) (by omega)
   omega
  replace h10 := of_decide_eq_false h10
  refine qM (b_n (t_n (ql ?_)))
  refine sp (.int .i64 k) ?_
  refine sw (zk k 1 rfl rfl (by omega) ?_)
  refine sp (.int .i64 (k + 1)) ?_
  refine qj ?_
  refine xk (m' := x.length - (k + 1)) (by omega) ⟨_, k + 1, szR (tot (x[k]!)) r, (by exact qg (qg (qg (rfl) rfl) rfl) rfl), ?_, ?_, ?_, rfl, H.sel _ (.refl _) _ (by simp)⟩
  · omega
  · rw [totTo_succ]; omega
  · omega
 replace h4 := of_decide_eq_false h4
 refine xQ (t_x (t_x (b_x (t_n (qi (ql ?_))))))
 refine sps [.int .i64 r, .int .i64 r] ?_
 refine qj (t_n (qV ?_))
 refine ret1 (.int .i64 r) rfl rfl ⟨_, rfl, ?_, H.base⟩
 refine congrArg (Value.int .i64) ?_
 obtain rfl : k = x.length := by omega
 have := xM (tot x) left
 rw [tot_list] at *
 omega

theorem szRule_ok (w : World) (x : Qm) (left : Int) (Qd : Option Addr) (yY : Nat) (FxNeed : List Nat) (Qi : Option Addr) (Qb : Nat) (FxHave : List Nat) (Qe : Option Addr) (yZ : Nat) (FxLack : List Nat) (Qh : Option Addr) (Qa : Nat) (FxHere : List Nat) (axOut : Option Addr) (cxOut : Nat) (FxOut : List Nat) (Qg : Option Addr) (y9 : Nat) (FxInto : List Nat) (hxNeed : qE.rep w FxNeed [.slice Qd x.qO.length yY] x.qO) (hxHave : qE.rep w FxHave [.slice Qi x.qX.length Qb] x.qX) (hxLack : qE.rep w FxLack [.slice Qe x.xe.length yZ] x.xe) (hxHere : qE.rep w FxHere [.slice Qh x.xm.length Qa] x.xm) (hxOut : qE.rep w FxOut [.slice axOut x.xZ.length cxOut] x.xZ) (hxInto : qE.rep w FxInto [.slice Qg x.qF.length y9] x.qF) (p0 : 0 ≤ left ∧ left ≤ 2000000) : Calls Tryz.prog 97 #[.agg #[.int .i64 x.qw, .int .i64 x.xN, .slice Qd x.qO.length yY, .slice Qi x.qX.length Qb, .slice Qe x.xe.length yZ, .slice Qh x.xm.length Qa, .slice axOut x.xZ.length cxOut, .slice Qg x.qF.length y9, .bool x.xO], .int .i64 left] w (Ret (fun v w' => v = .int .i64 (szR (tot x) left)) w) := by
 refine en Tryz.func97 Tryz.ntmps97 ?_
 have H := ((((((St.start w).arg hxInto).arg hxOut).arg hxHere).arg hxLack).arg hxHave).arg hxNeed
 have nhxNeed := qA hxNeed
 have nhxHave := qA hxHave
 have nhxLack := qA hxLack
 have nhxHere := qA hxHere
 have nhxOut := qA hxOut
 have nhxInto := qA hxInto
 clear hxNeed hxHave hxLack hxHere hxOut hxInto
 refine qi (ql ?_)
 refine sw (o_box H (.agg #[.int .i64 x.qw, .int .i64 x.xN, .slice Qd x.qO.length yY, .slice Qi x.qX.length Qb, .slice Qe x.xe.length yZ, .slice Qh x.xm.length Qa, .slice axOut x.xZ.length cxOut, .slice Qg x.qF.length y9, .bool x.xO]) rfl fun b1 w2 H => ?_)
 replace H : St _ _ [.box b1 [.int .i64 x.qw, .int .i64 x.xN, .slice Qd x.qO.length yY, .slice Qi x.qX.length Qb, .slice Qe x.xe.length yZ, .slice Qh x.xm.length Qa, .slice axOut x.xZ.length cxOut, .slice Qg x.qF.length y9, .bool x.xO] 111] _ := H
 refine sp (.int .i64 0) ?_
 refine qj (t_n (qi (ql ?_)))
 refine oF rfl ?_
 refine oL rfl (H.cell 0 rfl rfl) ?_
 refine sp (.int .i64 left) ?_
 refine sw (oc (Qr _ x.qO left _ _ _ (H.get 0 rfl).1 (by omega)) ?_)
 rintro _ w3 rfl x4
 replace H := H.ext x4
 have := xM (tot x.qO) left
 refine sp (.int .i64 (szR (tot x.qO) left)) ?_
 refine qj (t_n (qi (qi (ql ?_))))
 refine sps [.int .i64 (szR (tot x.qO) left), .bool (decide ((szR (tot x.qO) left : Int) < 0))] ?_
 refine qj (t_n ?_)
 refine qC (decide ((szR (tot x.qO) left : Int) < 0)) rfl (fun h5 => ?_) (fun h5 => ?_)
 ·skip
  replace h5 := of_decide_eq_true h5
  refine qi (ql ?_)
  refine sp (.int .i64 (-1)) ?_
  refine qj (t_n (qV (t_r ?_)))
  refine ret1 (.int .i64 (-1)) rfl rfl ⟨_, rfl, ?_, H.base⟩
  refine congrArg (Value.int .i64) ?_
  have := xM (tot x) left
  rw [tot_RuleD] at *
  try omega
 replace h5 := of_decide_eq_false h5
 refine qM (t_n (qi (ql ?_)))
 refine oF rfl ?_
 refine oL rfl (H.cell 0 rfl rfl) ?_
 refine sp (.int .i64 (szR (tot x.qO) left)) ?_
 refine sw (oc (Qr _ x.qX (szR (tot x.qO) left) _ _ _ (H.get 1 rfl).1 (by omega)) ?_)
 rintro _ w6 rfl x7
 replace H := H.ext x7
 have := xM (tot x.qX) (szR (tot x.qO) left)
 refine sp (.int .i64 (szR (tot x.qX) (szR (tot x.qO) left))) ?_
 refine qj (t_n (qi (qi (ql ?_))))
 refine sps [.int .i64 (szR (tot x.qX) (szR (tot x.qO) left)), .bool (decide ((szR (tot x.qX) (szR (tot x.qO) left) : Int) < 0))] ?_
 refine qj (t_n ?_)
 refine qC (decide ((szR (tot x.qX) (szR (tot x.qO) left) : Int) < 0)) rfl (fun h8 => ?_) (fun h8 => ?_)
 ·skip
  replace h8 := of_decide_eq_true h8
  refine qi (ql ?_)
  refine sp (.int .i64 (-1)) ?_
  refine qj (t_n (qV (t_r ?_)))
  refine ret1 (.int .i64 (-1)) rfl rfl ⟨_, rfl, ?_, H.base⟩
  refine congrArg (Value.int .i64) ?_
  have := xM (tot x) left
  rw [tot_RuleD] at *
  try omega
 replace h8 := of_decide_eq_false h8
 refine qM (t_n (qi (ql ?_)))
 refine oF rfl ?_
 refine oL rfl (H.cell 0 rfl rfl) ?_
 refine sp (.int .i64 (szR (tot x.qX) (szR (tot x.qO) left))) ?_
 refine sw (oc (Qr _ x.xe (szR (tot x.qX) (szR (tot x.qO) left)) _ _ _ (H.get 2 rfl).1 (by omega)) ?_)
 rintro _ w9 rfl x10
 replace H := H.ext x10
 have := xM (tot x.xe) (szR (tot x.qX) (szR (tot x.qO) left))
 refine sp (.int .i64 (szR (tot x.xe) (szR (tot x.qX) (szR (tot x.qO) left)))) ?_
 refine qj (t_n (qi (qi (ql ?_))))
 refine sps [.int .i64 (szR (tot x.xe) (szR (tot x.qX) (szR (tot x.qO) left))), .bool (decide ((szR (tot x.xe) (szR (tot x.qX) (szR (tot x.qO) left)) : Int) < 0))] ?_
 refine qj (t_n ?_)
 refine qC (decide ((szR (tot x.xe) (szR (tot x.qX) (szR (tot x.qO) left)) : Int) < 0)) rfl (fun h11 => ?_) (fun h11 => ?_)
 ·skip
  replace h11 := of_decide_eq_true h11
  refine qi (ql ?_)
  refine sp (.int .i64 (-1)) ?_
  refine qj (t_n (qV (t_r ?_)))
  refine ret1 (.int .i64 (-1)) rfl rfl ⟨_, rfl, ?_, H.base⟩
  refine congrArg (Value.int .i64) ?_
  have := xM (tot x) left
  rw [tot_RuleD] at *
  try omega
 replace h11 := of_decide_eq_false h11
 refine qM (t_n (qi (ql ?_)))
 refine oF rfl ?_
 refine oL rfl (H.cell 0 rfl rfl) ?_
 refine sp (.int .i64 (szR (tot x.xe) (szR (tot x.qX) (szR (tot x.qO) left)))) ?_
 refine sw (oc (Qr _ x.xm (szR (tot x.xe) (szR (tot x.qX) (szR (tot x.qO) left))) _ _ _ (H.get 3 rfl).1 (by omega)) ?_)
 rintro _ w12 rfl x13
 replace H := H.ext x13
 have := xM (tot x.xm) (szR (tot x.xe) (szR (tot x.qX) (szR (tot x.qO) left)))
 refine sp (.int .i64 (szR (tot x.xm) (szR (tot x.xe) (szR (tot x.qX) (szR (tot x.qO) left))))) ?_
 refine qj (t_n (qi (qi (ql ?_))))
 refine sps [.int .i64 (szR (tot x.xm) (szR (tot x.xe) (szR (tot x.qX) (szR (tot x.qO) left)))), .bool (decide ((szR (tot x.xm) (szR (tot x.xe) (szR (tot x.qX) (szR (tot x.qO) left))) : Int) < 0))] ?_
 refine qj (t_n ?_)
 refine qC (decide ((szR (tot x.xm) (szR (tot x.xe) (szR (tot x.qX) (szR (tot x.qO) left))) : Int) < 0)) rfl (fun h14 => ?_) (fun h14 => ?_)
 ·skip
  replace h14 := of_decide_eq_true h14
  refine qi (ql ?_)
  refine sp (.int .i64 (-1)) ?_
  refine qj (t_n (qV (t_r ?_)))
  refine ret1 (.int .i64 (-1)) rfl rfl ⟨_, rfl, ?_, H.base⟩
  refine congrArg (Value.int .i64) ?_
  have := xM (tot x) left
  rw [tot_RuleD] at *
  try omega
 replace h14 := of_decide_eq_false h14
 refine qM (t_n (qi (ql ?_)))
 refine oF rfl ?_
 refine oL rfl (H.cell 0 rfl rfl) ?_
 refine sp (.int .i64 (szR (tot x.xm) (szR (tot x.xe) (szR (tot x.qX) (szR (tot x.qO) left))))) ?_
 refine sw (oc (Qr _ x.xZ (szR (tot x.xm) (szR (tot x.xe) (szR (tot x.qX) (szR (tot x.qO) left)))) _ _ _ (H.get 4 rfl).1 (by omega)) ?_)
 rintro _ w15 rfl x16
 replace H := H.ext x16
 have := xM (tot x.xZ) (szR (tot x.xm) (szR (tot x.xe) (szR (tot x.qX) (szR (tot x.qO) left))))
 refine sp (.int .i64 (szR (tot x.xZ) (szR (tot x.xm) (szR (tot x.xe) (szR (tot x.qX) (szR (tot x.qO) left)))))) ?_
 refine qj (t_n (qi (qi (ql ?_))))
 refine sps [.int .i64 (szR (tot x.xZ) (szR (tot x.xm) (szR (tot x.xe) (szR (tot x.qX) (szR (tot x.qO) left))))), .bool (decide ((szR (tot x.xZ) (szR (tot x.xm) (szR (tot x.xe) (szR (tot x.qX) (szR (tot x.qO) left)))) : Int) < 0))] ?_
 refine qj (t_n ?_)
 refine qC (decide ((szR (tot x.xZ) (szR (tot x.xm) (szR (tot x.xe) (szR (tot x.qX) (szR (tot x.qO) left)))) : Int) < 0)) rfl (fun h17 => ?_) (fun h17 => ?_)
 ·skip
  replace h17 := of_decide_eq_true h17
  refine qi (ql ?_)
  refine sp (.int .i64 (-1)) ?_
  refine qj (t_n (qV (t_r ?_)))
  refine ret1 (.int .i64 (-1)) rfl rfl ⟨_, rfl, ?_, H.base⟩
  refine congrArg (Value.int .i64) ?_
  have := xM (tot x) left
  rw [tot_RuleD] at *
  try omega
 replace h17 := of_decide_eq_false h17
 refine qM (t_n (qi (ql ?_)))
 refine oF rfl ?_
 refine oL rfl (H.cell 0 rfl rfl) ?_
 refine sp (.int .i64 (szR (tot x.xZ) (szR (tot x.xm) (szR (tot x.xe) (szR (tot x.qX) (szR (tot x.qO) left)))))) ?_
 refine sw (oc (szIntoS_ok _ x.qF (szR (tot x.xZ) (szR (tot x.xm) (szR (tot x.xe) (szR (tot x.qX) (szR (tot x.qO) left))))) _ _ _ (H.get 5 rfl).1 (by omega)) ?_)
 rintro _ w18 rfl x19
 replace H := H.ext x19
 have := xM (tot x.qF) (szR (tot x.xZ) (szR (tot x.xm) (szR (tot x.xe) (szR (tot x.qX) (szR (tot x.qO) left)))))
 refine sp (.int .i64 (szR (tot x.qF) (szR (tot x.xZ) (szR (tot x.xm) (szR (tot x.xe) (szR (tot x.qX) (szR (tot x.qO) left))))))) ?_
 refine qj (t_n (qi (qi (ql ?_))))
 refine sps [.int .i64 (szR (tot x.qF) (szR (tot x.xZ) (szR (tot x.xm) (szR (tot x.xe) (szR (tot x.qX) (szR (tot x.qO) left)))))), .bool (decide ((szR (tot x.qF) (szR (tot x.xZ) (szR (tot x.xm) (szR (tot x.xe) (szR (tot x.qX) (szR (tot x.qO) left))))) : Int) < 0))] ?_
 refine qj (t_n ?_)
 refine qC (decide ((szR (tot x.qF) (szR (tot x.xZ) (szR (tot x.xm) (szR (tot x.xe) (szR (tot x.qX) (szR (tot x.qO) left))))) : Int) < 0)) rfl (fun h20 => ?_) (fun h20 => ?_)
 ·skip
  replace h20 := of_decide_eq_true h20
  refine qi (ql ?_)
  refine sp (.int .i64 (-1)) ?_
  refine qj (t_n (qV (t_r ?_)))
  refine ret1 (.int .i64 (-1)) rfl rfl ⟨_, rfl, ?_, H.base⟩
  refine congrArg (Value.int .i64) ?_
  have := xM (tot x) left
  rw [tot_RuleD] at *
  try omega
 replace h20 := of_decide_eq_false h20
 refine qM (t_n (qi (ql ?_)))
 refine sps [.int .i64 (szR (tot x.qF) (szR (tot x.xZ) (szR (tot x.xm) (szR (tot x.xe) (szR (tot x.qX) (szR (tot x.qO) left)))))), .int .i64 (szR (tot x.qF) (szR (tot x.xZ) (szR (tot x.xm) (szR (tot x.xe) (szR (tot x.qX) (szR (tot x.qO) left))))))] ?_
 refine qj (t_n (qV ?_))
 refine ret1 (.int .i64 (szR (tot x.qF) (szR (tot x.xZ) (szR (tot x.xm) (szR (tot x.xe) (szR (tot x.qX) (szR (tot x.qO) left))))))) rfl rfl ⟨_, rfl, ?_, H.base⟩
 refine congrArg (Value.int .i64) ?_
 have := xM (tot x) left
 rw [tot_RuleD] at *
 try omega

theorem szRuleS_ok (w : World) (x : List Qm) (left : Int) (ax : Option Addr) (cx : Nat) (Fx : List Nat) (hx : qE.rep w Fx [.slice ax x.length cx] x) (p0 : 0 ≤ left ∧ left ≤ 2000000) : Calls Tryz.prog 54 #[.slice ax x.length cx, .int .i64 left] w (Ret (fun v w' => v = .int .i64 (szR (tot x) left)) w) := by
 refine en Tryz.func54 Tryz.ntmps54 ?_
 have H := (St.start w).arg hx
 have nhx := qA hx
 clear hx
 refine qi (ql ?_)
 refine sp (.int .i64 0) ?_
 refine qj (t_n (qi (ql ?_)))
 refine sps [.int .i64 left, .slice ax x.length cx] ?_
 refine oN rfl ?_
 refine sw (o_sub left x.length rfl rfl (by omega) ?_)
 refine sp (.int .i64 (left - x.length)) ?_
 refine qj (t_n (qi (qi (ql ?_))))
 refine sps [.int .i64 (left - x.length), .bool (decide ((left - x.length : Int) < 0))] ?_
 refine qj (t_n ?_)
 refine qC (decide ((left - x.length : Int) < 0)) rfl (fun h1 => ?_) (fun h1 => ?_)
 ·skip
  replace h1 := of_decide_eq_true h1
  refine qi (ql ?_)
  refine sp (.int .i64 (-1)) ?_
  refine qj (t_n (qV (t_r ?_)))
  refine ret1 (.int .i64 (-1)) rfl rfl ⟨_, rfl, ?_, H.base⟩
  refine congrArg (Value.int .i64) ?_
  have := xM (tot x) left
  have := len_tot x
  omega
 replace h1 := of_decide_eq_false h1
 refine qM (t_n (qi (qi (ql ?_))))
 refine sp (.int .i64 0) ?_
 refine qj (t_n (qW ?_))
 refine zf (fun m' ρ w2 => ∃ (junk : Env) (k : Nat) (r : Int), ρ = upd (upd (upd junk 0 (.slice ax x.length cx)) 1 (.int .i64 r)) 5 (.int .i64 k) ∧ (k ≤ x.length) ∧ (r = left - (x.length : Int) - (totTo x k : Nat)) ∧ (0 ≤ r) ∧ m' = x.length - k ∧ St w w2 [] [isF false Fx (.slice ax x.length cx) x]) (x.length - 0) ⟨_, 0, left - (x.length : Int), (by exact qg (qg (qg (rfl) rfl) rfl) rfl), (by omega), (by rw [totTo_zero]; omega), (by omega), rfl, H⟩ ?_
 clear H
 rintro m' ρ w3 ⟨junk, k, r, rfl, i0, i1, i2, rfl, H⟩
 refine qi (qi (ql ?_))
 refine sps [.int .i64 k, .slice ax x.length cx] ?_
 refine oN rfl ?_
 refine sp (.bool (decide ((k : Int) < x.length))) ?_
 refine qj (t_n ?_)
 refine qC (decide ((k : Int) < x.length)) rfl (fun h4 => ?_) (fun h4 => ?_)
 ·skip
  replace h4 := of_decide_eq_true h4
  refine qM (t_n (qi (qW (qi (ql ?_)))))
  refine sps [.slice ax x.length cx, .int .i64 k] ?_
  obtain ⟨b5, o6, rfl⟩ := H.addr 0 rfl (by omega)
  obtain ⟨ae7Need, ce7Need, Fe7Need, ae7Have, ce7Have, Fe7Have, ae7Lack, ce7Lack, Fe7Lack, ae7Here, ce7Here, Fe7Here, ae7Out, ce7Out, Fe7Out, ae7Into, ce7Into, Fe7Into, H⟩ := H.jK 0 rfl k k (by omega) (by omega) (by omega)
  refine oI rfl rfl ?_
  refine sw (zC [.int .i64 ((x[k]!).qw), .int .i64 ((x[k]!).xN), .slice ae7Need (((x[k]!).qO).length) ce7Need, .slice ae7Have (((x[k]!).qX).length) ce7Have, .slice ae7Lack (((x[k]!).xe).length) ce7Lack, .slice ae7Here (((x[k]!).xm).length) ce7Here, .slice ae7Out (((x[k]!).xZ).length) ce7Out, .slice ae7Into (((x[k]!).qF).length) ce7Into, .bool ((x[k]!).xO)] Tryz.isAgg111 Tryz.sizeOf111 rfl (qI (H.get 6 rfl) 0 9) ?_)
  refine sp (.int .i64 r) ?_
  refine sw (oc (szRule_ok _ (x[k]!) r _ _ _ _ _ _ _ _ _ _ _ _ _ _ _ _ _ _ (H.get 0 rfl).1 (H.get 1 rfl).1 (H.get 2 rfl).1 (H.get 3 rfl).1 (H.get 4 rfl).1 (H.get 5 rfl).1 (by omega)) ?_)
  rintro _ w8 rfl x9
  replace H := H.ext x9
  have := xM (tot (x[k]!)) r
  refine sp (.int .i64 (szR (tot (x[k]!)) r)) ?_
  refine qj (t_n (qi (ql ?_)))
  refine sps [.int .i64 (szR (tot (x[k]!)) r), .bool (decide ((szR (tot (x[k]!)) r : Int) < 0))] ?_
  refine qj (t_n ?_)
  refine qC (decide ((szR (tot (x[k]!)) r : Int) < 0)) rfl (fun h10 => ?_) (fun h10 => ?_)
  ·skip
   replace h10 := of_decide_eq_true h10
   refine qi (ql ?_)
   refine sp (.int .i64 (-1)) ?_
   refine qj (t_n (qV (b_r (t_r (t_r (b_r (t_r ?_)))))))
   refine ret1 (.int .i64 (-1)) rfl rfl ⟨_, rfl, ?_, H.base⟩
   refine congrArg (Value.int .i64) ?_
   have := xM (tot x) left
   have := tot_get (l := x) (k := k) (by omega)
   omega
  replace h10 := of_decide_eq_false h10
  refine qM (b_n (t_n (ql ?_)))
  refine sp (.int .i64 k) ?_
  refine sw (zk k 1 rfl rfl (by omega) ?_)
  refine sp (.int .i64 (k + 1)) ?_
  refine qj ?_
  refine xk (m' := x.length - (k + 1)) (by omega) ⟨_, k + 1, szR (tot (x[k]!)) r, (by exact qg (qg (qg (rfl) rfl) rfl) rfl), ?_, ?_, ?_, rfl, H.sel _ (.refl _) _ (by simp)⟩
  · omega
  · rw [totTo_succ]; omega
  · omega
 replace h4 := of_decide_eq_false h4
 refine xQ (t_x (t_x (b_x (t_n (qi (ql ?_))))))
 refine sps [.int .i64 r, .int .i64 r] ?_
 refine qj (t_n (qV ?_))
 refine ret1 (.int .i64 r) rfl rfl ⟨_, rfl, ?_, H.base⟩
 refine congrArg (Value.int .i64) ?_
 obtain rfl : k = x.length := by omega
 have := xM (tot x) left
 rw [tot_list] at *
 omega

theorem szSystem_ok (w : World) (x : qK) (left : Int) (zB : Option Addr) (zA : Nat) (jy : List Nat) (vN : Option Addr) (vM : Nat) (Qw : List Nat) (jV : qE.rep w jy [.slice zB x.qf.length zA] x.qf) (QY : qE.rep w Qw [.slice vN x.qh.length vM] x.qh) (p0 : 0 ≤ left ∧ left ≤ 2000000) : Calls Tryz.prog 14 #[.agg #[.int .i64 x.qH, .slice zB x.qf.length zA, .slice vN x.qh.length vM], .int .i64 left] w (Ret (fun v w' => v = .int .i64 (szR (tot x) left)) w) := by
 refine en Tryz.func14 Tryz.ntmps14 ?_
 have H := ((St.start w).arg QY).arg jV
 have nhxParents := qA jV
 have nhxRules := qA QY
 clear jV QY
 refine qi (ql ?_)
 refine sw (o_box H (.agg #[.int .i64 x.qH, .slice zB x.qf.length zA, .slice vN x.qh.length vM]) rfl fun b1 w2 H => ?_)
 replace H : St _ _ [.box b1 [.int .i64 x.qH, .slice zB x.qf.length zA, .slice vN x.qh.length vM] 25] _ := H
 refine sp (.int .i64 0) ?_
 refine qj (t_n (qi (ql ?_)))
 refine oF rfl ?_
 refine oL rfl (H.cell 0 rfl rfl) ?_
 refine sp (.int .i64 left) ?_
 refine sw (oc (Qr _ x.qf left _ _ _ (H.get 0 rfl).1 (by omega)) ?_)
 rintro _ w3 rfl x4
 replace H := H.ext x4
 have := xM (tot x.qf) left
 refine sp (.int .i64 (szR (tot x.qf) left)) ?_
 refine qj (t_n (qi (qi (ql ?_))))
 refine sps [.int .i64 (szR (tot x.qf) left), .bool (decide ((szR (tot x.qf) left : Int) < 0))] ?_
 refine qj (t_n ?_)
 refine qC (decide ((szR (tot x.qf) left : Int) < 0)) rfl (fun h5 => ?_) (fun h5 => ?_)
 ·skip
  replace h5 := of_decide_eq_true h5
  refine qi (ql ?_)
  refine sp (.int .i64 (-1)) ?_
  refine qj (t_n (qV (t_r ?_)))
  refine ret1 (.int .i64 (-1)) rfl rfl ⟨_, rfl, ?_, H.base⟩
  refine congrArg (Value.int .i64) ?_
  have := xM (tot x) left
  rw [tot_SystemD] at *
  try omega
 replace h5 := of_decide_eq_false h5
 refine qM (t_n (qi (ql ?_)))
 refine oF rfl ?_
 refine oL rfl (H.cell 0 rfl rfl) ?_
 refine sp (.int .i64 (szR (tot x.qf) left)) ?_
 refine sw (oc (szRuleS_ok _ x.qh (szR (tot x.qf) left) _ _ _ (H.get 1 rfl).1 (by omega)) ?_)
 rintro _ w6 rfl x7
 replace H := H.ext x7
 have := xM (tot x.qh) (szR (tot x.qf) left)
 refine sp (.int .i64 (szR (tot x.qh) (szR (tot x.qf) left))) ?_
 refine qj (t_n (qi (qi (ql ?_))))
 refine sps [.int .i64 (szR (tot x.qh) (szR (tot x.qf) left)), .bool (decide ((szR (tot x.qh) (szR (tot x.qf) left) : Int) < 0))] ?_
 refine qj (t_n ?_)
 refine qC (decide ((szR (tot x.qh) (szR (tot x.qf) left) : Int) < 0)) rfl (fun h8 => ?_) (fun h8 => ?_)
 ·skip
  replace h8 := of_decide_eq_true h8
  refine qi (ql ?_)
  refine sp (.int .i64 (-1)) ?_
  refine qj (t_n (qV (t_r ?_)))
  refine ret1 (.int .i64 (-1)) rfl rfl ⟨_, rfl, ?_, H.base⟩
  refine congrArg (Value.int .i64) ?_
  have := xM (tot x) left
  rw [tot_SystemD] at *
  try omega
 replace h8 := of_decide_eq_false h8
 refine qM (t_n (qi (ql ?_)))
 refine sps [.int .i64 (szR (tot x.qh) (szR (tot x.qf) left)), .int .i64 (szR (tot x.qh) (szR (tot x.qf) left))] ?_
 refine qj (t_n (qV ?_))
 refine ret1 (.int .i64 (szR (tot x.qh) (szR (tot x.qf) left))) rfl rfl ⟨_, rfl, ?_, H.base⟩
 refine congrArg (Value.int .i64) ?_
 have := xM (tot x) left
 rw [tot_SystemD] at *
 try omega

theorem szState_ok (w : World) (x : xu) (left : Int) (vG : Option Addr) (vF : Nat) (Qj : List Nat) (jO : Option Addr) (jL : Nat) (XF : List Nat) (zH : Option Addr) (zG : Nat) (jQ : List Nat) (QZ : qE.rep w Qj [.slice vG x.qo.length vF] x.qo) (hxBags : qE.rep w XF [.slice jO x.qy.length jL] x.qy) (yO : qE.rep w jQ [.slice zH x.qm.length zG] x.qm) (p0 : 0 ≤ left ∧ left ≤ 2000000) : Calls Tryz.prog 15 #[.agg #[.slice vG x.qo.length vF, .slice jO x.qy.length jL, .slice zH x.qm.length zG], .int .i64 left] w (Ret (fun v w' => v = .int .i64 (szR (tot x) left)) w) := by
 refine en Tryz.func15 Tryz.ntmps15 ?_
 have H := (((St.start w).arg yO).arg hxBags).arg QZ
 have nhxAlive := qA QZ
 have nhxBags := qA hxBags
 have nhxAround := qA yO
 clear QZ hxBags yO
 refine qi (ql ?_)
 refine sw (o_box H (.agg #[.slice vG x.qo.length vF, .slice jO x.qy.length jL, .slice zH x.qm.length zG]) rfl fun b1 w2 H => ?_)
 replace H : St _ _ [.box b1 [.slice vG x.qo.length vF, .slice jO x.qy.length jL, .slice zH x.qm.length zG] 29] _ := H
 refine sp (.int .i64 0) ?_
 refine qj (t_n (qi (ql ?_)))
 refine oF rfl ?_
 refine oL rfl (H.cell 0 rfl rfl) ?_
 refine sp (.int .i64 left) ?_
 refine sw (oc (szBoolS_ok _ x.qo left _ _ _ (H.get 0 rfl).1 (by omega)) ?_)
 rintro _ w3 rfl x4
 replace H := H.ext x4
 have := xM (tot x.qo) left
 refine sp (.int .i64 (szR (tot x.qo) left)) ?_
 refine qj (t_n (qi (qi (ql ?_))))
 refine sps [.int .i64 (szR (tot x.qo) left), .bool (decide ((szR (tot x.qo) left : Int) < 0))] ?_
 refine qj (t_n ?_)
 refine qC (decide ((szR (tot x.qo) left : Int) < 0)) rfl (fun h5 => ?_) (fun h5 => ?_)
 ·skip
  replace h5 := of_decide_eq_true h5
  refine qi (ql ?_)
  refine sp (.int .i64 (-1)) ?_
  refine qj (t_n (qV (t_r ?_)))
  refine ret1 (.int .i64 (-1)) rfl rfl ⟨_, rfl, ?_, H.base⟩
  refine congrArg (Value.int .i64) ?_
  have := xM (tot x) left
  rw [tot_StateD] at *
  try omega
 replace h5 := of_decide_eq_false h5
 refine qM (t_n (qi (ql ?_)))
 refine oF rfl ?_
 refine oL rfl (H.cell 0 rfl rfl) ?_
 refine sp (.int .i64 (szR (tot x.qo) left)) ?_
 refine sw (oc (szInt64SS_ok _ x.qy (szR (tot x.qo) left) _ _ _ (H.get 1 rfl).1 (by omega)) ?_)
 rintro _ w6 rfl x7
 replace H := H.ext x7
 have := xM (tot x.qy) (szR (tot x.qo) left)
 refine sp (.int .i64 (szR (tot x.qy) (szR (tot x.qo) left))) ?_
 refine qj (t_n (qi (qi (ql ?_))))
 refine sps [.int .i64 (szR (tot x.qy) (szR (tot x.qo) left)), .bool (decide ((szR (tot x.qy) (szR (tot x.qo) left) : Int) < 0))] ?_
 refine qj (t_n ?_)
 refine qC (decide ((szR (tot x.qy) (szR (tot x.qo) left) : Int) < 0)) rfl (fun h8 => ?_) (fun h8 => ?_)
 ·skip
  replace h8 := of_decide_eq_true h8
  refine qi (ql ?_)
  refine sp (.int .i64 (-1)) ?_
  refine qj (t_n (qV (t_r ?_)))
  refine ret1 (.int .i64 (-1)) rfl rfl ⟨_, rfl, ?_, H.base⟩
  refine congrArg (Value.int .i64) ?_
  have := xM (tot x) left
  rw [tot_StateD] at *
  try omega
 replace h8 := of_decide_eq_false h8
 refine qM (t_n (qi (ql ?_)))
 refine oF rfl ?_
 refine oL rfl (H.cell 0 rfl rfl) ?_
 refine sp (.int .i64 (szR (tot x.qy) (szR (tot x.qo) left))) ?_
 refine sw (oc (Qr _ x.qm (szR (tot x.qy) (szR (tot x.qo) left)) _ _ _ (H.get 2 rfl).1 (by omega)) ?_)
 rintro _ w9 rfl x10
 replace H := H.ext x10
 have := xM (tot x.qm) (szR (tot x.qy) (szR (tot x.qo) left))
 refine sp (.int .i64 (szR (tot x.qm) (szR (tot x.qy) (szR (tot x.qo) left)))) ?_
 refine qj (t_n (qi (qi (ql ?_))))
 refine sps [.int .i64 (szR (tot x.qm) (szR (tot x.qy) (szR (tot x.qo) left))), .bool (decide ((szR (tot x.qm) (szR (tot x.qy) (szR (tot x.qo) left)) : Int) < 0))] ?_
 refine qj (t_n ?_)
 refine qC (decide ((szR (tot x.qm) (szR (tot x.qy) (szR (tot x.qo) left)) : Int) < 0)) rfl (fun h11 => ?_) (fun h11 => ?_)
 ·skip
  replace h11 := of_decide_eq_true h11
  refine qi (ql ?_)
  refine sp (.int .i64 (-1)) ?_
  refine qj (t_n (qV (t_r ?_)))
  refine ret1 (.int .i64 (-1)) rfl rfl ⟨_, rfl, ?_, H.base⟩
  refine congrArg (Value.int .i64) ?_
  have := xM (tot x) left
  rw [tot_StateD] at *
  try omega
 replace h11 := of_decide_eq_false h11
 refine qM (t_n (qi (ql ?_)))
 refine sps [.int .i64 (szR (tot x.qm) (szR (tot x.qy) (szR (tot x.qo) left))), .int .i64 (szR (tot x.qm) (szR (tot x.qy) (szR (tot x.qo) left)))] ?_
 refine qj (t_n (qV ?_))
 refine ret1 (.int .i64 (szR (tot x.qm) (szR (tot x.qy) (szR (tot x.qo) left)))) rfl rfl ⟨_, rfl, ?_, H.base⟩
 refine congrArg (Value.int .i64) ?_
 have := xM (tot x) left
 rw [tot_StateD] at *
 try omega

theorem Qq (w : World) (x : List Int) (ax : Option Addr) (cx : Nat) (Fx : List Nat) (hx : qE.rep w Fx [.slice ax x.length cx] x) (p0 : tot x ≤ 2000000) : Calls Tryz.prog 59 #[.slice ax x.length cx] w (Ret (fun v w' => OwnNew w w' 2 v x) w) := by
 refine en Tryz.func59 Tryz.ntmps59 ?_
 have H := (St.start w).arg hx
 have nhx := qA hx
 clear hx
 have p1 := len_tot x
 refine qi (ql ?_)
 refine sp (.slice none 0 0) ?_
 refine qj (t_n (qi (ql ?_)))
 refine sp (.slice ax x.length cx) ?_
 refine oN rfl ?_
 refine sw (o_make1 H Tryz.underlying22 ti2 rfl x.length rfl rfl (by omega) (by omega) fun b1 w2 H => ?_)
 replace H : St _ _ [.box b1 (List.replicate x.length (.int .i64 0)) 2] _ := H
 refine sp (.slice (aa b1 0) x.length x.length) ?_
 refine qj (t_n (qi (qi (ql ?_))))
 refine sp (.int .i64 0) ?_
 refine qj (t_n (qW ?_))
 refine zf (fun m' ρ w3 => ∃ (junk : Env) (k : Nat), ρ = upd (upd (upd (upd junk 0 (.slice ax x.length cx)) 2 (.slice none 0 0)) 3 (.slice (aa b1 0) x.length x.length)) 4 (.int .i64 k) ∧ (k ≤ x.length) ∧ m' = x.length - k ∧ St w w3 [.box b1 ((x.take k).map (Value.int .i64) ++ List.replicate (x.length - (k)) (.int .i64 0)) 2] [isF false Fx (.slice ax x.length cx) x]) (x.length - 0) ⟨_, 0, (by exact qg (qg (qg (qg (rfl) rfl) rfl) rfl) rfl), (by omega), rfl, H⟩ ?_
 clear H
 rintro m' ρ w4 ⟨junk, k, rfl, i0, rfl, H⟩
 refine qi (qi (ql ?_))
 refine sps [.int .i64 k, .slice ax x.length cx] ?_
 refine oN rfl ?_
 refine sp (.bool (decide ((k : Int) < x.length))) ?_
 refine qj (t_n ?_)
 refine qC (decide ((k : Int) < x.length)) rfl (fun h5 => ?_) (fun h5 => ?_)
 ·skip
  replace h5 := of_decide_eq_true h5
  refine qM (t_n (qi (qW (ql ?_))))
  refine sps [.slice (aa b1 0) x.length x.length, .int .i64 k, .slice ax x.length cx, .int .i64 k] ?_
  obtain ⟨b6, o7, rfl⟩ := H.addr 0 rfl (by omega)
  refine oI rfl rfl ?_
  refine oL rfl (H.vT 0 rfl k (by omega) (by omega)) ?_
  refine oI rfl rfl ?_
  refine sw (jr H 0 rfl (.int .i64 (x[k]!)) Tryz.sizeOf2 rfl rfl rfl (by simp only [List.length_append, List.length_replicate]; have : ((x.take k).map (Value.int .i64)).length = k := (by (simp; omega)); omega) fun w9 H => ?_)
  rw [fill_set (k := k) (by (simp; omega)) (by simp) (by omega)] at H
  replace H : St _ _ [.box b1 ((x.take k).map (Value.int .i64) ++ [.int .i64 (x[k]!)] ++ List.replicate (x.length - (k + 1)) (.int .i64 0)) 2] _ := H
  refine qj (b_n (t_n (ql ?_)))
  refine sp (.int .i64 k) ?_
  refine sw (zk k 1 rfl rfl (by omega) ?_)
  refine sp (.int .i64 (k + 1)) ?_
  refine qj ?_
  rw [show (x.take k).map (Value.int .i64) ++ [.int .i64 (x[k]!)] = (x.take (k + 1)).map (Value.int .i64) from by exact map_take_snoc _ (by omega)] at H
  refine xk (m' := x.length - (k + 1)) (by omega) ⟨_, k + 1, (by exact qg (qg (qg (qg (rfl) rfl) rfl) rfl) rfl), ?_, rfl, H⟩
  · omega
 replace h5 := of_decide_eq_false h5
 refine xQ (t_x (t_x (b_x (t_n (qi (ql ?_))))))
 refine sps [.slice (aa b1 0) x.length x.length, .slice (aa b1 0) x.length x.length] ?_
 refine qj (t_n (qV ?_))
 refine ret1 (.slice (aa b1 0) x.length x.length) rfl rfl ⟨_, rfl, ?_, H.base⟩
 rw [List.take_of_length_le (by omega : x.length ≤ k)] at H
 rw [fill_end1 (by omega)] at H
 replace H := H.boxRow 0 rfl 1 x.length (by (first | omega | (simp; done) | (simp; omega))) (by unfold maxLen; omega)
 exact H.newInts 0 rfl (by omega)

theorem toBoolS_ok (w : World) (x : List Bool) (ax : Option Addr) (cx : Nat) (Fx : List Nat) (hx : qE.rep w Fx [.slice ax x.length cx] x) (p0 : tot x ≤ 2000000) : Calls Tryz.prog 61 #[.slice ax x.length cx] w (Ret (fun v w' => OwnNew w w' 4 v x) w) := by
 refine en Tryz.func61 Tryz.ntmps61 ?_
 have H := (St.start w).arg hx
 have nhx := qA hx
 clear hx
 have p1 := len_tot x
 refine qi (ql ?_)
 refine sp (.slice none 0 0) ?_
 refine qj (t_n (qi (ql ?_)))
 refine sp (.slice ax x.length cx) ?_
 refine oN rfl ?_
 refine sw (o_make1 H Tryz.underlying26 ti4 rfl x.length rfl rfl (by omega) (by omega) fun b1 w2 H => ?_)
 replace H : St _ _ [.box b1 (List.replicate x.length (.bool false)) 4] _ := H
 refine sp (.slice (aa b1 0) x.length x.length) ?_
 refine qj (t_n (qi (qi (ql ?_))))
 refine sp (.int .i64 0) ?_
 refine qj (t_n (qW ?_))
 refine zf (fun m' ρ w3 => ∃ (junk : Env) (k : Nat), ρ = upd (upd (upd (upd junk 0 (.slice ax x.length cx)) 2 (.slice none 0 0)) 3 (.slice (aa b1 0) x.length x.length)) 4 (.int .i64 k) ∧ (k ≤ x.length) ∧ m' = x.length - k ∧ St w w3 [.box b1 ((x.take k).map (Value.bool) ++ List.replicate (x.length - (k)) (.bool false)) 4] [isF false Fx (.slice ax x.length cx) x]) (x.length - 0) ⟨_, 0, (by exact qg (qg (qg (qg (rfl) rfl) rfl) rfl) rfl), (by omega), rfl, H⟩ ?_
 clear H
 rintro m' ρ w4 ⟨junk, k, rfl, i0, rfl, H⟩
 refine qi (qi (ql ?_))
 refine sps [.int .i64 k, .slice ax x.length cx] ?_
 refine oN rfl ?_
 refine sp (.bool (decide ((k : Int) < x.length))) ?_
 refine qj (t_n ?_)
 refine qC (decide ((k : Int) < x.length)) rfl (fun h5 => ?_) (fun h5 => ?_)
 ·skip
  replace h5 := of_decide_eq_true h5
  refine qM (t_n (qi (qW (ql ?_))))
  refine sps [.slice (aa b1 0) x.length x.length, .int .i64 k, .slice ax x.length cx, .int .i64 k] ?_
  obtain ⟨b6, o7, rfl⟩ := H.addr 0 rfl (by omega)
  refine oI rfl rfl ?_
  refine oL rfl (H.QG 0 rfl k (by omega) (by omega)) ?_
  refine oI rfl rfl ?_
  refine sw (jr H 0 rfl (.bool (x[k]!)) Tryz.sizeOf4 rfl rfl rfl (by simp only [List.length_append, List.length_replicate]; have : ((x.take k).map (Value.bool)).length = k := (by (simp; omega)); omega) fun w9 H => ?_)
  rw [fill_set (k := k) (by (simp; omega)) (by simp) (by omega)] at H
  replace H : St _ _ [.box b1 ((x.take k).map (Value.bool) ++ [.bool (x[k]!)] ++ List.replicate (x.length - (k + 1)) (.bool false)) 4] _ := H
  refine qj (b_n (t_n (ql ?_)))
  refine sp (.int .i64 k) ?_
  refine sw (zk k 1 rfl rfl (by omega) ?_)
  refine sp (.int .i64 (k + 1)) ?_
  refine qj ?_
  rw [show (x.take k).map (Value.bool) ++ [.bool (x[k]!)] = (x.take (k + 1)).map (Value.bool) from by exact map_take_snoc _ (by omega)] at H
  refine xk (m' := x.length - (k + 1)) (by omega) ⟨_, k + 1, (by exact qg (qg (qg (qg (rfl) rfl) rfl) rfl) rfl), ?_, rfl, H⟩
  · omega
 replace h5 := of_decide_eq_false h5
 refine xQ (t_x (t_x (b_x (t_n (qi (ql ?_))))))
 refine sps [.slice (aa b1 0) x.length x.length, .slice (aa b1 0) x.length x.length] ?_
 refine qj (t_n (qV ?_))
 refine ret1 (.slice (aa b1 0) x.length x.length) rfl rfl ⟨_, rfl, ?_, H.base⟩
 rw [List.take_of_length_le (by omega : x.length ≤ k)] at H
 rw [fill_end1 (by omega)] at H
 replace H := H.boxRow 0 rfl 1 x.length (by (first | omega | (simp; done) | (simp; omega))) (by unfold maxLen; omega)
 exact H.newBools 0 rfl (by omega)

theorem toInt64SS_ok (w : World) (x : List (List Int)) (ax : Option Addr) (cx : Nat) (Fx : List Nat) (hx : qE.rep w Fx [.slice ax x.length cx] x) (p0 : tot x ≤ 2000000) : Calls Tryz.prog 62 #[.slice ax x.length cx] w (Ret (fun v w' => OwnNew w w' 22 v x) w) := by
 refine en Tryz.func62 Tryz.ntmps62 ?_
 have H := (St.start w).arg hx
 have nhx := qA hx
 clear hx
 have p1 := len_tot x
 refine qi (ql ?_)
 refine sp (.slice none 0 0) ?_
 refine qj (t_n (qi (ql ?_)))
 refine sp (.slice ax x.length cx) ?_
 refine oN rfl ?_
 refine sw (o_make1 H Tryz.underlying27 ti22 rfl x.length rfl rfl (by omega) (by omega) fun b1 w2 H => ?_)
 replace H : St _ _ [.box b1 (List.replicate x.length (.slice none 0 0)) 22] _ := H
 refine sp (.slice (aa b1 0) x.length x.length) ?_
 refine qj (t_n (qi (qi (ql ?_))))
 refine sp (.int .i64 0) ?_
 refine qj (t_n (qW ?_))
 replace H := H.jq (α := List Int)
 refine zf (fun m' ρ w3 => ∃ (junk : Env) (k : Nat) (xs3 : List Value) (Fr3 : List Nat), ρ = upd (upd (upd (upd junk 0 (.slice ax x.length cx)) 2 (.slice none 0 0)) 3 (.slice (aa b1 0) x.length x.length)) 4 (.int .i64 k) ∧ (k ≤ x.length) ∧ (xs3.length = k * 1) ∧ (∀ b ∈ Fr3, w.heap.size ≤ b) ∧ (Fr3.Nodup) ∧ m' = x.length - k ∧ St w w3 [.box b1 (xs3 ++ List.replicate (x.length - (k)) (.slice none 0 0)) 22] [zn true Fr3 xs3 (x.take k), isF false Fx (.slice ax x.length cx) x]) (x.length - 0) ⟨_, 0, [], [], (by exact qg (qg (qg (qg (rfl) rfl) rfl) rfl) rfl), (by omega), (by rfl), (by simp), (by simp), rfl, H⟩ ?_
 clear H
 rintro m' ρ w4 ⟨junk, k, xs3, Fr3, rfl, i0, hl3, nf3, nd3, rfl, H⟩
 have p2 := fun h => tot_get (l := x) (k := k) h
 refine qi (qi (ql ?_))
 refine sps [.int .i64 k, .slice ax x.length cx] ?_
 refine oN rfl ?_
 refine sp (.bool (decide ((k : Int) < x.length))) ?_
 refine qj (t_n ?_)
 refine qC (decide ((k : Int) < x.length)) rfl (fun h5 => ?_) (fun h5 => ?_)
 ·skip
  replace h5 := of_decide_eq_true h5
  refine qM (t_n (qi (qW (ql ?_))))
  refine sps [.slice (aa b1 0) x.length x.length, .int .i64 k, .slice ax x.length cx, .int .i64 k] ?_
  obtain ⟨b6, o7, rfl⟩ := H.addr 1 rfl (by omega)
  obtain ⟨ae8, ce8, Fe8, H⟩ := H.jo 1 rfl k k (by omega) (by omega) (by omega)
  refine oI rfl rfl ?_
  refine oL rfl (H.xJ 1 rfl 0 rfl) ?_
  have szx10 := H.base.size
  have lt11 := H.repsLt 2 rfl
  refine sw (oc (Qq _ (x[k]!) _ _ _ (H.get 0 rfl).1 (by first | omega | (have := p2 (by omega); omega))) ?_)
  rintro v12 w9 r12 x10
  obtain ⟨a12, c12, F12, rfl, f12, H⟩ := H.add_is x10 r12.isNew
  have d12 := f12.2
  have q12 := f12.1
  replace f12 : ∀ b ∈ F12, w.heap.size ≤ b := fun b hb => Nat.le_trans szx10 (f12.1 b hb)
  refine oI rfl rfl ?_
  refine sw (jr H 0 rfl (.slice a12 ((x[k]!).length) c12) Tryz.sizeOf22 rfl rfl rfl (by simp only [List.length_append, List.length_replicate]; have : (xs3).length = k := (by (omega)); omega) fun w14 H => ?_)
  rw [fill_set (k := k) (by (omega)) (by simp) (by omega)] at H
  replace H : St _ _ [.box b1 (xs3 ++ [.slice a12 ((x[k]!).length) c12] ++ List.replicate (x.length - (k + 1)) (.slice none 0 0)) 22] _ := H
  refine qj (b_n (t_n (ql ?_)))
  refine sp (.int .i64 k) ?_
  refine sw (zk k 1 rfl rfl (by omega) ?_)
  refine sp (.int .i64 (k + 1)) ?_
  refine qj ?_
  replace H := H.QF 3 rfl 0 rfl
  rw [show (x.take k) ++ [(x[k]!)] = x.take (k + 1) from by exact take_snoc (by omega)] at H
  refine xk (m' := x.length - (k + 1)) (by omega) ⟨_, k + 1, (xs3 ++ [.slice a12 ((x[k]!).length) c12]), (Fr3 ++ F12), (by exact qg (qg (qg (qg (rfl) rfl) rfl) rfl) rfl), ?_, ?_, ?_, ?_, rfl, H.sel _ (.refl _) _ (by simp)⟩
  · omega
  · first | (simp only [List.length_append, List.length_cons, List.length_nil]; omega) | (simp [hl3]; done) | (simp; omega)
  · exact yX nf3 f12
  · exact yU nd3 d12 lt11 q12
 replace h5 := of_decide_eq_false h5
 refine xQ (t_x (t_x (b_x (t_n (qi (ql ?_))))))
 refine sps [.slice (aa b1 0) x.length x.length, .slice (aa b1 0) x.length x.length] ?_
 refine qj (t_n (qV ?_))
 refine ret1 (.slice (aa b1 0) x.length x.length) rfl rfl ⟨_, rfl, ?_, H.base⟩
 rw [List.take_of_length_le (by omega : x.length ≤ k)] at H
 rw [fill_end1 (by omega)] at H
 replace H := H.boxRow 0 rfl 1 x.length (by omega) (by unfold maxLen; omega)
 exact H.newRow 0 rfl 0 rfl (by omega) (by assumption) (by assumption)

theorem toInto_ok (w : World) (x : IntoD) (axBag : Option Addr) (cxBag : Nat) (FxBag : List Nat) (hxBag : qE.rep w FxBag [.slice axBag x.zZ.length cxBag] x.zZ) (p0 : tot x ≤ 2000000) : Calls Tryz.prog 172 #[.agg #[.int .i64 x.qw, .slice axBag x.zZ.length cxBag]] w (Ret (fun v w' => New_IntoD w w' v x) w) := by
 refine en Tryz.func172 Tryz.ntmps172 ?_
 have H := (St.start w).arg hxBag
 have nhxBag := qA hxBag
 clear hxBag
 have p1 := tot_IntoD x
 refine qi (ql ?_)
 refine sw (o_box H (.agg #[.int .i64 x.qw, .slice axBag x.zZ.length cxBag]) rfl fun b1 w2 H => ?_)
 replace H : St _ _ [.box b1 [.int .i64 x.qw, .slice axBag x.zZ.length cxBag] 190] _ := H
 refine sw (o_alloc H ti164 fun b3 w4 H => ?_)
 replace H : St _ _ [.box b3 [.int .i64 0, .slice none 0 0] 164, .box b1 [.int .i64 x.qw, .slice axBag x.zZ.length cxBag] 190] _ := H
 refine qj (t_n (qi (ql ?_)))
 refine sw (o_alloc H ti164 fun b5 w6 H => ?_)
 replace H : St _ _ [.box b5 [.int .i64 0, .slice none 0 0] 164, .box b3 [.int .i64 0, .slice none 0 0] 164, .box b1 [.int .i64 x.qw, .slice axBag x.zZ.length cxBag] 190] _ := H
 refine qj (t_n (qi (ql ?_)))
 refine oF rfl ?_
 refine oL rfl (H.cell 2 rfl rfl) ?_
 refine oF rfl ?_
 refine sw (jr H 0 rfl (.int .i64 x.qw) Tryz.sizeOf2 rfl rfl rfl (Nat.le_of_ble_eq_true rfl) fun w7 H => ?_)
 replace H : St _ _ [.box b5 [.int .i64 x.qw, .slice none 0 0] 164, .box b3 [.int .i64 0, .slice none 0 0] 164, .box b1 [.int .i64 x.qw, .slice axBag x.zZ.length cxBag] 190] _ := H
 refine qj (t_n (qi (ql ?_)))
 refine oF rfl ?_
 refine oL rfl (H.cell 2 rfl rfl) ?_
 have szx9 := H.base.size
 refine sw (oc (Qq _ x.zZ _ _ _ (H.get 0 rfl).1 (by first | omega | (have := p2 (by omega); omega))) ?_)
 rintro v10 w8 r10 x9
 obtain ⟨a10, c10, F10, rfl, f10, H⟩ := H.add_is x9 r10.isNew
 have d10 := f10.2
 have q10 := f10.1
 replace f10 : ∀ b ∈ F10, w.heap.size ≤ b := fun b hb => Nat.le_trans szx9 (f10.1 b hb)
 refine oF rfl ?_
 refine sw (jr H 0 rfl (.slice a10 x.zZ.length c10) Tryz.sizeOf22 rfl rfl rfl (Nat.le_of_ble_eq_true rfl) fun w11 H => ?_)
 replace H : St _ _ [.box b5 [.int .i64 x.qw, .slice a10 x.zZ.length c10] 164, .box b3 [.int .i64 0, .slice none 0 0] 164, .box b1 [.int .i64 x.qw, .slice axBag x.zZ.length cxBag] 190] _ := H
 refine qj (t_n (qi (ql ?_)))
 refine sw (zC [.int .i64 x.qw, .slice a10 x.zZ.length c10] Tryz.isAgg164 Tryz.sizeOf164 rfl (qI (H.cells 0 rfl) 0 2) ?_)
 refine sw (o_store H 1 rfl (.agg #[.int .i64 x.qw, .slice a10 x.zZ.length c10]) Tryz.sizeOf164 rfl rfl (by simp [Value.oneCell', Value.cells]) (Nat.le_of_ble_eq_true rfl) fun w12 H => ?_)
 replace H : St _ _ [.box b5 [.int .i64 x.qw, .slice a10 x.zZ.length c10] 164, .box b3 [.int .i64 x.qw, .slice a10 x.zZ.length c10] 164, .box b1 [.int .i64 x.qw, .slice axBag x.zZ.length cxBag] 190] _ := H
 refine qj (t_n (qV ?_))
 refine retC H 1 rfl rfl Tryz.isAgg164 Tryz.sizeOf164 rfl ⟨_, rfl, ?_, H.base⟩
 exact ⟨_, _, _, rfl, (H.get 0 rfl).1, f10, d10, ((H.get 0 rfl).2 rfl)⟩

theorem toIntoS_ok (w : World) (x : List IntoD) (ax : Option Addr) (cx : Nat) (Fx : List Nat) (hx : qE.rep w Fx [.slice ax x.length cx] x) (p0 : tot x ≤ 2000000) : Calls Tryz.prog 137 #[.slice ax x.length cx] w (Ret (fun v w' => OwnNew w w' 164 v x) w) := by
 refine en Tryz.func137 Tryz.ntmps137 ?_
 have H := (St.start w).arg hx
 have nhx := qA hx
 clear hx
 have p1 := len_tot x
 refine qi (ql ?_)
 refine sp (.slice none 0 0) ?_
 refine qj (t_n (qi (ql ?_)))
 refine sp (.slice ax x.length cx) ?_
 refine oN rfl ?_
 refine sw (o_makeN H Tryz.underlying119 ti164 rfl (by decide) x.length rfl rfl (by omega) (by omega) fun b1 w2 H => ?_)
 replace H : St _ _ [.box b1 ((List.replicate x.length [.int .i64 0, .slice none 0 0]).flatten) 164] _ := H
 refine sp (.slice (aa b1 0) x.length x.length) ?_
 refine qj (t_n (qi (qi (ql ?_))))
 refine sp (.int .i64 0) ?_
 refine qj (t_n (qW ?_))
 replace H := H.jq (α := IntoD)
 refine zf (fun m' ρ w3 => ∃ (junk : Env) (k : Nat) (xs3 : List Value) (Fr3 : List Nat), ρ = upd (upd (upd (upd junk 0 (.slice ax x.length cx)) 2 (.slice none 0 0)) 3 (.slice (aa b1 0) x.length x.length)) 4 (.int .i64 k) ∧ (k ≤ x.length) ∧ (xs3.length = k * 2) ∧ (∀ b ∈ Fr3, w.heap.size ≤ b) ∧ (Fr3.Nodup) ∧ m' = x.length - k ∧ St w w3 [.box b1 (xs3 ++ (List.replicate (x.length - (k)) [.int .i64 0, .slice none 0 0]).flatten) 164] [zn true Fr3 xs3 (x.take k), isF false Fx (.slice ax x.length cx) x]) (x.length - 0) ⟨_, 0, [], [], (by exact qg (qg (qg (qg (rfl) rfl) rfl) rfl) rfl), (by omega), (by rfl), (by simp), (by simp), rfl, H⟩ ?_
 clear H
 rintro m' ρ w4 ⟨junk, k, xs3, Fr3, rfl, i0, hl3, nf3, nd3, rfl, H⟩
 have p2 := fun h => tot_get (l := x) (k := k) h
 refine qi (qi (ql ?_))
 refine sps [.int .i64 k, .slice ax x.length cx] ?_
 refine oN rfl ?_
 refine sp (.bool (decide ((k : Int) < x.length))) ?_
 refine qj (t_n ?_)
 refine qC (decide ((k : Int) < x.length)) rfl (fun h5 => ?_) (fun h5 => ?_)
 ·skip
  replace h5 := of_decide_eq_true h5
  refine qM (t_n (qi (qW (ql ?_))))
  refine sps [.slice (aa b1 0) x.length x.length, .int .i64 k, .slice ax x.length cx, .int .i64 k] ?_
  obtain ⟨b6, o7, rfl⟩ := H.addr 1 rfl (by omega)
  obtain ⟨ae8Bag, ce8Bag, Fe8Bag, H⟩ := H.jC 1 rfl k k (by omega) (by omega) (by omega)
  refine oI rfl rfl ?_
  refine sw (zC [.int .i64 ((x[k]!).qw), .slice ae8Bag (((x[k]!).zZ).length) ce8Bag] Tryz.isAgg190 Tryz.sizeOf190 rfl (qI (H.get 1 rfl) 0 2) ?_)
  have szx10 := H.base.size
  have lt11 := H.repsLt 2 rfl
  refine sw (oc (toInto_ok _ (x[k]!) _ _ _ (H.get 0 rfl).1 (by omega)) ?_)
  rintro v12 w9 r12 x10
  obtain ⟨a12Bag, c12Bag, F12Bag, rfl, f12, H⟩ := H.add_IntoD x10 r12
  have d12 := f12.2
  have q12 := f12.1
  replace f12 : ∀ b ∈ F12Bag, w.heap.size ≤ b := fun b hb => Nat.le_trans szx10 (f12.1 b hb)
  refine oI rfl rfl ?_
  refine sw (o_store H 0 rfl (.agg #[.int .i64 ((x[k]!).qw), .slice a12Bag (((x[k]!).zZ).length) c12Bag]) Tryz.sizeOf164 rfl rfl (by simp [Value.oneCell', Value.cells]) (by have : (xs3).length = k * 2 := (by (exact hl3)); simp [Value.cells]; have := fill_room (n := x.length) (k := k) (s := 2) (by omega); simp at this; omega) fun w14 H => ?_)
  replace H : St _ _ [.box b1 (xs3 ++ [.int .i64 ((x[k]!).qw), .slice a12Bag (((x[k]!).zZ).length) c12Bag] ++ (List.replicate (x.length - (k + 1)) [.int .i64 0, .slice none 0 0]).flatten) 164] _ := (fill_put (vs := [.int .i64 ((x[k]!).qw), .slice a12Bag (((x[k]!).zZ).length) c12Bag]) (zs := [.int .i64 0, .slice none 0 0]) (off := 0 + (k : Int).toNat * 2) (xs := xs3) (k := k) (s := 2) (n := x.length) (by (exact hl3)) (by simp) rfl rfl (by omega)) ▸ H
  replace H : St _ _ [.box b1 (xs3 ++ [.int .i64 ((x[k]!).qw), .slice a12Bag (((x[k]!).zZ).length) c12Bag] ++ (List.replicate (x.length - (k + 1)) [.int .i64 0, .slice none 0 0]).flatten) 164] _ := H
  refine qj (b_n (t_n (ql ?_)))
  refine sp (.int .i64 k) ?_
  refine sw (zk k 1 rfl rfl (by omega) ?_)
  refine sp (.int .i64 (k + 1)) ?_
  refine qj ?_
  replace H := H.snoc_IntoD 3 rfl ((x[k]!).qw) 0 rfl
  rw [show (x.take k) ++ [⟨(x[k]!).qw, (x[k]!).zZ⟩] = x.take (k + 1) from by exact take_snoc (by omega)] at H
  refine xk (m' := x.length - (k + 1)) (by omega) ⟨_, k + 1, (xs3 ++ [.int .i64 ((x[k]!).qw), .slice a12Bag (((x[k]!).zZ).length) c12Bag]), (Fr3 ++ F12Bag), (by exact qg (qg (qg (qg (rfl) rfl) rfl) rfl) rfl), ?_, ?_, ?_, ?_, rfl, H.sel _ (.refl _) _ (by simp)⟩
  · omega
  · first | (simp only [List.length_append, List.length_cons, List.length_nil]; omega) | (simp [hl3]; done) | (simp; omega)
  · exact yX nf3 f12
  · exact yU nd3 d12 lt11 q12
 replace h5 := of_decide_eq_false h5
 refine xQ (t_x (t_x (b_x (t_n (qi (ql ?_))))))
 refine sps [.slice (aa b1 0) x.length x.length, .slice (aa b1 0) x.length x.length] ?_
 refine qj (t_n (qV ?_))
 refine ret1 (.slice (aa b1 0) x.length x.length) rfl rfl ⟨_, rfl, ?_, H.base⟩
 rw [List.take_of_length_le (by omega : x.length ≤ k)] at H
 rw [fill_endN (by omega)] at H
 replace H := H.boxRow 0 rfl 2 x.length (by omega) (by unfold maxLen; omega)
 exact H.newRow 0 rfl 0 rfl (by omega) (by assumption) (by assumption)

theorem toRule_ok (w : World) (x : Qm) (Qd : Option Addr) (yY : Nat) (FxNeed : List Nat) (Qi : Option Addr) (Qb : Nat) (FxHave : List Nat) (Qe : Option Addr) (yZ : Nat) (FxLack : List Nat) (Qh : Option Addr) (Qa : Nat) (FxHere : List Nat) (axOut : Option Addr) (cxOut : Nat) (FxOut : List Nat) (Qg : Option Addr) (y9 : Nat) (FxInto : List Nat) (hxNeed : qE.rep w FxNeed [.slice Qd x.qO.length yY] x.qO) (hxHave : qE.rep w FxHave [.slice Qi x.qX.length Qb] x.qX) (hxLack : qE.rep w FxLack [.slice Qe x.xe.length yZ] x.xe) (hxHere : qE.rep w FxHere [.slice Qh x.xm.length Qa] x.xm) (hxOut : qE.rep w FxOut [.slice axOut x.xZ.length cxOut] x.xZ) (hxInto : qE.rep w FxInto [.slice Qg x.qF.length y9] x.qF) (p0 : tot x ≤ 2000000) : Calls Tryz.prog 103 #[.agg #[.int .i64 x.qw, .int .i64 x.xN, .slice Qd x.qO.length yY, .slice Qi x.qX.length Qb, .slice Qe x.xe.length yZ, .slice Qh x.xm.length Qa, .slice axOut x.xZ.length cxOut, .slice Qg x.qF.length y9, .bool x.xO]] w (Ret (fun v w' => New_RuleD w w' v x) w) := by
 refine en Tryz.func103 Tryz.ntmps103 ?_
 have H := ((((((St.start w).arg hxInto).arg hxOut).arg hxHere).arg hxLack).arg hxHave).arg hxNeed
 have nhxNeed := qA hxNeed
 have nhxHave := qA hxHave
 have nhxLack := qA hxLack
 have nhxHere := qA hxHere
 have nhxOut := qA hxOut
 have nhxInto := qA hxInto
 clear hxNeed hxHave hxLack hxHere hxOut hxInto
 have p1 := tot_RuleD x
 refine qi (ql ?_)
 refine sw (o_box H (.agg #[.int .i64 x.qw, .int .i64 x.xN, .slice Qd x.qO.length yY, .slice Qi x.qX.length Qb, .slice Qe x.xe.length yZ, .slice Qh x.xm.length Qa, .slice axOut x.xZ.length cxOut, .slice Qg x.qF.length y9, .bool x.xO]) rfl fun b1 w2 H => ?_)
 replace H : St _ _ [.box b1 [.int .i64 x.qw, .int .i64 x.xN, .slice Qd x.qO.length yY, .slice Qi x.qX.length Qb, .slice Qe x.xe.length yZ, .slice Qh x.xm.length Qa, .slice axOut x.xZ.length cxOut, .slice Qg x.qF.length y9, .bool x.xO] 111] _ := H
 refine sw (o_alloc H ti121 fun b3 w4 H => ?_)
 replace H : St _ _ [.box b3 [.int .i64 0, .int .i64 0, .slice none 0 0, .slice none 0 0, .slice none 0 0, .slice none 0 0, .slice none 0 0, .slice none 0 0, .bool false] 121, .box b1 [.int .i64 x.qw, .int .i64 x.xN, .slice Qd x.qO.length yY, .slice Qi x.qX.length Qb, .slice Qe x.xe.length yZ, .slice Qh x.xm.length Qa, .slice axOut x.xZ.length cxOut, .slice Qg x.qF.length y9, .bool x.xO] 111] _ := H
 refine qj (t_n (qi (ql ?_)))
 refine sw (o_alloc H ti121 fun b5 w6 H => ?_)
 replace H : St _ _ [.box b5 [.int .i64 0, .int .i64 0, .slice none 0 0, .slice none 0 0, .slice none 0 0, .slice none 0 0, .slice none 0 0, .slice none 0 0, .bool false] 121, .box b3 [.int .i64 0, .int .i64 0, .slice none 0 0, .slice none 0 0, .slice none 0 0, .slice none 0 0, .slice none 0 0, .slice none 0 0, .bool false] 121, .box b1 [.int .i64 x.qw, .int .i64 x.xN, .slice Qd x.qO.length yY, .slice Qi x.qX.length Qb, .slice Qe x.xe.length yZ, .slice Qh x.xm.length Qa, .slice axOut x.xZ.length cxOut, .slice Qg x.qF.length y9, .bool x.xO] 111] _ := H
 refine qj (t_n (qi (ql ?_)))
 refine oF rfl ?_
 refine oL rfl (H.cell 2 rfl rfl) ?_
 refine oF rfl ?_
 refine sw (jr H 0 rfl (.int .i64 x.qw) Tryz.sizeOf2 rfl rfl rfl (Nat.le_of_ble_eq_true rfl) fun w7 H => ?_)
 replace H : St _ _ [.box b5 [.int .i64 x.qw, .int .i64 0, .slice none 0 0, .slice none 0 0, .slice none 0 0, .slice none 0 0, .slice none 0 0, .slice none 0 0, .bool false] 121, .box b3 [.int .i64 0, .int .i64 0, .slice none 0 0, .slice none 0 0, .slice none 0 0, .slice none 0 0, .slice none 0 0, .slice none 0 0, .bool false] 121, .box b1 [.int .i64 x.qw, .int .i64 x.xN, .slice Qd x.qO.length yY, .slice Qi x.qX.length Qb, .slice Qe x.xe.length yZ, .slice Qh x.xm.length Qa, .slice axOut x.xZ.length cxOut, .slice Qg x.qF.length y9, .bool x.xO] 111] _ := H
 refine qj (t_n (qi (ql ?_)))
 refine oF rfl ?_
 refine oL rfl (H.cell 2 rfl rfl) ?_
 refine oF rfl ?_
 refine sw (jr H 0 rfl (.int .i64 x.xN) Tryz.sizeOf2 rfl rfl rfl (Nat.le_of_ble_eq_true rfl) fun w8 H => ?_)
 replace H : St _ _ [.box b5 [.int .i64 x.qw, .int .i64 x.xN, .slice none 0 0, .slice none 0 0, .slice none 0 0, .slice none 0 0, .slice none 0 0, .slice none 0 0, .bool false] 121, .box b3 [.int .i64 0, .int .i64 0, .slice none 0 0, .slice none 0 0, .slice none 0 0, .slice none 0 0, .slice none 0 0, .slice none 0 0, .bool false] 121, .box b1 [.int .i64 x.qw, .int .i64 x.xN, .slice Qd x.qO.length yY, .slice Qi x.qX.length Qb, .slice Qe x.xe.length yZ, .slice Qh x.xm.length Qa, .slice axOut x.xZ.length cxOut, .slice Qg x.qF.length y9, .bool x.xO] 111] _ := H
 refine qj (t_n (qi (ql ?_)))
 refine oF rfl ?_
 refine oL rfl (H.cell 2 rfl rfl) ?_
 have szx10 := H.base.size
 refine sw (oc (Qq _ x.qO _ _ _ (H.get 0 rfl).1 (by first | omega | (have := p2 (by omega); omega))) ?_)
 rintro v11 w9 r11 x10
 obtain ⟨a11, c11, F11, rfl, f11, H⟩ := H.add_is x10 r11.isNew
 have d11 := f11.2
 have q11 := f11.1
 replace f11 : ∀ b ∈ F11, w.heap.size ≤ b := fun b hb => Nat.le_trans szx10 (f11.1 b hb)
 refine oF rfl ?_
 refine sw (jr H 0 rfl (.slice a11 x.qO.length c11) Tryz.sizeOf22 rfl rfl rfl (Nat.le_of_ble_eq_true rfl) fun w12 H => ?_)
 replace H : St _ _ [.box b5 [.int .i64 x.qw, .int .i64 x.xN, .slice a11 x.qO.length c11, .slice none 0 0, .slice none 0 0, .slice none 0 0, .slice none 0 0, .slice none 0 0, .bool false] 121, .box b3 [.int .i64 0, .int .i64 0, .slice none 0 0, .slice none 0 0, .slice none 0 0, .slice none 0 0, .slice none 0 0, .slice none 0 0, .bool false] 121, .box b1 [.int .i64 x.qw, .int .i64 x.xN, .slice Qd x.qO.length yY, .slice Qi x.qX.length Qb, .slice Qe x.xe.length yZ, .slice Qh x.xm.length Qa, .slice axOut x.xZ.length cxOut, .slice Qg x.qF.length y9, .bool x.xO] 111] _ := H
 refine qj (t_n (qi (ql ?_)))
 refine oF rfl ?_
 refine oL rfl (H.cell 2 rfl rfl) ?_
 have szx14 := H.base.size
 have lt15 := H.isLt 0 rfl
 refine sw (oc (Qq _ x.qX _ _ _ (H.get 2 rfl).1 (by first | omega | (have := p2 (by omega); omega))) ?_)
 rintro v16 w13 r16 x14
 obtain ⟨a16, c16, F16, rfl, f16, H⟩ := H.add_is x14 r16.isNew
 have d16 := f16.2
 have q16 := f16.1
 replace f16 : ∀ b ∈ F16, w.heap.size ≤ b := fun b hb => Nat.le_trans szx14 (f16.1 b hb)
 refine oF rfl ?_
 refine sw (jr H 0 rfl (.slice a16 x.qX.length c16) Tryz.sizeOf22 rfl rfl rfl (Nat.le_of_ble_eq_true rfl) fun w17 H => ?_)
 replace H : St _ _ [.box b5 [.int .i64 x.qw, .int .i64 x.xN, .slice a11 x.qO.length c11, .slice a16 x.qX.length c16, .slice none 0 0, .slice none 0 0, .slice none 0 0, .slice none 0 0, .bool false] 121, .box b3 [.int .i64 0, .int .i64 0, .slice none 0 0, .slice none 0 0, .slice none 0 0, .slice none 0 0, .slice none 0 0, .slice none 0 0, .bool false] 121, .box b1 [.int .i64 x.qw, .int .i64 x.xN, .slice Qd x.qO.length yY, .slice Qi x.qX.length Qb, .slice Qe x.xe.length yZ, .slice Qh x.xm.length Qa, .slice axOut x.xZ.length cxOut, .slice Qg x.qF.length y9, .bool x.xO] 111] _ := H
 refine qj (t_n (qi (ql ?_)))
 refine oF rfl ?_
 refine oL rfl (H.cell 2 rfl rfl) ?_
 have szx19 := H.base.size
 have lt20 := H.isLt 0 rfl
 have lt21 := H.isLt 1 rfl
 refine sw (oc (Qq _ x.xe _ _ _ (H.get 4 rfl).1 (by first | omega | (have := p2 (by omega); omega))) ?_)
 rintro v22 w18 r22 x19
 obtain ⟨a22, c22, F22, rfl, f22, H⟩ := H.add_is x19 r22.isNew
 have d22 := f22.2
 have q22 := f22.1
 replace f22 : ∀ b ∈ F22, w.heap.size ≤ b := fun b hb => Nat.le_trans szx19 (f22.1 b hb)
 refine oF rfl ?_
 refine sw (jr H 0 rfl (.slice a22 x.xe.length c22) Tryz.sizeOf22 rfl rfl rfl (Nat.le_of_ble_eq_true rfl) fun w23 H => ?_)
 replace H : St _ _ [.box b5 [.int .i64 x.qw, .int .i64 x.xN, .slice a11 x.qO.length c11, .slice a16 x.qX.length c16, .slice a22 x.xe.length c22, .slice none 0 0, .slice none 0 0, .slice none 0 0, .bool false] 121, .box b3 [.int .i64 0, .int .i64 0, .slice none 0 0, .slice none 0 0, .slice none 0 0, .slice none 0 0, .slice none 0 0, .slice none 0 0, .bool false] 121, .box b1 [.int .i64 x.qw, .int .i64 x.xN, .slice Qd x.qO.length yY, .slice Qi x.qX.length Qb, .slice Qe x.xe.length yZ, .slice Qh x.xm.length Qa, .slice axOut x.xZ.length cxOut, .slice Qg x.qF.length y9, .bool x.xO] 111] _ := H
 refine qj (t_n (qi (ql ?_)))
 refine oF rfl ?_
 refine oL rfl (H.cell 2 rfl rfl) ?_
 have szx25 := H.base.size
 have lt26 := H.isLt 0 rfl
 have lt27 := H.isLt 1 rfl
 have lt28 := H.isLt 2 rfl
 refine sw (oc (Qq _ x.xm _ _ _ (H.get 6 rfl).1 (by first | omega | (have := p2 (by omega); omega))) ?_)
 rintro v29 w24 r29 x25
 obtain ⟨a29, c29, F29, rfl, f29, H⟩ := H.add_is x25 r29.isNew
 have d29 := f29.2
 have q29 := f29.1
 replace f29 : ∀ b ∈ F29, w.heap.size ≤ b := fun b hb => Nat.le_trans szx25 (f29.1 b hb)
 refine oF rfl ?_
 refine sw (jr H 0 rfl (.slice a29 x.xm.length c29) Tryz.sizeOf22 rfl rfl rfl (Nat.le_of_ble_eq_true rfl) fun w30 H => ?_)
 replace H : St _ _ [.box b5 [.int .i64 x.qw, .int .i64 x.xN, .slice a11 x.qO.length c11, .slice a16 x.qX.length c16, .slice a22 x.xe.length c22, .slice a29 x.xm.length c29, .slice none 0 0, .slice none 0 0, .bool false] 121, .box b3 [.int .i64 0, .int .i64 0, .slice none 0 0, .slice none 0 0, .slice none 0 0, .slice none 0 0, .slice none 0 0, .slice none 0 0, .bool false] 121, .box b1 [.int .i64 x.qw, .int .i64 x.xN, .slice Qd x.qO.length yY, .slice Qi x.qX.length Qb, .slice Qe x.xe.length yZ, .slice Qh x.xm.length Qa, .slice axOut x.xZ.length cxOut, .slice Qg x.qF.length y9, .bool x.xO] 111] _ := H
 refine qj (t_n (qi (ql ?_)))
 refine oF rfl ?_
 refine oL rfl (H.cell 2 rfl rfl) ?_
 have szx32 := H.base.size
 have lt33 := H.isLt 0 rfl
 have lt34 := H.isLt 1 rfl
 have lt35 := H.isLt 2 rfl
 have lt36 := H.isLt 3 rfl
 refine sw (oc (Qq _ x.xZ _ _ _ (H.get 8 rfl).1 (by first | omega | (have := p2 (by omega); omega))) ?_)
 rintro v37 w31 r37 x32
 obtain ⟨a37, c37, F37, rfl, f37, H⟩ := H.add_is x32 r37.isNew
 have d37 := f37.2
 have q37 := f37.1
 replace f37 : ∀ b ∈ F37, w.heap.size ≤ b := fun b hb => Nat.le_trans szx32 (f37.1 b hb)
 refine oF rfl ?_
 refine sw (jr H 0 rfl (.slice a37 x.xZ.length c37) Tryz.sizeOf22 rfl rfl rfl (Nat.le_of_ble_eq_true rfl) fun w38 H => ?_)
 replace H : St _ _ [.box b5 [.int .i64 x.qw, .int .i64 x.xN, .slice a11 x.qO.length c11, .slice a16 x.qX.length c16, .slice a22 x.xe.length c22, .slice a29 x.xm.length c29, .slice a37 x.xZ.length c37, .slice none 0 0, .bool false] 121, .box b3 [.int .i64 0, .int .i64 0, .slice none 0 0, .slice none 0 0, .slice none 0 0, .slice none 0 0, .slice none 0 0, .slice none 0 0, .bool false] 121, .box b1 [.int .i64 x.qw, .int .i64 x.xN, .slice Qd x.qO.length yY, .slice Qi x.qX.length Qb, .slice Qe x.xe.length yZ, .slice Qh x.xm.length Qa, .slice axOut x.xZ.length cxOut, .slice Qg x.qF.length y9, .bool x.xO] 111] _ := H
 refine qj (t_n (qi (ql ?_)))
 refine oF rfl ?_
 refine oL rfl (H.cell 2 rfl rfl) ?_
 have szx40 := H.base.size
 have lt41 := H.isLt 0 rfl
 have lt42 := H.isLt 1 rfl
 have lt43 := H.isLt 2 rfl
 have lt44 := H.isLt 3 rfl
 have lt45 := H.isLt 4 rfl
 refine sw (oc (toIntoS_ok _ x.qF _ _ _ (H.get 10 rfl).1 (by first | omega | (have := p2 (by omega); omega))) ?_)
 rintro v46 w39 r46 x40
 obtain ⟨a46, c46, F46, rfl, f46, H⟩ := H.add_is x40 r46.isNew
 have d46 := f46.2
 have q46 := f46.1
 replace f46 : ∀ b ∈ F46, w.heap.size ≤ b := fun b hb => Nat.le_trans szx40 (f46.1 b hb)
 refine oF rfl ?_
 refine sw (jr H 0 rfl (.slice a46 x.qF.length c46) Tryz.sizeOf119 rfl rfl rfl (Nat.le_of_ble_eq_true rfl) fun w47 H => ?_)
 replace H : St _ _ [.box b5 [.int .i64 x.qw, .int .i64 x.xN, .slice a11 x.qO.length c11, .slice a16 x.qX.length c16, .slice a22 x.xe.length c22, .slice a29 x.xm.length c29, .slice a37 x.xZ.length c37, .slice a46 x.qF.length c46, .bool false] 121, .box b3 [.int .i64 0, .int .i64 0, .slice none 0 0, .slice none 0 0, .slice none 0 0, .slice none 0 0, .slice none 0 0, .slice none 0 0, .bool false] 121, .box b1 [.int .i64 x.qw, .int .i64 x.xN, .slice Qd x.qO.length yY, .slice Qi x.qX.length Qb, .slice Qe x.xe.length yZ, .slice Qh x.xm.length Qa, .slice axOut x.xZ.length cxOut, .slice Qg x.qF.length y9, .bool x.xO] 111] _ := H
 refine qj (t_n (qi (ql ?_)))
 refine oF rfl ?_
 refine oL rfl (H.cell 2 rfl rfl) ?_
 refine oF rfl ?_
 refine sw (jr H 0 rfl (.bool x.xO) Tryz.sizeOf4 rfl rfl rfl (Nat.le_of_ble_eq_true rfl) fun w48 H => ?_)
 replace H : St _ _ [.box b5 [.int .i64 x.qw, .int .i64 x.xN, .slice a11 x.qO.length c11, .slice a16 x.qX.length c16, .slice a22 x.xe.length c22, .slice a29 x.xm.length c29, .slice a37 x.xZ.length c37, .slice a46 x.qF.length c46, .bool x.xO] 121, .box b3 [.int .i64 0, .int .i64 0, .slice none 0 0, .slice none 0 0, .slice none 0 0, .slice none 0 0, .slice none 0 0, .slice none 0 0, .bool false] 121, .box b1 [.int .i64 x.qw, .int .i64 x.xN, .slice Qd x.qO.length yY, .slice Qi x.qX.length Qb, .slice Qe x.xe.length yZ, .slice Qh x.xm.length Qa, .slice axOut x.xZ.length cxOut, .slice Qg x.qF.length y9, .bool x.xO] 111] _ := H
 refine qj (t_n (qi (ql ?_)))
 refine sw (zC [.int .i64 x.qw, .int .i64 x.xN, .slice a11 x.qO.length c11, .slice a16 x.qX.length c16, .slice a22 x.xe.length c22, .slice a29 x.xm.length c29, .slice a37 x.xZ.length c37, .slice a46 x.qF.length c46, .bool x.xO] Tryz.isAgg121 Tryz.sizeOf121 rfl (qI (H.cells 0 rfl) 0 9) ?_)
 refine sw (o_store H 1 rfl (.agg #[.int .i64 x.qw, .int .i64 x.xN, .slice a11 x.qO.length c11, .slice a16 x.qX.length c16, .slice a22 x.xe.length c22, .slice a29 x.xm.length c29, .slice a37 x.xZ.length c37, .slice a46 x.qF.length c46, .bool x.xO]) Tryz.sizeOf121 rfl rfl (by simp [Value.oneCell', Value.cells]) (Nat.le_of_ble_eq_true rfl) fun w49 H => ?_)
 replace H : St _ _ [.box b5 [.int .i64 x.qw, .int .i64 x.xN, .slice a11 x.qO.length c11, .slice a16 x.qX.length c16, .slice a22 x.xe.length c22, .slice a29 x.xm.length c29, .slice a37 x.xZ.length c37, .slice a46 x.qF.length c46, .bool x.xO] 121, .box b3 [.int .i64 x.qw, .int .i64 x.xN, .slice a11 x.qO.length c11, .slice a16 x.qX.length c16, .slice a22 x.xe.length c22, .slice a29 x.xm.length c29, .slice a37 x.xZ.length c37, .slice a46 x.qF.length c46, .bool x.xO] 121, .box b1 [.int .i64 x.qw, .int .i64 x.xN, .slice Qd x.qO.length yY, .slice Qi x.qX.length Qb, .slice Qe x.xe.length yZ, .slice Qh x.xm.length Qa, .slice axOut x.xZ.length cxOut, .slice Qg x.qF.length y9, .bool x.xO] 111] _ := H
 refine qj (t_n (qV ?_))
 refine retC H 1 rfl rfl Tryz.isAgg121 Tryz.sizeOf121 rfl ⟨_, rfl, ?_, H.base⟩
 exact ⟨_, _, _, _, _, _, _, _, _, _, _, _, _, _, _, _, _, _, rfl, (H.get 5 rfl).1, (H.get 4 rfl).1, (H.get 3 rfl).1, (H.get 2 rfl).1, (H.get 1 rfl).1, (H.get 0 rfl).1, (yX (yX (yX (yX (yX f11 f16) f22) f29) f37) f46), (yU (yU (yU (yU (yU d11 d16 lt15 q16) d22 (Q4 lt21 lt20) q22) d29 (Q4 (Q4 lt28 lt27) lt26) q29) d37 (Q4 (Q4 (Q4 lt36 lt35) lt34) lt33) q37) d46 (Q4 (Q4 (Q4 (Q4 lt45 lt44) lt43) lt42) lt41) q46), (((((((H.get 5 rfl).2 rfl).app ((H.get 4 rfl).2 rfl)).app ((H.get 3 rfl).2 rfl)).app ((H.get 2 rfl).2 rfl)).app ((H.get 1 rfl).2 rfl)).app ((H.get 0 rfl).2 rfl))⟩

theorem toRuleS_ok (w : World) (x : List Qm) (ax : Option Addr) (cx : Nat) (Fx : List Nat) (hx : qE.rep w Fx [.slice ax x.length cx] x) (p0 : tot x ≤ 2000000) : Calls Tryz.prog 60 #[.slice ax x.length cx] w (Ret (fun v w' => OwnNew w w' 121 v x) w) := by
 refine en Tryz.func60 Tryz.ntmps60 ?_
 have H := (St.start w).arg hx
 have nhx := qA hx
 clear hx
 have p1 := len_tot x
 refine qi (ql ?_)
 refine sp (.slice none 0 0) ?_
 refine qj (t_n (qi (ql ?_)))
 refine sp (.slice ax x.length cx) ?_
 refine oN rfl ?_
 refine sw (o_makeN H Tryz.underlying34 ti121 rfl (by decide) x.length rfl rfl (by omega) (by omega) fun b1 w2 H => ?_)
 replace H : St _ _ [.box b1 ((List.replicate x.length [.int .i64 0, .int .i64 0, .slice none 0 0, .slice none 0 0, .slice none 0 0, .slice none 0 0, .slice none 0 0, .slice none 0 0, .bool false]).flatten) 121] _ := H
 refine sp (.slice (aa b1 0) x.length x.length) ?_
 refine qj (t_n (qi (qi (ql ?_))))
 refine sp (.int .i64 0) ?_
 refine qj (t_n (qW ?_))
 replace H := H.jq (α := Qm)
 refine zf (fun m' ρ w3 => ∃ (junk : Env) (k : Nat) (xs3 : List Value) (Fr3 : List Nat), ρ = upd (upd (upd (upd junk 0 (.slice ax x.length cx)) 2 (.slice none 0 0)) 3 (.slice (aa b1 0) x.length x.length)) 4 (.int .i64 k) ∧ (k ≤ x.length) ∧ (xs3.length = k * 9) ∧ (∀ b ∈ Fr3, w.heap.size ≤ b) ∧ (Fr3.Nodup) ∧ m' = x.length - k ∧ St w w3 [.box b1 (xs3 ++ (List.replicate (x.length - (k)) [.int .i64 0, .int .i64 0, .slice none 0 0, .slice none 0 0, .slice none 0 0, .slice none 0 0, .slice none 0 0, .slice none 0 0, .bool false]).flatten) 121] [zn true Fr3 xs3 (x.take k), isF false Fx (.slice ax x.length cx) x]) (x.length - 0) ⟨_, 0, [], [], (by exact qg (qg (qg (qg (rfl) rfl) rfl) rfl) rfl), (by omega), (by rfl), (by simp), (by simp), rfl, H⟩ ?_
 clear H
 rintro m' ρ w4 ⟨junk, k, xs3, Fr3, rfl, i0, hl3, nf3, nd3, rfl, H⟩
 have p2 := fun h => tot_get (l := x) (k := k) h
 refine qi (qi (ql ?_))
 refine sps [.int .i64 k, .slice ax x.length cx] ?_
 refine oN rfl ?_
 refine sp (.bool (decide ((k : Int) < x.length))) ?_
 refine qj (t_n ?_)
 refine qC (decide ((k : Int) < x.length)) rfl (fun h5 => ?_) (fun h5 => ?_)
 ·skip
  replace h5 := of_decide_eq_true h5
  refine qM (t_n (qi (qW (ql ?_))))
  refine sps [.slice (aa b1 0) x.length x.length, .int .i64 k, .slice ax x.length cx, .int .i64 k] ?_
  obtain ⟨b6, o7, rfl⟩ := H.addr 1 rfl (by omega)
  obtain ⟨ae8Need, ce8Need, Fe8Need, ae8Have, ce8Have, Fe8Have, ae8Lack, ce8Lack, Fe8Lack, ae8Here, ce8Here, Fe8Here, ae8Out, ce8Out, Fe8Out, ae8Into, ce8Into, Fe8Into, H⟩ := H.jK 1 rfl k k (by omega) (by omega) (by omega)
  refine oI rfl rfl ?_
  refine sw (zC [.int .i64 ((x[k]!).qw), .int .i64 ((x[k]!).xN), .slice ae8Need (((x[k]!).qO).length) ce8Need, .slice ae8Have (((x[k]!).qX).length) ce8Have, .slice ae8Lack (((x[k]!).xe).length) ce8Lack, .slice ae8Here (((x[k]!).xm).length) ce8Here, .slice ae8Out (((x[k]!).xZ).length) ce8Out, .slice ae8Into (((x[k]!).qF).length) ce8Into, .bool ((x[k]!).xO)] Tryz.isAgg111 Tryz.sizeOf111 rfl (qI (H.get 6 rfl) 0 9) ?_)
  have szx10 := H.base.size
  have lt11 := H.repsLt 7 rfl
  refine sw (oc (toRule_ok _ (x[k]!) _ _ _ _ _ _ _ _ _ _ _ _ _ _ _ _ _ _ (H.get 0 rfl).1 (H.get 1 rfl).1 (H.get 2 rfl).1 (H.get 3 rfl).1 (H.get 4 rfl).1 (H.get 5 rfl).1 (by omega)) ?_)
  rintro v12 w9 r12 x10
  obtain ⟨a12Need, c12Need, F12Need, a12Have, c12Have, F12Have, a12Lack, c12Lack, F12Lack, a12Here, c12Here, F12Here, a12Out, c12Out, F12Out, a12Into, c12Into, F12Into, rfl, f12, H⟩ := H.add_RuleD x10 r12
  have d12 := f12.2
  have q12 := f12.1
  replace f12 : ∀ b ∈ (F12Need ++ F12Have ++ F12Lack ++ F12Here ++ F12Out ++ F12Into), w.heap.size ≤ b := fun b hb => Nat.le_trans szx10 (f12.1 b hb)
  refine oI rfl rfl ?_
  refine sw (o_store H 0 rfl (.agg #[.int .i64 ((x[k]!).qw), .int .i64 ((x[k]!).xN), .slice a12Need (((x[k]!).qO).length) c12Need, .slice a12Have (((x[k]!).qX).length) c12Have, .slice a12Lack (((x[k]!).xe).length) c12Lack, .slice a12Here (((x[k]!).xm).length) c12Here, .slice a12Out (((x[k]!).xZ).length) c12Out, .slice a12Into (((x[k]!).qF).length) c12Into, .bool ((x[k]!).xO)]) Tryz.sizeOf121 rfl rfl (by simp [Value.oneCell', Value.cells]) (by have : (xs3).length = k * 9 := (by (exact hl3)); simp [Value.cells]; have := fill_room (n := x.length) (k := k) (s := 9) (by omega); simp at this; omega) fun w14 H => ?_)
  replace H : St _ _ [.box b1 (xs3 ++ [.int .i64 ((x[k]!).qw), .int .i64 ((x[k]!).xN), .slice a12Need (((x[k]!).qO).length) c12Need, .slice a12Have (((x[k]!).qX).length) c12Have, .slice a12Lack (((x[k]!).xe).length) c12Lack, .slice a12Here (((x[k]!).xm).length) c12Here, .slice a12Out (((x[k]!).xZ).length) c12Out, .slice a12Into (((x[k]!).qF).length) c12Into, .bool ((x[k]!).xO)] ++ (List.replicate (x.length - (k + 1)) [.int .i64 0, .int .i64 0, .slice none 0 0, .slice none 0 0, .slice none 0 0, .slice none 0 0, .slice none 0 0, .slice none 0 0, .bool false]).flatten) 121] _ := (fill_put (vs := [.int .i64 ((x[k]!).qw), .int .i64 ((x[k]!).xN), .slice a12Need (((x[k]!).qO).length) c12Need, .slice a12Have (((x[k]!).qX).length) c12Have, .slice a12Lack (((x[k]!).xe).length) c12Lack, .slice a12Here (((x[k]!).xm).length) c12Here, .slice a12Out (((x[k]!).xZ).length) c12Out, .slice a12Into (((x[k]!).qF).length) c12Into, .bool ((x[k]!).xO)]) (zs := [.int .i64 0, .int .i64 0, .slice none 0 0, .slice none 0 0, .slice none 0 0, .slice none 0 0, .slice none 0 0, .slice none 0 0, .bool false]) (off := 0 + (k : Int).toNat * 9) (xs := xs3) (k := k) (s := 9) (n := x.length) (by (exact hl3)) (by simp) rfl rfl (by omega)) ▸ H
  replace H : St _ _ [.box b1 (xs3 ++ [.int .i64 ((x[k]!).qw), .int .i64 ((x[k]!).xN), .slice a12Need (((x[k]!).qO).length) c12Need, .slice a12Have (((x[k]!).qX).length) c12Have, .slice a12Lack (((x[k]!).xe).length) c12Lack, .slice a12Here (((x[k]!).xm).length) c12Here, .slice a12Out (((x[k]!).xZ).length) c12Out, .slice a12Into (((x[k]!).qF).length) c12Into, .bool ((x[k]!).xO)] ++ (List.replicate (x.length - (k + 1)) [.int .i64 0, .int .i64 0, .slice none 0 0, .slice none 0 0, .slice none 0 0, .slice none 0 0, .slice none 0 0, .slice none 0 0, .bool false]).flatten) 121] _ := H
  refine qj (b_n (t_n (ql ?_)))
  refine sp (.int .i64 k) ?_
  refine sw (zk k 1 rfl rfl (by omega) ?_)
  refine sp (.int .i64 (k + 1)) ?_
  refine qj ?_
  replace H := H.snoc_RuleD 13 rfl ((x[k]!).qw) ((x[k]!).xN) 0 rfl 1 rfl 2 rfl 3 rfl 4 rfl 5 rfl ((x[k]!).xO)
  rw [show (x.take k) ++ [⟨(x[k]!).qw, (x[k]!).xN, (x[k]!).qO, (x[k]!).qX, (x[k]!).xe, (x[k]!).xm, (x[k]!).xZ, (x[k]!).qF, (x[k]!).xO⟩] = x.take (k + 1) from by exact take_snoc (by omega)] at H
  refine xk (m' := x.length - (k + 1)) (by omega) ⟨_, k + 1, (xs3 ++ [.int .i64 ((x[k]!).qw), .int .i64 ((x[k]!).xN), .slice a12Need (((x[k]!).qO).length) c12Need, .slice a12Have (((x[k]!).qX).length) c12Have, .slice a12Lack (((x[k]!).xe).length) c12Lack, .slice a12Here (((x[k]!).xm).length) c12Here, .slice a12Out (((x[k]!).xZ).length) c12Out, .slice a12Into (((x[k]!).qF).length) c12Into, .bool ((x[k]!).xO)]), (Fr3 ++ (F12Need ++ F12Have ++ F12Lack ++ F12Here ++ F12Out ++ F12Into)), (by exact qg (qg (qg (qg (rfl) rfl) rfl) rfl) rfl), ?_, ?_, ?_, ?_, rfl, H.sel _ (.refl _) _ (by simp)⟩
  · omega
  · first | (simp only [List.length_append, List.length_cons, List.length_nil]; omega) | (simp [hl3]; done) | (simp; omega)
  · exact yX nf3 f12
  · exact yU nd3 d12 lt11 q12
 replace h5 := of_decide_eq_false h5
 refine xQ (t_x (t_x (b_x (t_n (qi (ql ?_))))))
 refine sps [.slice (aa b1 0) x.length x.length, .slice (aa b1 0) x.length x.length] ?_
 refine qj (t_n (qV ?_))
 refine ret1 (.slice (aa b1 0) x.length x.length) rfl rfl ⟨_, rfl, ?_, H.base⟩
 rw [List.take_of_length_le (by omega : x.length ≤ k)] at H
 rw [fill_endN (by omega)] at H
 replace H := H.boxRow 0 rfl 9 x.length (by omega) (by unfold maxLen; omega)
 exact H.newRow 0 rfl 0 rfl (by omega) (by assumption) (by assumption)

theorem toSystem_ok (w : World) (x : qK) (zB : Option Addr) (zA : Nat) (jy : List Nat) (vN : Option Addr) (vM : Nat) (Qw : List Nat) (jV : qE.rep w jy [.slice zB x.qf.length zA] x.qf) (QY : qE.rep w Qw [.slice vN x.qh.length vM] x.qh) (p0 : tot x ≤ 2000000) : Calls Tryz.prog 17 #[.agg #[.int .i64 x.qH, .slice zB x.qf.length zA, .slice vN x.qh.length vM]] w (Ret (fun v w' => New_SystemD w w' v x) w) := by
 refine en Tryz.func17 Tryz.ntmps17 ?_
 have H := ((St.start w).arg QY).arg jV
 have nhxParents := qA jV
 have nhxRules := qA QY
 clear jV QY
 have p1 := tot_SystemD x
 refine qi (ql ?_)
 refine sw (o_box H (.agg #[.int .i64 x.qH, .slice zB x.qf.length zA, .slice vN x.qh.length vM]) rfl fun b1 w2 H => ?_)
 replace H : St _ _ [.box b1 [.int .i64 x.qH, .slice zB x.qf.length zA, .slice vN x.qh.length vM] 25] _ := H
 refine sw (o_alloc H ti36 fun b3 w4 H => ?_)
 replace H : St _ _ [.box b3 [.int .i64 0, .slice none 0 0, .slice none 0 0] 36, .box b1 [.int .i64 x.qH, .slice zB x.qf.length zA, .slice vN x.qh.length vM] 25] _ := H
 refine qj (t_n (qi (ql ?_)))
 refine sw (o_alloc H ti36 fun b5 w6 H => ?_)
 replace H : St _ _ [.box b5 [.int .i64 0, .slice none 0 0, .slice none 0 0] 36, .box b3 [.int .i64 0, .slice none 0 0, .slice none 0 0] 36, .box b1 [.int .i64 x.qH, .slice zB x.qf.length zA, .slice vN x.qh.length vM] 25] _ := H
 refine qj (t_n (qi (ql ?_)))
 refine oF rfl ?_
 refine oL rfl (H.cell 2 rfl rfl) ?_
 refine oF rfl ?_
 refine sw (jr H 0 rfl (.int .i64 x.qH) Tryz.sizeOf2 rfl rfl rfl (Nat.le_of_ble_eq_true rfl) fun w7 H => ?_)
 replace H : St _ _ [.box b5 [.int .i64 x.qH, .slice none 0 0, .slice none 0 0] 36, .box b3 [.int .i64 0, .slice none 0 0, .slice none 0 0] 36, .box b1 [.int .i64 x.qH, .slice zB x.qf.length zA, .slice vN x.qh.length vM] 25] _ := H
 refine qj (t_n (qi (ql ?_)))
 refine oF rfl ?_
 refine oL rfl (H.cell 2 rfl rfl) ?_
 have szx9 := H.base.size
 refine sw (oc (Qq _ x.qf _ _ _ (H.get 0 rfl).1 (by first | omega | (have := p2 (by omega); omega))) ?_)
 rintro v10 w8 r10 x9
 obtain ⟨a10, c10, F10, rfl, f10, H⟩ := H.add_is x9 r10.isNew
 have d10 := f10.2
 have q10 := f10.1
 replace f10 : ∀ b ∈ F10, w.heap.size ≤ b := fun b hb => Nat.le_trans szx9 (f10.1 b hb)
 refine oF rfl ?_
 refine sw (jr H 0 rfl (.slice a10 x.qf.length c10) Tryz.sizeOf22 rfl rfl rfl (Nat.le_of_ble_eq_true rfl) fun w11 H => ?_)
 replace H : St _ _ [.box b5 [.int .i64 x.qH, .slice a10 x.qf.length c10, .slice none 0 0] 36, .box b3 [.int .i64 0, .slice none 0 0, .slice none 0 0] 36, .box b1 [.int .i64 x.qH, .slice zB x.qf.length zA, .slice vN x.qh.length vM] 25] _ := H
 refine qj (t_n (qi (ql ?_)))
 refine oF rfl ?_
 refine oL rfl (H.cell 2 rfl rfl) ?_
 have szx13 := H.base.size
 have lt14 := H.isLt 0 rfl
 refine sw (oc (toRuleS_ok _ x.qh _ _ _ (H.get 2 rfl).1 (by first | omega | (have := p2 (by omega); omega))) ?_)
 rintro v15 w12 r15 x13
 obtain ⟨a15, c15, F15, rfl, f15, H⟩ := H.add_is x13 r15.isNew
 have d15 := f15.2
 have q15 := f15.1
 replace f15 : ∀ b ∈ F15, w.heap.size ≤ b := fun b hb => Nat.le_trans szx13 (f15.1 b hb)
 refine oF rfl ?_
 refine sw (jr H 0 rfl (.slice a15 x.qh.length c15) Tryz.sizeOf34 rfl rfl rfl (Nat.le_of_ble_eq_true rfl) fun w16 H => ?_)
 replace H : St _ _ [.box b5 [.int .i64 x.qH, .slice a10 x.qf.length c10, .slice a15 x.qh.length c15] 36, .box b3 [.int .i64 0, .slice none 0 0, .slice none 0 0] 36, .box b1 [.int .i64 x.qH, .slice zB x.qf.length zA, .slice vN x.qh.length vM] 25] _ := H
 refine qj (t_n (qi (ql ?_)))
 refine sw (zC [.int .i64 x.qH, .slice a10 x.qf.length c10, .slice a15 x.qh.length c15] Tryz.isAgg36 Tryz.sizeOf36 rfl (qI (H.cells 0 rfl) 0 3) ?_)
 refine sw (o_store H 1 rfl (.agg #[.int .i64 x.qH, .slice a10 x.qf.length c10, .slice a15 x.qh.length c15]) Tryz.sizeOf36 rfl rfl (by simp [Value.oneCell', Value.cells]) (Nat.le_of_ble_eq_true rfl) fun w17 H => ?_)
 replace H : St _ _ [.box b5 [.int .i64 x.qH, .slice a10 x.qf.length c10, .slice a15 x.qh.length c15] 36, .box b3 [.int .i64 x.qH, .slice a10 x.qf.length c10, .slice a15 x.qh.length c15] 36, .box b1 [.int .i64 x.qH, .slice zB x.qf.length zA, .slice vN x.qh.length vM] 25] _ := H
 refine qj (t_n (qV ?_))
 refine retC H 1 rfl rfl Tryz.isAgg36 Tryz.sizeOf36 rfl ⟨_, rfl, ?_, H.base⟩
 exact ⟨_, _, _, _, _, _, rfl, (H.get 1 rfl).1, (H.get 0 rfl).1, (yX f10 f15), (yU d10 d15 lt14 q15), (((H.get 1 rfl).2 rfl).app ((H.get 0 rfl).2 rfl))⟩

theorem toState_ok (w : World) (x : xu) (vG : Option Addr) (vF : Nat) (Qj : List Nat) (jO : Option Addr) (jL : Nat) (XF : List Nat) (zH : Option Addr) (zG : Nat) (jQ : List Nat) (QZ : qE.rep w Qj [.slice vG x.qo.length vF] x.qo) (hxBags : qE.rep w XF [.slice jO x.qy.length jL] x.qy) (yO : qE.rep w jQ [.slice zH x.qm.length zG] x.qm) (p0 : tot x ≤ 2000000) : Calls Tryz.prog 18 #[.agg #[.slice vG x.qo.length vF, .slice jO x.qy.length jL, .slice zH x.qm.length zG]] w (Ret (fun v w' => New_StateD w w' v x) w) := by
 refine en Tryz.func18 Tryz.ntmps18 ?_
 have H := (((St.start w).arg yO).arg hxBags).arg QZ
 have nhxAlive := qA QZ
 have nhxBags := qA hxBags
 have nhxAround := qA yO
 clear QZ hxBags yO
 have p1 := tot_StateD x
 refine qi (ql ?_)
 refine sw (o_box H (.agg #[.slice vG x.qo.length vF, .slice jO x.qy.length jL, .slice zH x.qm.length zG]) rfl fun b1 w2 H => ?_)
 replace H : St _ _ [.box b1 [.slice vG x.qo.length vF, .slice jO x.qy.length jL, .slice zH x.qm.length zG] 29] _ := H
 refine sw (o_alloc H ti38 fun b3 w4 H => ?_)
 replace H : St _ _ [.box b3 [.slice none 0 0, .slice none 0 0, .slice none 0 0] 38, .box b1 [.slice vG x.qo.length vF, .slice jO x.qy.length jL, .slice zH x.qm.length zG] 29] _ := H
 refine qj (t_n (qi (ql ?_)))
 refine sw (o_alloc H ti38 fun b5 w6 H => ?_)
 replace H : St _ _ [.box b5 [.slice none 0 0, .slice none 0 0, .slice none 0 0] 38, .box b3 [.slice none 0 0, .slice none 0 0, .slice none 0 0] 38, .box b1 [.slice vG x.qo.length vF, .slice jO x.qy.length jL, .slice zH x.qm.length zG] 29] _ := H
 refine qj (t_n (qi (ql ?_)))
 refine oF rfl ?_
 refine oL rfl (H.cell 2 rfl rfl) ?_
 have szx8 := H.base.size
 refine sw (oc (toBoolS_ok _ x.qo _ _ _ (H.get 0 rfl).1 (by first | omega | (have := p2 (by omega); omega))) ?_)
 rintro v9 w7 r9 x8
 obtain ⟨a9, c9, F9, rfl, f9, H⟩ := H.add_is x8 r9.isNew
 have d9 := f9.2
 have q9 := f9.1
 replace f9 : ∀ b ∈ F9, w.heap.size ≤ b := fun b hb => Nat.le_trans szx8 (f9.1 b hb)
 refine oF rfl ?_
 refine sw (jr H 0 rfl (.slice a9 x.qo.length c9) Tryz.sizeOf26 rfl rfl rfl (Nat.le_of_ble_eq_true rfl) fun w10 H => ?_)
 replace H : St _ _ [.box b5 [.slice a9 x.qo.length c9, .slice none 0 0, .slice none 0 0] 38, .box b3 [.slice none 0 0, .slice none 0 0, .slice none 0 0] 38, .box b1 [.slice vG x.qo.length vF, .slice jO x.qy.length jL, .slice zH x.qm.length zG] 29] _ := H
 refine qj (t_n (qi (ql ?_)))
 refine oF rfl ?_
 refine oL rfl (H.cell 2 rfl rfl) ?_
 have szx12 := H.base.size
 have lt13 := H.isLt 0 rfl
 refine sw (oc (toInt64SS_ok _ x.qy _ _ _ (H.get 2 rfl).1 (by first | omega | (have := p2 (by omega); omega))) ?_)
 rintro v14 w11 r14 x12
 obtain ⟨a14, c14, F14, rfl, f14, H⟩ := H.add_is x12 r14.isNew
 have d14 := f14.2
 have q14 := f14.1
 replace f14 : ∀ b ∈ F14, w.heap.size ≤ b := fun b hb => Nat.le_trans szx12 (f14.1 b hb)
 refine oF rfl ?_
 refine sw (jr H 0 rfl (.slice a14 x.qy.length c14) Tryz.sizeOf27 rfl rfl rfl (Nat.le_of_ble_eq_true rfl) fun w15 H => ?_)
 replace H : St _ _ [.box b5 [.slice a9 x.qo.length c9, .slice a14 x.qy.length c14, .slice none 0 0] 38, .box b3 [.slice none 0 0, .slice none 0 0, .slice none 0 0] 38, .box b1 [.slice vG x.qo.length vF, .slice jO x.qy.length jL, .slice zH x.qm.length zG] 29] _ := H
 refine qj (t_n (qi (ql ?_)))
 refine oF rfl ?_
 refine oL rfl (H.cell 2 rfl rfl) ?_
 have szx17 := H.base.size
 have lt18 := H.isLt 0 rfl
 have lt19 := H.isLt 1 rfl
 refine sw (oc (Qq _ x.qm _ _ _ (H.get 4 rfl).1 (by first | omega | (have := p2 (by omega); omega))) ?_)
 rintro v20 w16 r20 x17
 obtain ⟨a20, c20, F20, rfl, f20, H⟩ := H.add_is x17 r20.isNew
 have d20 := f20.2
 have q20 := f20.1
 replace f20 : ∀ b ∈ F20, w.heap.size ≤ b := fun b hb => Nat.le_trans szx17 (f20.1 b hb)
 refine oF rfl ?_
 refine sw (jr H 0 rfl (.slice a20 x.qm.length c20) Tryz.sizeOf22 rfl rfl rfl (Nat.le_of_ble_eq_true rfl) fun w21 H => ?_)
 replace H : St _ _ [.box b5 [.slice a9 x.qo.length c9, .slice a14 x.qy.length c14, .slice a20 x.qm.length c20] 38, .box b3 [.slice none 0 0, .slice none 0 0, .slice none 0 0] 38, .box b1 [.slice vG x.qo.length vF, .slice jO x.qy.length jL, .slice zH x.qm.length zG] 29] _ := H
 refine qj (t_n (qi (ql ?_)))
 refine sw (zC [.slice a9 x.qo.length c9, .slice a14 x.qy.length c14, .slice a20 x.qm.length c20] Tryz.isAgg38 Tryz.sizeOf38 rfl (qI (H.cells 0 rfl) 0 3) ?_)
 refine sw (o_store H 1 rfl (.agg #[.slice a9 x.qo.length c9, .slice a14 x.qy.length c14, .slice a20 x.qm.length c20]) Tryz.sizeOf38 rfl rfl (by simp [Value.oneCell', Value.cells]) (Nat.le_of_ble_eq_true rfl) fun w22 H => ?_)
 replace H : St _ _ [.box b5 [.slice a9 x.qo.length c9, .slice a14 x.qy.length c14, .slice a20 x.qm.length c20] 38, .box b3 [.slice a9 x.qo.length c9, .slice a14 x.qy.length c14, .slice a20 x.qm.length c20] 38, .box b1 [.slice vG x.qo.length vF, .slice jO x.qy.length jL, .slice zH x.qm.length zG] 29] _ := H
 refine qj (t_n (qV ?_))
 refine retC H 1 rfl rfl Tryz.isAgg38 Tryz.sizeOf38 rfl ⟨_, rfl, ?_, H.base⟩
 exact ⟨_, _, _, _, _, _, _, _, _, rfl, (H.get 2 rfl).1, (H.get 1 rfl).1, (H.get 0 rfl).1, (yX (yX f9 f14) f20), (yU (yU d9 d14 lt13 q14) d20 (Q4 lt19 lt18) q20), ((((H.get 2 rfl).2 rfl).app ((H.get 1 rfl).2 rfl)).app ((H.get 0 rfl).2 rfl))⟩

theorem yI (w : World) (x : List Int) (y : List Int) (ax : Option Addr) (cx : Nat) (Fx : List Nat) (ay : Option Addr) (cy : Nat) (Fy : List Nat) (hx : qE.rep w Fx [.slice ax x.length cx] x) (hy : qE.rep w Fy [.slice ay y.length cy] y) : Calls Tryz.prog 65 #[.slice ax x.length cx, .slice ay y.length cy] w (Ret (fun v w' => v = .bool (decide (x = y))) w) := by
 refine en Tryz.func65 Tryz.ntmps65 ?_
 have H := ((St.start w).arg hy).arg hx
 have nhx := qA hx
 have nhy := qA hy
 clear hx hy
 refine qi (ql ?_)
 refine sp (.bool false) ?_
 refine qj (t_n (qi (qi (ql ?_))))
 refine sp (.slice ax x.length cx) ?_
 refine oN rfl ?_
 refine sp (.slice ay y.length cy) ?_
 refine oN rfl ?_
 refine sp (.bool ((x.length : Int) != y.length)) ?_
 refine qj (t_n ?_)
 refine qC ((x.length : Int) != y.length) rfl (fun h1 => ?_) (fun h1 => ?_)
 ·skip
  replace h1 := bne_iff_ne.1 h1
  refine qi (ql ?_)
  refine sp (.bool false) ?_
  refine qj (t_n (qV (t_r ?_)))
  refine ret1 (.bool false) rfl rfl ⟨_, rfl, ?_, H.base⟩
  first | rw [decide_eq_false (fun e => by subst e; omega)] | rw [decide_eq_false (jF (k := k) ‹_›)] | rw [decide_eq_true (vP (k := k) (by omega) (by omega) ‹_›)]
 replace h1 := xw h1
 refine qM (t_n (qi (qi (ql ?_))))
 refine sp (.int .i64 0) ?_
 refine qj (t_n (qW ?_))
 refine zf (fun m' ρ w2 => ∃ (junk : Env) (k : Nat), ρ = upd (upd (upd junk 0 (.slice ax x.length cx)) 1 (.slice ay y.length cy)) 5 (.int .i64 k) ∧ (k ≤ x.length) ∧ (x.take k = y.take k) ∧ m' = x.length - k ∧ St w w2 [] [isF false Fx (.slice ax x.length cx) x, isF false Fy (.slice ay y.length cy) y]) (x.length - 0) ⟨_, 0, (by exact qg (qg (qg (rfl) rfl) rfl) rfl), (by omega), (by rfl), rfl, H⟩ ?_
 clear H
 rintro m' ρ w3 ⟨junk, k, rfl, i0, i1, rfl, H⟩
 refine qi (qi (ql ?_))
 refine sps [.int .i64 k, .slice ax x.length cx] ?_
 refine oN rfl ?_
 refine sp (.bool (decide ((k : Int) < x.length))) ?_
 refine qj (t_n ?_)
 refine qC (decide ((k : Int) < x.length)) rfl (fun h4 => ?_) (fun h4 => ?_)
 ·skip
  replace h4 := of_decide_eq_true h4
  refine qM (t_n (qi (qW (qi ?_))))
  refine vZ rfl H fun H => ?_
  refine rtp 0 (.slice ax x.length cx) H ?_
  refine rtp 1 (.int .i64 k) H ?_
  obtain ⟨b6, o7, rfl⟩ := H.addr 0 rfl (by omega)
  refine tI 2 rfl rfl rfl H ?_
  refine tL 3 rfl rfl (fun _ h => h.yP 0 rfl k (by omega)) H ?_
  refine rtp 4 (.slice ay y.length cy) H ?_
  refine rtp 5 (.int .i64 k) H ?_
  obtain ⟨b8, o9, rfl⟩ := H.addr 1 rfl (by omega)
  refine tI 6 rfl rfl rfl H ?_
  refine tL 7 rfl rfl (fun _ h => h.yP 1 rfl k (by omega)) H ?_
  refine rtp 8 (.bool ((x[k]! : Int) != (y[k]!))) H ?_
  refine xq (by kernel_rfl) (t_n ?_)
  refine qC ((x[k]! : Int) != (y[k]!)) rfl (fun h10 => ?_) (fun h10 => ?_)
  ·skip
   replace h10 := bne_iff_ne.1 h10
   refine qi (ql ?_)
   refine sp (.bool false) ?_
   refine qj (t_n (qV (b_r (t_r (t_r (b_r (t_r ?_)))))))
   refine ret1 (.bool false) rfl rfl ⟨_, rfl, ?_, H.base⟩
   first | rw [decide_eq_false (fun e => by subst e; omega)] | rw [decide_eq_false (jF (k := k) ‹_›)] | rw [decide_eq_true (vP (k := k) (by omega) (by omega) ‹_›)]
  replace h10 := xw h10
  refine qM (b_n (t_n (ql ?_)))
  refine sp (.int .i64 k) ?_
  refine sw (zk k 1 rfl rfl (by omega) ?_)
  refine sp (.int .i64 (k + 1)) ?_
  refine qj ?_
  refine xk (m' := x.length - (k + 1)) (by omega) ⟨_, k + 1, (by exact qg (qg (qg (rfl) rfl) rfl) rfl), ?_, ?_, rfl, H⟩
  · omega
  · exact eqTo_succ (by omega) (by omega) ‹_› (by first | assumption | omega)
 replace h4 := of_decide_eq_false h4
 refine xQ (t_x (t_x (b_x (t_n (qi (ql ?_))))))
 refine sp (.bool true) ?_
 refine qj (t_n (qV ?_))
 refine ret1 (.bool true) rfl rfl ⟨_, rfl, ?_, H.base⟩
 first | rw [decide_eq_false (fun e => by subst e; omega)] | rw [decide_eq_false (jF (k := k) ‹_›)] | rw [decide_eq_true (vP (k := k) (by omega) (by omega) ‹_›)]

theorem eqBoolS_ok (w : World) (x : List Bool) (y : List Bool) (ax : Option Addr) (cx : Nat) (Fx : List Nat) (ay : Option Addr) (cy : Nat) (Fy : List Nat) (hx : qE.rep w Fx [.slice ax x.length cx] x) (hy : qE.rep w Fy [.slice ay y.length cy] y) : Calls Tryz.prog 67 #[.slice ax x.length cx, .slice ay y.length cy] w (Ret (fun v w' => v = .bool (decide (x = y))) w) := by
 refine en Tryz.func67 Tryz.ntmps67 ?_
 have H := ((St.start w).arg hy).arg hx
 have nhx := qA hx
 have nhy := qA hy
 clear hx hy
 refine qi (ql ?_)
 refine sp (.bool false) ?_
 refine qj (t_n (qi (qi (ql ?_))))
 refine sp (.slice ax x.length cx) ?_
 refine oN rfl ?_
 refine sp (.slice ay y.length cy) ?_
 refine oN rfl ?_
 refine sp (.bool ((x.length : Int) != y.length)) ?_
 refine qj (t_n ?_)
 refine qC ((x.length : Int) != y.length) rfl (fun h1 => ?_) (fun h1 => ?_)
 ·skip
  replace h1 := bne_iff_ne.1 h1
  refine qi (ql ?_)
  refine sp (.bool false) ?_
  refine qj (t_n (qV (t_r ?_)))
  refine ret1 (.bool false) rfl rfl ⟨_, rfl, ?_, H.base⟩
  first | rw [decide_eq_false (fun e => by subst e; omega)] | rw [decide_eq_false (jF (k := k) ‹_›)] | rw [decide_eq_true (vP (k := k) (by omega) (by omega) ‹_›)]
 replace h1 := xw h1
 refine qM (t_n (qi (qi (ql ?_))))
 refine sp (.int .i64 0) ?_
 refine qj (t_n (qW ?_))
 refine zf (fun m' ρ w2 => ∃ (junk : Env) (k : Nat), ρ = upd (upd (upd junk 0 (.slice ax x.length cx)) 1 (.slice ay y.length cy)) 5 (.int .i64 k) ∧ (k ≤ x.length) ∧ (x.take k = y.take k) ∧ m' = x.length - k ∧ St w w2 [] [isF false Fx (.slice ax x.length cx) x, isF false Fy (.slice ay y.length cy) y]) (x.length - 0) ⟨_, 0, (by exact qg (qg (qg (rfl) rfl) rfl) rfl), (by omega), (by rfl), rfl, H⟩ ?_
 clear H
 rintro m' ρ w3 ⟨junk, k, rfl, i0, i1, rfl, H⟩
 refine qi (qi (ql ?_))
 refine sps [.int .i64 k, .slice ax x.length cx] ?_
 refine oN rfl ?_
 refine sp (.bool (decide ((k : Int) < x.length))) ?_
 refine qj (t_n ?_)
 refine qC (decide ((k : Int) < x.length)) rfl (fun h4 => ?_) (fun h4 => ?_)
 ·skip
  replace h4 := of_decide_eq_true h4
  refine qM (t_n (qi (qW (qi ?_))))
  refine vZ rfl H fun H => ?_
  refine rtp 0 (.slice ax x.length cx) H ?_
  refine rtp 1 (.int .i64 k) H ?_
  obtain ⟨b6, o7, rfl⟩ := H.addr 0 rfl (by omega)
  refine tI 2 rfl rfl rfl H ?_
  refine tL 3 rfl rfl (fun _ h => h.elemBoolN 0 rfl k (by omega)) H ?_
  refine rtp 4 (.slice ay y.length cy) H ?_
  refine rtp 5 (.int .i64 k) H ?_
  obtain ⟨b8, o9, rfl⟩ := H.addr 1 rfl (by omega)
  refine tI 6 rfl rfl rfl H ?_
  refine tL 7 rfl rfl (fun _ h => h.elemBoolN 1 rfl k (by omega)) H ?_
  refine rt 8 (.bool ((x[k]!) != (y[k]!))) (y_neB Tryz.underlying4 (x[k]!) (y[k]!) rfl rfl) H ?_
  refine xq (by kernel_rfl) (t_n ?_)
  refine qC ((x[k]!) != (y[k]!)) rfl (fun h10 => ?_) (fun h10 => ?_)
  ·skip
   replace h10 := bne_iff_ne.1 h10
   refine qi (ql ?_)
   refine sp (.bool false) ?_
   refine qj (t_n (qV (b_r (t_r (t_r (b_r (t_r ?_)))))))
   refine ret1 (.bool false) rfl rfl ⟨_, rfl, ?_, H.base⟩
   first | rw [decide_eq_false (fun e => by subst e; omega)] | rw [decide_eq_false (jF (k := k) ‹_›)] | rw [decide_eq_true (vP (k := k) (by omega) (by omega) ‹_›)]
  replace h10 := xw h10
  refine qM (b_n (t_n (ql ?_)))
  refine sp (.int .i64 k) ?_
  refine sw (zk k 1 rfl rfl (by omega) ?_)
  refine sp (.int .i64 (k + 1)) ?_
  refine qj ?_
  refine xk (m' := x.length - (k + 1)) (by omega) ⟨_, k + 1, (by exact qg (qg (qg (rfl) rfl) rfl) rfl), ?_, ?_, rfl, H⟩
  · omega
  · exact eqTo_succ (by omega) (by omega) ‹_› (by first | assumption | omega)
 replace h4 := of_decide_eq_false h4
 refine xQ (t_x (t_x (b_x (t_n (qi (ql ?_))))))
 refine sp (.bool true) ?_
 refine qj (t_n (qV ?_))
 refine ret1 (.bool true) rfl rfl ⟨_, rfl, ?_, H.base⟩
 first | rw [decide_eq_false (fun e => by subst e; omega)] | rw [decide_eq_false (jF (k := k) ‹_›)] | rw [decide_eq_true (vP (k := k) (by omega) (by omega) ‹_›)]

theorem eqInt64SS_ok (w : World) (x : List (List Int)) (y : List (List Int)) (ax : Option Addr) (cx : Nat) (Fx : List Nat) (ay : Option Addr) (cy : Nat) (Fy : List Nat) (hx : qE.rep w Fx [.slice ax x.length cx] x) (hy : qE.rep w Fy [.slice ay y.length cy] y) : Calls Tryz.prog 20 #[.slice ax x.length cx, .slice ay y.length cy] w (Ret (fun v w' => v = .bool (decide (x = y))) w) := by
 refine en Tryz.func20 Tryz.ntmps20 ?_
 have H := ((St.start w).arg hy).arg hx
 have nhx := qA hx
 have nhy := qA hy
 clear hx hy
 refine qi (ql ?_)
 refine sp (.bool false) ?_
 refine qj (t_n (qi (qi (ql ?_))))
 refine sp (.slice ax x.length cx) ?_
 refine oN rfl ?_
 refine sp (.slice ay y.length cy) ?_
 refine oN rfl ?_
 refine sp (.bool ((x.length : Int) != y.length)) ?_
 refine qj (t_n ?_)
 refine qC ((x.length : Int) != y.length) rfl (fun h1 => ?_) (fun h1 => ?_)
 ·skip
  replace h1 := bne_iff_ne.1 h1
  refine qi (ql ?_)
  refine sp (.bool false) ?_
  refine qj (t_n (qV (t_r ?_)))
  refine ret1 (.bool false) rfl rfl ⟨_, rfl, ?_, H.base⟩
  first | rw [decide_eq_false (fun e => by subst e; omega)] | rw [decide_eq_false (jF (k := k) ‹_›)] | rw [decide_eq_true (vP (k := k) (by omega) (by omega) ‹_›)]
 replace h1 := xw h1
 refine qM (t_n (qi (qi (ql ?_))))
 refine sp (.int .i64 0) ?_
 refine qj (t_n (qW ?_))
 refine zf (fun m' ρ w2 => ∃ (junk : Env) (k : Nat), ρ = upd (upd (upd junk 0 (.slice ax x.length cx)) 1 (.slice ay y.length cy)) 5 (.int .i64 k) ∧ (k ≤ x.length) ∧ (x.take k = y.take k) ∧ m' = x.length - k ∧ St w w2 [] [isF false Fx (.slice ax x.length cx) x, isF false Fy (.slice ay y.length cy) y]) (x.length - 0) ⟨_, 0, (by exact qg (qg (qg (rfl) rfl) rfl) rfl), (by omega), (by rfl), rfl, H⟩ ?_
 clear H
 rintro m' ρ w3 ⟨junk, k, rfl, i0, i1, rfl, H⟩
 refine qi (qi (ql ?_))
 refine sps [.int .i64 k, .slice ax x.length cx] ?_
 refine oN rfl ?_
 refine sp (.bool (decide ((k : Int) < x.length))) ?_
 refine qj (t_n ?_)
 refine qC (decide ((k : Int) < x.length)) rfl (fun h4 => ?_) (fun h4 => ?_)
 ·skip
  replace h4 := of_decide_eq_true h4
  refine qM (t_n (qi (qW (qi ?_))))
  refine vZ rfl H fun H => ?_
  refine rtp 0 (.slice ax x.length cx) H ?_
  refine rtp 1 (.int .i64 k) H ?_
  obtain ⟨b6, o7, rfl⟩ := H.addr 0 rfl (by omega)
  obtain ⟨ae8, ce8, Fe8, H⟩ := H.jo 0 rfl k k (by omega) (by omega) (by omega)
  refine tI 2 rfl rfl rfl (H.sel _ (.refl _) _ (fun _ h => List.mem_cons_of_mem _ (List.mem_cons_of_mem _ (h)))) ?_
  refine rtp 4 (.slice ay y.length cy) (H.sel _ (.refl _) _ (fun _ h => List.mem_cons_of_mem _ (List.mem_cons_of_mem _ (h)))) ?_
  refine rtp 5 (.int .i64 k) (H.sel _ (.refl _) _ (fun _ h => List.mem_cons_of_mem _ (List.mem_cons_of_mem _ (h)))) ?_
  obtain ⟨b9, o10, rfl⟩ := H.addr 3 rfl (by omega)
  obtain ⟨ae11, ce11, Fe11, H⟩ := H.jo 3 rfl k k (by omega) (by omega) (by omega)
  refine tI 6 rfl rfl rfl (H.sel _ (.refl _) _ (fun _ h => List.mem_cons_of_mem _ (List.mem_cons_of_mem _ (List.mem_cons_of_mem _ (List.mem_cons_of_mem _ (h)))))) ?_
  refine qR [3, 7] (by kernel_rfl) (by simp) (xA rfl ?_ (xA rfl ?_ qU))
  ·skip
   refine jU (.slice ae8 ((x[k]!).length) ce8) Tryz.isAgg22 rfl (H.xJ 3 rfl 0 rfl) ?_
   refine ⟨H.sel _ (.refl _) _ (fun _ h => List.mem_cons_of_mem _ (List.mem_cons_of_mem _ (List.mem_cons_of_mem _ (List.mem_cons_of_mem _ (h))))), ?_⟩
   refine qR [7] (by kernel_rfl) (by simp) (xA rfl ?_ qU)
   refine jU (.slice ae11 ((y[k]!).length) ce11) Tryz.isAgg22 rfl (H.xJ 1 rfl 0 rfl) ?_
   refine ⟨H.sel _ (.refl _) _ (fun _ h => List.mem_cons_of_mem _ (List.mem_cons_of_mem _ (List.mem_cons_of_mem _ (List.mem_cons_of_mem _ (h))))), ?_⟩
   refine qR [8] (by kernel_rfl) (by simp) (xA rfl ?_ qU)
   refine oc (yI _ (x[k]!) (y[k]!) _ _ _ _ _ _ (H.get 2 rfl).1 (H.get 0 rfl).1) ?_
   rintro _ w12 rfl x13
   replace H := H.ext x13
   refine ⟨H.sel _ (.refl _) _ (fun _ h => List.mem_cons_of_mem _ (List.mem_cons_of_mem _ (List.mem_cons_of_mem _ (List.mem_cons_of_mem _ (h))))), ?_⟩
   refine rtp 9 (.bool (!(decide ((x[k]!) = (y[k]!))))) (H.sel _ (.refl _) _ (fun _ h => List.mem_cons_of_mem _ (List.mem_cons_of_mem _ (List.mem_cons_of_mem _ (List.mem_cons_of_mem _ (h)))))) ?_
   refine xq (by kernel_rfl) (t_n ?_)
   refine qC (!(decide ((x[k]!) = (y[k]!)))) rfl (fun h14 => ?_) (fun h14 => ?_)
   ·skip
    replace h14 := qP h14
    replace h14 := of_decide_eq_false h14
    refine qi (ql ?_)
    refine sp (.bool false) ?_
    refine qj (t_n (qV (b_r (t_r (t_r (b_r (t_r ?_)))))))
    refine ret1 (.bool false) rfl rfl ⟨_, rfl, ?_, H.base⟩
    first | rw [decide_eq_false (fun e => by subst e; omega)] | rw [decide_eq_false (jF (k := k) ‹_›)] | rw [decide_eq_true (vP (k := k) (by omega) (by omega) ‹_›)]
   replace h14 := qJ h14
   replace h14 := of_decide_eq_true h14
   refine qM (b_n (t_n (ql ?_)))
   refine sp (.int .i64 k) ?_
   refine sw (zk k 1 rfl rfl (by omega) ?_)
   refine sp (.int .i64 (k + 1)) ?_
   refine qj ?_
   refine xk (m' := x.length - (k + 1)) (by omega) ⟨_, k + 1, (by exact qg (qg (qg (rfl) rfl) rfl) rfl), ?_, ?_, rfl, H.sel _ (.refl _) _ (by simp)⟩
   · omega
   · exact eqTo_succ (by omega) (by omega) ‹_› (by first | assumption | omega)
  refine jU (.slice ae11 ((y[k]!).length) ce11) Tryz.isAgg22 rfl (H.xJ 1 rfl 0 rfl) ?_
  refine ⟨H.sel _ (.refl _) _ (fun _ h => List.mem_cons_of_mem _ (List.mem_cons_of_mem _ (List.mem_cons_of_mem _ (List.mem_cons_of_mem _ (h))))), ?_⟩
  refine qR [3] (by kernel_rfl) (by simp) (xA rfl ?_ qU)
  refine jU (.slice ae8 ((x[k]!).length) ce8) Tryz.isAgg22 rfl (H.xJ 3 rfl 0 rfl) ?_
  refine ⟨H.sel _ (.refl _) _ (fun _ h => List.mem_cons_of_mem _ (List.mem_cons_of_mem _ (List.mem_cons_of_mem _ (List.mem_cons_of_mem _ (h))))), ?_⟩
  refine qR [8] (by kernel_rfl) (by simp) (xA rfl ?_ qU)
  refine oc (yI _ (x[k]!) (y[k]!) _ _ _ _ _ _ (H.get 2 rfl).1 (H.get 0 rfl).1) ?_
  rintro _ w15 rfl x16
  replace H := H.ext x16
  refine ⟨H.sel _ (.refl _) _ (fun _ h => List.mem_cons_of_mem _ (List.mem_cons_of_mem _ (List.mem_cons_of_mem _ (List.mem_cons_of_mem _ (h))))), ?_⟩
  refine rtp 9 (.bool (!(decide ((x[k]!) = (y[k]!))))) (H.sel _ (.refl _) _ (fun _ h => List.mem_cons_of_mem _ (List.mem_cons_of_mem _ (List.mem_cons_of_mem _ (List.mem_cons_of_mem _ (h)))))) ?_
  refine xq (by kernel_rfl) (t_n ?_)
  refine qC (!(decide ((x[k]!) = (y[k]!)))) rfl (fun h17 => ?_) (fun h17 => ?_)
  ·skip
   replace h17 := qP h17
   replace h17 := of_decide_eq_false h17
   refine qi (ql ?_)
   refine sp (.bool false) ?_
   refine qj (t_n (qV (b_r (t_r (t_r (b_r (t_r ?_)))))))
   refine ret1 (.bool false) rfl rfl ⟨_, rfl, ?_, H.base⟩
   first | rw [decide_eq_false (fun e => by subst e; omega)] | rw [decide_eq_false (jF (k := k) ‹_›)] | rw [decide_eq_true (vP (k := k) (by omega) (by omega) ‹_›)]
  replace h17 := qJ h17
  replace h17 := of_decide_eq_true h17
  refine qM (b_n (t_n (ql ?_)))
  refine sp (.int .i64 k) ?_
  refine sw (zk k 1 rfl rfl (by omega) ?_)
  refine sp (.int .i64 (k + 1)) ?_
  refine qj ?_
  refine xk (m' := x.length - (k + 1)) (by omega) ⟨_, k + 1, (by exact qg (qg (qg (rfl) rfl) rfl) rfl), ?_, ?_, rfl, H.sel _ (.refl _) _ (by simp)⟩
  · omega
  · exact eqTo_succ (by omega) (by omega) ‹_› (by first | assumption | omega)
 replace h4 := of_decide_eq_false h4
 refine xQ (t_x (t_x (b_x (t_n (qi (ql ?_))))))
 refine sp (.bool true) ?_
 refine qj (t_n (qV ?_))
 refine ret1 (.bool true) rfl rfl ⟨_, rfl, ?_, H.base⟩
 first | rw [decide_eq_false (fun e => by subst e; omega)] | rw [decide_eq_false (jF (k := k) ‹_›)] | rw [decide_eq_true (vP (k := k) (by omega) (by omega) ‹_›)]

theorem eqInto_ok (w : World) (x : IntoD) (y : IntoD) (axBag : Option Addr) (cxBag : Nat) (FxBag : List Nat) (ayBag : Option Addr) (cyBag : Nat) (FyBag : List Nat) (hxBag : qE.rep w FxBag [.slice axBag x.zZ.length cxBag] x.zZ) (hyBag : qE.rep w FyBag [.slice ayBag y.zZ.length cyBag] y.zZ) : Calls Tryz.prog 179 #[.agg #[.int .i64 x.qw, .slice axBag x.zZ.length cxBag], .agg #[.int .i64 y.qw, .slice ayBag y.zZ.length cyBag]] w (Ret (fun v w' => v = .bool (decide (x = y))) w) := by
 refine en Tryz.func179 Tryz.ntmps179 ?_
 have H := ((St.start w).arg hyBag).arg hxBag
 have nhxBag := qA hxBag
 have nhyBag := qA hyBag
 clear hxBag hyBag
 refine qi (ql ?_)
 refine sw (o_box H (.agg #[.int .i64 x.qw, .slice axBag x.zZ.length cxBag]) rfl fun b1 w2 H => ?_)
 replace H : St _ _ [.box b1 [.int .i64 x.qw, .slice axBag x.zZ.length cxBag] 164] _ := H
 refine sw (o_box H (.agg #[.int .i64 y.qw, .slice ayBag y.zZ.length cyBag]) rfl fun b3 w4 H => ?_)
 replace H : St _ _ [.box b3 [.int .i64 y.qw, .slice ayBag y.zZ.length cyBag] 164, .box b1 [.int .i64 x.qw, .slice axBag x.zZ.length cxBag] 164] _ := H
 refine sp (.bool false) ?_
 refine qj (t_n (qi (qi (ql ?_))))
 refine oF rfl ?_
 refine oL rfl (H.cell 1 rfl rfl) ?_
 refine oF rfl ?_
 refine oL rfl (H.cell 0 rfl rfl) ?_
 refine sp (.bool ((x.qw : Int) != y.qw)) ?_
 refine qj (t_n ?_)
 refine qC ((x.qw : Int) != y.qw) rfl (fun h5 => ?_) (fun h5 => ?_)
 ·skip
  replace h5 := bne_iff_ne.1 h5
  refine qi (ql ?_)
  refine sp (.bool false) ?_
  refine qj (t_n (qV (t_r ?_)))
  refine ret1 (.bool false) rfl rfl ⟨_, rfl, ?_, H.base⟩
  rw [decide_eq_false (fun e => by subst e; simp_all)]
 replace h5 := xw h5
 refine qM (t_n (qi (qi (ql ?_))))
 refine oF rfl ?_
 refine oL rfl (H.cell 1 rfl rfl) ?_
 refine oF rfl ?_
 refine oL rfl (H.cell 0 rfl rfl) ?_
 refine sw (oc (yI _ x.zZ y.zZ _ _ _ _ _ _ (H.get 0 rfl).1 (H.get 1 rfl).1) ?_)
 rintro _ w6 rfl x7
 replace H := H.ext x7
 refine sp (.bool (!(decide (x.zZ = y.zZ)))) ?_
 refine qj (t_n ?_)
 refine qC (!(decide (x.zZ = y.zZ))) rfl (fun h8 => ?_) (fun h8 => ?_)
 ·skip
  replace h8 := qP h8
  replace h8 := of_decide_eq_false h8
  refine qi (ql ?_)
  refine sp (.bool false) ?_
  refine qj (t_n (qV (t_r ?_)))
  refine ret1 (.bool false) rfl rfl ⟨_, rfl, ?_, H.base⟩
  rw [decide_eq_false (fun e => by subst e; simp_all)]
 replace h8 := qJ h8
 replace h8 := of_decide_eq_true h8
 refine qM (t_n (qi (ql ?_)))
 refine sp (.bool true) ?_
 refine qj (t_n (qV ?_))
 refine ret1 (.bool true) rfl rfl ⟨_, rfl, ?_, H.base⟩
 rw [decide_eq_true (by cases x; cases y; simp_all)]

theorem eqIntoS_ok (w : World) (x : List IntoD) (y : List IntoD) (ax : Option Addr) (cx : Nat) (Fx : List Nat) (ay : Option Addr) (cy : Nat) (Fy : List Nat) (hx : qE.rep w Fx [.slice ax x.length cx] x) (hy : qE.rep w Fy [.slice ay y.length cy] y) : Calls Tryz.prog 143 #[.slice ax x.length cx, .slice ay y.length cy] w (Ret (fun v w' => v = .bool (decide (x = y))) w) := by
 refine en Tryz.func143 Tryz.ntmps143 ?_
 have H := ((St.start w).arg hy).arg hx
 have nhx := qA hx
 have nhy := qA hy
 clear hx hy
 refine qi (ql ?_)
 refine sp (.bool false) ?_
 refine qj (t_n (qi (qi (ql ?_))))
 refine sp (.slice ax x.length cx) ?_
 refine oN rfl ?_
 refine sp (.slice ay y.length cy) ?_
 refine oN rfl ?_
 refine sp (.bool ((x.length : Int) != y.length)) ?_
 refine qj (t_n ?_)
 refine qC ((x.length : Int) != y.length) rfl (fun h1 => ?_) (fun h1 => ?_)
 ·skip
  replace h1 := bne_iff_ne.1 h1
  refine qi (ql ?_)
  refine sp (.bool false) ?_
  refine qj (t_n (qV (t_r ?_)))
  refine ret1 (.bool false) rfl rfl ⟨_, rfl, ?_, H.base⟩
  first | rw [decide_eq_false (fun e => by subst e; omega)] | rw [decide_eq_false (jF (k := k) ‹_›)] | rw [decide_eq_true (vP (k := k) (by omega) (by omega) ‹_›)]
 replace h1 := xw h1
 refine qM (t_n (qi (qi (ql ?_))))
 refine sp (.int .i64 0) ?_
 refine qj (t_n (qW ?_))
 refine zf (fun m' ρ w2 => ∃ (junk : Env) (k : Nat), ρ = upd (upd (upd junk 0 (.slice ax x.length cx)) 1 (.slice ay y.length cy)) 5 (.int .i64 k) ∧ (k ≤ x.length) ∧ (x.take k = y.take k) ∧ m' = x.length - k ∧ St w w2 [] [isF false Fx (.slice ax x.length cx) x, isF false Fy (.slice ay y.length cy) y]) (x.length - 0) ⟨_, 0, (by exact qg (qg (qg (rfl) rfl) rfl) rfl), (by omega), (by rfl), rfl, H⟩ ?_
 clear H
 rintro m' ρ w3 ⟨junk, k, rfl, i0, i1, rfl, H⟩
 refine qi (qi (ql ?_))
 refine sps [.int .i64 k, .slice ax x.length cx] ?_
 refine oN rfl ?_
 refine sp (.bool (decide ((k : Int) < x.length))) ?_
 refine qj (t_n ?_)
 refine qC (decide ((k : Int) < x.length)) rfl (fun h4 => ?_) (fun h4 => ?_)
 ·skip
  replace h4 := of_decide_eq_true h4
  refine qM (t_n (qi (qW (qi ?_))))
  refine vZ rfl H fun H => ?_
  refine rtp 0 (.slice ax x.length cx) H ?_
  refine rtp 1 (.int .i64 k) H ?_
  obtain ⟨b6, o7, rfl⟩ := H.addr 0 rfl (by omega)
  obtain ⟨ae8Bag, ce8Bag, Fe8Bag, H⟩ := H.jC 0 rfl k k (by omega) (by omega) (by omega)
  refine tI 2 rfl rfl rfl (H.sel _ (.refl _) _ (fun _ h => List.mem_cons_of_mem _ (List.mem_cons_of_mem _ (h)))) ?_
  refine rtp 4 (.slice ay y.length cy) (H.sel _ (.refl _) _ (fun _ h => List.mem_cons_of_mem _ (List.mem_cons_of_mem _ (h)))) ?_
  refine rtp 5 (.int .i64 k) (H.sel _ (.refl _) _ (fun _ h => List.mem_cons_of_mem _ (List.mem_cons_of_mem _ (h)))) ?_
  obtain ⟨b9, o10, rfl⟩ := H.addr 3 rfl (by omega)
  obtain ⟨ae11Bag, ce11Bag, Fe11Bag, H⟩ := H.jC 3 rfl k k (by omega) (by omega) (by omega)
  refine tI 6 rfl rfl rfl (H.sel _ (.refl _) _ (fun _ h => List.mem_cons_of_mem _ (List.mem_cons_of_mem _ (List.mem_cons_of_mem _ (List.mem_cons_of_mem _ (h)))))) ?_
  refine qR [3, 7] (by kernel_rfl) (by simp) (xA rfl ?_ (xA rfl ?_ qU))
  ·skip
   refine zC [.int .i64 ((x[k]!).qw), .slice ae8Bag (((x[k]!).zZ).length) ce8Bag] Tryz.isAgg164 Tryz.sizeOf164 rfl (qI (H.get 3 rfl) 0 2) ?_
   refine ⟨H.sel _ (.refl _) _ (fun _ h => List.mem_cons_of_mem _ (List.mem_cons_of_mem _ (List.mem_cons_of_mem _ (List.mem_cons_of_mem _ (h))))), ?_⟩
   refine qR [7] (by kernel_rfl) (by simp) (xA rfl ?_ qU)
   refine zC [.int .i64 ((y[k]!).qw), .slice ae11Bag (((y[k]!).zZ).length) ce11Bag] Tryz.isAgg164 Tryz.sizeOf164 rfl (qI (H.get 1 rfl) 0 2) ?_
   refine ⟨H.sel _ (.refl _) _ (fun _ h => List.mem_cons_of_mem _ (List.mem_cons_of_mem _ (List.mem_cons_of_mem _ (List.mem_cons_of_mem _ (h))))), ?_⟩
   refine qR [8] (by kernel_rfl) (by simp) (xA rfl ?_ qU)
   refine oc (eqInto_ok _ (x[k]!) (y[k]!) _ _ _ _ _ _ (H.get 2 rfl).1 (H.get 0 rfl).1) ?_
   rintro _ w12 rfl x13
   replace H := H.ext x13
   refine ⟨H.sel _ (.refl _) _ (fun _ h => List.mem_cons_of_mem _ (List.mem_cons_of_mem _ (List.mem_cons_of_mem _ (List.mem_cons_of_mem _ (h))))), ?_⟩
   refine rtp 9 (.bool (!(decide ((x[k]!) = (y[k]!))))) (H.sel _ (.refl _) _ (fun _ h => List.mem_cons_of_mem _ (List.mem_cons_of_mem _ (List.mem_cons_of_mem _ (List.mem_cons_of_mem _ (h)))))) ?_
   refine xq (by kernel_rfl) (t_n ?_)
   refine qC (!(decide ((x[k]!) = (y[k]!)))) rfl (fun h14 => ?_) (fun h14 => ?_)
   ·skip
    replace h14 := qP h14
    replace h14 := of_decide_eq_false h14
    refine qi (ql ?_)
    refine sp (.bool false) ?_
    refine qj (t_n (qV (b_r (t_r (t_r (b_r (t_r ?_)))))))
    refine ret1 (.bool false) rfl rfl ⟨_, rfl, ?_, H.base⟩
    first | rw [decide_eq_false (fun e => by subst e; omega)] | rw [decide_eq_false (jF (k := k) ‹_›)] | rw [decide_eq_true (vP (k := k) (by omega) (by omega) ‹_›)]
   replace h14 := qJ h14
   replace h14 := of_decide_eq_true h14
   refine qM (b_n (t_n (ql ?_)))
   refine sp (.int .i64 k) ?_
   refine sw (zk k 1 rfl rfl (by omega) ?_)
   refine sp (.int .i64 (k + 1)) ?_
   refine qj ?_
   refine xk (m' := x.length - (k + 1)) (by omega) ⟨_, k + 1, (by exact qg (qg (qg (rfl) rfl) rfl) rfl), ?_, ?_, rfl, H.sel _ (.refl _) _ (by simp)⟩
   · omega
   · exact eqTo_succ (by omega) (by omega) ‹_› (by first | assumption | omega)
  refine zC [.int .i64 ((y[k]!).qw), .slice ae11Bag (((y[k]!).zZ).length) ce11Bag] Tryz.isAgg164 Tryz.sizeOf164 rfl (qI (H.get 1 rfl) 0 2) ?_
  refine ⟨H.sel _ (.refl _) _ (fun _ h => List.mem_cons_of_mem _ (List.mem_cons_of_mem _ (List.mem_cons_of_mem _ (List.mem_cons_of_mem _ (h))))), ?_⟩
  refine qR [3] (by kernel_rfl) (by simp) (xA rfl ?_ qU)
  refine zC [.int .i64 ((x[k]!).qw), .slice ae8Bag (((x[k]!).zZ).length) ce8Bag] Tryz.isAgg164 Tryz.sizeOf164 rfl (qI (H.get 3 rfl) 0 2) ?_
  refine ⟨H.sel _ (.refl _) _ (fun _ h => List.mem_cons_of_mem _ (List.mem_cons_of_mem _ (List.mem_cons_of_mem _ (List.mem_cons_of_mem _ (h))))), ?_⟩
  refine qR [8] (by kernel_rfl) (by simp) (xA rfl ?_ qU)
  refine oc (eqInto_ok _ (x[k]!) (y[k]!) _ _ _ _ _ _ (H.get 2 rfl).1 (H.get 0 rfl).1) ?_
  rintro _ w15 rfl x16
  replace H := H.ext x16
  refine ⟨H.sel _ (.refl _) _ (fun _ h => List.mem_cons_of_mem _ (List.mem_cons_of_mem _ (List.mem_cons_of_mem _ (List.mem_cons_of_mem _ (h))))), ?_⟩
  refine rtp 9 (.bool (!(decide ((x[k]!) = (y[k]!))))) (H.sel _ (.refl _) _ (fun _ h => List.mem_cons_of_mem _ (List.mem_cons_of_mem _ (List.mem_cons_of_mem _ (List.mem_cons_of_mem _ (h)))))) ?_
  refine xq (by kernel_rfl) (t_n ?_)
  refine qC (!(decide ((x[k]!) = (y[k]!)))) rfl (fun h17 => ?_) (fun h17 => ?_)
  ·skip
   replace h17 := qP h17
   replace h17 := of_decide_eq_false h17
   refine qi (ql ?_)
   refine sp (.bool false) ?_
   refine qj (t_n (qV (b_r (t_r (t_r (b_r (t_r ?_)))))))
   refine ret1 (.bool false) rfl rfl ⟨_, rfl, ?_, H.base⟩
   first | rw [decide_eq_false (fun e => by subst e; omega)] | rw [decide_eq_false (jF (k := k) ‹_›)] | rw [decide_eq_true (vP (k := k) (by omega) (by omega) ‹_›)]
  replace h17 := qJ h17
  replace h17 := of_decide_eq_true h17
  refine qM (b_n (t_n (ql ?_)))
  refine sp (.int .i64 k) ?_
  refine sw (zk k 1 rfl rfl (by omega) ?_)
  refine sp (.int .i64 (k + 1)) ?_
  refine qj ?_
  refine xk (m' := x.length - (k + 1)) (by omega) ⟨_, k + 1, (by exact qg (qg (qg (rfl) rfl) rfl) rfl), ?_, ?_, rfl, H.sel _ (.refl _) _ (by simp)⟩
  · omega
  · exact eqTo_succ (by omega) (by omega) ‹_› (by first | assumption | omega)
 replace h4 := of_decide_eq_false h4
 refine xQ (t_x (t_x (b_x (t_n (qi (ql ?_))))))
 refine sp (.bool true) ?_
 refine qj (t_n (qV ?_))
 refine ret1 (.bool true) rfl rfl ⟨_, rfl, ?_, H.base⟩
 first | rw [decide_eq_false (fun e => by subst e; omega)] | rw [decide_eq_false (jF (k := k) ‹_›)] | rw [decide_eq_true (vP (k := k) (by omega) (by omega) ‹_›)]

theorem eqRule_ok (w : World) (x : Qm) (y : Qm) (Qd : Option Addr) (yY : Nat) (FxNeed : List Nat) (Qi : Option Addr) (Qb : Nat) (FxHave : List Nat) (Qe : Option Addr) (yZ : Nat) (FxLack : List Nat) (Qh : Option Addr) (Qa : Nat) (FxHere : List Nat) (axOut : Option Addr) (cxOut : Nat) (FxOut : List Nat) (Qg : Option Addr) (y9 : Nat) (FxInto : List Nat) (ayNeed : Option Addr) (cyNeed : Nat) (FyNeed : List Nat) (ayHave : Option Addr) (cyHave : Nat) (FyHave : List Nat) (ayLack : Option Addr) (cyLack : Nat) (FyLack : List Nat) (ayHere : Option Addr) (cyHere : Nat) (FyHere : List Nat) (ayOut : Option Addr) (cyOut : Nat) (FyOut : List Nat) (ayInto : Option Addr) (cyInto : Nat) (FyInto : List Nat) (hxNeed : qE.rep w FxNeed [.slice Qd x.qO.length yY] x.qO) (hxHave : qE.rep w FxHave [.slice Qi x.qX.length Qb] x.qX) (hxLack : qE.rep w FxLack [.slice Qe x.xe.length yZ] x.xe) (hxHere : qE.rep w FxHere [.slice Qh x.xm.length Qa] x.xm) (hxOut : qE.rep w FxOut [.slice axOut x.xZ.length cxOut] x.xZ) (hxInto : qE.rep w FxInto [.slice Qg x.qF.length y9] x.qF) (hyNeed : qE.rep w FyNeed [.slice ayNeed y.qO.length cyNeed] y.qO) (hyHave : qE.rep w FyHave [.slice ayHave y.qX.length cyHave] y.qX) (hyLack : qE.rep w FyLack [.slice ayLack y.xe.length cyLack] y.xe) (hyHere : qE.rep w FyHere [.slice ayHere y.xm.length cyHere] y.xm) (hyOut : qE.rep w FyOut [.slice ayOut y.xZ.length cyOut] y.xZ) (hyInto : qE.rep w FyInto [.slice ayInto y.qF.length cyInto] y.qF) : Calls Tryz.prog 109 #[.agg #[.int .i64 x.qw, .int .i64 x.xN, .slice Qd x.qO.length yY, .slice Qi x.qX.length Qb, .slice Qe x.xe.length yZ, .slice Qh x.xm.length Qa, .slice axOut x.xZ.length cxOut, .slice Qg x.qF.length y9, .bool x.xO], .agg #[.int .i64 y.qw, .int .i64 y.xN, .slice ayNeed y.qO.length cyNeed, .slice ayHave y.qX.length cyHave, .slice ayLack y.xe.length cyLack, .slice ayHere y.xm.length cyHere, .slice ayOut y.xZ.length cyOut, .slice ayInto y.qF.length cyInto, .bool y.xO]] w (Ret (fun v w' => v = .bool (decide (x = y))) w) := by
 refine en Tryz.func109 Tryz.ntmps109 ?_
 have H := ((((((((((((St.start w).arg hyInto).arg hyOut).arg hyHere).arg hyLack).arg hyHave).arg hyNeed).arg hxInto).arg hxOut).arg hxHere).arg hxLack).arg hxHave).arg hxNeed
 have nhxNeed := qA hxNeed
 have nhxHave := qA hxHave
 have nhxLack := qA hxLack
 have nhxHere := qA hxHere
 have nhxOut := qA hxOut
 have nhxInto := qA hxInto
 have nhyNeed := qA hyNeed
 have nhyHave := qA hyHave
 have nhyLack := qA hyLack
 have nhyHere := qA hyHere
 have nhyOut := qA hyOut
 have nhyInto := qA hyInto
 clear hxNeed hxHave hxLack hxHere hxOut hxInto hyNeed hyHave hyLack hyHere hyOut hyInto
 refine qi (ql ?_)
 refine sw (o_box H (.agg #[.int .i64 x.qw, .int .i64 x.xN, .slice Qd x.qO.length yY, .slice Qi x.qX.length Qb, .slice Qe x.xe.length yZ, .slice Qh x.xm.length Qa, .slice axOut x.xZ.length cxOut, .slice Qg x.qF.length y9, .bool x.xO]) rfl fun b1 w2 H => ?_)
 replace H : St _ _ [.box b1 [.int .i64 x.qw, .int .i64 x.xN, .slice Qd x.qO.length yY, .slice Qi x.qX.length Qb, .slice Qe x.xe.length yZ, .slice Qh x.xm.length Qa, .slice axOut x.xZ.length cxOut, .slice Qg x.qF.length y9, .bool x.xO] 121] _ := H
 refine sw (o_box H (.agg #[.int .i64 y.qw, .int .i64 y.xN, .slice ayNeed y.qO.length cyNeed, .slice ayHave y.qX.length cyHave, .slice ayLack y.xe.length cyLack, .slice ayHere y.xm.length cyHere, .slice ayOut y.xZ.length cyOut, .slice ayInto y.qF.length cyInto, .bool y.xO]) rfl fun b3 w4 H => ?_)
 replace H : St _ _ [.box b3 [.int .i64 y.qw, .int .i64 y.xN, .slice ayNeed y.qO.length cyNeed, .slice ayHave y.qX.length cyHave, .slice ayLack y.xe.length cyLack, .slice ayHere y.xm.length cyHere, .slice ayOut y.xZ.length cyOut, .slice ayInto y.qF.length cyInto, .bool y.xO] 121, .box b1 [.int .i64 x.qw, .int .i64 x.xN, .slice Qd x.qO.length yY, .slice Qi x.qX.length Qb, .slice Qe x.xe.length yZ, .slice Qh x.xm.length Qa, .slice axOut x.xZ.length cxOut, .slice Qg x.qF.length y9, .bool x.xO] 121] _ := H
 refine sp (.bool false) ?_
 refine qj (t_n (qi (qi (ql ?_))))
 refine oF rfl ?_
 refine oL rfl (H.cell 1 rfl rfl) ?_
 refine oF rfl ?_
 refine oL rfl (H.cell 0 rfl rfl) ?_
 refine sp (.bool ((x.qw : Int) != y.qw)) ?_
 refine qj (t_n ?_)
 refine qC ((x.qw : Int) != y.qw) rfl (fun h5 => ?_) (fun h5 => ?_)
 ·skip
  replace h5 := bne_iff_ne.1 h5
  refine qi (ql ?_)
  refine sp (.bool false) ?_
  refine qj (t_n (qV (t_r ?_)))
  refine ret1 (.bool false) rfl rfl ⟨_, rfl, ?_, H.base⟩
  rw [decide_eq_false (fun e => by subst e; simp_all)]
 replace h5 := xw h5
 refine qM (t_n (qi (qi (ql ?_))))
 refine oF rfl ?_
 refine oL rfl (H.cell 1 rfl rfl) ?_
 refine oF rfl ?_
 refine oL rfl (H.cell 0 rfl rfl) ?_
 refine sp (.bool ((x.xN : Int) != y.xN)) ?_
 refine qj (t_n ?_)
 refine qC ((x.xN : Int) != y.xN) rfl (fun h6 => ?_) (fun h6 => ?_)
 ·skip
  replace h6 := bne_iff_ne.1 h6
  refine qi (ql ?_)
  refine sp (.bool false) ?_
  refine qj (t_n (qV (t_r ?_)))
  refine ret1 (.bool false) rfl rfl ⟨_, rfl, ?_, H.base⟩
  rw [decide_eq_false (fun e => by subst e; simp_all)]
 replace h6 := xw h6
 refine qM (t_n (qi (qi (ql ?_))))
 refine oF rfl ?_
 refine oL rfl (H.cell 1 rfl rfl) ?_
 refine oF rfl ?_
 refine oL rfl (H.cell 0 rfl rfl) ?_
 refine sw (oc (yI _ x.qO y.qO _ _ _ _ _ _ (H.get 0 rfl).1 (H.get 6 rfl).1) ?_)
 rintro _ w7 rfl x8
 replace H := H.ext x8
 refine sp (.bool (!(decide (x.qO = y.qO)))) ?_
 refine qj (t_n ?_)
 refine qC (!(decide (x.qO = y.qO))) rfl (fun h9 => ?_) (fun h9 => ?_)
 ·skip
  replace h9 := qP h9
  replace h9 := of_decide_eq_false h9
  refine qi (ql ?_)
  refine sp (.bool false) ?_
  refine qj (t_n (qV (t_r ?_)))
  refine ret1 (.bool false) rfl rfl ⟨_, rfl, ?_, H.base⟩
  rw [decide_eq_false (fun e => by subst e; simp_all)]
 replace h9 := qJ h9
 replace h9 := of_decide_eq_true h9
 refine qM (t_n (qi (qi (ql ?_))))
 refine oF rfl ?_
 refine oL rfl (H.cell 1 rfl rfl) ?_
 refine oF rfl ?_
 refine oL rfl (H.cell 0 rfl rfl) ?_
 refine sw (oc (yI _ x.qX y.qX _ _ _ _ _ _ (H.get 1 rfl).1 (H.get 7 rfl).1) ?_)
 rintro _ w10 rfl x11
 replace H := H.ext x11
 refine sp (.bool (!(decide (x.qX = y.qX)))) ?_
 refine qj (t_n ?_)
 refine qC (!(decide (x.qX = y.qX))) rfl (fun h12 => ?_) (fun h12 => ?_)
 ·skip
  replace h12 := qP h12
  replace h12 := of_decide_eq_false h12
  refine qi (ql ?_)
  refine sp (.bool false) ?_
  refine qj (t_n (qV (t_r ?_)))
  refine ret1 (.bool false) rfl rfl ⟨_, rfl, ?_, H.base⟩
  rw [decide_eq_false (fun e => by subst e; simp_all)]
 replace h12 := qJ h12
 replace h12 := of_decide_eq_true h12
 refine qM (t_n (qi (qi (ql ?_))))
 refine oF rfl ?_
 refine oL rfl (H.cell 1 rfl rfl) ?_
 refine oF rfl ?_
 refine oL rfl (H.cell 0 rfl rfl) ?_
 refine sw (oc (yI _ x.xe y.xe _ _ _ _ _ _ (H.get 2 rfl).1 (H.get 8 rfl).1) ?_)
 rintro _ w13 rfl x14
 replace H := H.ext x14
 refine sp (.bool (!(decide (x.xe = y.xe)))) ?_
 refine qj (t_n ?_)
 refine qC (!(decide (x.xe = y.xe))) rfl (fun h15 => ?_) (fun h15 => ?_)
 ·skip
  replace h15 := qP h15
  replace h15 := of_decide_eq_false h15
  refine qi (ql ?_)
  refine sp (.bool false) ?_
  refine qj (t_n (qV (t_r ?_)))
  refine ret1 (.bool false) rfl rfl ⟨_, rfl, ?_, H.base⟩
  rw [decide_eq_false (fun e => by subst e; simp_all)]
 replace h15 := qJ h15
 replace h15 := of_decide_eq_true h15
 refine qM (t_n (qi (qi (ql ?_))))
 refine oF rfl ?_
 refine oL rfl (H.cell 1 rfl rfl) ?_
 refine oF rfl ?_
 refine oL rfl (H.cell 0 rfl rfl) ?_
 refine sw (oc (yI _ x.xm y.xm _ _ _ _ _ _ (H.get 3 rfl).1 (H.get 9 rfl).1) ?_)
 rintro _ w16 rfl x17
 replace H := H.ext x17
 refine sp (.bool (!(decide (x.xm = y.xm)))) ?_
 refine qj (t_n ?_)
 refine qC (!(decide (x.xm = y.xm))) rfl (fun h18 => ?_) (fun h18 => ?_)
 ·skip
  replace h18 := qP h18
  replace h18 := of_decide_eq_false h18
  refine qi (ql ?_)
  refine sp (.bool false) ?_
  refine qj (t_n (qV (t_r ?_)))
  refine ret1 (.bool false) rfl rfl ⟨_, rfl, ?_, H.base⟩
  rw [decide_eq_false (fun e => by subst e; simp_all)]
 replace h18 := qJ h18
 replace h18 := of_decide_eq_true h18
 refine qM (t_n (qi (qi (ql ?_))))
 refine oF rfl ?_
 refine oL rfl (H.cell 1 rfl rfl) ?_
 refine oF rfl ?_
 refine oL rfl (H.cell 0 rfl rfl) ?_
 refine sw (oc (yI _ x.xZ y.xZ _ _ _ _ _ _ (H.get 4 rfl).1 (H.get 10 rfl).1) ?_)
 rintro _ w19 rfl x20
 replace H := H.ext x20
 refine sp (.bool (!(decide (x.xZ = y.xZ)))) ?_
 refine qj (t_n ?_)
 refine qC (!(decide (x.xZ = y.xZ))) rfl (fun h21 => ?_) (fun h21 => ?_)
 ·skip
  replace h21 := qP h21
  replace h21 := of_decide_eq_false h21
  refine qi (ql ?_)
  refine sp (.bool false) ?_
  refine qj (t_n (qV (t_r ?_)))
  refine ret1 (.bool false) rfl rfl ⟨_, rfl, ?_, H.base⟩
  rw [decide_eq_false (fun e => by subst e; simp_all)]
 replace h21 := qJ h21
 replace h21 := of_decide_eq_true h21
 refine qM (t_n (qi (qi (ql ?_))))
 refine oF rfl ?_
 refine oL rfl (H.cell 1 rfl rfl) ?_
 refine oF rfl ?_
 refine oL rfl (H.cell 0 rfl rfl) ?_
 refine sw (oc (eqIntoS_ok _ x.qF y.qF _ _ _ _ _ _ (H.get 5 rfl).1 (H.get 11 rfl).1) ?_)
 rintro _ w22 rfl x23
 replace H := H.ext x23
 refine sp (.bool (!(decide (x.qF = y.qF)))) ?_
 refine qj (t_n ?_)
 refine qC (!(decide (x.qF = y.qF))) rfl (fun h24 => ?_) (fun h24 => ?_)
 ·skip
  replace h24 := qP h24
  replace h24 := of_decide_eq_false h24
  refine qi (ql ?_)
  refine sp (.bool false) ?_
  refine qj (t_n (qV (t_r ?_)))
  refine ret1 (.bool false) rfl rfl ⟨_, rfl, ?_, H.base⟩
  rw [decide_eq_false (fun e => by subst e; simp_all)]
 replace h24 := qJ h24
 replace h24 := of_decide_eq_true h24
 refine qM (t_n (qi (qi (ql ?_))))
 refine oF rfl ?_
 refine oL rfl (H.cell 1 rfl rfl) ?_
 refine oF rfl ?_
 refine oL rfl (H.cell 0 rfl rfl) ?_
 refine sw (o_neB Tryz.underlying4 x.xO y.xO rfl rfl ?_)
 refine qj (t_n ?_)
 refine qC (x.xO != y.xO) rfl (fun h25 => ?_) (fun h25 => ?_)
 ·skip
  replace h25 := bne_iff_ne.1 h25
  refine qi (ql ?_)
  refine sp (.bool false) ?_
  refine qj (t_n (qV (t_r ?_)))
  refine ret1 (.bool false) rfl rfl ⟨_, rfl, ?_, H.base⟩
  rw [decide_eq_false (fun e => by subst e; simp_all)]
 replace h25 := xw h25
 refine qM (t_n (qi (ql ?_)))
 refine sp (.bool true) ?_
 refine qj (t_n (qV ?_))
 refine ret1 (.bool true) rfl rfl ⟨_, rfl, ?_, H.base⟩
 rw [decide_eq_true (by cases x; cases y; simp_all)]

theorem eqRuleS_ok (w : World) (x : List Qm) (y : List Qm) (ax : Option Addr) (cx : Nat) (Fx : List Nat) (ay : Option Addr) (cy : Nat) (Fy : List Nat) (hx : qE.rep w Fx [.slice ax x.length cx] x) (hy : qE.rep w Fy [.slice ay y.length cy] y) : Calls Tryz.prog 66 #[.slice ax x.length cx, .slice ay y.length cy] w (Ret (fun v w' => v = .bool (decide (x = y))) w) := by
 refine en Tryz.func66 Tryz.ntmps66 ?_
 have H := ((St.start w).arg hy).arg hx
 have nhx := qA hx
 have nhy := qA hy
 clear hx hy
 refine qi (ql ?_)
 refine sp (.bool false) ?_
 refine qj (t_n (qi (qi (ql ?_))))
 refine sp (.slice ax x.length cx) ?_
 refine oN rfl ?_
 refine sp (.slice ay y.length cy) ?_
 refine oN rfl ?_
 refine sp (.bool ((x.length : Int) != y.length)) ?_
 refine qj (t_n ?_)
 refine qC ((x.length : Int) != y.length) rfl (fun h1 => ?_) (fun h1 => ?_)
 ·skip
  replace h1 := bne_iff_ne.1 h1
  refine qi (ql ?_)
  refine sp (.bool false) ?_
  refine qj (t_n (qV (t_r ?_)))
  refine ret1 (.bool false) rfl rfl ⟨_, rfl, ?_, H.base⟩
  first | rw [decide_eq_false (fun e => by subst e; omega)] | rw [decide_eq_false (jF (k := k) ‹_›)] | rw [decide_eq_true (vP (k := k) (by omega) (by omega) ‹_›)]
 replace h1 := xw h1
 refine qM (t_n (qi (qi (ql ?_))))
 refine sp (.int .i64 0) ?_
 refine qj (t_n (qW ?_))
 refine zf (fun m' ρ w2 => ∃ (junk : Env) (k : Nat), ρ = upd (upd (upd junk 0 (.slice ax x.length cx)) 1 (.slice ay y.length cy)) 5 (.int .i64 k) ∧ (k ≤ x.length) ∧ (x.take k = y.take k) ∧ m' = x.length - k ∧ St w w2 [] [isF false Fx (.slice ax x.length cx) x, isF false Fy (.slice ay y.length cy) y]) (x.length - 0) ⟨_, 0, (by exact qg (qg (qg (rfl) rfl) rfl) rfl), (by omega), (by rfl), rfl, H⟩ ?_
 clear H
 rintro m' ρ w3 ⟨junk, k, rfl, i0, i1, rfl, H⟩
 refine qi (qi (ql ?_))
 refine sps [.int .i64 k, .slice ax x.length cx] ?_
 refine oN rfl ?_
 refine sp (.bool (decide ((k : Int) < x.length))) ?_
 refine qj (t_n ?_)
 refine qC (decide ((k : Int) < x.length)) rfl (fun h4 => ?_) (fun h4 => ?_)
 ·skip
  replace h4 := of_decide_eq_true h4
  refine qM (t_n (qi (qW (qi ?_))))
  refine vZ rfl H fun H => ?_
  refine rtp 0 (.slice ax x.length cx) H ?_
  refine rtp 1 (.int .i64 k) H ?_
  obtain ⟨b6, o7, rfl⟩ := H.addr 0 rfl (by omega)
  obtain ⟨ae8Need, ce8Need, Fe8Need, ae8Have, ce8Have, Fe8Have, ae8Lack, ce8Lack, Fe8Lack, ae8Here, ce8Here, Fe8Here, ae8Out, ce8Out, Fe8Out, ae8Into, ce8Into, Fe8Into, H⟩ := H.jK 0 rfl k k (by omega) (by omega) (by omega)
  refine tI 2 rfl rfl rfl (H.sel _ (.refl _) _ (fun _ h => List.mem_cons_of_mem _ (List.mem_cons_of_mem _ (List.mem_cons_of_mem _ (List.mem_cons_of_mem _ (List.mem_cons_of_mem _ (List.mem_cons_of_mem _ (List.mem_cons_of_mem _ (h))))))))) ?_
  refine rtp 4 (.slice ay y.length cy) (H.sel _ (.refl _) _ (fun _ h => List.mem_cons_of_mem _ (List.mem_cons_of_mem _ (List.mem_cons_of_mem _ (List.mem_cons_of_mem _ (List.mem_cons_of_mem _ (List.mem_cons_of_mem _ (List.mem_cons_of_mem _ (h))))))))) ?_
  refine rtp 5 (.int .i64 k) (H.sel _ (.refl _) _ (fun _ h => List.mem_cons_of_mem _ (List.mem_cons_of_mem _ (List.mem_cons_of_mem _ (List.mem_cons_of_mem _ (List.mem_cons_of_mem _ (List.mem_cons_of_mem _ (List.mem_cons_of_mem _ (h))))))))) ?_
  obtain ⟨b9, o10, rfl⟩ := H.addr 8 rfl (by omega)
  obtain ⟨ae11Need, ce11Need, Fe11Need, ae11Have, ce11Have, Fe11Have, ae11Lack, ce11Lack, Fe11Lack, ae11Here, ce11Here, Fe11Here, ae11Out, ce11Out, Fe11Out, ae11Into, ce11Into, Fe11Into, H⟩ := H.jK 8 rfl k k (by omega) (by omega) (by omega)
  refine tI 6 rfl rfl rfl (H.sel _ (.refl _) _ (fun _ h => List.mem_cons_of_mem _ (List.mem_cons_of_mem _ (List.mem_cons_of_mem _ (List.mem_cons_of_mem _ (List.mem_cons_of_mem _ (List.mem_cons_of_mem _ (List.mem_cons_of_mem _ (List.mem_cons_of_mem _ (List.mem_cons_of_mem _ (List.mem_cons_of_mem _ (List.mem_cons_of_mem _ (List.mem_cons_of_mem _ (List.mem_cons_of_mem _ (List.mem_cons_of_mem _ (h)))))))))))))))) ?_
  refine qR [3, 7] (by kernel_rfl) (by simp) (xA rfl ?_ (xA rfl ?_ qU))
  ·skip
   refine zC [.int .i64 ((x[k]!).qw), .int .i64 ((x[k]!).xN), .slice ae8Need (((x[k]!).qO).length) ce8Need, .slice ae8Have (((x[k]!).qX).length) ce8Have, .slice ae8Lack (((x[k]!).xe).length) ce8Lack, .slice ae8Here (((x[k]!).xm).length) ce8Here, .slice ae8Out (((x[k]!).xZ).length) ce8Out, .slice ae8Into (((x[k]!).qF).length) ce8Into, .bool ((x[k]!).xO)] Tryz.isAgg121 Tryz.sizeOf121 rfl (qI (H.get 13 rfl) 0 9) ?_
   refine ⟨H.sel _ (.refl _) _ (fun _ h => List.mem_cons_of_mem _ (List.mem_cons_of_mem _ (List.mem_cons_of_mem _ (List.mem_cons_of_mem _ (List.mem_cons_of_mem _ (List.mem_cons_of_mem _ (List.mem_cons_of_mem _ (List.mem_cons_of_mem _ (List.mem_cons_of_mem _ (List.mem_cons_of_mem _ (List.mem_cons_of_mem _ (List.mem_cons_of_mem _ (List.mem_cons_of_mem _ (List.mem_cons_of_mem _ (h))))))))))))))), ?_⟩
   refine qR [7] (by kernel_rfl) (by simp) (xA rfl ?_ qU)
   refine zC [.int .i64 ((y[k]!).qw), .int .i64 ((y[k]!).xN), .slice ae11Need (((y[k]!).qO).length) ce11Need, .slice ae11Have (((y[k]!).qX).length) ce11Have, .slice ae11Lack (((y[k]!).xe).length) ce11Lack, .slice ae11Here (((y[k]!).xm).length) ce11Here, .slice ae11Out (((y[k]!).xZ).length) ce11Out, .slice ae11Into (((y[k]!).qF).length) ce11Into, .bool ((y[k]!).xO)] Tryz.isAgg121 Tryz.sizeOf121 rfl (qI (H.get 6 rfl) 0 9) ?_
   refine ⟨H.sel _ (.refl _) _ (fun _ h => List.mem_cons_of_mem _ (List.mem_cons_of_mem _ (List.mem_cons_of_mem _ (List.mem_cons_of_mem _ (List.mem_cons_of_mem _ (List.mem_cons_of_mem _ (List.mem_cons_of_mem _ (List.mem_cons_of_mem _ (List.mem_cons_of_mem _ (List.mem_cons_of_mem _ (List.mem_cons_of_mem _ (List.mem_cons_of_mem _ (List.mem_cons_of_mem _ (List.mem_cons_of_mem _ (h))))))))))))))), ?_⟩
   refine qR [8] (by kernel_rfl) (by simp) (xA rfl ?_ qU)
   refine oc (eqRule_ok _ (x[k]!) (y[k]!) _ _ _ _ _ _ _ _ _ _ _ _ _ _ _ _ _ _ _ _ _ _ _ _ _ _ _ _ _ _ _ _ _ _ _ _ (H.get 7 rfl).1 (H.get 8 rfl).1 (H.get 9 rfl).1 (H.get 10 rfl).1 (H.get 11 rfl).1 (H.get 12 rfl).1 (H.get 0 rfl).1 (H.get 1 rfl).1 (H.get 2 rfl).1 (H.get 3 rfl).1 (H.get 4 rfl).1 (H.get 5 rfl).1) ?_
   rintro _ w12 rfl x13
   replace H := H.ext x13
   refine ⟨H.sel _ (.refl _) _ (fun _ h => List.mem_cons_of_mem _ (List.mem_cons_of_mem _ (List.mem_cons_of_mem _ (List.mem_cons_of_mem _ (List.mem_cons_of_mem _ (List.mem_cons_of_mem _ (List.mem_cons_of_mem _ (List.mem_cons_of_mem _ (List.mem_cons_of_mem _ (List.mem_cons_of_mem _ (List.mem_cons_of_mem _ (List.mem_cons_of_mem _ (List.mem_cons_of_mem _ (List.mem_cons_of_mem _ (h))))))))))))))), ?_⟩
   refine rtp 9 (.bool (!(decide ((x[k]!) = (y[k]!))))) (H.sel _ (.refl _) _ (fun _ h => List.mem_cons_of_mem _ (List.mem_cons_of_mem _ (List.mem_cons_of_mem _ (List.mem_cons_of_mem _ (List.mem_cons_of_mem _ (List.mem_cons_of_mem _ (List.mem_cons_of_mem _ (List.mem_cons_of_mem _ (List.mem_cons_of_mem _ (List.mem_cons_of_mem _ (List.mem_cons_of_mem _ (List.mem_cons_of_mem _ (List.mem_cons_of_mem _ (List.mem_cons_of_mem _ (h)))))))))))))))) ?_
   refine xq (by kernel_rfl) (t_n ?_)
   refine qC (!(decide ((x[k]!) = (y[k]!)))) rfl (fun h14 => ?_) (fun h14 => ?_)
   ·skip
    replace h14 := qP h14
    replace h14 := of_decide_eq_false h14
    refine qi (ql ?_)
    refine sp (.bool false) ?_
    refine qj (t_n (qV (b_r (t_r (t_r (b_r (t_r ?_)))))))
    refine ret1 (.bool false) rfl rfl ⟨_, rfl, ?_, H.base⟩
    first | rw [decide_eq_false (fun e => by subst e; omega)] | rw [decide_eq_false (jF (k := k) ‹_›)] | rw [decide_eq_true (vP (k := k) (by omega) (by omega) ‹_›)]
   replace h14 := qJ h14
   replace h14 := of_decide_eq_true h14
   refine qM (b_n (t_n (ql ?_)))
   refine sp (.int .i64 k) ?_
   refine sw (zk k 1 rfl rfl (by omega) ?_)
   refine sp (.int .i64 (k + 1)) ?_
   refine qj ?_
   refine xk (m' := x.length - (k + 1)) (by omega) ⟨_, k + 1, (by exact qg (qg (qg (rfl) rfl) rfl) rfl), ?_, ?_, rfl, H.sel _ (.refl _) _ (by simp)⟩
   · omega
   · exact eqTo_succ (by omega) (by omega) ‹_› (by first | assumption | omega)
  refine zC [.int .i64 ((y[k]!).qw), .int .i64 ((y[k]!).xN), .slice ae11Need (((y[k]!).qO).length) ce11Need, .slice ae11Have (((y[k]!).qX).length) ce11Have, .slice ae11Lack (((y[k]!).xe).length) ce11Lack, .slice ae11Here (((y[k]!).xm).length) ce11Here, .slice ae11Out (((y[k]!).xZ).length) ce11Out, .slice ae11Into (((y[k]!).qF).length) ce11Into, .bool ((y[k]!).xO)] Tryz.isAgg121 Tryz.sizeOf121 rfl (qI (H.get 6 rfl) 0 9) ?_
  refine ⟨H.sel _ (.refl _) _ (fun _ h => List.mem_cons_of_mem _ (List.mem_cons_of_mem _ (List.mem_cons_of_mem _ (List.mem_cons_of_mem _ (List.mem_cons_of_mem _ (List.mem_cons_of_mem _ (List.mem_cons_of_mem _ (List.mem_cons_of_mem _ (List.mem_cons_of_mem _ (List.mem_cons_of_mem _ (List.mem_cons_of_mem _ (List.mem_cons_of_mem _ (List.mem_cons_of_mem _ (List.mem_cons_of_mem _ (h))))))))))))))), ?_⟩
  refine qR [3] (by kernel_rfl) (by simp) (xA rfl ?_ qU)
  refine zC [.int .i64 ((x[k]!).qw), .int .i64 ((x[k]!).xN), .slice ae8Need (((x[k]!).qO).length) ce8Need, .slice ae8Have (((x[k]!).qX).length) ce8Have, .slice ae8Lack (((x[k]!).xe).length) ce8Lack, .slice ae8Here (((x[k]!).xm).length) ce8Here, .slice ae8Out (((x[k]!).xZ).length) ce8Out, .slice ae8Into (((x[k]!).qF).length) ce8Into, .bool ((x[k]!).xO)] Tryz.isAgg121 Tryz.sizeOf121 rfl (qI (H.get 13 rfl) 0 9) ?_
  refine ⟨H.sel _ (.refl _) _ (fun _ h => List.mem_cons_of_mem _ (List.mem_cons_of_mem _ (List.mem_cons_of_mem _ (List.mem_cons_of_mem _ (List.mem_cons_of_mem _ (List.mem_cons_of_mem _ (List.mem_cons_of_mem _ (List.mem_cons_of_mem _ (List.mem_cons_of_mem _ (List.mem_cons_of_mem _ (List.mem_cons_of_mem _ (List.mem_cons_of_mem _ (List.mem_cons_of_mem _ (List.mem_cons_of_mem _ (h))))))))))))))), ?_⟩
  refine qR [8] (by kernel_rfl) (by simp) (xA rfl ?_ qU)
  refine oc (eqRule_ok _ (x[k]!) (y[k]!) _ _ _ _ _ _ _ _ _ _ _ _ _ _ _ _ _ _ _ _ _ _ _ _ _ _ _ _ _ _ _ _ _ _ _ _ (H.get 7 rfl).1 (H.get 8 rfl).1 (H.get 9 rfl).1 (H.get 10 rfl).1 (H.get 11 rfl).1 (H.get 12 rfl).1 (H.get 0 rfl).1 (H.get 1 rfl).1 (H.get 2 rfl).1 (H.get 3 rfl).1 (H.get 4 rfl).1 (H.get 5 rfl).1) ?_
  rintro _ w15 rfl x16
  replace H := H.ext x16
  refine ⟨H.sel _ (.refl _) _ (fun _ h => List.mem_cons_of_mem _ (List.mem_cons_of_mem _ (List.mem_cons_of_mem _ (List.mem_cons_of_mem _ (List.mem_cons_of_mem _ (List.mem_cons_of_mem _ (List.mem_cons_of_mem _ (List.mem_cons_of_mem _ (List.mem_cons_of_mem _ (List.mem_cons_of_mem _ (List.mem_cons_of_mem _ (List.mem_cons_of_mem _ (List.mem_cons_of_mem _ (List.mem_cons_of_mem _ (h))))))))))))))), ?_⟩
  refine rtp 9 (.bool (!(decide ((x[k]!) = (y[k]!))))) (H.sel _ (.refl _) _ (fun _ h => List.mem_cons_of_mem _ (List.mem_cons_of_mem _ (List.mem_cons_of_mem _ (List.mem_cons_of_mem _ (List.mem_cons_of_mem _ (List.mem_cons_of_mem _ (List.mem_cons_of_mem _ (List.mem_cons_of_mem _ (List.mem_cons_of_mem _ (List.mem_cons_of_mem _ (List.mem_cons_of_mem _ (List.mem_cons_of_mem _ (List.mem_cons_of_mem _ (List.mem_cons_of_mem _ (h)))))))))))))))) ?_
  refine xq (by kernel_rfl) (t_n ?_)
  refine qC (!(decide ((x[k]!) = (y[k]!)))) rfl (fun h17 => ?_) (fun h17 => ?_)
  ·skip
   replace h17 := qP h17
   replace h17 := of_decide_eq_false h17
   refine qi (ql ?_)
   refine sp (.bool false) ?_
   refine qj (t_n (qV (b_r (t_r (t_r (b_r (t_r ?_)))))))
   refine ret1 (.bool false) rfl rfl ⟨_, rfl, ?_, H.base⟩
   first | rw [decide_eq_false (fun e => by subst e; omega)] | rw [decide_eq_false (jF (k := k) ‹_›)] | rw [decide_eq_true (vP (k := k) (by omega) (by omega) ‹_›)]
  replace h17 := qJ h17
  replace h17 := of_decide_eq_true h17
  refine qM (b_n (t_n (ql ?_)))
  refine sp (.int .i64 k) ?_
  refine sw (zk k 1 rfl rfl (by omega) ?_)
  refine sp (.int .i64 (k + 1)) ?_
  refine qj ?_
  refine xk (m' := x.length - (k + 1)) (by omega) ⟨_, k + 1, (by exact qg (qg (qg (rfl) rfl) rfl) rfl), ?_, ?_, rfl, H.sel _ (.refl _) _ (by simp)⟩
  · omega
  · exact eqTo_succ (by omega) (by omega) ‹_› (by first | assumption | omega)
 replace h4 := of_decide_eq_false h4
 refine xQ (t_x (t_x (b_x (t_n (qi (ql ?_))))))
 refine sp (.bool true) ?_
 refine qj (t_n (qV ?_))
 refine ret1 (.bool true) rfl rfl ⟨_, rfl, ?_, H.base⟩
 first | rw [decide_eq_false (fun e => by subst e; omega)] | rw [decide_eq_false (jF (k := k) ‹_›)] | rw [decide_eq_true (vP (k := k) (by omega) (by omega) ‹_›)]

theorem eqSystem_ok (w : World) (x : qK) (y : qK) (zB : Option Addr) (zA : Nat) (jy : List Nat) (vN : Option Addr) (vM : Nat) (Qw : List Nat) (ayParents : Option Addr) (cyParents : Nat) (FyParents : List Nat) (ayRules : Option Addr) (cyRules : Nat) (FyRules : List Nat) (jV : qE.rep w jy [.slice zB x.qf.length zA] x.qf) (QY : qE.rep w Qw [.slice vN x.qh.length vM] x.qh) (hyParents : qE.rep w FyParents [.slice ayParents y.qf.length cyParents] y.qf) (hyRules : qE.rep w FyRules [.slice ayRules y.qh.length cyRules] y.qh) : Calls Tryz.prog 21 #[.agg #[.int .i64 x.qH, .slice zB x.qf.length zA, .slice vN x.qh.length vM], .agg #[.int .i64 y.qH, .slice ayParents y.qf.length cyParents, .slice ayRules y.qh.length cyRules]] w (Ret (fun v w' => v = .bool (decide (x = y))) w) := by
 refine en Tryz.func21 Tryz.ntmps21 ?_
 have H := ((((St.start w).arg hyRules).arg hyParents).arg QY).arg jV
 have nhxParents := qA jV
 have nhxRules := qA QY
 have nhyParents := qA hyParents
 have nhyRules := qA hyRules
 clear jV QY hyParents hyRules
 refine qi (ql ?_)
 refine sw (o_box H (.agg #[.int .i64 x.qH, .slice zB x.qf.length zA, .slice vN x.qh.length vM]) rfl fun b1 w2 H => ?_)
 replace H : St _ _ [.box b1 [.int .i64 x.qH, .slice zB x.qf.length zA, .slice vN x.qh.length vM] 36] _ := H
 refine sw (o_box H (.agg #[.int .i64 y.qH, .slice ayParents y.qf.length cyParents, .slice ayRules y.qh.length cyRules]) rfl fun b3 w4 H => ?_)
 replace H : St _ _ [.box b3 [.int .i64 y.qH, .slice ayParents y.qf.length cyParents, .slice ayRules y.qh.length cyRules] 36, .box b1 [.int .i64 x.qH, .slice zB x.qf.length zA, .slice vN x.qh.length vM] 36] _ := H
 refine sp (.bool false) ?_
 refine qj (t_n (qi (qi (ql ?_))))
 refine oF rfl ?_
 refine oL rfl (H.cell 1 rfl rfl) ?_
 refine oF rfl ?_
 refine oL rfl (H.cell 0 rfl rfl) ?_
 refine sp (.bool ((x.qH : Int) != y.qH)) ?_
 refine qj (t_n ?_)
 refine qC ((x.qH : Int) != y.qH) rfl (fun h5 => ?_) (fun h5 => ?_)
 ·skip
  replace h5 := bne_iff_ne.1 h5
  refine qi (ql ?_)
  refine sp (.bool false) ?_
  refine qj (t_n (qV (t_r ?_)))
  refine ret1 (.bool false) rfl rfl ⟨_, rfl, ?_, H.base⟩
  rw [decide_eq_false (fun e => by subst e; simp_all)]
 replace h5 := xw h5
 refine qM (t_n (qi (qi (ql ?_))))
 refine oF rfl ?_
 refine oL rfl (H.cell 1 rfl rfl) ?_
 refine oF rfl ?_
 refine oL rfl (H.cell 0 rfl rfl) ?_
 refine sw (oc (yI _ x.qf y.qf _ _ _ _ _ _ (H.get 0 rfl).1 (H.get 2 rfl).1) ?_)
 rintro _ w6 rfl x7
 replace H := H.ext x7
 refine sp (.bool (!(decide (x.qf = y.qf)))) ?_
 refine qj (t_n ?_)
 refine qC (!(decide (x.qf = y.qf))) rfl (fun h8 => ?_) (fun h8 => ?_)
 ·skip
  replace h8 := qP h8
  replace h8 := of_decide_eq_false h8
  refine qi (ql ?_)
  refine sp (.bool false) ?_
  refine qj (t_n (qV (t_r ?_)))
  refine ret1 (.bool false) rfl rfl ⟨_, rfl, ?_, H.base⟩
  rw [decide_eq_false (fun e => by subst e; simp_all)]
 replace h8 := qJ h8
 replace h8 := of_decide_eq_true h8
 refine qM (t_n (qi (qi (ql ?_))))
 refine oF rfl ?_
 refine oL rfl (H.cell 1 rfl rfl) ?_
 refine oF rfl ?_
 refine oL rfl (H.cell 0 rfl rfl) ?_
 refine sw (oc (eqRuleS_ok _ x.qh y.qh _ _ _ _ _ _ (H.get 1 rfl).1 (H.get 3 rfl).1) ?_)
 rintro _ w9 rfl x10
 replace H := H.ext x10
 refine sp (.bool (!(decide (x.qh = y.qh)))) ?_
 refine qj (t_n ?_)
 refine qC (!(decide (x.qh = y.qh))) rfl (fun h11 => ?_) (fun h11 => ?_)
 ·skip
  replace h11 := qP h11
  replace h11 := of_decide_eq_false h11
  refine qi (ql ?_)
  refine sp (.bool false) ?_
  refine qj (t_n (qV (t_r ?_)))
  refine ret1 (.bool false) rfl rfl ⟨_, rfl, ?_, H.base⟩
  rw [decide_eq_false (fun e => by subst e; simp_all)]
 replace h11 := qJ h11
 replace h11 := of_decide_eq_true h11
 refine qM (t_n (qi (ql ?_)))
 refine sp (.bool true) ?_
 refine qj (t_n (qV ?_))
 refine ret1 (.bool true) rfl rfl ⟨_, rfl, ?_, H.base⟩
 rw [decide_eq_true (by cases x; cases y; simp_all)]

theorem eqState_ok (w : World) (x : xu) (y : xu) (vG : Option Addr) (vF : Nat) (Qj : List Nat) (jO : Option Addr) (jL : Nat) (XF : List Nat) (zH : Option Addr) (zG : Nat) (jQ : List Nat) (ayAlive : Option Addr) (cyAlive : Nat) (FyAlive : List Nat) (ayBags : Option Addr) (cyBags : Nat) (FyBags : List Nat) (ayAround : Option Addr) (cyAround : Nat) (FyAround : List Nat) (QZ : qE.rep w Qj [.slice vG x.qo.length vF] x.qo) (hxBags : qE.rep w XF [.slice jO x.qy.length jL] x.qy) (yO : qE.rep w jQ [.slice zH x.qm.length zG] x.qm) (hyAlive : qE.rep w FyAlive [.slice ayAlive y.qo.length cyAlive] y.qo) (hyBags : qE.rep w FyBags [.slice ayBags y.qy.length cyBags] y.qy) (hyAround : qE.rep w FyAround [.slice ayAround y.qm.length cyAround] y.qm) : Calls Tryz.prog 22 #[.agg #[.slice vG x.qo.length vF, .slice jO x.qy.length jL, .slice zH x.qm.length zG], .agg #[.slice ayAlive y.qo.length cyAlive, .slice ayBags y.qy.length cyBags, .slice ayAround y.qm.length cyAround]] w (Ret (fun v w' => v = .bool (decide (x = y))) w) := by
 refine en Tryz.func22 Tryz.ntmps22 ?_
 have H := ((((((St.start w).arg hyAround).arg hyBags).arg hyAlive).arg yO).arg hxBags).arg QZ
 have nhxAlive := qA QZ
 have nhxBags := qA hxBags
 have nhxAround := qA yO
 have nhyAlive := qA hyAlive
 have nhyBags := qA hyBags
 have nhyAround := qA hyAround
 clear QZ hxBags yO hyAlive hyBags hyAround
 refine qi (ql ?_)
 refine sw (o_box H (.agg #[.slice vG x.qo.length vF, .slice jO x.qy.length jL, .slice zH x.qm.length zG]) rfl fun b1 w2 H => ?_)
 replace H : St _ _ [.box b1 [.slice vG x.qo.length vF, .slice jO x.qy.length jL, .slice zH x.qm.length zG] 38] _ := H
 refine sw (o_box H (.agg #[.slice ayAlive y.qo.length cyAlive, .slice ayBags y.qy.length cyBags, .slice ayAround y.qm.length cyAround]) rfl fun b3 w4 H => ?_)
 replace H : St _ _ [.box b3 [.slice ayAlive y.qo.length cyAlive, .slice ayBags y.qy.length cyBags, .slice ayAround y.qm.length cyAround] 38, .box b1 [.slice vG x.qo.length vF, .slice jO x.qy.length jL, .slice zH x.qm.length zG] 38] _ := H
 refine sp (.bool false) ?_
 refine qj (t_n (qi (qi (ql ?_))))
 refine oF rfl ?_
 refine oL rfl (H.cell 1 rfl rfl) ?_
 refine oF rfl ?_
 refine oL rfl (H.cell 0 rfl rfl) ?_
 refine sw (oc (eqBoolS_ok _ x.qo y.qo _ _ _ _ _ _ (H.get 0 rfl).1 (H.get 3 rfl).1) ?_)
 rintro _ w5 rfl x6
 replace H := H.ext x6
 refine sp (.bool (!(decide (x.qo = y.qo)))) ?_
 refine qj (t_n ?_)
 refine qC (!(decide (x.qo = y.qo))) rfl (fun h7 => ?_) (fun h7 => ?_)
 ·skip
  replace h7 := qP h7
  replace h7 := of_decide_eq_false h7
  refine qi (ql ?_)
  refine sp (.bool false) ?_
  refine qj (t_n (qV (t_r ?_)))
  refine ret1 (.bool false) rfl rfl ⟨_, rfl, ?_, H.base⟩
  rw [decide_eq_false (fun e => by subst e; simp_all)]
 replace h7 := qJ h7
 replace h7 := of_decide_eq_true h7
 refine qM (t_n (qi (qi (ql ?_))))
 refine oF rfl ?_
 refine oL rfl (H.cell 1 rfl rfl) ?_
 refine oF rfl ?_
 refine oL rfl (H.cell 0 rfl rfl) ?_
 refine sw (oc (eqInt64SS_ok _ x.qy y.qy _ _ _ _ _ _ (H.get 1 rfl).1 (H.get 4 rfl).1) ?_)
 rintro _ w8 rfl x9
 replace H := H.ext x9
 refine sp (.bool (!(decide (x.qy = y.qy)))) ?_
 refine qj (t_n ?_)
 refine qC (!(decide (x.qy = y.qy))) rfl (fun h10 => ?_) (fun h10 => ?_)
 ·skip
  replace h10 := qP h10
  replace h10 := of_decide_eq_false h10
  refine qi (ql ?_)
  refine sp (.bool false) ?_
  refine qj (t_n (qV (t_r ?_)))
  refine ret1 (.bool false) rfl rfl ⟨_, rfl, ?_, H.base⟩
  rw [decide_eq_false (fun e => by subst e; simp_all)]
 replace h10 := qJ h10
 replace h10 := of_decide_eq_true h10
 refine qM (t_n (qi (qi (ql ?_))))
 refine oF rfl ?_
 refine oL rfl (H.cell 1 rfl rfl) ?_
 refine oF rfl ?_
 refine oL rfl (H.cell 0 rfl rfl) ?_
 refine sw (oc (yI _ x.qm y.qm _ _ _ _ _ _ (H.get 2 rfl).1 (H.get 5 rfl).1) ?_)
 rintro _ w11 rfl x12
 replace H := H.ext x12
 refine sp (.bool (!(decide (x.qm = y.qm)))) ?_
 refine qj (t_n ?_)
 refine qC (!(decide (x.qm = y.qm))) rfl (fun h13 => ?_) (fun h13 => ?_)
 ·skip
  replace h13 := qP h13
  replace h13 := of_decide_eq_false h13
  refine qi (ql ?_)
  refine sp (.bool false) ?_
  refine qj (t_n (qV (t_r ?_)))
  refine ret1 (.bool false) rfl rfl ⟨_, rfl, ?_, H.base⟩
  rw [decide_eq_false (fun e => by subst e; simp_all)]
 replace h13 := qJ h13
 replace h13 := of_decide_eq_true h13
 refine qM (t_n (qi (ql ?_)))
 refine sp (.bool true) ?_
 refine qj (t_n (qV ?_))
 refine ret1 (.bool true) rfl rfl ⟨_, rfl, ?_, H.base⟩
 rw [decide_eq_true (by cases x; cases y; simp_all)]

end Go.Proofs.YtgjnaocffdhnbaaGreat
