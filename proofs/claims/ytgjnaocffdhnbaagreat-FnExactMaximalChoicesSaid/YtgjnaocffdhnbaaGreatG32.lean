/- Walks, printed by program (wip/tools/gv.py): what each function comes to, for all arguments. -/
import Derived.Test.YtgjnaocffdhnbaaGreatG31
import Derived.Test.YtgjnaocffdhnbaaGreatG13
import Derived.Test.YtgjnaocffdhnbaaGreatPH
import Derived.Test.YtgjnaocffdhnbaaGreatI
import Derived.Test.YtgjnaocffdhnbaaGreatTI
namespace Go.Proofs.YtgjnaocffdhnbaaGreat
set_option linter.unusedVariables false
set_option linter.unusedSimpArgs false
open Go.Proofs.YtgjnaocffdhnbaaGreat.Tot (tot)
open Go.Proofs.YtgjnaocffdhnbaaGreat.Mark (cnt mrk mkd mkd_mark cnt_mark)
open Go.RowKit
set_option linter.unusedVariables false
set_option linter.unusedSimpArgs false
set_option maxRecDepth 100000
set_option maxHeartbeats 4000000

instance iC209_G32 : Qn Tryz.prog 209 := ⟨Tryz.call209⟩
instance iA170_G32 : SclC Tryz.prog 170 := ⟨Tryz.isAgg170⟩
instance iC178_G32 : Qn Tryz.prog 178 := ⟨Tryz.call178⟩
instance iA219_G32 : SclC Tryz.prog 219 := ⟨Tryz.isAgg219⟩
instance iF221_0G32 : FldC Tryz.prog 221 0 0 := ⟨⟨_, _, _, Tryz.underlying221, rfl, rfl, Tryz.sizeOf27⟩⟩
instance iC108_G32 : Qn Tryz.prog 108 := ⟨Tryz.call108⟩
instance iC203_G32 : Qn Tryz.prog 203 := ⟨Tryz.call203⟩
instance iA222_G32 : SclC Tryz.prog 222 := ⟨Tryz.isAgg222⟩
instance iC152_G32 : Qn Tryz.prog 152 := ⟨Tryz.call152⟩
instance iC200_G32 : Qn Tryz.prog 200 := ⟨Tryz.call200⟩


theorem isBag_ok (w : World) (l : List Int) (al : Option Addr) (cl : Nat) (Fl : List Nat) (hl : qE.rep w Fl [.slice al l.length cl] l) : Calls Tryz.prog 209 #[.slice al l.length cl] w (Ret (fun v w' => v = .bool (dec (QN l))) w) := by
 refine en Tryz.func209 Tryz.ntmps209 ?_
 have H := (St.start w).arg hl
 have nhl := qA hl
 clear hl
 have N := Fresh.nil w.heap.size
 refine qi (ql ?_)
 refine sp (.bool false) ?_
 refine qj (t_n (qi (ql ?_)))
 refine sp (.slice al l.length cl) ?_
 refine sw (oc (sizeI_ok _ l _ _ _ (H.get 0 rfl).1) ?_)
 rintro _ w1 rfl x2
 replace H := H.ext x2
 refine sp (.slice al l.length cl) ?_
 refine sw (oc (Xv _ (l.length : Int) l _ _ _ (H.get 0 rfl).1) ?_)
 rintro _ w3 rfl x4
 replace H := H.ext x4
 refine sp (.bool (dec (zg (l.length : Int) l))) ?_
 refine qj (t_n (qV ?_))
 refine ret1 (.bool (dec (zg (l.length : Int) l))) rfl rfl ⟨_, rfl, ?_, H.base⟩
 rw [dec_congr bagAny_okH]

theorem isFull_ok (w : World) (rest : List Int) (parts : List (List Int)) (arest : Option Addr) (crest : Nat) (Frest : List Nat) (aparts : Option Addr) (cparts : Nat) (Fparts : List Nat) (hrest : qE.rep w Frest [.slice arest rest.length crest] rest) (hparts : qE.rep w Fparts [.slice aparts parts.length cparts] parts) (p0 : Xk parts rest) : Calls Tryz.prog 178 #[.slice arest rest.length crest, .slice aparts parts.length cparts] w (Ret (fun v w' => v = .bool (dec (FullOk parts rest))) w) := by
 refine en Tryz.func178 Tryz.ntmps178 ?_
 have H := ((St.start w).arg hparts).arg hrest
 have nhrest := qA hrest
 have nhparts := qA hparts
 clear hrest hparts
 have N := Fresh.nil w.heap.size
 refine qi (ql ?_)
 refine sw (zh H [.slice arest rest.length crest] fun b1 w2 H => ?_)
 refine sp (.bool false) ?_
 refine qj (t_n (qi (ql ?_)))
 refine sps [.slice aparts parts.length cparts, .func (.func 206) #[] #[pp b1 0]] ?_
 refine sw (jf #[.slice aparts parts.length cparts, .func (.func 206) #[] #[pp b1 0]] rfl rfl Tryz.call205 ?_)
 refine en Tryz.func205 Tryz.ntmps205 ?_
 refine qi (ql ?_)
 refine sp (.bool false) ?_
 refine qj (t_n (qi (ql ?_)))
 refine sps [.slice aparts parts.length cparts, .func (.func 206) #[] #[pp b1 0]] ?_
 refine sw (jf #[.slice aparts parts.length cparts, .func (.func 206) #[] #[pp b1 0]] rfl rfl Tryz.call211 ?_)
 refine en Tryz.func211 Tryz.ntmps211 ?_
 refine qi (ql ?_)
 refine sp (.int .i64 0) ?_
 refine qj (t_n (qi (qi (ql ?_))))
 refine sp (.slice aparts parts.length cparts) ?_
 refine oN rfl ?_
 refine sp (.int .i64 0) ?_
 refine qj (t_n (qW ?_))
 refine zf (fun m' ρ w3 => ∃ (junk : Env) (i : Nat), ρ = upd (upd (upd (upd junk 0 (.slice aparts parts.length cparts)) 1 (.func (.func 206) #[] #[pp b1 0])) 7 (.int .i64 parts.length)) 8 (.int .i64 i) ∧ ((i : Int) ≤ parts.length) ∧ (FullTo parts rest i) ∧ m' = (parts.length - (i : Int)).toNat ∧ Fresh w.heap.size [] ∧ St w w3 [.box b1 [.slice arest rest.length crest] 22] [isF false Frest (.slice arest rest.length crest) rest, isF false Fparts (.slice aparts parts.length cparts) parts]) ((parts.length - (0 : Int)).toNat) ⟨_, 0, (by exact qg (qg (qg (qg (rfl) rfl) rfl) rfl) rfl), (by omega), (by first | trivial | exact fun j hj => by omega), rfl, N, H⟩ ?_
 clear H N
 rintro m' ρ w4 ⟨junk, i, rfl, i0, i1, rfl, N, H⟩
 refine qi (ql ?_)
 refine sp (.bool (decide ((i : Int) < parts.length))) ?_
 refine qj (t_n (qi ?_))
 refine qC (decide ((i : Int) < parts.length)) rfl (fun h5 => ?_) (fun h5 => ?_)
 ·skip
  replace h5 := of_decide_eq_true h5
  obtain ⟨t1, t2, t3, t4, t5⟩ := p0.times (k := i) (by omega)
  refine qM (t_n (qi (qW (qi (ql ?_)))))
  refine sps [.int .i64 i, .int .i64 i] ?_
  refine qj (t_n (qi (ql ?_)))
  refine sps [.func (.func 206) #[] #[pp b1 0], .slice aparts parts.length cparts, .int .i64 i] ?_
  obtain ⟨b6, o7, rfl⟩ := H.addr 1 rfl (by omega)
  obtain ⟨ae9, ce9, Fe9, H⟩ := H.jo 1 rfl i i (by omega) (by omega) (by omega)
  refine oI rfl rfl ?_
  refine oL rfl (H.xJ 1 rfl 0 rfl) ?_
  refine sw (jf #[.slice ae9 ((parts[i]!).length) ce9, pp b1 0] rfl rfl Tryz.call206 ?_)
  refine en Tryz.func206 Tryz.ntmps206 ?_
  refine qi (ql ?_)
  refine sp (.bool false) ?_
  refine qj (t_n (qi (ql ?_)))
  refine sp (.slice ae9 ((parts[i]!).length) ce9) ?_
  refine oL rfl (H.cell 0 rfl rfl) ?_
  refine sw (oc (isWithin_ok _ (parts[i]!) rest _ _ _ _ _ _ (H.get 0 rfl).1 (H.get 2 rfl).1 (by first | assumption | omega) (by first | assumption | omega)) ?_)
  rintro _ w10 rfl x11
  replace H := H.ext x11
  refine sp (.bool (within (parts[i]!) rest)) ?_
  refine qj (t_n (qV ?_))
  refine ret1 (.bool (within (parts[i]!) rest)) rfl rfl ⟨_, rfl, ?_⟩
  refine qj (t_n ?_)
  refine qC (within (parts[i]!) rest) rfl (fun h12 => ?_) (fun h12 => ?_)
  ·skip
   refine qi (ql ?_)
   refine sps [.int .i64 i, .int .i64 i] ?_
   refine qj (t_n (qV (b_r (t_r (t_r (b_r (t_r ?_)))))))
   refine ret1 (.int .i64 i) rfl rfl ⟨_, rfl, ?_⟩
   refine sw (o_pure (.bool true) (by show some (Value.bool (decide ((i : Int) ≥ 0))) = some (Value.bool true); rw [decide_eq_true (by omega)]) ?_)
   refine sp (.bool true) ?_
   refine qj (t_n (qV ?_))
   refine ret1 (.bool true) rfl rfl ⟨_, rfl, ?_⟩
   refine sps [.bool false, .bool false] ?_
   refine qj (t_n (qV ?_))
   refine ret1 (.bool false) rfl rfl ⟨_, rfl, ?_, H.base⟩
   rw [qY (fun h => by have := h i (by omega); simp_all)]
  refine qM (b_n (t_n (ql ?_)))
  refine sw (zk i 1 rfl rfl (by omega) ?_)
  refine sp (.int .i64 (i + 1)) ?_
  refine qj ?_
  refine xk (m' := (parts.length - ((i + 1) : Int)).toNat) (by omega) ⟨_, i + 1, (by exact qg (qg (qg (qg (rfl) rfl) rfl) rfl) rfl), ?_, ?_, rfl, N, H.pick [0] [2, 3]⟩
  · omega
  · first | trivial | exact i1.succ ‹_›
 replace h5 := of_decide_eq_false h5
 refine xQ (t_x (t_x (b_x (t_n (qi (ql ?_))))))
 refine sp (.int .i64 (-1)) ?_
 refine qj (t_n (qV ?_))
 refine ret1 (.int .i64 (-1)) rfl rfl ⟨_, rfl, ?_⟩
 refine sps [.bool false, .bool false] ?_
 refine qj (t_n (qV ?_))
 refine ret1 (.bool false) rfl rfl ⟨_, rfl, ?_⟩
 refine sps [.bool true, .bool true] ?_
 refine qj (t_n (qV ?_))
 refine ret1 (.bool true) rfl rfl ⟨_, rfl, ?_, H.base⟩
 rw [jE (show FullOk parts rest from fun j hj => i1 j (by omega))]

theorem bagAndParts_ok (w : World) (b : List Int) (parts : List (List Int)) (ab : Option Addr) (cb : Nat) (Fb : List Nat) (aparts : Option Addr) (cparts : Nat) (Fparts : List Nat) (hb : qE.rep w Fb [.slice ab b.length cb] b) (hparts : qE.rep w Fparts [.slice aparts parts.length cparts] parts) (p0 : Xk parts b) (p1 : 1 ≤ parts.length) : Calls Tryz.prog 200 #[.slice ab b.length cb, .slice aparts parts.length cparts] w (Ret (fun v w' => v = .int .i64 0) w) := by
 refine en Tryz.func200 Tryz.ntmps200 ?_
 have H := ((St.start w).arg hparts).arg hb
 have nhb := qA hb
 have nhparts := qA hparts
 clear hb hparts
 have N := Fresh.nil w.heap.size
 obtain ⟨pb, pl, pk⟩ := p0.bags p1
 refine qi (ql ?_)
 refine sp (.int .i64 0) ?_
 refine qj (t_n (qi (qi (ql ?_))))
 refine sp (.slice ab b.length cb) ?_
 refine sw (oc (isBag_ok _ b _ _ _ (H.get 0 rfl).1) ?_)
 rintro _ w2 rfl x3
 replace H := H.ext x3
 refine sp (.bool (!(dec (QN b)))) ?_
 refine qj (t_n ?_)
 refine qC (!(dec (QN b))) rfl (fun h4 => ?_) (fun h4 => ?_)
 ·skip
  replace h4 := qP h4
  replace h4 := xI h4
  refine qi (ql ?_)
  refine sp (.int .i64 1) ?_
  refine qj (t_n (qV (t_r ?_)))
  refine ret1 (.int .i64 1) rfl rfl ⟨_, rfl, ?_, H.base⟩
  exfalso; first | omega | exact ‹¬ QN _› pb
 replace h4 := qJ h4
 replace h4 := vC h4
 refine qM (t_n (qi (ql ?_)))
 refine sp (.slice ab b.length cb) ?_
 refine oN rfl ?_
 refine sps [.slice aparts parts.length cparts, .slice aparts parts.length cparts] ?_
 refine oN rfl ?_
 refine sw (zt H Tryz.underlying22 ti2 parts.length rfl rfl (by omega) (by omega) (by omega) fun b5 w6 H => ?_)
 refine sw (jf #[.int .i64 b.length, .slice aparts parts.length cparts, .slice (aa b5 0) parts.length parts.length] rfl rfl Tryz.call210 ?_)
 refine en Tryz.func210 Tryz.ntmps210 ?_
 refine qi (ql ?_)
 refine sp (.int .i64 0) ?_
 refine qj (t_n (qi (qi (ql ?_))))
 refine sp (.slice aparts parts.length cparts) ?_
 refine sw (jf #[.slice aparts parts.length cparts, .func (.func 212) #[] #[]] rfl rfl Tryz.call205 ?_)
 refine en Tryz.func205 Tryz.ntmps205 ?_
 refine qi (ql ?_)
 refine sp (.bool false) ?_
 refine qj (t_n (qi (ql ?_)))
 refine sps [.slice aparts parts.length cparts, .func (.func 212) #[] #[]] ?_
 refine sw (jf #[.slice aparts parts.length cparts, .func (.func 212) #[] #[]] rfl rfl Tryz.call211 ?_)
 refine en Tryz.func211 Tryz.ntmps211 ?_
 refine qi (ql ?_)
 refine sp (.int .i64 0) ?_
 refine qj (t_n (qi (qi (ql ?_))))
 refine sp (.slice aparts parts.length cparts) ?_
 refine oN rfl ?_
 refine sp (.int .i64 0) ?_
 refine qj (t_n (qW ?_))
 refine zf (fun m' ρ w7 => ∃ (junk : Env) (i : Nat), ρ = upd (upd (upd (upd junk 0 (.slice aparts parts.length cparts)) 1 (.func (.func 212) #[] #[])) 7 (.int .i64 parts.length)) 8 (.int .i64 i) ∧ ((i : Int) ≤ parts.length) ∧ (True) ∧ m' = (parts.length - (i : Int)).toNat ∧ Fresh w.heap.size [] ∧ St w w7 [.row (.slice (aa b5 0) parts.length parts.length) 2 1 parts.length ((List.replicate parts.length (0 : Int)).map (Value.int .i64))] [isF false Fb (.slice ab b.length cb) b, isF false Fparts (.slice aparts parts.length cparts) parts]) ((parts.length - (0 : Int)).toNat) ⟨_, 0, (by exact qg (qg (qg (qg (rfl) rfl) rfl) rfl) rfl), (by omega), (by first | trivial | exact fun j hj => by omega), rfl, N, H⟩ ?_
 clear H N
 rintro m' ρ w8 ⟨junk, i, rfl, i0, i1, rfl, N, H⟩
 refine qi (ql ?_)
 refine sp (.bool (decide ((i : Int) < parts.length))) ?_
 refine qj (t_n (qi ?_))
 refine qC (decide ((i : Int) < parts.length)) rfl (fun h9 => ?_) (fun h9 => ?_)
 ·skip
  replace h9 := of_decide_eq_true h9
  refine qM (t_n (qi (qW (qi (ql ?_)))))
  refine sps [.int .i64 i, .int .i64 i] ?_
  refine qj (t_n (qi (ql ?_)))
  refine sps [.func (.func 212) #[] #[], .slice aparts parts.length cparts, .int .i64 i] ?_
  obtain ⟨b10, o11, rfl⟩ := H.addr 1 rfl (by omega)
  obtain ⟨ae13, ce13, Fe13, H⟩ := H.jo 1 rfl i i (by omega) (by omega) (by omega)
  refine oI rfl rfl ?_
  refine oL rfl (H.xJ 1 rfl 0 rfl) ?_
  refine sw (jf #[.slice ae13 ((parts[i]!).length) ce13] rfl rfl Tryz.call212 ?_)
  refine en Tryz.func212 Tryz.ntmps212 ?_
  refine qi (ql ?_)
  refine sp (.bool false) ?_
  refine qj (t_n (qi (ql ?_)))
  refine sp (.slice ae13 ((parts[i]!).length) ce13) ?_
  refine sw (oc (isBag_ok _ (parts[i]!) _ _ _ (H.get 0 rfl).1) ?_)
  rintro _ w15 rfl x16
  replace H := H.ext x16
  refine sps [.bool (!(dec (QN (parts[i]!)))), .bool (!(dec (QN (parts[i]!))))] ?_
  refine qj (t_n (qV ?_))
  refine ret1 (.bool (!(dec (QN (parts[i]!))))) rfl rfl ⟨_, rfl, ?_⟩
  refine qj (t_n ?_)
  refine qC (!(dec (QN (parts[i]!)))) rfl (fun h17 => ?_) (fun h17 => ?_)
  ·skip
   replace h17 := qP h17
   replace h17 := xI h17
   exact absurd (pk i (by omega)).1 h17
  replace h17 := qJ h17
  replace h17 := vC h17
  refine qM (b_n (t_n (ql ?_)))
  refine sw (zk i 1 rfl rfl (by omega) ?_)
  refine sp (.int .i64 (i + 1)) ?_
  refine qj ?_
  refine xk (m' := (parts.length - ((i + 1) : Int)).toNat) (by omega) ⟨_, i + 1, (by exact qg (qg (qg (qg (rfl) rfl) rfl) rfl) rfl), ?_, ?_, rfl, N, H.pick [0] [2, 3]⟩
  · omega
  · first | trivial | exact i1.succ ‹_›
 replace h9 := of_decide_eq_false h9
 refine xQ (t_x (t_x (b_x (t_n (qi (ql ?_))))))
 refine sp (.int .i64 (-1)) ?_
 refine qj (t_n (qV ?_))
 refine ret1 (.int .i64 (-1)) rfl rfl ⟨_, rfl, ?_⟩
 refine sps [.bool false, .bool false] ?_
 refine qj (t_n (qV ?_))
 refine ret1 (.bool false) rfl rfl ⟨_, rfl, ?_⟩
 refine qj (t_n ?_)
 refine qC false rfl (fun h => absurd h (by decide)) (fun _ => ?_)
 refine qM (t_n (qi (qi (ql ?_))))
 refine sp (.slice aparts parts.length cparts) ?_
 refine oN rfl ?_
 refine sps [.bool (decide ((parts.length : Int) > 8)), .bool (decide ((parts.length : Int) > 8))] ?_
 cases h18 : (decide ((parts.length : Int) > 8))
 ·skip
  replace h18 := of_decide_eq_false h18
  refine qB 14 rfl rfl ?_
  refine sp (.slice (aa b5 0) parts.length parts.length) ?_
  refine qB 14 rfl rfl ?_
  refine oN rfl ?_
  refine qB 14 rfl rfl ?_
  refine sp (.slice aparts parts.length cparts) ?_
  refine qB 14 rfl rfl ?_
  refine oN rfl ?_
  refine qB 14 rfl rfl ?_
  refine sps [.bool ((parts.length : Int) != parts.length), .bool ((parts.length : Int) != parts.length)] ?_
  refine qj (t_n ?_)
  refine qC ((parts.length : Int) != parts.length) rfl (fun h => absurd rfl (bne_iff_ne.1 h)) (fun h19 => ?_)
  replace h19 := xw h19
  refine qM (t_n (qi (qi (ql ?_))))
  refine sp (.slice aparts parts.length cparts) ?_
  refine oN rfl ?_
  refine sp (.int .i64 0) ?_
  refine qj (t_n (qW ?_))
  refine zf (fun m' ρ w20 => ∃ (junk : Env) (i_1 : Nat), ρ = upd (upd (upd (upd (upd junk 0 (.int .i64 b.length)) 2 (.slice (aa b5 0) parts.length parts.length)) 21 (.slice aparts parts.length cparts)) 22 (.int .i64 parts.length)) 23 (.int .i64 i_1) ∧ ((i_1 : Int) ≤ parts.length) ∧ m' = (parts.length - (i_1 : Int)).toNat ∧ Fresh w.heap.size [] ∧ St w w20 [.row (.slice (aa b5 0) parts.length parts.length) 2 1 parts.length ((List.replicate parts.length (0 : Int)).map (Value.int .i64))] [isF false Fb (.slice ab b.length cb) b, isF false Fparts (.slice aparts parts.length cparts) parts]) ((parts.length - (0 : Int)).toNat) ⟨_, 0, (by exact qg (qg (qg (qg (qg (rfl) rfl) rfl) rfl) rfl) rfl), (by omega), rfl, N, H⟩ ?_
  clear H N
  rintro m' ρ w21 ⟨junk, i_1, rfl, i0, rfl, N, H⟩
  refine qi (ql ?_)
  refine sp (.bool (decide ((i_1 : Int) < parts.length))) ?_
  refine qj (t_n (qi ?_))
  refine qC (decide ((i_1 : Int) < parts.length)) rfl (fun h22 => ?_) (fun h22 => ?_)
  ·skip
   replace h22 := of_decide_eq_true h22
   obtain ⟨r1, r2, r3⟩ := pk i_1 (by omega)
   have r4 := jw r1
   have r5 : (List.replicate parts.length (0 : Int))[i_1]! = 0 := by rw [getElem!_pos _ i_1 (by simp; omega)]; simp
   refine qM (t_n (qi (qW (qi (ql ?_)))))
   refine sp (.int .i64 i_1) ?_
   obtain ⟨b23, o24, rfl⟩ := H.addr 1 rfl (by omega)
   obtain ⟨ae26, ce26, Fe26, H⟩ := H.jo 1 rfl i_1 i_1 (by omega) (by omega) (by omega)
   refine oI rfl rfl ?_
   refine oL rfl (H.xJ 1 rfl 0 rfl) ?_
   refine sps [.int .i64 i_1, .slice ae26 ((parts[i_1]!).length) ce26] ?_
   refine qj (t_n (qi (ql ?_)))
   refine sp (.slice ae26 ((parts[i_1]!).length) ce26) ?_
   refine oN rfl ?_
   refine sps [.int .i64 b.length, .bool (((parts[i_1]!).length : Int) != b.length), .bool (((parts[i_1]!).length : Int) != b.length)] ?_
   cases h27 : (((parts[i_1]!).length : Int) != b.length)
   ·skip
    replace h27 := xw h27
    refine qB 32 rfl rfl ?_
    refine sp (.slice ae26 ((parts[i_1]!).length) ce26) ?_
    refine qB 32 rfl rfl ?_
    refine sw (oc (QV _ (parts[i_1]!) _ _ _ (H.get 0 rfl).1 (by first | assumption | exact zo (by assumption) | exact jw (by assumption))) ?_)
    rintro _ w28 rfl x29
    replace H := H.ext x29
    refine qB 32 rfl rfl ?_
    refine sps [.bool ((Qz (parts[i_1]!) : Int) == 0), .bool ((Qz (parts[i_1]!) : Int) == 0), .bool ((Qz (parts[i_1]!) : Int) == 0)] ?_
    cases h30 : ((Qz (parts[i_1]!) : Int) == 0)
    ·skip
     replace h30 := ne_of_beq_false h30
     refine qB 37 rfl rfl ?_
     refine sp (.slice (aa b5 0) parts.length parts.length) ?_
     refine qB 37 rfl rfl ?_
     refine sp (.int .i64 i_1) ?_
     refine qB 37 rfl rfl ?_
     refine oI rfl rfl ?_
     refine qB 37 rfl rfl ?_
     refine oL rfl (H.rowInt 0 rfl (iv := i_1) (i := i_1) (by omega) (by omega)) ?_
     refine qB 37 rfl rfl ?_
     refine sw (oc (XD w28 ((List.replicate parts.length (0 : Int))[i_1]!) 0 1000) ?_)
     rintro _ w31 rfl x32
     replace H := H.ext x32
     refine qB 37 rfl rfl ?_
     refine sps [.bool (!(inR ((List.replicate parts.length (0 : Int))[i_1]!) 0 1000)), .bool (!(inR ((List.replicate parts.length (0 : Int))[i_1]!) 0 1000))] ?_
     refine qj (t_n ?_)
     refine qC (!(inR ((List.replicate parts.length (0 : Int))[i_1]!) 0 1000)) rfl (fun h33 => ?_) (fun h33 => ?_)
     ·skip
      replace h33 := qP h33
      replace h33 := QP h33
      refine qi (ql ?_)
      refine sp (.int .i64 2) ?_
      refine qj (t_n (qV (b_r (t_r (t_r (b_r (t_r ?_)))))))
      refine ret1 (.int .i64 2) rfl rfl ⟨_, rfl, ?_⟩
      refine sp (.int .i64 2) ?_
      refine qj (t_n (qV ?_))
      refine ret1 (.int .i64 2) rfl rfl ⟨_, rfl, ?_, H.base⟩
      exfalso; first | omega | exact ‹¬ QN _› pb
     replace h33 := qJ h33
     replace h33 := yV.1 h33
     refine qM (b_n (t_n (ql ?_)))
     refine sw (zk i_1 1 rfl rfl (by omega) ?_)
     refine sp (.int .i64 (i_1 + 1)) ?_
     refine qj ?_
     refine xk (m' := (parts.length - ((i_1 + 1) : Int)).toNat) (by omega) ⟨_, i_1 + 1, (by exact qg (qg (qg (qg (qg (rfl) rfl) rfl) rfl) rfl) rfl), ?_, rfl, N, H.pick [0] [2, 3]⟩
     · omega
    replace h30 := eq_of_beq h30
    refine xF [38, 39, 40, 41, 42, 43] ?_
    refine sp (.bool true) ?_
    refine qj (t_n ?_)
    refine qC true rfl (fun _ => ?_) (fun h => absurd h (by decide))
    refine qi (ql ?_)
    refine sp (.int .i64 2) ?_
    refine qj (t_n (qV (b_r (t_r (t_r (b_r (t_r ?_)))))))
    refine ret1 (.int .i64 2) rfl rfl ⟨_, rfl, ?_⟩
    refine sp (.int .i64 2) ?_
    refine qj (t_n (qV ?_))
    refine ret1 (.int .i64 2) rfl rfl ⟨_, rfl, ?_, H.base⟩
    exfalso; first | omega | exact ‹¬ QN _› pb
   replace h27 := bne_iff_ne.1 h27
   refine xF [33, 34, 35] ?_
   refine sps [.bool true, .bool true] ?_
   refine xF [38, 39, 40, 41, 42, 43] ?_
   refine sp (.bool true) ?_
   refine qj (t_n ?_)
   refine qC true rfl (fun _ => ?_) (fun h => absurd h (by decide))
   refine qi (ql ?_)
   refine sp (.int .i64 2) ?_
   refine qj (t_n (qV (b_r (t_r (t_r (b_r (t_r ?_)))))))
   refine ret1 (.int .i64 2) rfl rfl ⟨_, rfl, ?_⟩
   refine sp (.int .i64 2) ?_
   refine qj (t_n (qV ?_))
   refine ret1 (.int .i64 2) rfl rfl ⟨_, rfl, ?_, H.base⟩
   exfalso; first | omega | exact ‹¬ QN _› pb
  replace h22 := of_decide_eq_false h22
  refine xQ (t_x (t_x (b_x (t_n (qi (ql ?_))))))
  refine sp (.int .i64 0) ?_
  refine qj (t_n (qV ?_))
  refine ret1 (.int .i64 0) rfl rfl ⟨_, rfl, ?_⟩
  refine sp (.int .i64 0) ?_
  refine qj (t_n (qV ?_))
  refine ret1 (.int .i64 0) rfl rfl ⟨_, rfl, ?_, H.base⟩
  rfl
 replace h18 := of_decide_eq_true h18
 refine xF [15, 16, 17, 18, 19] ?_
 refine sp (.bool true) ?_
 refine qj (t_n ?_)
 refine qC true rfl (fun _ => ?_) (fun h => absurd h (by decide))
 refine qi (ql ?_)
 refine sp (.int .i64 2) ?_
 refine qj (t_n (qV (t_r ?_)))
 refine ret1 (.int .i64 2) rfl rfl ⟨_, rfl, ?_⟩
 refine sp (.int .i64 2) ?_
 refine qj (t_n (qV ?_))
 refine ret1 (.int .i64 2) rfl rfl ⟨_, rfl, ?_, H.base⟩
 exfalso; first | omega | exact ‹¬ QN _› pb

def packFrom_ok_S (f : Nat) : Prop := ∀ {W0 w : World} {ps : List Prv} {Γ : List Fact} {Ns : List (List Nat)} (i : Nat) (rest : List Int) (parts : List (List Int)) (out : List (List Int)) (cs : List Int) (arest : Option Addr) (crest : Nat) (Frest : List Nat) (aparts : Option Addr) (cparts : Nat) (Fparts : List Nat) (bp : Nat) (bi : Nat) (bq : Nat) (bo : Nat) (bl : Nat) (bc : Nat) (bf : Nat) (raout : Option Addr) (rnout : Nat) (rcout : Nat) (rxout : List Value) (rFout : List Nat) (racs : Option Addr) (rncs : Nat) (rccs : Nat) (H : St W0 w ((.box bp [.slice aparts parts.length cparts] 27) :: (.box bi [.func (.func 177) #[] #[pp bq 0]] 170) :: (.box bq [.slice aparts parts.length cparts] 27) :: (.box bo [pp bl 0] 219) :: (.box bl [.slice raout rnout rcout] 221) :: (.box bc [.slice racs rncs rccs] 22) :: (.box bf [.func (.func 201) #[] #[pp bp 0, pp bi 0, pp bo 0, pp bc 0, pp bf 0]] 222) :: (.row (.slice raout rnout rcout) 22 1 rnout rxout) :: (.row (.slice racs rncs rccs) 2 1 rncs (cs.map (Value.int .i64))) :: ps) ((isF false Frest (.slice arest rest.length crest) rest) :: (isF false Fparts (.slice aparts parts.length cparts) parts) :: (zn true rFout rxout out) :: Γ)) (N : Fresh W0.heap.size (rFout :: Ns)) (K0 : Kept Ns Γ) (p0 : i + f = parts.length) (p1 : Xk parts rest) (p2 : out.length ≤ 2000) (p3 : cs.length = parts.length), Calls Tryz.prog 201 #[.int .i64 i, .slice arest rest.length crest, pp bp 0, pp bi 0, pp bo 0, pp bc 0, pp bf 0] w (fun e w' => ∃ v, e = .returned v ∧ ∃ (cs_ : List Int) (raout_ : Option Addr) (rnout_ : Nat) (rcout_ : Nat) (rxout_ : List Value) (rFout_ : List Nat), (cs_.length = cs.length) ∧ (cs_.take i = cs.take i) ∧ v = .bool (dec ((gath out (begins (cs.take i) (packs parts (parts.length - i) i rest))).length ≤ 2000)) ∧ Fresh W0.heap.size (rFout_ :: Ns) ∧ St W0 w' ((.box bp [.slice aparts parts.length cparts] 27) :: (.box bi [.func (.func 177) #[] #[pp bq 0]] 170) :: (.box bq [.slice aparts parts.length cparts] 27) :: (.box bo [pp bl 0] 219) :: (.box bl [.slice raout_ rnout_ rcout_] 221) :: (.box bc [.slice racs rncs rccs] 22) :: (.box bf [.func (.func 201) #[] #[pp bp 0, pp bi 0, pp bo 0, pp bc 0, pp bf 0]] 222) :: (.row (.slice raout_ rnout_ rcout_) 22 1 rnout_ rxout_) :: (.row (.slice racs rncs rccs) 2 1 rncs (cs_.map (Value.int .i64))) :: ps) ((isF false Frest (.slice arest rest.length crest) rest) :: (isF false Fparts (.slice aparts parts.length cparts) parts) :: (zn true rFout_ rxout_ (gath out (begins (cs.take i) (packs parts (parts.length - i) i rest)))) :: Γ))
theorem packFrom_ok_step (f : Nat) (IH : ∀ k, k < f → packFrom_ok_S k) {W0 w : World} {ps : List Prv} {Γ : List Fact} {Ns : List (List Nat)} (i : Nat) (rest : List Int) (parts : List (List Int)) (out : List (List Int)) (cs : List Int) (arest : Option Addr) (crest : Nat) (Frest : List Nat) (aparts : Option Addr) (cparts : Nat) (Fparts : List Nat) (bp : Nat) (bi : Nat) (bq : Nat) (bo : Nat) (bl : Nat) (bc : Nat) (bf : Nat) (raout : Option Addr) (rnout : Nat) (rcout : Nat) (rxout : List Value) (rFout : List Nat) (racs : Option Addr) (rncs : Nat) (rccs : Nat) (H : St W0 w ((.box bp [.slice aparts parts.length cparts] 27) :: (.box bi [.func (.func 177) #[] #[pp bq 0]] 170) :: (.box bq [.slice aparts parts.length cparts] 27) :: (.box bo [pp bl 0] 219) :: (.box bl [.slice raout rnout rcout] 221) :: (.box bc [.slice racs rncs rccs] 22) :: (.box bf [.func (.func 201) #[] #[pp bp 0, pp bi 0, pp bo 0, pp bc 0, pp bf 0]] 222) :: (.row (.slice raout rnout rcout) 22 1 rnout rxout) :: (.row (.slice racs rncs rccs) 2 1 rncs (cs.map (Value.int .i64))) :: ps) ((isF false Frest (.slice arest rest.length crest) rest) :: (isF false Fparts (.slice aparts parts.length cparts) parts) :: (zn true rFout rxout out) :: Γ)) (N : Fresh W0.heap.size (rFout :: Ns)) (K0 : Kept Ns Γ) (p0 : i + f = parts.length) (p1 : Xk parts rest) (p2 : out.length ≤ 2000) (p3 : cs.length = parts.length) : Calls Tryz.prog 201 #[.int .i64 i, .slice arest rest.length crest, pp bp 0, pp bi 0, pp bo 0, pp bc 0, pp bf 0] w (fun e w' => ∃ v, e = .returned v ∧ ∃ (cs_ : List Int) (raout_ : Option Addr) (rnout_ : Nat) (rcout_ : Nat) (rxout_ : List Value) (rFout_ : List Nat), (cs_.length = cs.length) ∧ (cs_.take i = cs.take i) ∧ v = .bool (dec ((gath out (begins (cs.take i) (packs parts (parts.length - i) i rest))).length ≤ 2000)) ∧ Fresh W0.heap.size (rFout_ :: Ns) ∧ St W0 w' ((.box bp [.slice aparts parts.length cparts] 27) :: (.box bi [.func (.func 177) #[] #[pp bq 0]] 170) :: (.box bq [.slice aparts parts.length cparts] 27) :: (.box bo [pp bl 0] 219) :: (.box bl [.slice raout_ rnout_ rcout_] 221) :: (.box bc [.slice racs rncs rccs] 22) :: (.box bf [.func (.func 201) #[] #[pp bp 0, pp bi 0, pp bo 0, pp bc 0, pp bf 0]] 222) :: (.row (.slice raout_ rnout_ rcout_) 22 1 rnout_ rxout_) :: (.row (.slice racs rncs rccs) 2 1 rncs (cs_.map (Value.int .i64))) :: ps) ((isF false Frest (.slice arest rest.length crest) rest) :: (isF false Fparts (.slice aparts parts.length cparts) parts) :: (zn true rFout_ rxout_ (gath out (begins (cs.take i) (packs parts (parts.length - i) i rest)))) :: Γ)) := by
 refine en Tryz.func201 Tryz.ntmps201 ?_
 have nrest := qA (H.get 0 rfl).1
 have nparts := qA (H.get 1 rfl).1
 obtain rfl := H.zK (α := List Int) 7 rfl 2 rfl (by decide)
 obtain rfl := H.rowNI 8 rfl
 have p4 := p1.small
 refine qi (ql ?_)
 refine sp (.bool false) ?_
 refine qj (t_n (qi (qi (ql ?_))))
 refine sp (.int .i64 i) ?_
 refine oL rfl (H.cell 0 rfl rfl) ?_
 refine oN rfl ?_
 refine sp (.bool ((i : Int) == parts.length)) ?_
 refine qj (t_n ?_)
 refine qC ((i : Int) == parts.length) rfl (fun h1 => ?_) (fun h1 => ?_)
 ·skip
  replace h1 := eq_of_beq h1
  refine qi (ql ?_)
  refine oL rfl (H.cell 1 rfl rfl) ?_
  refine sp (.slice arest rest.length crest) ?_
  refine sw (jf #[.slice arest rest.length crest, pp bq 0] rfl rfl Tryz.call177 ?_)
  refine en Tryz.func177 Tryz.ntmps177 ?_
  refine qi (ql ?_)
  refine sp (.bool false) ?_
  refine qj (t_n (qi (ql ?_)))
  refine sp (.slice arest rest.length crest) ?_
  refine oL rfl (H.cell 2 rfl rfl) ?_
  refine sw (oc (isFull_ok _ rest parts _ _ _ _ _ _ (H.get 0 rfl).1 (H.get 1 rfl).1 (by first | assumption | omega)) ?_)
  rintro _ w3 rfl x4
  replace H := H.ext x4
  refine sp (.bool (dec (FullOk parts rest))) ?_
  refine qj (t_n (qV ?_))
  refine ret1 (.bool (dec (FullOk parts rest))) rfl rfl ⟨_, rfl, ?_⟩
  refine sps [.bool (!(dec (FullOk parts rest))), .bool (!(dec (FullOk parts rest)))] ?_
  cases h5 : (!(dec (FullOk parts rest)))
  ·skip
   replace h5 := qJ h5
   replace h5 := vC h5
   refine qB 19 rfl rfl ?_
   refine oL rfl (H.cell 3 rfl rfl) ?_
   refine qB 19 rfl rfl ?_
   refine oL rfl (H.cell 5 rfl rfl) ?_
   refine qB 19 rfl rfl ?_
   refine sw (jf #[pp bl 0, .slice racs cs.length rccs] rfl rfl Tryz.call202 ?_)
   refine en Tryz.func202 Tryz.ntmps202 ?_
   refine qi (ql ?_)
   refine sp (.bool false) ?_
   refine qj (t_n (qi (qi (ql ?_))))
   refine sps [pp bl 0, pp bl 0] ?_
   refine oF rfl ?_
   refine oL rfl (H.cell 4 rfl rfl) ?_
   refine oN rfl ?_
   refine sp (.bool (decide ((out.length : Int) > 2000))) ?_
   refine qj (t_n ?_)
   refine qC (decide ((out.length : Int) > 2000)) rfl (fun h6 => ?_) (fun h6 => ?_)
   ·skip
    replace h6 := of_decide_eq_true h6
    refine qi (ql ?_)
    refine sp (.bool false) ?_
    refine qj (t_n (qV (t_r ?_)))
    refine ret1 (.bool false) rfl rfl ⟨_, rfl, ?_⟩
    refine sps [.bool false, .bool false] ?_
    refine qj (t_n (qV (t_r ?_)))
    refine ret1 (.bool false) rfl rfl ⟨_, rfl, ?_⟩
    exfalso; omega
   replace h6 := of_decide_eq_false h6
   refine qM (t_n (qi ?_))
   refine c_cut (fun ρ w7 => ∃ (junk : Env) (a8 : Option Addr) (c9 : Nat) (a10 : Option Addr) (c11 : Nat) (G12 : List Nat), ρ = upd junk 0 (pp bl 0) ∧ Fresh W0.heap.size ((rFout ++ G12) :: Ns) ∧ St W0 w7 ((.box bp [.slice aparts parts.length cparts] 27) :: (.box bi [.func (.func 177) #[] #[pp bq 0]] 170) :: (.box bq [.slice aparts parts.length cparts] 27) :: (.box bo [pp bl 0] 219) :: (.box bl [.slice a8 (out.length + 1) c9] 221) :: (.box bc [.slice racs cs.length rccs] 22) :: (.box bf [.func (.func 201) #[] #[pp bp 0, pp bi 0, pp bo 0, pp bc 0, pp bf 0]] 222) :: (.row (.slice a8 (out.length + 1) c9) 22 1 (out.length + 1) (rxout ++ [.slice a10 cs.length c11])) :: (.row (.slice racs cs.length rccs) 2 1 cs.length (cs.map (Value.int .i64))) :: ps) ((zn true (rFout ++ G12) (rxout ++ [.slice a10 cs.length c11]) (out ++ [cs])) :: (isF true G12 (.slice a10 cs.length c11) cs) :: (isF false Frest (.slice arest rest.length crest) rest) :: (isF false Fparts (.slice aparts parts.length cparts) parts) :: Γ)) ?_ ?_
   ·skip
    refine c_drawK2 rfl H [0, 1, 2, 3, 5, 6, 8] [0, 1, 2] fun H => ?_
    have S := H.pickC [0, 1, 2, 3, 5, 6, 8] [0, 1, 2]
    refine rtp 0 (pp bl 0) S ?_
    refine rtp 1 (pp bl 0) S ?_
    refine rtp 2 (pp bl 0) S ?_
    refine tF 3 rfl rfl S ?_
    refine rtp 5 (.slice racs cs.length rccs) S ?_
    refine qR [4, 6] (by kernel_rfl) (by simp) (xA rfl ?_ (xA rfl ?_ qU))
    ·skip
     refine jU (.slice raout out.length rcout) Tryz.isAgg27 rfl (H.cell 4 rfl rfl) ?_
     refine ⟨H.pick [0, 1, 2, 3, 5, 6, 8] [0, 1, 2], ?_⟩
     refine qR [6] (by kernel_rfl) (by simp) (xA rfl ?_ qU)
     obtain ⟨G14, hn15, h16⟩ := H.rowIsI 8 rfl
     have sz17 := H.base.size
     have lt18 := all_two (H.ltN (L := [rFout]) [2]) (H.ltK (K0.behind 3 rfl))
     refine oc (cloneI_ok _ cs _ _ _ h16 (by first | assumption | omega)) ?_
     rintro v22 w20 r22 x21
     replace H := H.yM x21 r22
     obtain ⟨a23, c24, rfl, hc25, hm26⟩ := H.rowForm 0 rfl
     refine ⟨H.pick [1, 2, 3, 4, 6, 7, 9] [0, 1, 2], ?_⟩
     refine qR [7] (by kernel_rfl) (by simp) (xA rfl ?_ qU)
     refine vJ H Tryz.underlying27 ti22 [.slice a23 cs.length c24] fun b27 w28 H => ?_
     refine ⟨H.pick [2, 3, 4, 5, 7, 8, 10] [0, 1, 2], ?_⟩
     refine qR [8] (by kernel_rfl) (by simp) (xA rfl ?_ qU)
     obtain ⟨G32, N, hn33, H⟩ := H.Xx 1 rfl N (fun F hF b hb => (List.mem_append.1 (show F ∈ [rFout] ++ Ns from hF)).elim (fun h => (H.awayN (L := [rFout]) [2]) F h b hb) fun h => H.awayK (K0.behind 3 rfl) F h b hb)
     try dsimp only [List.set] at H
     refine jh H 9 rfl 0 rfl Tryz.underlying27 ti22 rfl (by decide) rfl rfl rfl (by simp [Value.oneCell', Value.cells]) (by unfold maxLen; omega) (by omega) fun a29 c30 w31 H => ?_
     try dsimp only [List.set] at H
     replace H := H.QF 3 rfl 0 rfl
     replace N : Fresh W0.heap.size ((rFout ++ G32) :: Ns) := (N.XH 2 [1, 0] (by simp only [List.length_cons]; omega)).join
     refine ⟨H.pick [2, 3, 4, 5, 7, 8, 10] [2, 3, 4], ?_⟩
     have S := H.pickC [2, 3, 4, 5, 7, 8, 10] [2, 3, 4]
     refine rtp 9 (pp bl 0) S ?_
     refine tF 10 rfl rfl S ?_
     refine qR [11] (by kernel_rfl) (by simp) (xA rfl ?_ qU)
     refine qG H 6 [.slice a29 (out.length + 1) c30] Tryz.sizeOf27 fun w34 H => ?_
     try dsimp only [List.set] at H
     refine ⟨H.pick [2, 3, 4, 5, 7, 8, 10] [2, 3, 4], ?_⟩
     refine xq (by kernel_rfl) (?_)
     exact meet ⟨_, a29, c30, a23, c24, G32, (by exact qg (rfl) rfl), N, H.XH 11 5 [2, 3, 4, 5, 6, 7, 8, 9, 10] [0, 1, 2, 3] (by simp only [List.length_cons]; omega) (by simp only [List.length_cons]; omega)⟩
    obtain ⟨G35, hn36, h37⟩ := H.rowIsI 8 rfl
    have sz38 := H.base.size
    have lt39 := all_two (H.ltN (L := [rFout]) [2]) (H.ltK (K0.behind 3 rfl))
    refine oc (cloneI_ok _ cs _ _ _ h37 (by first | assumption | omega)) ?_
    rintro v43 w41 r43 x42
    replace H := H.yM x42 r43
    obtain ⟨a44, c45, rfl, hc46, hm47⟩ := H.rowForm 0 rfl
    refine ⟨H.pick [1, 2, 3, 4, 6, 7, 9] [0, 1, 2], ?_⟩
    refine qR [4, 7] (by kernel_rfl) (by simp) (xA rfl ?_ (xA rfl ?_ qU))
    ·skip
     refine jU (.slice raout out.length rcout) Tryz.isAgg27 rfl (H.cell 5 rfl rfl) ?_
     refine ⟨H.pick [1, 2, 3, 4, 6, 7, 9] [0, 1, 2], ?_⟩
     refine qR [7] (by kernel_rfl) (by simp) (xA rfl ?_ qU)
     refine vJ H Tryz.underlying27 ti22 [.slice a44 cs.length c45] fun b48 w49 H => ?_
     refine ⟨H.pick [2, 3, 4, 5, 7, 8, 10] [0, 1, 2], ?_⟩
     refine qR [8] (by kernel_rfl) (by simp) (xA rfl ?_ qU)
     obtain ⟨G53, N, hn54, H⟩ := H.Xx 1 rfl N (fun F hF b hb => (List.mem_append.1 (show F ∈ [rFout] ++ Ns from hF)).elim (fun h => (H.awayN (L := [rFout]) [2]) F h b hb) fun h => H.awayK (K0.behind 3 rfl) F h b hb)
     try dsimp only [List.set] at H
     refine jh H 9 rfl 0 rfl Tryz.underlying27 ti22 rfl (by decide) rfl rfl rfl (by simp [Value.oneCell', Value.cells]) (by unfold maxLen; omega) (by omega) fun a50 c51 w52 H => ?_
     try dsimp only [List.set] at H
     replace H := H.QF 3 rfl 0 rfl
     replace N : Fresh W0.heap.size ((rFout ++ G53) :: Ns) := (N.XH 2 [1, 0] (by simp only [List.length_cons]; omega)).join
     refine ⟨H.pick [2, 3, 4, 5, 7, 8, 10] [2, 3, 4], ?_⟩
     have S := H.pickC [2, 3, 4, 5, 7, 8, 10] [2, 3, 4]
     refine rtp 9 (pp bl 0) S ?_
     refine tF 10 rfl rfl S ?_
     refine qR [11] (by kernel_rfl) (by simp) (xA rfl ?_ qU)
     refine qG H 6 [.slice a50 (out.length + 1) c51] Tryz.sizeOf27 fun w55 H => ?_
     try dsimp only [List.set] at H
     refine ⟨H.pick [2, 3, 4, 5, 7, 8, 10] [2, 3, 4], ?_⟩
     refine xq (by kernel_rfl) (?_)
     exact meet ⟨_, a50, c51, a44, c45, G53, (by exact qg (rfl) rfl), N, H.XH 11 5 [2, 3, 4, 5, 6, 7, 8, 9, 10] [0, 1, 2, 3] (by simp only [List.length_cons]; omega) (by simp only [List.length_cons]; omega)⟩
    refine vJ H Tryz.underlying27 ti22 [.slice a44 cs.length c45] fun b56 w57 H => ?_
    refine ⟨H.pick [2, 3, 4, 5, 7, 8, 10] [0, 1, 2], ?_⟩
    refine qR [4] (by kernel_rfl) (by simp) (xA rfl ?_ qU)
    refine jU (.slice raout out.length rcout) Tryz.isAgg27 rfl (H.cell 6 rfl rfl) ?_
    refine ⟨H.pick [2, 3, 4, 5, 7, 8, 10] [0, 1, 2], ?_⟩
    refine qR [8] (by kernel_rfl) (by simp) (xA rfl ?_ qU)
    obtain ⟨G61, N, hn62, H⟩ := H.Xx 1 rfl N (fun F hF b hb => (List.mem_append.1 (show F ∈ [rFout] ++ Ns from hF)).elim (fun h => (H.awayN (L := [rFout]) [2]) F h b hb) fun h => H.awayK (K0.behind 3 rfl) F h b hb)
    try dsimp only [List.set] at H
    refine jh H 9 rfl 0 rfl Tryz.underlying27 ti22 rfl (by decide) rfl rfl rfl (by simp [Value.oneCell', Value.cells]) (by unfold maxLen; omega) (by omega) fun a58 c59 w60 H => ?_
    try dsimp only [List.set] at H
    replace H := H.QF 3 rfl 0 rfl
    replace N : Fresh W0.heap.size ((rFout ++ G61) :: Ns) := (N.XH 2 [1, 0] (by simp only [List.length_cons]; omega)).join
    refine ⟨H.pick [2, 3, 4, 5, 7, 8, 10] [2, 3, 4], ?_⟩
    have S := H.pickC [2, 3, 4, 5, 7, 8, 10] [2, 3, 4]
    refine rtp 9 (pp bl 0) S ?_
    refine tF 10 rfl rfl S ?_
    refine qR [11] (by kernel_rfl) (by simp) (xA rfl ?_ qU)
    refine qG H 6 [.slice a58 (out.length + 1) c59] Tryz.sizeOf27 fun w63 H => ?_
    try dsimp only [List.set] at H
    refine ⟨H.pick [2, 3, 4, 5, 7, 8, 10] [2, 3, 4], ?_⟩
    refine xq (by kernel_rfl) (?_)
    exact meet ⟨_, a58, c59, a44, c45, G61, (by exact qg (rfl) rfl), N, H.XH 11 5 [2, 3, 4, 5, 6, 7, 8, 9, 10] [0, 1, 2, 3] (by simp only [List.length_cons]; omega) (by simp only [List.length_cons]; omega)⟩
   clear H N
   rintro ρ w64 ⟨junk, a8, c9, a10, c11, G12, rfl, N, H⟩
   refine t_n (qi (ql ?_))
   refine sps [pp bl 0, pp bl 0] ?_
   refine oF rfl ?_
   refine oL rfl (H.cell 4 rfl rfl) ?_
   refine oN rfl ?_
   refine sps [.bool (decide ((out.length + 1 : Int) ≤ 2000)), .bool (decide ((out.length + 1 : Int) ≤ 2000))] ?_
   refine qj (t_n (qV ?_))
   refine ret1 (.bool (decide ((out.length + 1 : Int) ≤ 2000))) rfl rfl ⟨_, rfl, ?_⟩
   refine sps [.bool (decide ((out.length + 1 : Int) ≤ 2000)), .bool (decide ((out.length + 1 : Int) ≤ 2000))] ?_
   refine qj (t_n (qV (t_r ?_)))
   refine ret1 (.bool (decide ((out.length + 1 : Int) ≤ 2000))) rfl rfl ⟨_, rfl, ?_⟩
   rw [pack_fullI (by omega) p3 ‹FullOk _ _› p2, show decide ((out.length + 1 : Int) ≤ 2000) = dec ((out ++ [cs]).length ≤ 2000) from dec_eq (by simp; omega)]
   exact ⟨cs, a8, out.length + 1, c9, rxout ++ [Value.slice a10 cs.length c11], (rFout ++ G12), (by first | rfl | omega | (have := ‹_ = (List.set _ _ _).length›; rw [List.length_set] at this; omega)), (by first | rfl | assumption | exact pack_keep ‹_› j2), rfl, N, H.XH 9 4 [0, 1, 2, 3, 4, 5, 6, 7, 8] [2, 3, 0] (by simp only [List.length_cons]; omega) (by simp only [List.length_cons]; omega)⟩
  replace h5 := qP h5
  replace h5 := xI h5
  refine xF [20, 21, 22] ?_
  refine sps [.bool true, .bool true] ?_
  refine qj (t_n (qV (t_r ?_)))
  refine ret1 (.bool true) rfl rfl ⟨_, rfl, ?_⟩
  rw [pack_noneI (by omega) ‹_› p2, jE p2]
  exact ⟨cs, raout, out.length, rcout, rxout, rFout, (by first | rfl | omega | (have := ‹_ = (List.set _ _ _).length›; rw [List.length_set] at this; omega)), (by first | rfl | assumption | exact pack_keep ‹_› j2), rfl, N, H.XH 9 3 [0, 1, 2, 3, 4, 5, 6, 7, 8] [0, 1, 2] (by simp only [List.length_cons]; omega) (by simp only [List.length_cons]; omega)⟩
 replace h1 := ne_of_beq_false h1
 refine qM (t_n (qi (qi (ql ?_))))
 refine sp (.int .i64 0) ?_
 refine qj (t_n (qW ?_))
 obtain ⟨t1, t2, t3, t4, t5, t6⟩ := p1.times (k := i) (by omega)
 refine zf (fun m' ρ w65 => ∃ (junk : Env) (n : Nat) (XA : Option Addr) (Qu : Nat) (Xz : Nat) (out_lists : List (List Int)) (Xt : List Value) (yN : List Nat) (cs_1 : List Int), ρ = upd (upd (upd (upd (upd (upd junk 0 (.int .i64 i)) 1 (.slice arest rest.length crest)) 2 (pp bp 0)) 5 (pp bc 0)) 6 (pp bf 0)) 10 (.int .i64 n) ∧ out_lists = (gath out (begins (cs.take i) (zL parts (f - 1) i rest n))) ∧ ((n : Int) ≤ zI (parts[i]!) rest + 1) ∧ (cs_1.length = parts.length) ∧ (cs_1.take i = cs.take i) ∧ ((gath out (begins (cs.take i) (zL parts (f - 1) i rest n))).length ≤ 2000) ∧ m' = (zI (parts[i]!) rest + 1 - (n : Int)).toNat ∧ Fresh W0.heap.size (yN :: Ns) ∧ St W0 w65 ((.box bp [.slice aparts parts.length cparts] 27) :: (.box bi [.func (.func 177) #[] #[pp bq 0]] 170) :: (.box bq [.slice aparts parts.length cparts] 27) :: (.box bo [pp bl 0] 219) :: (.box bl [.slice XA Qu Xz] 221) :: (.box bc [.slice racs cs.length rccs] 22) :: (.box bf [.func (.func 201) #[] #[pp bp 0, pp bi 0, pp bo 0, pp bc 0, pp bf 0]] 222) :: (.row (.slice XA Qu Xz) 22 1 Qu Xt) :: (.row (.slice racs cs.length rccs) 2 1 cs.length (cs_1.map (Value.int .i64))) :: ps) ((isF false Frest (.slice arest rest.length crest) rest) :: (isF false Fparts (.slice aparts parts.length cparts) parts) :: (zn true yN Xt out_lists) :: Γ)) ((zI (parts[i]!) rest + 1 - (0 : Int)).toNat) ⟨_, 0, raout, out.length, rcout, out, rxout, rFout, cs, (by exact qg (qg (qg (qg (qg (qg (rfl) rfl) rfl) rfl) rfl) rfl) rfl), (by exact pack_startI p2), (by omega), (by assumption), (by rfl), (by rw [← pack_startI p2]; exact p2), rfl, N, H⟩ ?_
 clear H N
 rintro m' ρ w66 ⟨junk, n, XA, Qu, Xz, out_lists, Xt, yN, cs_1, rfl, rfl, i0, j1, j2, j3, rfl, N, H⟩
 have hn_out_lists := H.zK (α := List Int) 7 rfl 2 rfl (by decide)
 have hn_cs := H.rowNI 8 rfl
 refine qi (qi (ql ?_))
 refine sp (.int .i64 n) ?_
 refine oL rfl (H.cell 0 rfl rfl) ?_
 refine sp (.int .i64 i) ?_
 obtain ⟨b67, o68, rfl⟩ := H.addr 1 rfl (by omega)
 obtain ⟨ae70, ce70, Fe70, H⟩ := H.jo 1 rfl i i (by omega) (by omega) (by omega)
 refine oI rfl rfl ?_
 refine oL rfl (H.xJ 1 rfl 0 rfl) ?_
 refine sp (.slice arest rest.length crest) ?_
 obtain ⟨t1, t2, t3, t4, t5, t6⟩ := p1.times (k := i) (by omega)
 refine sw (oc (timesIn_ok _ (parts[i]!) rest _ _ _ _ _ _ (H.get 0 rfl).1 (H.get 2 rfl).1 (by first | assumption | omega) (by first | assumption | omega)) ?_)
 rintro _ w72 rfl x73
 replace H := H.ext x73
 refine sp (.bool (decide ((n : Int) ≤ (zI (parts[i]!) rest)))) ?_
 refine qj (t_n ?_)
 refine qC (decide ((n : Int) ≤ (zI (parts[i]!) rest))) rfl (fun h74 => ?_) (fun h74 => ?_)
 ·skip
  replace h74 := of_decide_eq_true h74
  refine qM (t_n (qi (qW (qi (ql ?_)))))
  refine oL rfl (H.cell 5 rfl rfl) ?_
  refine sps [.int .i64 i, .int .i64 n] ?_
  obtain ⟨b75, rfl⟩ := H.rowAddr 8 rfl (by omega)
  refine oI rfl rfl ?_
  refine sw (o_storeInt H 8 rfl n Tryz.sizeOf2 rfl rfl (i := i) (by omega) (by omega) fun w76 H => ?_)
  try dsimp only [List.set] at H
  refine qj (t_n (qi ?_))
  refine c_drawK2 rfl H [0, 1, 2, 3, 5, 6] [0, 1, 2, 3] fun H => ?_
  have S := H.pickC [0, 1, 2, 3, 5, 6] [0, 1, 2, 3]
  refine tL 0 rfl rfl (fun _ h => h.cell 5 rfl rfl) S ?_
  refine rtp 1 (.int .i64 i) S ?_
  refine rt 2 (.int .i64 (i + 1)) (y_add i 1 rfl rfl (by omega)) S ?_
  refine rtp 3 (.slice arest rest.length crest) S ?_
  refine tL 4 rfl rfl (fun _ h => h.cell 0 rfl rfl) S ?_
  refine rtp 5 (.int .i64 i) S ?_
  refine tI 6 rfl rfl rfl S ?_
  refine tL 7 rfl rfl (fun _ h => h.xJ 1 rfl 0 rfl) S ?_
  refine rtp 8 (.int .i64 n) S ?_
  refine rt 9 (.int .i64 (-n)) (y_neg n rfl (by omega)) S ?_
  refine qR [10] (by kernel_rfl) (by simp) (xA rfl ?_ qU)
  obtain ⟨u1, u2, u3, u4⟩ := p1.plus (k := i) (by omega) (n := (n : Int)) (by omega) (by omega)
  have sz78 := H.base.size
  have lt79 := all_two (H.ltN (L := [yN]) [4]) (H.ltK (K0.behind 5 rfl))
  refine oc (plus_ok _ rest (parts[i]!) (-n) _ _ _ _ _ _ (H.get 2 rfl).1 (H.get 0 rfl).1 (by first | assumption | omega) (by first | assumption | omega) (by first | assumption | omega)) ?_
  rintro v83 w81 r83 x82
  replace H := H.yM x82 r83
  obtain ⟨a84, c85, rfl, hc86, hm87⟩ := H.rowForm 0 rfl
  refine ⟨H.pick [1, 2, 3, 4, 6, 7] [0, 1, 2, 3], ?_⟩
  refine qR [11] (by kernel_rfl) (by simp) (xA rfl ?_ qU)
  obtain ⟨G88, N, hn89, H⟩ := H.Xx 0 rfl N (fun F hF b hb => (List.mem_append.1 (show F ∈ [yN] ++ Ns from hF)).elim (fun h => (H.awayN (L := [yN]) [4]) F h b hb) fun h => H.awayK (K0.behind 5 rfl) F h b hb)
  try dsimp only [List.set] at H
  replace H := H.unfreeI 0 rfl
  have H1 : St W0 w81 ((.box bp [.slice (aa b67 o68) parts.length cparts] 27) :: (.box bi [.func (.func 177) #[] #[pp bq 0]] 170) :: (.box bq [.slice (aa b67 o68) parts.length cparts] 27) :: (.box bo [pp bl 0] 219) :: (.box bl [.slice XA Qu Xz] 221) :: (.box bc [.slice (aa b75 0) cs.length rccs] 22) :: (.box bf [.func (.func 201) #[] #[pp bp 0, pp bi 0, pp bo 0, pp bc 0, pp bf 0]] 222) :: (.row (.slice XA Qu Xz) 22 1 Qu Xt) :: (.row (.slice (aa b75 0) cs.length rccs) 2 1 cs.length ((cs_1.set i n).map (Value.int .i64))) :: (.row (.slice none 0 0) 0 1 0 []) :: ps) ((isF false G88 (.slice a84 ((jH rest (parts[i]!) (-n)).length) c85) (jH rest (parts[i]!) (-n))) :: (isF false Fparts (.slice (aa b67 o68) parts.length cparts) parts) :: (zn true yN Xt (gath out (begins (cs.take i) (zL parts (f - 1) i rest n)))) :: (isF false G88 (.slice a84 ((jH rest (parts[i]!) (-n)).length) c85) (jH rest (parts[i]!) (-n))) :: (isF true G88 (.slice a84 ((jH rest (parts[i]!) (-n)).length) c85) (jH rest (parts[i]!) (-n))) :: (isF false Fe70 (.slice ae70 ((parts[i]!).length) ce70) (parts[i]!)) :: (atF b67 (o68 + (i : Int).toNat * 1) [.slice ae70 ((parts[i]!).length) ce70]) :: (isF false Frest (.slice arest rest.length crest) rest) :: (isF false Fparts (.slice (aa b67 o68) parts.length cparts) parts) :: Γ) := H.XH 10 7 [1, 2, 3, 4, 5, 6, 7, 8, 9, 0] [0, 5, 6, 0, 1, 2, 3, 4, 5] (by simp only [List.length_cons]; omega) (by simp only [List.length_cons]; omega)
  have N1 : Fresh _ (yN :: G88 :: Ns) := (N.XH 2 [1, 0] (by simp only [List.length_cons]; omega))
  have K1 : Kept (Ns) ((isF false G88 (.slice a84 ((jH rest (parts[i]!) (-n)).length) c85) (jH rest (parts[i]!) (-n))) :: (isF true G88 (.slice a84 ((jH rest (parts[i]!) (-n)).length) c85) (jH rest (parts[i]!) (-n))) :: (isF false Fe70 (.slice ae70 ((parts[i]!).length) ce70) (parts[i]!)) :: (atF b67 (o68 + (i : Int).toNat * 1) [.slice ae70 ((parts[i]!).length) ce70]) :: (isF false Frest (.slice arest rest.length crest) rest) :: (isF false Fparts (.slice (aa b67 o68) parts.length cparts) parts) :: Γ) := K0.behind 6 rfl
  replace K1 := K1.cons (F := G88) 0 rfl rfl
  refine o_callF #[.int .i64 (i + 1), .slice a84 ((jH rest (parts[i]!) (-n)).length) c85, pp bp 0, pp bi 0, pp bo 0, pp bc 0, pp bf 0] rfl rfl Tryz.call201 (IH (f - 1) (by omega) (i + 1) (jH rest (parts[i]!) (-n)) parts (gath out (begins (cs.take i) (zL parts (f - 1) i rest n))) (cs_1.set i n) a84 c85 G88 (aa b67 o68) cparts Fparts bp bi bq bo bl bc bf XA Qu Xz Xt yN (aa b75 0) cs.length rccs H1 N1 K1 (by omega) (by first | assumption | exact u4) (by first | assumption | exact j3 | (simp; done)) (by first | assumption | (rw [List.length_set]; exact j1) | (simp; done))) ?_
  clear H H1 N1 K1
  rintro _ w90 ⟨cs91, raout91, rnout91, rcout91, rxout91, rFout91, hx92, hx93, rfl, N, H⟩
  obtain rfl := H.zK (α := List Int) 7 rfl 2 rfl (by decide)
  refine ⟨H.pick [0, 1, 2, 3, 5, 6] [5, 6, 7, 8], ?_⟩
  refine rtp 12 (.bool (!(dec ((gath (gath out (begins (cs.take i) (zL parts (f - 1) i rest n))) (begins ((cs_1.set i n).take (i + 1)) (packs parts (parts.length - (i + 1)) (i + 1) (jH rest (parts[i]!) (-n))))).length ≤ 2000)))) (H.pick [0, 1, 2, 3, 5, 6] [5, 6, 7, 8]) ?_
  refine xq (by kernel_rfl) (t_n ?_)
  refine qC (!(dec ((gath (gath out (begins (cs.take i) (zL parts (f - 1) i rest n))) (begins ((cs_1.set i n).take (i + 1)) (packs parts (parts.length - (i + 1)) (i + 1) (jH rest (parts[i]!) (-n))))).length ≤ 2000))) rfl (fun h94 => ?_) (fun h94 => ?_)
  ·skip
   replace h94 := qP h94
   replace h94 := xI h94
   refine qi (ql ?_)
   refine sp (.bool false) ?_
   refine qj (t_n (qV (b_r (t_r (t_r (b_r (t_r ?_)))))))
   refine ret1 (.bool false) rfl rfl ⟨_, rfl, ?_⟩
   have e1 := pack_stepI (out := out) p0 (by omega) j1 j2 j3
   have e2 := ‹¬ (gath (gath _ _) _).length ≤ 2000›
   rw [e1] at e2
   rw [pack_endI (n := n + 1) p0 (by omega) (by omega) (by omega) (.inr e2), ← e1, qY (by rw [e1]; exact e2)]
   exact ⟨cs91, raout91, (gath (gath out (begins (cs.take i) (zL parts (f - 1) i rest n))) (begins ((cs_1.set i n).take (i + 1)) (packs parts (parts.length - (i + 1)) (i + 1) (jH rest (parts[i]!) (-n))))).length, rcout91, rxout91, rFout91, (by first | rfl | omega | (have := ‹_ = (List.set _ _ _).length›; rw [List.length_set] at this; omega)), (by first | rfl | assumption | exact pack_keep ‹_› j2), rfl, (N.XH 2 [0] (by simp only [List.length_cons]; omega)), H.XH 10 9 [0, 1, 2, 3, 4, 5, 6, 7, 8] [7, 1, 2] (by simp only [List.length_cons]; omega) (by simp only [List.length_cons]; omega)⟩
  replace h94 := qJ h94
  replace h94 := vC h94
  refine qM (b_n (t_n (ql ?_)))
  refine sp (.int .i64 n) ?_
  refine sw (zk n 1 rfl rfl (by omega) ?_)
  refine sp (.int .i64 (n + 1)) ?_
  refine qj ?_
  refine xk (m' := (zI (parts[i]!) rest + 1 - ((n + 1) : Int)).toNat) (by omega) ⟨_, n + 1, raout91, (gath (gath out (begins (cs.take i) (zL parts (f - 1) i rest n))) (begins ((cs_1.set i n).take (i + 1)) (packs parts (parts.length - (i + 1)) (i + 1) (jH rest (parts[i]!) (-n))))).length, rcout91, (gath (gath out (begins (cs.take i) (zL parts (f - 1) i rest n))) (begins ((cs_1.set i n).take (i + 1)) (packs parts (parts.length - (i + 1)) (i + 1) (jH rest (parts[i]!) (-n))))), rxout91, rFout91, cs91, (by exact qg (qg (qg (qg (qg (qg (rfl) rfl) rfl) rfl) rfl) rfl) rfl), ?_, ?_, ?_, ?_, ?_, rfl, (N.XH 2 [0] (by simp only [List.length_cons]; omega)), H.XH 10 9 [0, 1, 2, 3, 4, 5, 6, 7, 8] [7, 8, 2] (by simp only [List.length_cons]; omega) (by simp only [List.length_cons]; omega)⟩
  · exact pack_stepI p0 (by omega) j1 j2 j3
  · omega
  · have := ‹_ = (List.set _ _ _).length›; rw [List.length_set] at this; omega
  · exact pack_keep ‹_› j2
  · rw [← pack_stepI p0 (by omega) j1 j2 j3]; assumption
 replace h74 := of_decide_eq_false h74
 refine xQ (t_x (t_x (b_x (t_n (qi (ql ?_))))))
 refine sp (.bool true) ?_
 refine qj (t_n (qV ?_))
 refine ret1 (.bool true) rfl rfl ⟨_, rfl, ?_⟩
 rw [pack_endI (f := f) (n := n) p0 (by omega) i0 (by omega) (.inl (by omega)), jE j3]
 exact ⟨cs_1, XA, Qu, Xz, Xt, yN, (by first | rfl | omega | (have := ‹_ = (List.set _ _ _).length›; rw [List.length_set] at this; omega)), (by first | rfl | assumption | exact pack_keep ‹_› j2), rfl, N, H.XH 9 5 [0, 1, 2, 3, 4, 5, 6, 7, 8] [2, 3, 4] (by simp only [List.length_cons]; omega) (by simp only [List.length_cons]; omega)⟩

theorem packFrom_ok (f : Nat) : packFrom_ok_S f := Nat.strongRecOn (motive := packFrom_ok_S) f fun f IH => by unfold packFrom_ok_S; intros; apply packFrom_ok_step f IH <;> assumption

theorem maxPack_ok (w : World) (b : List Int) (parts : List (List Int)) (ab : Option Addr) (cb : Nat) (Fb : List Nat) (aparts : Option Addr) (cparts : Nat) (Fparts : List Nat) (hb : qE.rep w Fb [.slice ab b.length cb] b) (hparts : qE.rep w Fparts [.slice aparts parts.length cparts] parts) (p0 : Xk parts b) (p1 : 1 ≤ parts.length) : Calls Tryz.prog 142 #[.slice ab b.length cb, .slice aparts parts.length cparts] w (Ret (fun v w' => ∃ (ra0 : Option Addr) (rn0 : Nat) (rc0 : Nat) (rx0 : List Value) (rF0 : List Nat), v = .tuple #[.slice ra0 rn0 rc0, .int .i64 ((xY b parts).2)] ∧ Fresh w.heap.size [rF0] ∧ St w w' [.row (.slice ra0 rn0 rc0) 22 1 rn0 rx0] [zn true rF0 rx0 ((xY b parts).1)]) w) := by
 refine en Tryz.func142 Tryz.ntmps142 ?_
 have H := ((St.start w).arg hparts).arg hb
 have nhb := qA hb
 have nhparts := qA hparts
 clear hb hparts
 have N := Fresh.nil w.heap.size
 have p3 := p0.small
 have p4 := p0.smallB
 refine qi (ql ?_)
 refine sw (zh H [.slice aparts parts.length cparts] fun b1 w2 H => ?_)
 refine sps [.slice none 0 0, .int .i64 0] ?_
 refine qj (t_n (qi (ql ?_)))
 refine sp (.slice ab b.length cb) ?_
 refine oL rfl (H.cell 0 rfl rfl) ?_
 refine sp (.func (.func 177) #[] #[pp b1 0]) ?_
 refine sw (jf #[.slice ab b.length cb, .slice aparts parts.length cparts, .func (.func 177) #[] #[pp b1 0]] rfl rfl Tryz.call176 ?_)
 refine en Tryz.func176 Tryz.ntmps176 ?_
 refine qi (ql ?_)
 refine sw (zh H [.slice aparts parts.length cparts] fun b3 w4 H => ?_)
 refine sw (zh H [.func (.func 177) #[] #[pp b1 0]] fun b5 w6 H => ?_)
 refine sps [.slice none 0 0, .int .i64 0] ?_
 refine qj (t_n (qi (qi (ql ?_))))
 refine sp (.slice ab b.length cb) ?_
 refine oL rfl (H.cell 1 rfl rfl) ?_
 refine sw (oc (bagAndParts_ok _ b parts _ _ _ _ _ _ (H.get 0 rfl).1 (H.get 1 rfl).1 (by first | assumption | omega) (by first | assumption | omega)) ?_)
 rintro _ w8 rfl x9
 replace H := H.ext x9
 refine sp (.int .i64 0) ?_
 refine qj (t_n (qi (ql ?_)))
 refine sps [.int .i64 0, .bool false] ?_
 refine qj (t_n ?_)
 refine qC false rfl (fun h => absurd h (by decide)) (fun _ => ?_)
 refine qM (t_n (qi (qi (ql ?_))))
 refine sp (.slice ab b.length cb) ?_
 refine sw (oc (QV _ b _ _ _ (H.get 0 rfl).1 (by first | assumption | exact zo (by assumption) | exact jw (by assumption))) ?_)
 rintro _ w10 rfl x11
 replace H := H.ext x11
 refine sp (.bool (decide ((Qz b : Int) > 16))) ?_
 refine qj (t_n ?_)
 refine qC (decide ((Qz b : Int) > 16)) rfl (fun h12 => ?_) (fun h12 => ?_)
 ·skip
  replace h12 := of_decide_eq_true h12
  refine qi (ql ?_)
  refine sps [.slice none 0 0, .int .i64 3] ?_
  refine qj (t_n (qV (t_r ?_)))
  refine ret2 (.slice none 0 0) (.int .i64 3) rfl rfl rfl ⟨_, rfl, ?_⟩
  replace H := H.erases [1, 0]
  dsimp only [Qv, List.eraseIdx] at H
  refine sps [.slice none 0 0, .int .i64 3, .slice none 0 0, .int .i64 3] ?_
  refine qj (t_n (qV ?_))
  replace H := H.nilRow 22 1
  replace H := H.jq (α := List Int)
  refine ret2 (.slice none 0 0) (.int .i64 3) rfl rfl rfl ⟨_, rfl, ?_, H.base⟩
  first | rw [all_a (by assumption)] | rw [all_bI (cs := (List.replicate parts.length (0 : Int))) (by assumption) (by omega)]
  exact ⟨none, 0, 0, [], [], rfl, N.emp, H.pick [0] [0]⟩
 replace h12 := of_decide_eq_false h12
 refine qM (t_n (qi ?_))
 refine c_cut (fun ρ w13 => ∃ (junk : Env) (b14 : Nat) (b15 : Nat) (b16 : Nat) (b17 : Nat), ρ = upd (upd (upd (upd (upd junk 0 (.slice ab b.length cb)) 4 (pp b3 0)) 5 (pp b5 0)) 9 (pp b14 0)) 10 (pp b15 0) ∧ Fresh w.heap.size [] ∧ St w w13 [.box b15 [.slice (aa b16 0) parts.length parts.length] 22, .box b14 [pp b17 0] 219, .row (.slice (aa b16 0) parts.length parts.length) 2 1 parts.length ((List.replicate parts.length (0 : Int)).map (Value.int .i64)), .box b17 [.slice none 0 0] 221, .box b5 [.func (.func 177) #[] #[pp b1 0]] 170, .box b3 [.slice aparts parts.length cparts] 27, .box b1 [.slice aparts parts.length cparts] 27] [isF false Fb (.slice ab b.length cb) b, isF false Fparts (.slice aparts parts.length cparts) parts]) ?_ ?_
 ·skip
  refine vZ rfl H fun H => ?_
  refine tL 2 rfl rfl (fun _ h => h.cell 1 rfl rfl) H ?_
  refine tN 3 rfl rfl H ?_
  refine qR [0, 4, 5, 6] (by kernel_rfl) (by simp) (xA rfl ?_ (xA rfl ?_ (xA rfl ?_ (xA rfl ?_ qU))))
  ·skip
   refine Qs [.slice none 0 0] [] ?_
   refine ⟨H, ?_⟩
   refine qR [1, 4, 5, 6] (by kernel_rfl) (by simp) (xA rfl ?_ (xA rfl ?_ (xA rfl ?_ (xA rfl ?_ qU))))
   ·skip
    refine zh H [.slice none 0 0] fun b19 w20 H => ?_
    refine ⟨H.pick [1, 2, 3] [0, 1], ?_⟩
    refine qR [4, 5, 6] (by kernel_rfl) (by simp) (xA rfl ?_ (xA rfl ?_ (xA rfl ?_ qU)))
    ·skip
     refine zt H Tryz.underlying22 ti2 parts.length rfl rfl (by omega) (by omega) (by omega) fun b21 w22 H => ?_
     refine ⟨H.pick [2, 3, 4] [0, 1], ?_⟩
     refine qR [5, 6] (by kernel_rfl) (by simp) (xA rfl ?_ (xA rfl ?_ qU))
     ·skip
      refine xy H ti219 [.pointer none] fun b23 w24 H => ?_
      refine ⟨H.pick [3, 4, 5] [0, 1], ?_⟩
      refine qR [6] (by kernel_rfl) (by simp) (xA rfl ?_ qU)
      refine xy H ti22 [.slice none 0 0] fun b25 w26 H => ?_
      refine ⟨H.pick [4, 5, 6] [0, 1], ?_⟩
      refine qR [7] (by kernel_rfl) (by simp) (xA rfl ?_ qU)
      refine qG H 1 [pp b19 0] Tryz.sizeOf219 fun w27 H => ?_
      try dsimp only [List.set] at H
      refine ⟨H.pick [4, 5, 6] [0, 1], ?_⟩
      refine qR [8] (by kernel_rfl) (by simp) (xA rfl ?_ qU)
      refine qG H 0 [.slice (aa b21 0) parts.length parts.length] Tryz.sizeOf22 fun w28 H => ?_
      try dsimp only [List.set] at H
      refine ⟨H.pick [4, 5, 6] [0, 1], ?_⟩
      refine xq (by kernel_rfl) (?_)
      exact meet ⟨_, b23, b25, b21, b19, (by exact qg (qg (qg (qg (qg (rfl) rfl) rfl) rfl) rfl) rfl), N, H⟩
     refine xy H ti22 [.slice none 0 0] fun b29 w30 H => ?_
     refine ⟨H.pick [3, 4, 5] [0, 1], ?_⟩
     refine qR [5] (by kernel_rfl) (by simp) (xA rfl ?_ qU)
     refine xy H ti219 [.pointer none] fun b31 w32 H => ?_
     refine ⟨H.pick [4, 5, 6] [0, 1], ?_⟩
     refine qR [7] (by kernel_rfl) (by simp) (xA rfl ?_ qU)
     refine qG H 0 [pp b19 0] Tryz.sizeOf219 fun w33 H => ?_
     try dsimp only [List.set] at H
     refine ⟨H.pick [4, 5, 6] [0, 1], ?_⟩
     refine qR [8] (by kernel_rfl) (by simp) (xA rfl ?_ qU)
     refine qG H 1 [.slice (aa b21 0) parts.length parts.length] Tryz.sizeOf22 fun w34 H => ?_
     try dsimp only [List.set] at H
     refine ⟨H.pick [4, 5, 6] [0, 1], ?_⟩
     refine xq (by kernel_rfl) (?_)
     exact meet ⟨_, b31, b29, b21, b19, (by exact qg (qg (qg (qg (qg (rfl) rfl) rfl) rfl) rfl) rfl), N, H.pick [1, 0, 2, 3, 4, 5, 6] [0, 1]⟩
    ·skip
     refine xy H ti219 [.pointer none] fun b35 w36 H => ?_
     refine ⟨H.pick [2, 3, 4] [0, 1], ?_⟩
     refine qR [4, 6] (by kernel_rfl) (by simp) (xA rfl ?_ (xA rfl ?_ qU))
     ·skip
      refine zt H Tryz.underlying22 ti2 parts.length rfl rfl (by omega) (by omega) (by omega) fun b37 w38 H => ?_
      refine ⟨H.pick [3, 4, 5] [0, 1], ?_⟩
      refine qR [6] (by kernel_rfl) (by simp) (xA rfl ?_ qU)
      refine xy H ti22 [.slice none 0 0] fun b39 w40 H => ?_
      refine ⟨H.pick [4, 5, 6] [0, 1], ?_⟩
      refine qR [7] (by kernel_rfl) (by simp) (xA rfl ?_ qU)
      refine qG H 2 [pp b19 0] Tryz.sizeOf219 fun w41 H => ?_
      try dsimp only [List.set] at H
      refine ⟨H.pick [4, 5, 6] [0, 1], ?_⟩
      refine qR [8] (by kernel_rfl) (by simp) (xA rfl ?_ qU)
      refine qG H 0 [.slice (aa b37 0) parts.length parts.length] Tryz.sizeOf22 fun w42 H => ?_
      try dsimp only [List.set] at H
      refine ⟨H.pick [4, 5, 6] [0, 1], ?_⟩
      refine xq (by kernel_rfl) (?_)
      exact meet ⟨_, b35, b39, b37, b19, (by exact qg (qg (qg (qg (qg (rfl) rfl) rfl) rfl) rfl) rfl), N, H.pick [0, 2, 1, 3, 4, 5, 6] [0, 1]⟩
     refine xy H ti22 [.slice none 0 0] fun b43 w44 H => ?_
     refine ⟨H.pick [3, 4, 5] [0, 1], ?_⟩
     refine qR [4, 7] (by kernel_rfl) (by simp) (xA rfl ?_ (xA rfl ?_ qU))
     ·skip
      refine zt H Tryz.underlying22 ti2 parts.length rfl rfl (by omega) (by omega) (by omega) fun b45 w46 H => ?_
      refine ⟨H.pick [4, 5, 6] [0, 1], ?_⟩
      refine qR [7] (by kernel_rfl) (by simp) (xA rfl ?_ qU)
      refine qG H 2 [pp b19 0] Tryz.sizeOf219 fun w47 H => ?_
      try dsimp only [List.set] at H
      refine ⟨H.pick [4, 5, 6] [0, 1], ?_⟩
      refine qR [8] (by kernel_rfl) (by simp) (xA rfl ?_ qU)
      refine qG H 1 [.slice (aa b45 0) parts.length parts.length] Tryz.sizeOf22 fun w48 H => ?_
      try dsimp only [List.set] at H
      refine ⟨H.pick [4, 5, 6] [0, 1], ?_⟩
      refine xq (by kernel_rfl) (?_)
      exact meet ⟨_, b35, b43, b45, b19, (by exact qg (qg (qg (qg (qg (rfl) rfl) rfl) rfl) rfl) rfl), N, H.pick [1, 2, 0, 3, 4, 5, 6] [0, 1]⟩
     refine qG H 1 [pp b19 0] Tryz.sizeOf219 fun w49 H => ?_
     try dsimp only [List.set] at H
     refine ⟨H.pick [3, 4, 5] [0, 1], ?_⟩
     refine qR [4] (by kernel_rfl) (by simp) (xA rfl ?_ qU)
     refine zt H Tryz.underlying22 ti2 parts.length rfl rfl (by omega) (by omega) (by omega) fun b50 w51 H => ?_
     refine ⟨H.pick [4, 5, 6] [0, 1], ?_⟩
     refine qR [8] (by kernel_rfl) (by simp) (xA rfl ?_ qU)
     refine qG H 1 [.slice (aa b50 0) parts.length parts.length] Tryz.sizeOf22 fun w52 H => ?_
     try dsimp only [List.set] at H
     refine ⟨H.pick [4, 5, 6] [0, 1], ?_⟩
     refine xq (by kernel_rfl) (?_)
     exact meet ⟨_, b35, b43, b50, b19, (by exact qg (qg (qg (qg (qg (rfl) rfl) rfl) rfl) rfl) rfl), N, H.pick [1, 2, 0, 3, 4, 5, 6] [0, 1]⟩
    refine xy H ti22 [.slice none 0 0] fun b53 w54 H => ?_
    refine ⟨H.pick [2, 3, 4] [0, 1], ?_⟩
    refine qR [4, 5] (by kernel_rfl) (by simp) (xA rfl ?_ (xA rfl ?_ qU))
    ·skip
     refine zt H Tryz.underlying22 ti2 parts.length rfl rfl (by omega) (by omega) (by omega) fun b55 w56 H => ?_
     refine ⟨H.pick [3, 4, 5] [0, 1], ?_⟩
     refine qR [5] (by kernel_rfl) (by simp) (xA rfl ?_ qU)
     refine xy H ti219 [.pointer none] fun b57 w58 H => ?_
     refine ⟨H.pick [4, 5, 6] [0, 1], ?_⟩
     refine qR [7] (by kernel_rfl) (by simp) (xA rfl ?_ qU)
     refine qG H 0 [pp b19 0] Tryz.sizeOf219 fun w59 H => ?_
     try dsimp only [List.set] at H
     refine ⟨H.pick [4, 5, 6] [0, 1], ?_⟩
     refine qR [8] (by kernel_rfl) (by simp) (xA rfl ?_ qU)
     refine qG H 2 [.slice (aa b55 0) parts.length parts.length] Tryz.sizeOf22 fun w60 H => ?_
     try dsimp only [List.set] at H
     refine ⟨H.pick [4, 5, 6] [0, 1], ?_⟩
     refine xq (by kernel_rfl) (?_)
     exact meet ⟨_, b57, b53, b55, b19, (by exact qg (qg (qg (qg (qg (rfl) rfl) rfl) rfl) rfl) rfl), N, H.pick [2, 0, 1, 3, 4, 5, 6] [0, 1]⟩
    refine xy H ti219 [.pointer none] fun b61 w62 H => ?_
    refine ⟨H.pick [3, 4, 5] [0, 1], ?_⟩
    refine qR [4, 7] (by kernel_rfl) (by simp) (xA rfl ?_ (xA rfl ?_ qU))
    ·skip
     refine zt H Tryz.underlying22 ti2 parts.length rfl rfl (by omega) (by omega) (by omega) fun b63 w64 H => ?_
     refine ⟨H.pick [4, 5, 6] [0, 1], ?_⟩
     refine qR [7] (by kernel_rfl) (by simp) (xA rfl ?_ qU)
     refine qG H 1 [pp b19 0] Tryz.sizeOf219 fun w65 H => ?_
     try dsimp only [List.set] at H
     refine ⟨H.pick [4, 5, 6] [0, 1], ?_⟩
     refine qR [8] (by kernel_rfl) (by simp) (xA rfl ?_ qU)
     refine qG H 2 [.slice (aa b63 0) parts.length parts.length] Tryz.sizeOf22 fun w66 H => ?_
     try dsimp only [List.set] at H
     refine ⟨H.pick [4, 5, 6] [0, 1], ?_⟩
     refine xq (by kernel_rfl) (?_)
     exact meet ⟨_, b61, b53, b63, b19, (by exact qg (qg (qg (qg (qg (rfl) rfl) rfl) rfl) rfl) rfl), N, H.pick [2, 1, 0, 3, 4, 5, 6] [0, 1]⟩
    refine qG H 0 [pp b19 0] Tryz.sizeOf219 fun w67 H => ?_
    try dsimp only [List.set] at H
    refine ⟨H.pick [3, 4, 5] [0, 1], ?_⟩
    refine qR [4] (by kernel_rfl) (by simp) (xA rfl ?_ qU)
    refine zt H Tryz.underlying22 ti2 parts.length rfl rfl (by omega) (by omega) (by omega) fun b68 w69 H => ?_
    refine ⟨H.pick [4, 5, 6] [0, 1], ?_⟩
    refine qR [8] (by kernel_rfl) (by simp) (xA rfl ?_ qU)
    refine qG H 2 [.slice (aa b68 0) parts.length parts.length] Tryz.sizeOf22 fun w70 H => ?_
    try dsimp only [List.set] at H
    refine ⟨H.pick [4, 5, 6] [0, 1], ?_⟩
    refine xq (by kernel_rfl) (?_)
    exact meet ⟨_, b61, b53, b68, b19, (by exact qg (qg (qg (qg (qg (rfl) rfl) rfl) rfl) rfl) rfl), N, H.pick [2, 1, 0, 3, 4, 5, 6] [0, 1]⟩
   ·skip
    refine zt H Tryz.underlying22 ti2 parts.length rfl rfl (by omega) (by omega) (by omega) fun b71 w72 H => ?_
    refine ⟨H.pick [1, 2, 3] [0, 1], ?_⟩
    refine qR [1, 5, 6] (by kernel_rfl) (by simp) (xA rfl ?_ (xA rfl ?_ (xA rfl ?_ qU)))
    ·skip
     refine zh H [.slice none 0 0] fun b73 w74 H => ?_
     refine ⟨H.pick [2, 3, 4] [0, 1], ?_⟩
     refine qR [5, 6] (by kernel_rfl) (by simp) (xA rfl ?_ (xA rfl ?_ qU))
     ·skip
      refine xy H ti219 [.pointer none] fun b75 w76 H => ?_
      refine ⟨H.pick [3, 4, 5] [0, 1], ?_⟩
      refine qR [6] (by kernel_rfl) (by simp) (xA rfl ?_ qU)
      refine xy H ti22 [.slice none 0 0] fun b77 w78 H => ?_
      refine ⟨H.pick [4, 5, 6] [0, 1], ?_⟩
      refine qR [7] (by kernel_rfl) (by simp) (xA rfl ?_ qU)
      refine qG H 1 [pp b73 0] Tryz.sizeOf219 fun w79 H => ?_
      try dsimp only [List.set] at H
      refine ⟨H.pick [4, 5, 6] [0, 1], ?_⟩
      refine qR [8] (by kernel_rfl) (by simp) (xA rfl ?_ qU)
      refine qG H 0 [.slice (aa b71 0) parts.length parts.length] Tryz.sizeOf22 fun w80 H => ?_
      try dsimp only [List.set] at H
      refine ⟨H.pick [4, 5, 6] [0, 1], ?_⟩
      refine xq (by kernel_rfl) (?_)
      exact meet ⟨_, b75, b77, b71, b73, (by exact qg (qg (qg (qg (qg (rfl) rfl) rfl) rfl) rfl) rfl), N, H.pick [0, 1, 3, 2, 4, 5, 6] [0, 1]⟩
     refine xy H ti22 [.slice none 0 0] fun b81 w82 H => ?_
     refine ⟨H.pick [3, 4, 5] [0, 1], ?_⟩
     refine qR [5] (by kernel_rfl) (by simp) (xA rfl ?_ qU)
     refine xy H ti219 [.pointer none] fun b83 w84 H => ?_
     refine ⟨H.pick [4, 5, 6] [0, 1], ?_⟩
     refine qR [7] (by kernel_rfl) (by simp) (xA rfl ?_ qU)
     refine qG H 0 [pp b73 0] Tryz.sizeOf219 fun w85 H => ?_
     try dsimp only [List.set] at H
     refine ⟨H.pick [4, 5, 6] [0, 1], ?_⟩
     refine qR [8] (by kernel_rfl) (by simp) (xA rfl ?_ qU)
     refine qG H 1 [.slice (aa b71 0) parts.length parts.length] Tryz.sizeOf22 fun w86 H => ?_
     try dsimp only [List.set] at H
     refine ⟨H.pick [4, 5, 6] [0, 1], ?_⟩
     refine xq (by kernel_rfl) (?_)
     exact meet ⟨_, b83, b81, b71, b73, (by exact qg (qg (qg (qg (qg (rfl) rfl) rfl) rfl) rfl) rfl), N, H.pick [1, 0, 3, 2, 4, 5, 6] [0, 1]⟩
    ·skip
     refine xy H ti219 [.pointer none] fun b87 w88 H => ?_
     refine ⟨H.pick [2, 3, 4] [0, 1], ?_⟩
     refine qR [1, 6] (by kernel_rfl) (by simp) (xA rfl ?_ (xA rfl ?_ qU))
     ·skip
      refine zh H [.slice none 0 0] fun b89 w90 H => ?_
      refine ⟨H.pick [3, 4, 5] [0, 1], ?_⟩
      refine qR [6] (by kernel_rfl) (by simp) (xA rfl ?_ qU)
      refine xy H ti22 [.slice none 0 0] fun b91 w92 H => ?_
      refine ⟨H.pick [4, 5, 6] [0, 1], ?_⟩
      refine qR [7] (by kernel_rfl) (by simp) (xA rfl ?_ qU)
      refine qG H 2 [pp b89 0] Tryz.sizeOf219 fun w93 H => ?_
      try dsimp only [List.set] at H
      refine ⟨H.pick [4, 5, 6] [0, 1], ?_⟩
      refine qR [8] (by kernel_rfl) (by simp) (xA rfl ?_ qU)
      refine qG H 0 [.slice (aa b71 0) parts.length parts.length] Tryz.sizeOf22 fun w94 H => ?_
      try dsimp only [List.set] at H
      refine ⟨H.pick [4, 5, 6] [0, 1], ?_⟩
      refine xq (by kernel_rfl) (?_)
      exact meet ⟨_, b87, b91, b71, b89, (by exact qg (qg (qg (qg (qg (rfl) rfl) rfl) rfl) rfl) rfl), N, H.pick [0, 2, 3, 1, 4, 5, 6] [0, 1]⟩
     refine xy H ti22 [.slice none 0 0] fun b95 w96 H => ?_
     refine ⟨H.pick [3, 4, 5] [0, 1], ?_⟩
     refine qR [1] (by kernel_rfl) (by simp) (xA rfl ?_ qU)
     refine zh H [.slice none 0 0] fun b97 w98 H => ?_
     refine ⟨H.pick [4, 5, 6] [0, 1], ?_⟩
     refine qR [7] (by kernel_rfl) (by simp) (xA rfl ?_ qU)
     refine qG H 2 [pp b97 0] Tryz.sizeOf219 fun w99 H => ?_
     try dsimp only [List.set] at H
     refine ⟨H.pick [4, 5, 6] [0, 1], ?_⟩
     refine qR [8] (by kernel_rfl) (by simp) (xA rfl ?_ qU)
     refine qG H 1 [.slice (aa b71 0) parts.length parts.length] Tryz.sizeOf22 fun w100 H => ?_
     try dsimp only [List.set] at H
     refine ⟨H.pick [4, 5, 6] [0, 1], ?_⟩
     refine xq (by kernel_rfl) (?_)
     exact meet ⟨_, b87, b95, b71, b97, (by exact qg (qg (qg (qg (qg (rfl) rfl) rfl) rfl) rfl) rfl), N, H.pick [1, 2, 3, 0, 4, 5, 6] [0, 1]⟩
    refine xy H ti22 [.slice none 0 0] fun b101 w102 H => ?_
    refine ⟨H.pick [2, 3, 4] [0, 1], ?_⟩
    refine qR [1, 5] (by kernel_rfl) (by simp) (xA rfl ?_ (xA rfl ?_ qU))
    ·skip
     refine zh H [.slice none 0 0] fun b103 w104 H => ?_
     refine ⟨H.pick [3, 4, 5] [0, 1], ?_⟩
     refine qR [5] (by kernel_rfl) (by simp) (xA rfl ?_ qU)
     refine xy H ti219 [.pointer none] fun b105 w106 H => ?_
     refine ⟨H.pick [4, 5, 6] [0, 1], ?_⟩
     refine qR [7] (by kernel_rfl) (by simp) (xA rfl ?_ qU)
     refine qG H 0 [pp b103 0] Tryz.sizeOf219 fun w107 H => ?_
     try dsimp only [List.set] at H
     refine ⟨H.pick [4, 5, 6] [0, 1], ?_⟩
     refine qR [8] (by kernel_rfl) (by simp) (xA rfl ?_ qU)
     refine qG H 2 [.slice (aa b71 0) parts.length parts.length] Tryz.sizeOf22 fun w108 H => ?_
     try dsimp only [List.set] at H
     refine ⟨H.pick [4, 5, 6] [0, 1], ?_⟩
     refine xq (by kernel_rfl) (?_)
     exact meet ⟨_, b105, b101, b71, b103, (by exact qg (qg (qg (qg (qg (rfl) rfl) rfl) rfl) rfl) rfl), N, H.pick [2, 0, 3, 1, 4, 5, 6] [0, 1]⟩
    refine xy H ti219 [.pointer none] fun b109 w110 H => ?_
    refine ⟨H.pick [3, 4, 5] [0, 1], ?_⟩
    refine qR [1] (by kernel_rfl) (by simp) (xA rfl ?_ qU)
    refine zh H [.slice none 0 0] fun b111 w112 H => ?_
    refine ⟨H.pick [4, 5, 6] [0, 1], ?_⟩
    refine qR [7] (by kernel_rfl) (by simp) (xA rfl ?_ qU)
    refine qG H 1 [pp b111 0] Tryz.sizeOf219 fun w113 H => ?_
    try dsimp only [List.set] at H
    refine ⟨H.pick [4, 5, 6] [0, 1], ?_⟩
    refine qR [8] (by kernel_rfl) (by simp) (xA rfl ?_ qU)
    refine qG H 2 [.slice (aa b71 0) parts.length parts.length] Tryz.sizeOf22 fun w114 H => ?_
    try dsimp only [List.set] at H
    refine ⟨H.pick [4, 5, 6] [0, 1], ?_⟩
    refine xq (by kernel_rfl) (?_)
    exact meet ⟨_, b109, b101, b71, b111, (by exact qg (qg (qg (qg (qg (rfl) rfl) rfl) rfl) rfl) rfl), N, H.pick [2, 1, 3, 0, 4, 5, 6] [0, 1]⟩
   ·skip
    refine xy H ti219 [.pointer none] fun b115 w116 H => ?_
    refine ⟨H.pick [1, 2, 3] [0, 1], ?_⟩
    refine qR [1, 4, 6] (by kernel_rfl) (by simp) (xA rfl ?_ (xA rfl ?_ (xA rfl ?_ qU)))
    ·skip
     refine zh H [.slice none 0 0] fun b117 w118 H => ?_
     refine ⟨H.pick [2, 3, 4] [0, 1], ?_⟩
     refine qR [4, 6] (by kernel_rfl) (by simp) (xA rfl ?_ (xA rfl ?_ qU))
     ·skip
      refine zt H Tryz.underlying22 ti2 parts.length rfl rfl (by omega) (by omega) (by omega) fun b119 w120 H => ?_
      refine ⟨H.pick [3, 4, 5] [0, 1], ?_⟩
      refine qR [6] (by kernel_rfl) (by simp) (xA rfl ?_ qU)
      refine xy H ti22 [.slice none 0 0] fun b121 w122 H => ?_
      refine ⟨H.pick [4, 5, 6] [0, 1], ?_⟩
      refine qR [7] (by kernel_rfl) (by simp) (xA rfl ?_ qU)
      refine qG H 3 [pp b117 0] Tryz.sizeOf219 fun w123 H => ?_
      try dsimp only [List.set] at H
      refine ⟨H.pick [4, 5, 6] [0, 1], ?_⟩
      refine qR [8] (by kernel_rfl) (by simp) (xA rfl ?_ qU)
      refine qG H 0 [.slice (aa b119 0) parts.length parts.length] Tryz.sizeOf22 fun w124 H => ?_
      try dsimp only [List.set] at H
      refine ⟨H.pick [4, 5, 6] [0, 1], ?_⟩
      refine xq (by kernel_rfl) (?_)
      exact meet ⟨_, b115, b121, b119, b117, (by exact qg (qg (qg (qg (qg (rfl) rfl) rfl) rfl) rfl) rfl), N, H.pick [0, 3, 1, 2, 4, 5, 6] [0, 1]⟩
     refine xy H ti22 [.slice none 0 0] fun b125 w126 H => ?_
     refine ⟨H.pick [3, 4, 5] [0, 1], ?_⟩
     refine qR [4, 7] (by kernel_rfl) (by simp) (xA rfl ?_ (xA rfl ?_ qU))
     ·skip
      refine zt H Tryz.underlying22 ti2 parts.length rfl rfl (by omega) (by omega) (by omega) fun b127 w128 H => ?_
      refine ⟨H.pick [4, 5, 6] [0, 1], ?_⟩
      refine qR [7] (by kernel_rfl) (by simp) (xA rfl ?_ qU)
      refine qG H 3 [pp b117 0] Tryz.sizeOf219 fun w129 H => ?_
      try dsimp only [List.set] at H
      refine ⟨H.pick [4, 5, 6] [0, 1], ?_⟩
      refine qR [8] (by kernel_rfl) (by simp) (xA rfl ?_ qU)
      refine qG H 1 [.slice (aa b127 0) parts.length parts.length] Tryz.sizeOf22 fun w130 H => ?_
      try dsimp only [List.set] at H
      refine ⟨H.pick [4, 5, 6] [0, 1], ?_⟩
      refine xq (by kernel_rfl) (?_)
      exact meet ⟨_, b115, b125, b127, b117, (by exact qg (qg (qg (qg (qg (rfl) rfl) rfl) rfl) rfl) rfl), N, H.pick [1, 3, 0, 2, 4, 5, 6] [0, 1]⟩
     refine qG H 2 [pp b117 0] Tryz.sizeOf219 fun w131 H => ?_
     try dsimp only [List.set] at H
     refine ⟨H.pick [3, 4, 5] [0, 1], ?_⟩
     refine qR [4] (by kernel_rfl) (by simp) (xA rfl ?_ qU)
     refine zt H Tryz.underlying22 ti2 parts.length rfl rfl (by omega) (by omega) (by omega) fun b132 w133 H => ?_
     refine ⟨H.pick [4, 5, 6] [0, 1], ?_⟩
     refine qR [8] (by kernel_rfl) (by simp) (xA rfl ?_ qU)
     refine qG H 1 [.slice (aa b132 0) parts.length parts.length] Tryz.sizeOf22 fun w134 H => ?_
     try dsimp only [List.set] at H
     refine ⟨H.pick [4, 5, 6] [0, 1], ?_⟩
     refine xq (by kernel_rfl) (?_)
     exact meet ⟨_, b115, b125, b132, b117, (by exact qg (qg (qg (qg (qg (rfl) rfl) rfl) rfl) rfl) rfl), N, H.pick [1, 3, 0, 2, 4, 5, 6] [0, 1]⟩
    ·skip
     refine zt H Tryz.underlying22 ti2 parts.length rfl rfl (by omega) (by omega) (by omega) fun b135 w136 H => ?_
     refine ⟨H.pick [2, 3, 4] [0, 1], ?_⟩
     refine qR [1, 6] (by kernel_rfl) (by simp) (xA rfl ?_ (xA rfl ?_ qU))
     ·skip
      refine zh H [.slice none 0 0] fun b137 w138 H => ?_
      refine ⟨H.pick [3, 4, 5] [0, 1], ?_⟩
      refine qR [6] (by kernel_rfl) (by simp) (xA rfl ?_ qU)
      refine xy H ti22 [.slice none 0 0] fun b139 w140 H => ?_
      refine ⟨H.pick [4, 5, 6] [0, 1], ?_⟩
      refine qR [7] (by kernel_rfl) (by simp) (xA rfl ?_ qU)
      refine qG H 3 [pp b137 0] Tryz.sizeOf219 fun w141 H => ?_
      try dsimp only [List.set] at H
      refine ⟨H.pick [4, 5, 6] [0, 1], ?_⟩
      refine qR [8] (by kernel_rfl) (by simp) (xA rfl ?_ qU)
      refine qG H 0 [.slice (aa b135 0) parts.length parts.length] Tryz.sizeOf22 fun w142 H => ?_
      try dsimp only [List.set] at H
      refine ⟨H.pick [4, 5, 6] [0, 1], ?_⟩
      refine xq (by kernel_rfl) (?_)
      exact meet ⟨_, b115, b139, b135, b137, (by exact qg (qg (qg (qg (qg (rfl) rfl) rfl) rfl) rfl) rfl), N, H.pick [0, 3, 2, 1, 4, 5, 6] [0, 1]⟩
     refine xy H ti22 [.slice none 0 0] fun b143 w144 H => ?_
     refine ⟨H.pick [3, 4, 5] [0, 1], ?_⟩
     refine qR [1] (by kernel_rfl) (by simp) (xA rfl ?_ qU)
     refine zh H [.slice none 0 0] fun b145 w146 H => ?_
     refine ⟨H.pick [4, 5, 6] [0, 1], ?_⟩
     refine qR [7] (by kernel_rfl) (by simp) (xA rfl ?_ qU)
     refine qG H 3 [pp b145 0] Tryz.sizeOf219 fun w147 H => ?_
     try dsimp only [List.set] at H
     refine ⟨H.pick [4, 5, 6] [0, 1], ?_⟩
     refine qR [8] (by kernel_rfl) (by simp) (xA rfl ?_ qU)
     refine qG H 1 [.slice (aa b135 0) parts.length parts.length] Tryz.sizeOf22 fun w148 H => ?_
     try dsimp only [List.set] at H
     refine ⟨H.pick [4, 5, 6] [0, 1], ?_⟩
     refine xq (by kernel_rfl) (?_)
     exact meet ⟨_, b115, b143, b135, b145, (by exact qg (qg (qg (qg (qg (rfl) rfl) rfl) rfl) rfl) rfl), N, H.pick [1, 3, 2, 0, 4, 5, 6] [0, 1]⟩
    refine xy H ti22 [.slice none 0 0] fun b149 w150 H => ?_
    refine ⟨H.pick [2, 3, 4] [0, 1], ?_⟩
    refine qR [1, 4] (by kernel_rfl) (by simp) (xA rfl ?_ (xA rfl ?_ qU))
    ·skip
     refine zh H [.slice none 0 0] fun b151 w152 H => ?_
     refine ⟨H.pick [3, 4, 5] [0, 1], ?_⟩
     refine qR [4, 7] (by kernel_rfl) (by simp) (xA rfl ?_ (xA rfl ?_ qU))
     ·skip
      refine zt H Tryz.underlying22 ti2 parts.length rfl rfl (by omega) (by omega) (by omega) fun b153 w154 H => ?_
      refine ⟨H.pick [4, 5, 6] [0, 1], ?_⟩
      refine qR [7] (by kernel_rfl) (by simp) (xA rfl ?_ qU)
      refine qG H 3 [pp b151 0] Tryz.sizeOf219 fun w155 H => ?_
      try dsimp only [List.set] at H
      refine ⟨H.pick [4, 5, 6] [0, 1], ?_⟩
      refine qR [8] (by kernel_rfl) (by simp) (xA rfl ?_ qU)
      refine qG H 2 [.slice (aa b153 0) parts.length parts.length] Tryz.sizeOf22 fun w156 H => ?_
      try dsimp only [List.set] at H
      refine ⟨H.pick [4, 5, 6] [0, 1], ?_⟩
      refine xq (by kernel_rfl) (?_)
      exact meet ⟨_, b115, b149, b153, b151, (by exact qg (qg (qg (qg (qg (rfl) rfl) rfl) rfl) rfl) rfl), N, H.pick [2, 3, 0, 1, 4, 5, 6] [0, 1]⟩
     refine qG H 2 [pp b151 0] Tryz.sizeOf219 fun w157 H => ?_
     try dsimp only [List.set] at H
     refine ⟨H.pick [3, 4, 5] [0, 1], ?_⟩
     refine qR [4] (by kernel_rfl) (by simp) (xA rfl ?_ qU)
     refine zt H Tryz.underlying22 ti2 parts.length rfl rfl (by omega) (by omega) (by omega) fun b158 w159 H => ?_
     refine ⟨H.pick [4, 5, 6] [0, 1], ?_⟩
     refine qR [8] (by kernel_rfl) (by simp) (xA rfl ?_ qU)
     refine qG H 2 [.slice (aa b158 0) parts.length parts.length] Tryz.sizeOf22 fun w160 H => ?_
     try dsimp only [List.set] at H
     refine ⟨H.pick [4, 5, 6] [0, 1], ?_⟩
     refine xq (by kernel_rfl) (?_)
     exact meet ⟨_, b115, b149, b158, b151, (by exact qg (qg (qg (qg (qg (rfl) rfl) rfl) rfl) rfl) rfl), N, H.pick [2, 3, 0, 1, 4, 5, 6] [0, 1]⟩
    refine zt H Tryz.underlying22 ti2 parts.length rfl rfl (by omega) (by omega) (by omega) fun b161 w162 H => ?_
    refine ⟨H.pick [3, 4, 5] [0, 1], ?_⟩
    refine qR [1] (by kernel_rfl) (by simp) (xA rfl ?_ qU)
    refine zh H [.slice none 0 0] fun b163 w164 H => ?_
    refine ⟨H.pick [4, 5, 6] [0, 1], ?_⟩
    refine qR [7] (by kernel_rfl) (by simp) (xA rfl ?_ qU)
    refine qG H 3 [pp b163 0] Tryz.sizeOf219 fun w165 H => ?_
    try dsimp only [List.set] at H
    refine ⟨H.pick [4, 5, 6] [0, 1], ?_⟩
    refine qR [8] (by kernel_rfl) (by simp) (xA rfl ?_ qU)
    refine qG H 2 [.slice (aa b161 0) parts.length parts.length] Tryz.sizeOf22 fun w166 H => ?_
    try dsimp only [List.set] at H
    refine ⟨H.pick [4, 5, 6] [0, 1], ?_⟩
    refine xq (by kernel_rfl) (?_)
    exact meet ⟨_, b115, b149, b161, b163, (by exact qg (qg (qg (qg (qg (rfl) rfl) rfl) rfl) rfl) rfl), N, H.pick [2, 3, 1, 0, 4, 5, 6] [0, 1]⟩
   refine xy H ti22 [.slice none 0 0] fun b167 w168 H => ?_
   refine ⟨H.pick [1, 2, 3] [0, 1], ?_⟩
   refine qR [1, 4, 5] (by kernel_rfl) (by simp) (xA rfl ?_ (xA rfl ?_ (xA rfl ?_ qU)))
   ·skip
    refine zh H [.slice none 0 0] fun b169 w170 H => ?_
    refine ⟨H.pick [2, 3, 4] [0, 1], ?_⟩
    refine qR [4, 5] (by kernel_rfl) (by simp) (xA rfl ?_ (xA rfl ?_ qU))
    ·skip
     refine zt H Tryz.underlying22 ti2 parts.length rfl rfl (by omega) (by omega) (by omega) fun b171 w172 H => ?_
     refine ⟨H.pick [3, 4, 5] [0, 1], ?_⟩
     refine qR [5] (by kernel_rfl) (by simp) (xA rfl ?_ qU)
     refine xy H ti219 [.pointer none] fun b173 w174 H => ?_
     refine ⟨H.pick [4, 5, 6] [0, 1], ?_⟩
     refine qR [7] (by kernel_rfl) (by simp) (xA rfl ?_ qU)
     refine qG H 0 [pp b169 0] Tryz.sizeOf219 fun w175 H => ?_
     try dsimp only [List.set] at H
     refine ⟨H.pick [4, 5, 6] [0, 1], ?_⟩
     refine qR [8] (by kernel_rfl) (by simp) (xA rfl ?_ qU)
     refine qG H 3 [.slice (aa b171 0) parts.length parts.length] Tryz.sizeOf22 fun w176 H => ?_
     try dsimp only [List.set] at H
     refine ⟨H.pick [4, 5, 6] [0, 1], ?_⟩
     refine xq (by kernel_rfl) (?_)
     exact meet ⟨_, b173, b167, b171, b169, (by exact qg (qg (qg (qg (qg (rfl) rfl) rfl) rfl) rfl) rfl), N, H.pick [3, 0, 1, 2, 4, 5, 6] [0, 1]⟩
    refine xy H ti219 [.pointer none] fun b177 w178 H => ?_
    refine ⟨H.pick [3, 4, 5] [0, 1], ?_⟩
    refine qR [4, 7] (by kernel_rfl) (by simp) (xA rfl ?_ (xA rfl ?_ qU))
    ·skip
     refine zt H Tryz.underlying22 ti2 parts.length rfl rfl (by omega) (by omega) (by omega) fun b179 w180 H => ?_
     refine ⟨H.pick [4, 5, 6] [0, 1], ?_⟩
     refine qR [7] (by kernel_rfl) (by simp) (xA rfl ?_ qU)
     refine qG H 1 [pp b169 0] Tryz.sizeOf219 fun w181 H => ?_
     try dsimp only [List.set] at H
     refine ⟨H.pick [4, 5, 6] [0, 1], ?_⟩
     refine qR [8] (by kernel_rfl) (by simp) (xA rfl ?_ qU)
     refine qG H 3 [.slice (aa b179 0) parts.length parts.length] Tryz.sizeOf22 fun w182 H => ?_
     try dsimp only [List.set] at H
     refine ⟨H.pick [4, 5, 6] [0, 1], ?_⟩
     refine xq (by kernel_rfl) (?_)
     exact meet ⟨_, b177, b167, b179, b169, (by exact qg (qg (qg (qg (qg (rfl) rfl) rfl) rfl) rfl) rfl), N, H.pick [3, 1, 0, 2, 4, 5, 6] [0, 1]⟩
    refine qG H 0 [pp b169 0] Tryz.sizeOf219 fun w183 H => ?_
    try dsimp only [List.set] at H
    refine ⟨H.pick [3, 4, 5] [0, 1], ?_⟩
    refine qR [4] (by kernel_rfl) (by simp) (xA rfl ?_ qU)
    refine zt H Tryz.underlying22 ti2 parts.length rfl rfl (by omega) (by omega) (by omega) fun b184 w185 H => ?_
    refine ⟨H.pick [4, 5, 6] [0, 1], ?_⟩
    refine qR [8] (by kernel_rfl) (by simp) (xA rfl ?_ qU)
    refine qG H 3 [.slice (aa b184 0) parts.length parts.length] Tryz.sizeOf22 fun w186 H => ?_
    try dsimp only [List.set] at H
    refine ⟨H.pick [4, 5, 6] [0, 1], ?_⟩
    refine xq (by kernel_rfl) (?_)
    exact meet ⟨_, b177, b167, b184, b169, (by exact qg (qg (qg (qg (qg (rfl) rfl) rfl) rfl) rfl) rfl), N, H.pick [3, 1, 0, 2, 4, 5, 6] [0, 1]⟩
   ·skip
    refine zt H Tryz.underlying22 ti2 parts.length rfl rfl (by omega) (by omega) (by omega) fun b187 w188 H => ?_
    refine ⟨H.pick [2, 3, 4] [0, 1], ?_⟩
    refine qR [1, 5] (by kernel_rfl) (by simp) (xA rfl ?_ (xA rfl ?_ qU))
    ·skip
     refine zh H [.slice none 0 0] fun b189 w190 H => ?_
     refine ⟨H.pick [3, 4, 5] [0, 1], ?_⟩
     refine qR [5] (by kernel_rfl) (by simp) (xA rfl ?_ qU)
     refine xy H ti219 [.pointer none] fun b191 w192 H => ?_
     refine ⟨H.pick [4, 5, 6] [0, 1], ?_⟩
     refine qR [7] (by kernel_rfl) (by simp) (xA rfl ?_ qU)
     refine qG H 0 [pp b189 0] Tryz.sizeOf219 fun w193 H => ?_
     try dsimp only [List.set] at H
     refine ⟨H.pick [4, 5, 6] [0, 1], ?_⟩
     refine qR [8] (by kernel_rfl) (by simp) (xA rfl ?_ qU)
     refine qG H 3 [.slice (aa b187 0) parts.length parts.length] Tryz.sizeOf22 fun w194 H => ?_
     try dsimp only [List.set] at H
     refine ⟨H.pick [4, 5, 6] [0, 1], ?_⟩
     refine xq (by kernel_rfl) (?_)
     exact meet ⟨_, b191, b167, b187, b189, (by exact qg (qg (qg (qg (qg (rfl) rfl) rfl) rfl) rfl) rfl), N, H.pick [3, 0, 2, 1, 4, 5, 6] [0, 1]⟩
    refine xy H ti219 [.pointer none] fun b195 w196 H => ?_
    refine ⟨H.pick [3, 4, 5] [0, 1], ?_⟩
    refine qR [1] (by kernel_rfl) (by simp) (xA rfl ?_ qU)
    refine zh H [.slice none 0 0] fun b197 w198 H => ?_
    refine ⟨H.pick [4, 5, 6] [0, 1], ?_⟩
    refine qR [7] (by kernel_rfl) (by simp) (xA rfl ?_ qU)
    refine qG H 1 [pp b197 0] Tryz.sizeOf219 fun w199 H => ?_
    try dsimp only [List.set] at H
    refine ⟨H.pick [4, 5, 6] [0, 1], ?_⟩
    refine qR [8] (by kernel_rfl) (by simp) (xA rfl ?_ qU)
    refine qG H 3 [.slice (aa b187 0) parts.length parts.length] Tryz.sizeOf22 fun w200 H => ?_
    try dsimp only [List.set] at H
    refine ⟨H.pick [4, 5, 6] [0, 1], ?_⟩
    refine xq (by kernel_rfl) (?_)
    exact meet ⟨_, b195, b167, b187, b197, (by exact qg (qg (qg (qg (qg (rfl) rfl) rfl) rfl) rfl) rfl), N, H.pick [3, 1, 2, 0, 4, 5, 6] [0, 1]⟩
   refine xy H ti219 [.pointer none] fun b201 w202 H => ?_
   refine ⟨H.pick [2, 3, 4] [0, 1], ?_⟩
   refine qR [1, 4] (by kernel_rfl) (by simp) (xA rfl ?_ (xA rfl ?_ qU))
   ·skip
    refine zh H [.slice none 0 0] fun b203 w204 H => ?_
    refine ⟨H.pick [3, 4, 5] [0, 1], ?_⟩
    refine qR [4, 7] (by kernel_rfl) (by simp) (xA rfl ?_ (xA rfl ?_ qU))
    ·skip
     refine zt H Tryz.underlying22 ti2 parts.length rfl rfl (by omega) (by omega) (by omega) fun b205 w206 H => ?_
     refine ⟨H.pick [4, 5, 6] [0, 1], ?_⟩
     refine qR [7] (by kernel_rfl) (by simp) (xA rfl ?_ qU)
     refine qG H 2 [pp b203 0] Tryz.sizeOf219 fun w207 H => ?_
     try dsimp only [List.set] at H
     refine ⟨H.pick [4, 5, 6] [0, 1], ?_⟩
     refine qR [8] (by kernel_rfl) (by simp) (xA rfl ?_ qU)
     refine qG H 3 [.slice (aa b205 0) parts.length parts.length] Tryz.sizeOf22 fun w208 H => ?_
     try dsimp only [List.set] at H
     refine ⟨H.pick [4, 5, 6] [0, 1], ?_⟩
     refine xq (by kernel_rfl) (?_)
     exact meet ⟨_, b201, b167, b205, b203, (by exact qg (qg (qg (qg (qg (rfl) rfl) rfl) rfl) rfl) rfl), N, H.pick [3, 2, 0, 1, 4, 5, 6] [0, 1]⟩
    refine qG H 1 [pp b203 0] Tryz.sizeOf219 fun w209 H => ?_
    try dsimp only [List.set] at H
    refine ⟨H.pick [3, 4, 5] [0, 1], ?_⟩
    refine qR [4] (by kernel_rfl) (by simp) (xA rfl ?_ qU)
    refine zt H Tryz.underlying22 ti2 parts.length rfl rfl (by omega) (by omega) (by omega) fun b210 w211 H => ?_
    refine ⟨H.pick [4, 5, 6] [0, 1], ?_⟩
    refine qR [8] (by kernel_rfl) (by simp) (xA rfl ?_ qU)
    refine qG H 3 [.slice (aa b210 0) parts.length parts.length] Tryz.sizeOf22 fun w212 H => ?_
    try dsimp only [List.set] at H
    refine ⟨H.pick [4, 5, 6] [0, 1], ?_⟩
    refine xq (by kernel_rfl) (?_)
    exact meet ⟨_, b201, b167, b210, b203, (by exact qg (qg (qg (qg (qg (rfl) rfl) rfl) rfl) rfl) rfl), N, H.pick [3, 2, 0, 1, 4, 5, 6] [0, 1]⟩
   refine zt H Tryz.underlying22 ti2 parts.length rfl rfl (by omega) (by omega) (by omega) fun b213 w214 H => ?_
   refine ⟨H.pick [3, 4, 5] [0, 1], ?_⟩
   refine qR [1] (by kernel_rfl) (by simp) (xA rfl ?_ qU)
   refine zh H [.slice none 0 0] fun b215 w216 H => ?_
   refine ⟨H.pick [4, 5, 6] [0, 1], ?_⟩
   refine qR [7] (by kernel_rfl) (by simp) (xA rfl ?_ qU)
   refine qG H 2 [pp b215 0] Tryz.sizeOf219 fun w217 H => ?_
   try dsimp only [List.set] at H
   refine ⟨H.pick [4, 5, 6] [0, 1], ?_⟩
   refine qR [8] (by kernel_rfl) (by simp) (xA rfl ?_ qU)
   refine qG H 3 [.slice (aa b213 0) parts.length parts.length] Tryz.sizeOf22 fun w218 H => ?_
   try dsimp only [List.set] at H
   refine ⟨H.pick [4, 5, 6] [0, 1], ?_⟩
   refine xq (by kernel_rfl) (?_)
   exact meet ⟨_, b201, b167, b213, b215, (by exact qg (qg (qg (qg (qg (rfl) rfl) rfl) rfl) rfl) rfl), N, H.pick [3, 2, 1, 0, 4, 5, 6] [0, 1]⟩
  ·skip
   refine zt H Tryz.underlying22 ti2 parts.length rfl rfl (by omega) (by omega) (by omega) fun b219 w220 H => ?_
   refine ⟨H.pick [1, 2, 3] [0, 1], ?_⟩
   refine qR [0, 5, 6] (by kernel_rfl) (by simp) (xA rfl ?_ (xA rfl ?_ (xA rfl ?_ qU)))
   ·skip
    refine Qs [.slice none 0 0] [] ?_
    refine ⟨H.pick [1, 2, 3] [0, 1], ?_⟩
    refine qR [1, 5, 6] (by kernel_rfl) (by simp) (xA rfl ?_ (xA rfl ?_ (xA rfl ?_ qU)))
    ·skip
     refine zh H [.slice none 0 0] fun b221 w222 H => ?_
     refine ⟨H.pick [2, 3, 4] [0, 1], ?_⟩
     refine qR [5, 6] (by kernel_rfl) (by simp) (xA rfl ?_ (xA rfl ?_ qU))
     ·skip
      refine xy H ti219 [.pointer none] fun b223 w224 H => ?_
      refine ⟨H.pick [3, 4, 5] [0, 1], ?_⟩
      refine qR [6] (by kernel_rfl) (by simp) (xA rfl ?_ qU)
      refine xy H ti22 [.slice none 0 0] fun b225 w226 H => ?_
      refine ⟨H.pick [4, 5, 6] [0, 1], ?_⟩
      refine qR [7] (by kernel_rfl) (by simp) (xA rfl ?_ qU)
      refine qG H 1 [pp b221 0] Tryz.sizeOf219 fun w227 H => ?_
      try dsimp only [List.set] at H
      refine ⟨H.pick [4, 5, 6] [0, 1], ?_⟩
      refine qR [8] (by kernel_rfl) (by simp) (xA rfl ?_ qU)
      refine qG H 0 [.slice (aa b219 0) parts.length parts.length] Tryz.sizeOf22 fun w228 H => ?_
      try dsimp only [List.set] at H
      refine ⟨H.pick [4, 5, 6] [0, 1], ?_⟩
      refine xq (by kernel_rfl) (?_)
      exact meet ⟨_, b223, b225, b219, b221, (by exact qg (qg (qg (qg (qg (rfl) rfl) rfl) rfl) rfl) rfl), N, H.pick [0, 1, 3, 2, 4, 5, 6] [0, 1]⟩
     refine xy H ti22 [.slice none 0 0] fun b229 w230 H => ?_
     refine ⟨H.pick [3, 4, 5] [0, 1], ?_⟩
     refine qR [5] (by kernel_rfl) (by simp) (xA rfl ?_ qU)
     refine xy H ti219 [.pointer none] fun b231 w232 H => ?_
     refine ⟨H.pick [4, 5, 6] [0, 1], ?_⟩
     refine qR [7] (by kernel_rfl) (by simp) (xA rfl ?_ qU)
     refine qG H 0 [pp b221 0] Tryz.sizeOf219 fun w233 H => ?_
     try dsimp only [List.set] at H
     refine ⟨H.pick [4, 5, 6] [0, 1], ?_⟩
     refine qR [8] (by kernel_rfl) (by simp) (xA rfl ?_ qU)
     refine qG H 1 [.slice (aa b219 0) parts.length parts.length] Tryz.sizeOf22 fun w234 H => ?_
     try dsimp only [List.set] at H
     refine ⟨H.pick [4, 5, 6] [0, 1], ?_⟩
     refine xq (by kernel_rfl) (?_)
     exact meet ⟨_, b231, b229, b219, b221, (by exact qg (qg (qg (qg (qg (rfl) rfl) rfl) rfl) rfl) rfl), N, H.pick [1, 0, 3, 2, 4, 5, 6] [0, 1]⟩
    ·skip
     refine xy H ti219 [.pointer none] fun b235 w236 H => ?_
     refine ⟨H.pick [2, 3, 4] [0, 1], ?_⟩
     refine qR [1, 6] (by kernel_rfl) (by simp) (xA rfl ?_ (xA rfl ?_ qU))
     ·skip
      refine zh H [.slice none 0 0] fun b237 w238 H => ?_
      refine ⟨H.pick [3, 4, 5] [0, 1], ?_⟩
      refine qR [6] (by kernel_rfl) (by simp) (xA rfl ?_ qU)
      refine xy H ti22 [.slice none 0 0] fun b239 w240 H => ?_
      refine ⟨H.pick [4, 5, 6] [0, 1], ?_⟩
      refine qR [7] (by kernel_rfl) (by simp) (xA rfl ?_ qU)
      refine qG H 2 [pp b237 0] Tryz.sizeOf219 fun w241 H => ?_
      try dsimp only [List.set] at H
      refine ⟨H.pick [4, 5, 6] [0, 1], ?_⟩
      refine qR [8] (by kernel_rfl) (by simp) (xA rfl ?_ qU)
      refine qG H 0 [.slice (aa b219 0) parts.length parts.length] Tryz.sizeOf22 fun w242 H => ?_
      try dsimp only [List.set] at H
      refine ⟨H.pick [4, 5, 6] [0, 1], ?_⟩
      refine xq (by kernel_rfl) (?_)
      exact meet ⟨_, b235, b239, b219, b237, (by exact qg (qg (qg (qg (qg (rfl) rfl) rfl) rfl) rfl) rfl), N, H.pick [0, 2, 3, 1, 4, 5, 6] [0, 1]⟩
     refine xy H ti22 [.slice none 0 0] fun b243 w244 H => ?_
     refine ⟨H.pick [3, 4, 5] [0, 1], ?_⟩
     refine qR [1] (by kernel_rfl) (by simp) (xA rfl ?_ qU)
     refine zh H [.slice none 0 0] fun b245 w246 H => ?_
     refine ⟨H.pick [4, 5, 6] [0, 1], ?_⟩
     refine qR [7] (by kernel_rfl) (by simp) (xA rfl ?_ qU)
     refine qG H 2 [pp b245 0] Tryz.sizeOf219 fun w247 H => ?_
     try dsimp only [List.set] at H
     refine ⟨H.pick [4, 5, 6] [0, 1], ?_⟩
     refine qR [8] (by kernel_rfl) (by simp) (xA rfl ?_ qU)
     refine qG H 1 [.slice (aa b219 0) parts.length parts.length] Tryz.sizeOf22 fun w248 H => ?_
     try dsimp only [List.set] at H
     refine ⟨H.pick [4, 5, 6] [0, 1], ?_⟩
     refine xq (by kernel_rfl) (?_)
     exact meet ⟨_, b235, b243, b219, b245, (by exact qg (qg (qg (qg (qg (rfl) rfl) rfl) rfl) rfl) rfl), N, H.pick [1, 2, 3, 0, 4, 5, 6] [0, 1]⟩
    refine xy H ti22 [.slice none 0 0] fun b249 w250 H => ?_
    refine ⟨H.pick [2, 3, 4] [0, 1], ?_⟩
    refine qR [1, 5] (by kernel_rfl) (by simp) (xA rfl ?_ (xA rfl ?_ qU))
    ·skip
     refine zh H [.slice none 0 0] fun b251 w252 H => ?_
     refine ⟨H.pick [3, 4, 5] [0, 1], ?_⟩
     refine qR [5] (by kernel_rfl) (by simp) (xA rfl ?_ qU)
     refine xy H ti219 [.pointer none] fun b253 w254 H => ?_
     refine ⟨H.pick [4, 5, 6] [0, 1], ?_⟩
     refine qR [7] (by kernel_rfl) (by simp) (xA rfl ?_ qU)
     refine qG H 0 [pp b251 0] Tryz.sizeOf219 fun w255 H => ?_
     try dsimp only [List.set] at H
     refine ⟨H.pick [4, 5, 6] [0, 1], ?_⟩
     refine qR [8] (by kernel_rfl) (by simp) (xA rfl ?_ qU)
     refine qG H 2 [.slice (aa b219 0) parts.length parts.length] Tryz.sizeOf22 fun w256 H => ?_
     try dsimp only [List.set] at H
     refine ⟨H.pick [4, 5, 6] [0, 1], ?_⟩
     refine xq (by kernel_rfl) (?_)
     exact meet ⟨_, b253, b249, b219, b251, (by exact qg (qg (qg (qg (qg (rfl) rfl) rfl) rfl) rfl) rfl), N, H.pick [2, 0, 3, 1, 4, 5, 6] [0, 1]⟩
    refine xy H ti219 [.pointer none] fun b257 w258 H => ?_
    refine ⟨H.pick [3, 4, 5] [0, 1], ?_⟩
    refine qR [1] (by kernel_rfl) (by simp) (xA rfl ?_ qU)
    refine zh H [.slice none 0 0] fun b259 w260 H => ?_
    refine ⟨H.pick [4, 5, 6] [0, 1], ?_⟩
    refine qR [7] (by kernel_rfl) (by simp) (xA rfl ?_ qU)
    refine qG H 1 [pp b259 0] Tryz.sizeOf219 fun w261 H => ?_
    try dsimp only [List.set] at H
    refine ⟨H.pick [4, 5, 6] [0, 1], ?_⟩
    refine qR [8] (by kernel_rfl) (by simp) (xA rfl ?_ qU)
    refine qG H 2 [.slice (aa b219 0) parts.length parts.length] Tryz.sizeOf22 fun w262 H => ?_
    try dsimp only [List.set] at H
    refine ⟨H.pick [4, 5, 6] [0, 1], ?_⟩
    refine xq (by kernel_rfl) (?_)
    exact meet ⟨_, b257, b249, b219, b259, (by exact qg (qg (qg (qg (qg (rfl) rfl) rfl) rfl) rfl) rfl), N, H.pick [2, 1, 3, 0, 4, 5, 6] [0, 1]⟩
   ·skip
    refine xy H ti219 [.pointer none] fun b263 w264 H => ?_
    refine ⟨H.pick [2, 3, 4] [0, 1], ?_⟩
    refine qR [0, 6] (by kernel_rfl) (by simp) (xA rfl ?_ (xA rfl ?_ qU))
    ·skip
     refine Qs [.slice none 0 0] [] ?_
     refine ⟨H.pick [2, 3, 4] [0, 1], ?_⟩
     refine qR [1, 6] (by kernel_rfl) (by simp) (xA rfl ?_ (xA rfl ?_ qU))
     ·skip
      refine zh H [.slice none 0 0] fun b265 w266 H => ?_
      refine ⟨H.pick [3, 4, 5] [0, 1], ?_⟩
      refine qR [6] (by kernel_rfl) (by simp) (xA rfl ?_ qU)
      refine xy H ti22 [.slice none 0 0] fun b267 w268 H => ?_
      refine ⟨H.pick [4, 5, 6] [0, 1], ?_⟩
      refine qR [7] (by kernel_rfl) (by simp) (xA rfl ?_ qU)
      refine qG H 2 [pp b265 0] Tryz.sizeOf219 fun w269 H => ?_
      try dsimp only [List.set] at H
      refine ⟨H.pick [4, 5, 6] [0, 1], ?_⟩
      refine qR [8] (by kernel_rfl) (by simp) (xA rfl ?_ qU)
      refine qG H 0 [.slice (aa b219 0) parts.length parts.length] Tryz.sizeOf22 fun w270 H => ?_
      try dsimp only [List.set] at H
      refine ⟨H.pick [4, 5, 6] [0, 1], ?_⟩
      refine xq (by kernel_rfl) (?_)
      exact meet ⟨_, b263, b267, b219, b265, (by exact qg (qg (qg (qg (qg (rfl) rfl) rfl) rfl) rfl) rfl), N, H.pick [0, 2, 3, 1, 4, 5, 6] [0, 1]⟩
     refine xy H ti22 [.slice none 0 0] fun b271 w272 H => ?_
     refine ⟨H.pick [3, 4, 5] [0, 1], ?_⟩
     refine qR [1] (by kernel_rfl) (by simp) (xA rfl ?_ qU)
     refine zh H [.slice none 0 0] fun b273 w274 H => ?_
     refine ⟨H.pick [4, 5, 6] [0, 1], ?_⟩
     refine qR [7] (by kernel_rfl) (by simp) (xA rfl ?_ qU)
     refine qG H 2 [pp b273 0] Tryz.sizeOf219 fun w275 H => ?_
     try dsimp only [List.set] at H
     refine ⟨H.pick [4, 5, 6] [0, 1], ?_⟩
     refine qR [8] (by kernel_rfl) (by simp) (xA rfl ?_ qU)
     refine qG H 1 [.slice (aa b219 0) parts.length parts.length] Tryz.sizeOf22 fun w276 H => ?_
     try dsimp only [List.set] at H
     refine ⟨H.pick [4, 5, 6] [0, 1], ?_⟩
     refine xq (by kernel_rfl) (?_)
     exact meet ⟨_, b263, b271, b219, b273, (by exact qg (qg (qg (qg (qg (rfl) rfl) rfl) rfl) rfl) rfl), N, H.pick [1, 2, 3, 0, 4, 5, 6] [0, 1]⟩
    refine xy H ti22 [.slice none 0 0] fun b277 w278 H => ?_
    refine ⟨H.pick [3, 4, 5] [0, 1], ?_⟩
    refine qR [0] (by kernel_rfl) (by simp) (xA rfl ?_ qU)
    refine Qs [.slice none 0 0] [] ?_
    refine ⟨H.pick [3, 4, 5] [0, 1], ?_⟩
    refine qR [1] (by kernel_rfl) (by simp) (xA rfl ?_ qU)
    refine zh H [.slice none 0 0] fun b279 w280 H => ?_
    refine ⟨H.pick [4, 5, 6] [0, 1], ?_⟩
    refine qR [7] (by kernel_rfl) (by simp) (xA rfl ?_ qU)
    refine qG H 2 [pp b279 0] Tryz.sizeOf219 fun w281 H => ?_
    try dsimp only [List.set] at H
    refine ⟨H.pick [4, 5, 6] [0, 1], ?_⟩
    refine qR [8] (by kernel_rfl) (by simp) (xA rfl ?_ qU)
    refine qG H 1 [.slice (aa b219 0) parts.length parts.length] Tryz.sizeOf22 fun w282 H => ?_
    try dsimp only [List.set] at H
    refine ⟨H.pick [4, 5, 6] [0, 1], ?_⟩
    refine xq (by kernel_rfl) (?_)
    exact meet ⟨_, b263, b277, b219, b279, (by exact qg (qg (qg (qg (qg (rfl) rfl) rfl) rfl) rfl) rfl), N, H.pick [1, 2, 3, 0, 4, 5, 6] [0, 1]⟩
   refine xy H ti22 [.slice none 0 0] fun b283 w284 H => ?_
   refine ⟨H.pick [2, 3, 4] [0, 1], ?_⟩
   refine qR [0, 5] (by kernel_rfl) (by simp) (xA rfl ?_ (xA rfl ?_ qU))
   ·skip
    refine Qs [.slice none 0 0] [] ?_
    refine ⟨H.pick [2, 3, 4] [0, 1], ?_⟩
    refine qR [1, 5] (by kernel_rfl) (by simp) (xA rfl ?_ (xA rfl ?_ qU))
    ·skip
     refine zh H [.slice none 0 0] fun b285 w286 H => ?_
     refine ⟨H.pick [3, 4, 5] [0, 1], ?_⟩
     refine qR [5] (by kernel_rfl) (by simp) (xA rfl ?_ qU)
     refine xy H ti219 [.pointer none] fun b287 w288 H => ?_
     refine ⟨H.pick [4, 5, 6] [0, 1], ?_⟩
     refine qR [7] (by kernel_rfl) (by simp) (xA rfl ?_ qU)
     refine qG H 0 [pp b285 0] Tryz.sizeOf219 fun w289 H => ?_
     try dsimp only [List.set] at H
     refine ⟨H.pick [4, 5, 6] [0, 1], ?_⟩
     refine qR [8] (by kernel_rfl) (by simp) (xA rfl ?_ qU)
     refine qG H 2 [.slice (aa b219 0) parts.length parts.length] Tryz.sizeOf22 fun w290 H => ?_
     try dsimp only [List.set] at H
     refine ⟨H.pick [4, 5, 6] [0, 1], ?_⟩
     refine xq (by kernel_rfl) (?_)
     exact meet ⟨_, b287, b283, b219, b285, (by exact qg (qg (qg (qg (qg (rfl) rfl) rfl) rfl) rfl) rfl), N, H.pick [2, 0, 3, 1, 4, 5, 6] [0, 1]⟩
    refine xy H ti219 [.pointer none] fun b291 w292 H => ?_
    refine ⟨H.pick [3, 4, 5] [0, 1], ?_⟩
    refine qR [1] (by kernel_rfl) (by simp) (xA rfl ?_ qU)
    refine zh H [.slice none 0 0] fun b293 w294 H => ?_
    refine ⟨H.pick [4, 5, 6] [0, 1], ?_⟩
    refine qR [7] (by kernel_rfl) (by simp) (xA rfl ?_ qU)
    refine qG H 1 [pp b293 0] Tryz.sizeOf219 fun w295 H => ?_
    try dsimp only [List.set] at H
    refine ⟨H.pick [4, 5, 6] [0, 1], ?_⟩
    refine qR [8] (by kernel_rfl) (by simp) (xA rfl ?_ qU)
    refine qG H 2 [.slice (aa b219 0) parts.length parts.length] Tryz.sizeOf22 fun w296 H => ?_
    try dsimp only [List.set] at H
    refine ⟨H.pick [4, 5, 6] [0, 1], ?_⟩
    refine xq (by kernel_rfl) (?_)
    exact meet ⟨_, b291, b283, b219, b293, (by exact qg (qg (qg (qg (qg (rfl) rfl) rfl) rfl) rfl) rfl), N, H.pick [2, 1, 3, 0, 4, 5, 6] [0, 1]⟩
   refine xy H ti219 [.pointer none] fun b297 w298 H => ?_
   refine ⟨H.pick [3, 4, 5] [0, 1], ?_⟩
   refine qR [0] (by kernel_rfl) (by simp) (xA rfl ?_ qU)
   refine Qs [.slice none 0 0] [] ?_
   refine ⟨H.pick [3, 4, 5] [0, 1], ?_⟩
   refine qR [1] (by kernel_rfl) (by simp) (xA rfl ?_ qU)
   refine zh H [.slice none 0 0] fun b299 w300 H => ?_
   refine ⟨H.pick [4, 5, 6] [0, 1], ?_⟩
   refine qR [7] (by kernel_rfl) (by simp) (xA rfl ?_ qU)
   refine qG H 1 [pp b299 0] Tryz.sizeOf219 fun w301 H => ?_
   try dsimp only [List.set] at H
   refine ⟨H.pick [4, 5, 6] [0, 1], ?_⟩
   refine qR [8] (by kernel_rfl) (by simp) (xA rfl ?_ qU)
   refine qG H 2 [.slice (aa b219 0) parts.length parts.length] Tryz.sizeOf22 fun w302 H => ?_
   try dsimp only [List.set] at H
   refine ⟨H.pick [4, 5, 6] [0, 1], ?_⟩
   refine xq (by kernel_rfl) (?_)
   exact meet ⟨_, b297, b283, b219, b299, (by exact qg (qg (qg (qg (qg (rfl) rfl) rfl) rfl) rfl) rfl), N, H.pick [2, 1, 3, 0, 4, 5, 6] [0, 1]⟩
  ·skip
   refine xy H ti219 [.pointer none] fun b303 w304 H => ?_
   refine ⟨H.pick [1, 2, 3] [0, 1], ?_⟩
   refine qR [0, 4, 6] (by kernel_rfl) (by simp) (xA rfl ?_ (xA rfl ?_ (xA rfl ?_ qU)))
   ·skip
    refine Qs [.slice none 0 0] [] ?_
    refine ⟨H.pick [1, 2, 3] [0, 1], ?_⟩
    refine qR [1, 4, 6] (by kernel_rfl) (by simp) (xA rfl ?_ (xA rfl ?_ (xA rfl ?_ qU)))
    ·skip
     refine zh H [.slice none 0 0] fun b305 w306 H => ?_
     refine ⟨H.pick [2, 3, 4] [0, 1], ?_⟩
     refine qR [4, 6] (by kernel_rfl) (by simp) (xA rfl ?_ (xA rfl ?_ qU))
     ·skip
      refine zt H Tryz.underlying22 ti2 parts.length rfl rfl (by omega) (by omega) (by omega) fun b307 w308 H => ?_
      refine ⟨H.pick [3, 4, 5] [0, 1], ?_⟩
      refine qR [6] (by kernel_rfl) (by simp) (xA rfl ?_ qU)
      refine xy H ti22 [.slice none 0 0] fun b309 w310 H => ?_
      refine ⟨H.pick [4, 5, 6] [0, 1], ?_⟩
      refine qR [7] (by kernel_rfl) (by simp) (xA rfl ?_ qU)
      refine qG H 3 [pp b305 0] Tryz.sizeOf219 fun w311 H => ?_
      try dsimp only [List.set] at H
      refine ⟨H.pick [4, 5, 6] [0, 1], ?_⟩
      refine qR [8] (by kernel_rfl) (by simp) (xA rfl ?_ qU)
      refine qG H 0 [.slice (aa b307 0) parts.length parts.length] Tryz.sizeOf22 fun w312 H => ?_
      try dsimp only [List.set] at H
      refine ⟨H.pick [4, 5, 6] [0, 1], ?_⟩
      refine xq (by kernel_rfl) (?_)
      exact meet ⟨_, b303, b309, b307, b305, (by exact qg (qg (qg (qg (qg (rfl) rfl) rfl) rfl) rfl) rfl), N, H.pick [0, 3, 1, 2, 4, 5, 6] [0, 1]⟩
     refine xy H ti22 [.slice none 0 0] fun b313 w314 H => ?_
     refine ⟨H.pick [3, 4, 5] [0, 1], ?_⟩
     refine qR [4, 7] (by kernel_rfl) (by simp) (xA rfl ?_ (xA rfl ?_ qU))
     ·skip
      refine zt H Tryz.underlying22 ti2 parts.length rfl rfl (by omega) (by omega) (by omega) fun b315 w316 H => ?_
      refine ⟨H.pick [4, 5, 6] [0, 1], ?_⟩
      refine qR [7] (by kernel_rfl) (by simp) (xA rfl ?_ qU)
      refine qG H 3 [pp b305 0] Tryz.sizeOf219 fun w317 H => ?_
      try dsimp only [List.set] at H
      refine ⟨H.pick [4, 5, 6] [0, 1], ?_⟩
      refine qR [8] (by kernel_rfl) (by simp) (xA rfl ?_ qU)
      refine qG H 1 [.slice (aa b315 0) parts.length parts.length] Tryz.sizeOf22 fun w318 H => ?_
      try dsimp only [List.set] at H
      refine ⟨H.pick [4, 5, 6] [0, 1], ?_⟩
      refine xq (by kernel_rfl) (?_)
      exact meet ⟨_, b303, b313, b315, b305, (by exact qg (qg (qg (qg (qg (rfl) rfl) rfl) rfl) rfl) rfl), N, H.pick [1, 3, 0, 2, 4, 5, 6] [0, 1]⟩
     refine qG H 2 [pp b305 0] Tryz.sizeOf219 fun w319 H => ?_
     try dsimp only [List.set] at H
     refine ⟨H.pick [3, 4, 5] [0, 1], ?_⟩
     refine qR [4] (by kernel_rfl) (by simp) (xA rfl ?_ qU)
     refine zt H Tryz.underlying22 ti2 parts.length rfl rfl (by omega) (by omega) (by omega) fun b320 w321 H => ?_
     refine ⟨H.pick [4, 5, 6] [0, 1], ?_⟩
     refine qR [8] (by kernel_rfl) (by simp) (xA rfl ?_ qU)
     refine qG H 1 [.slice (aa b320 0) parts.length parts.length] Tryz.sizeOf22 fun w322 H => ?_
     try dsimp only [List.set] at H
     refine ⟨H.pick [4, 5, 6] [0, 1], ?_⟩
     refine xq (by kernel_rfl) (?_)
     exact meet ⟨_, b303, b313, b320, b305, (by exact qg (qg (qg (qg (qg (rfl) rfl) rfl) rfl) rfl) rfl), N, H.pick [1, 3, 0, 2, 4, 5, 6] [0, 1]⟩
    ·skip
     refine zt H Tryz.underlying22 ti2 parts.length rfl rfl (by omega) (by omega) (by omega) fun b323 w324 H => ?_
     refine ⟨H.pick [2, 3, 4] [0, 1], ?_⟩
     refine qR [1, 6] (by kernel_rfl) (by simp) (xA rfl ?_ (xA rfl ?_ qU))
     ·skip
      refine zh H [.slice none 0 0] fun b325 w326 H => ?_
      refine ⟨H.pick [3, 4, 5] [0, 1], ?_⟩
      refine qR [6] (by kernel_rfl) (by simp) (xA rfl ?_ qU)
      refine xy H ti22 [.slice none 0 0] fun b327 w328 H => ?_
      refine ⟨H.pick [4, 5, 6] [0, 1], ?_⟩
      refine qR [7] (by kernel_rfl) (by simp) (xA rfl ?_ qU)
      refine qG H 3 [pp b325 0] Tryz.sizeOf219 fun w329 H => ?_
      try dsimp only [List.set] at H
      refine ⟨H.pick [4, 5, 6] [0, 1], ?_⟩
      refine qR [8] (by kernel_rfl) (by simp) (xA rfl ?_ qU)
      refine qG H 0 [.slice (aa b323 0) parts.length parts.length] Tryz.sizeOf22 fun w330 H => ?_
      try dsimp only [List.set] at H
      refine ⟨H.pick [4, 5, 6] [0, 1], ?_⟩
      refine xq (by kernel_rfl) (?_)
      exact meet ⟨_, b303, b327, b323, b325, (by exact qg (qg (qg (qg (qg (rfl) rfl) rfl) rfl) rfl) rfl), N, H.pick [0, 3, 2, 1, 4, 5, 6] [0, 1]⟩
     refine xy H ti22 [.slice none 0 0] fun b331 w332 H => ?_
     refine ⟨H.pick [3, 4, 5] [0, 1], ?_⟩
     refine qR [1] (by kernel_rfl) (by simp) (xA rfl ?_ qU)
     refine zh H [.slice none 0 0] fun b333 w334 H => ?_
     refine ⟨H.pick [4, 5, 6] [0, 1], ?_⟩
     refine qR [7] (by kernel_rfl) (by simp) (xA rfl ?_ qU)
     refine qG H 3 [pp b333 0] Tryz.sizeOf219 fun w335 H => ?_
     try dsimp only [List.set] at H
     refine ⟨H.pick [4, 5, 6] [0, 1], ?_⟩
     refine qR [8] (by kernel_rfl) (by simp) (xA rfl ?_ qU)
     refine qG H 1 [.slice (aa b323 0) parts.length parts.length] Tryz.sizeOf22 fun w336 H => ?_
     try dsimp only [List.set] at H
     refine ⟨H.pick [4, 5, 6] [0, 1], ?_⟩
     refine xq (by kernel_rfl) (?_)
     exact meet ⟨_, b303, b331, b323, b333, (by exact qg (qg (qg (qg (qg (rfl) rfl) rfl) rfl) rfl) rfl), N, H.pick [1, 3, 2, 0, 4, 5, 6] [0, 1]⟩
    refine xy H ti22 [.slice none 0 0] fun b337 w338 H => ?_
    refine ⟨H.pick [2, 3, 4] [0, 1], ?_⟩
    refine qR [1, 4] (by kernel_rfl) (by simp) (xA rfl ?_ (xA rfl ?_ qU))
    ·skip
     refine zh H [.slice none 0 0] fun b339 w340 H => ?_
     refine ⟨H.pick [3, 4, 5] [0, 1], ?_⟩
     refine qR [4, 7] (by kernel_rfl) (by simp) (xA rfl ?_ (xA rfl ?_ qU))
     ·skip
      refine zt H Tryz.underlying22 ti2 parts.length rfl rfl (by omega) (by omega) (by omega) fun b341 w342 H => ?_
      refine ⟨H.pick [4, 5, 6] [0, 1], ?_⟩
      refine qR [7] (by kernel_rfl) (by simp) (xA rfl ?_ qU)
      refine qG H 3 [pp b339 0] Tryz.sizeOf219 fun w343 H => ?_
      try dsimp only [List.set] at H
      refine ⟨H.pick [4, 5, 6] [0, 1], ?_⟩
      refine qR [8] (by kernel_rfl) (by simp) (xA rfl ?_ qU)
      refine qG H 2 [.slice (aa b341 0) parts.length parts.length] Tryz.sizeOf22 fun w344 H => ?_
      try dsimp only [List.set] at H
      refine ⟨H.pick [4, 5, 6] [0, 1], ?_⟩
      refine xq (by kernel_rfl) (?_)
      exact meet ⟨_, b303, b337, b341, b339, (by exact qg (qg (qg (qg (qg (rfl) rfl) rfl) rfl) rfl) rfl), N, H.pick [2, 3, 0, 1, 4, 5, 6] [0, 1]⟩
     refine qG H 2 [pp b339 0] Tryz.sizeOf219 fun w345 H => ?_
     try dsimp only [List.set] at H
     refine ⟨H.pick [3, 4, 5] [0, 1], ?_⟩
     refine qR [4] (by kernel_rfl) (by simp) (xA rfl ?_ qU)
     refine zt H Tryz.underlying22 ti2 parts.length rfl rfl (by omega) (by omega) (by omega) fun b346 w347 H => ?_
     refine ⟨H.pick [4, 5, 6] [0, 1], ?_⟩
     refine qR [8] (by kernel_rfl) (by simp) (xA rfl ?_ qU)
     refine qG H 2 [.slice (aa b346 0) parts.length parts.length] Tryz.sizeOf22 fun w348 H => ?_
     try dsimp only [List.set] at H
     refine ⟨H.pick [4, 5, 6] [0, 1], ?_⟩
     refine xq (by kernel_rfl) (?_)
     exact meet ⟨_, b303, b337, b346, b339, (by exact qg (qg (qg (qg (qg (rfl) rfl) rfl) rfl) rfl) rfl), N, H.pick [2, 3, 0, 1, 4, 5, 6] [0, 1]⟩
    refine zt H Tryz.underlying22 ti2 parts.length rfl rfl (by omega) (by omega) (by omega) fun b349 w350 H => ?_
    refine ⟨H.pick [3, 4, 5] [0, 1], ?_⟩
    refine qR [1] (by kernel_rfl) (by simp) (xA rfl ?_ qU)
    refine zh H [.slice none 0 0] fun b351 w352 H => ?_
    refine ⟨H.pick [4, 5, 6] [0, 1], ?_⟩
    refine qR [7] (by kernel_rfl) (by simp) (xA rfl ?_ qU)
    refine qG H 3 [pp b351 0] Tryz.sizeOf219 fun w353 H => ?_
    try dsimp only [List.set] at H
    refine ⟨H.pick [4, 5, 6] [0, 1], ?_⟩
    refine qR [8] (by kernel_rfl) (by simp) (xA rfl ?_ qU)
    refine qG H 2 [.slice (aa b349 0) parts.length parts.length] Tryz.sizeOf22 fun w354 H => ?_
    try dsimp only [List.set] at H
    refine ⟨H.pick [4, 5, 6] [0, 1], ?_⟩
    refine xq (by kernel_rfl) (?_)
    exact meet ⟨_, b303, b337, b349, b351, (by exact qg (qg (qg (qg (qg (rfl) rfl) rfl) rfl) rfl) rfl), N, H.pick [2, 3, 1, 0, 4, 5, 6] [0, 1]⟩
   ·skip
    refine zt H Tryz.underlying22 ti2 parts.length rfl rfl (by omega) (by omega) (by omega) fun b355 w356 H => ?_
    refine ⟨H.pick [2, 3, 4] [0, 1], ?_⟩
    refine qR [0, 6] (by kernel_rfl) (by simp) (xA rfl ?_ (xA rfl ?_ qU))
    ·skip
     refine Qs [.slice none 0 0] [] ?_
     refine ⟨H.pick [2, 3, 4] [0, 1], ?_⟩
     refine qR [1, 6] (by kernel_rfl) (by simp) (xA rfl ?_ (xA rfl ?_ qU))
     ·skip
      refine zh H [.slice none 0 0] fun b357 w358 H => ?_
      refine ⟨H.pick [3, 4, 5] [0, 1], ?_⟩
      refine qR [6] (by kernel_rfl) (by simp) (xA rfl ?_ qU)
      refine xy H ti22 [.slice none 0 0] fun b359 w360 H => ?_
      refine ⟨H.pick [4, 5, 6] [0, 1], ?_⟩
      refine qR [7] (by kernel_rfl) (by simp) (xA rfl ?_ qU)
      refine qG H 3 [pp b357 0] Tryz.sizeOf219 fun w361 H => ?_
      try dsimp only [List.set] at H
      refine ⟨H.pick [4, 5, 6] [0, 1], ?_⟩
      refine qR [8] (by kernel_rfl) (by simp) (xA rfl ?_ qU)
      refine qG H 0 [.slice (aa b355 0) parts.length parts.length] Tryz.sizeOf22 fun w362 H => ?_
      try dsimp only [List.set] at H
      refine ⟨H.pick [4, 5, 6] [0, 1], ?_⟩
      refine xq (by kernel_rfl) (?_)
      exact meet ⟨_, b303, b359, b355, b357, (by exact qg (qg (qg (qg (qg (rfl) rfl) rfl) rfl) rfl) rfl), N, H.pick [0, 3, 2, 1, 4, 5, 6] [0, 1]⟩
     refine xy H ti22 [.slice none 0 0] fun b363 w364 H => ?_
     refine ⟨H.pick [3, 4, 5] [0, 1], ?_⟩
     refine qR [1] (by kernel_rfl) (by simp) (xA rfl ?_ qU)
     refine zh H [.slice none 0 0] fun b365 w366 H => ?_
     refine ⟨H.pick [4, 5, 6] [0, 1], ?_⟩
     refine qR [7] (by kernel_rfl) (by simp) (xA rfl ?_ qU)
     refine qG H 3 [pp b365 0] Tryz.sizeOf219 fun w367 H => ?_
     try dsimp only [List.set] at H
     refine ⟨H.pick [4, 5, 6] [0, 1], ?_⟩
     refine qR [8] (by kernel_rfl) (by simp) (xA rfl ?_ qU)
     refine qG H 1 [.slice (aa b355 0) parts.length parts.length] Tryz.sizeOf22 fun w368 H => ?_
     try dsimp only [List.set] at H
     refine ⟨H.pick [4, 5, 6] [0, 1], ?_⟩
     refine xq (by kernel_rfl) (?_)
     exact meet ⟨_, b303, b363, b355, b365, (by exact qg (qg (qg (qg (qg (rfl) rfl) rfl) rfl) rfl) rfl), N, H.pick [1, 3, 2, 0, 4, 5, 6] [0, 1]⟩
    refine xy H ti22 [.slice none 0 0] fun b369 w370 H => ?_
    refine ⟨H.pick [3, 4, 5] [0, 1], ?_⟩
    refine qR [0] (by kernel_rfl) (by simp) (xA rfl ?_ qU)
    refine Qs [.slice none 0 0] [] ?_
    refine ⟨H.pick [3, 4, 5] [0, 1], ?_⟩
    refine qR [1] (by kernel_rfl) (by simp) (xA rfl ?_ qU)
    refine zh H [.slice none 0 0] fun b371 w372 H => ?_
    refine ⟨H.pick [4, 5, 6] [0, 1], ?_⟩
    refine qR [7] (by kernel_rfl) (by simp) (xA rfl ?_ qU)
    refine qG H 3 [pp b371 0] Tryz.sizeOf219 fun w373 H => ?_
    try dsimp only [List.set] at H
    refine ⟨H.pick [4, 5, 6] [0, 1], ?_⟩
    refine qR [8] (by kernel_rfl) (by simp) (xA rfl ?_ qU)
    refine qG H 1 [.slice (aa b355 0) parts.length parts.length] Tryz.sizeOf22 fun w374 H => ?_
    try dsimp only [List.set] at H
    refine ⟨H.pick [4, 5, 6] [0, 1], ?_⟩
    refine xq (by kernel_rfl) (?_)
    exact meet ⟨_, b303, b369, b355, b371, (by exact qg (qg (qg (qg (qg (rfl) rfl) rfl) rfl) rfl) rfl), N, H.pick [1, 3, 2, 0, 4, 5, 6] [0, 1]⟩
   refine xy H ti22 [.slice none 0 0] fun b375 w376 H => ?_
   refine ⟨H.pick [2, 3, 4] [0, 1], ?_⟩
   refine qR [0, 4] (by kernel_rfl) (by simp) (xA rfl ?_ (xA rfl ?_ qU))
   ·skip
    refine Qs [.slice none 0 0] [] ?_
    refine ⟨H.pick [2, 3, 4] [0, 1], ?_⟩
    refine qR [1, 4] (by kernel_rfl) (by simp) (xA rfl ?_ (xA rfl ?_ qU))
    ·skip
     refine zh H [.slice none 0 0] fun b377 w378 H => ?_
     refine ⟨H.pick [3, 4, 5] [0, 1], ?_⟩
     refine qR [4, 7] (by kernel_rfl) (by simp) (xA rfl ?_ (xA rfl ?_ qU))
     ·skip
      refine zt H Tryz.underlying22 ti2 parts.length rfl rfl (by omega) (by omega) (by omega) fun b379 w380 H => ?_
      refine ⟨H.pick [4, 5, 6] [0, 1], ?_⟩
      refine qR [7] (by kernel_rfl) (by simp) (xA rfl ?_ qU)
      refine qG H 3 [pp b377 0] Tryz.sizeOf219 fun w381 H => ?_
      try dsimp only [List.set] at H
      refine ⟨H.pick [4, 5, 6] [0, 1], ?_⟩
      refine qR [8] (by kernel_rfl) (by simp) (xA rfl ?_ qU)
      refine qG H 2 [.slice (aa b379 0) parts.length parts.length] Tryz.sizeOf22 fun w382 H => ?_
      try dsimp only [List.set] at H
      refine ⟨H.pick [4, 5, 6] [0, 1], ?_⟩
      refine xq (by kernel_rfl) (?_)
      exact meet ⟨_, b303, b375, b379, b377, (by exact qg (qg (qg (qg (qg (rfl) rfl) rfl) rfl) rfl) rfl), N, H.pick [2, 3, 0, 1, 4, 5, 6] [0, 1]⟩
     refine qG H 2 [pp b377 0] Tryz.sizeOf219 fun w383 H => ?_
     try dsimp only [List.set] at H
     refine ⟨H.pick [3, 4, 5] [0, 1], ?_⟩
     refine qR [4] (by kernel_rfl) (by simp) (xA rfl ?_ qU)
     refine zt H Tryz.underlying22 ti2 parts.length rfl rfl (by omega) (by omega) (by omega) fun b384 w385 H => ?_
     refine ⟨H.pick [4, 5, 6] [0, 1], ?_⟩
     refine qR [8] (by kernel_rfl) (by simp) (xA rfl ?_ qU)
     refine qG H 2 [.slice (aa b384 0) parts.length parts.length] Tryz.sizeOf22 fun w386 H => ?_
     try dsimp only [List.set] at H
     refine ⟨H.pick [4, 5, 6] [0, 1], ?_⟩
     refine xq (by kernel_rfl) (?_)
     exact meet ⟨_, b303, b375, b384, b377, (by exact qg (qg (qg (qg (qg (rfl) rfl) rfl) rfl) rfl) rfl), N, H.pick [2, 3, 0, 1, 4, 5, 6] [0, 1]⟩
    refine zt H Tryz.underlying22 ti2 parts.length rfl rfl (by omega) (by omega) (by omega) fun b387 w388 H => ?_
    refine ⟨H.pick [3, 4, 5] [0, 1], ?_⟩
    refine qR [1] (by kernel_rfl) (by simp) (xA rfl ?_ qU)
    refine zh H [.slice none 0 0] fun b389 w390 H => ?_
    refine ⟨H.pick [4, 5, 6] [0, 1], ?_⟩
    refine qR [7] (by kernel_rfl) (by simp) (xA rfl ?_ qU)
    refine qG H 3 [pp b389 0] Tryz.sizeOf219 fun w391 H => ?_
    try dsimp only [List.set] at H
    refine ⟨H.pick [4, 5, 6] [0, 1], ?_⟩
    refine qR [8] (by kernel_rfl) (by simp) (xA rfl ?_ qU)
    refine qG H 2 [.slice (aa b387 0) parts.length parts.length] Tryz.sizeOf22 fun w392 H => ?_
    try dsimp only [List.set] at H
    refine ⟨H.pick [4, 5, 6] [0, 1], ?_⟩
    refine xq (by kernel_rfl) (?_)
    exact meet ⟨_, b303, b375, b387, b389, (by exact qg (qg (qg (qg (qg (rfl) rfl) rfl) rfl) rfl) rfl), N, H.pick [2, 3, 1, 0, 4, 5, 6] [0, 1]⟩
   refine zt H Tryz.underlying22 ti2 parts.length rfl rfl (by omega) (by omega) (by omega) fun b393 w394 H => ?_
   refine ⟨H.pick [3, 4, 5] [0, 1], ?_⟩
   refine qR [0] (by kernel_rfl) (by simp) (xA rfl ?_ qU)
   refine Qs [.slice none 0 0] [] ?_
   refine ⟨H.pick [3, 4, 5] [0, 1], ?_⟩
   refine qR [1] (by kernel_rfl) (by simp) (xA rfl ?_ qU)
   refine zh H [.slice none 0 0] fun b395 w396 H => ?_
   refine ⟨H.pick [4, 5, 6] [0, 1], ?_⟩
   refine qR [7] (by kernel_rfl) (by simp) (xA rfl ?_ qU)
   refine qG H 3 [pp b395 0] Tryz.sizeOf219 fun w397 H => ?_
   try dsimp only [List.set] at H
   refine ⟨H.pick [4, 5, 6] [0, 1], ?_⟩
   refine qR [8] (by kernel_rfl) (by simp) (xA rfl ?_ qU)
   refine qG H 2 [.slice (aa b393 0) parts.length parts.length] Tryz.sizeOf22 fun w398 H => ?_
   try dsimp only [List.set] at H
   refine ⟨H.pick [4, 5, 6] [0, 1], ?_⟩
   refine xq (by kernel_rfl) (?_)
   exact meet ⟨_, b303, b375, b393, b395, (by exact qg (qg (qg (qg (qg (rfl) rfl) rfl) rfl) rfl) rfl), N, H.pick [2, 3, 1, 0, 4, 5, 6] [0, 1]⟩
  refine xy H ti22 [.slice none 0 0] fun b399 w400 H => ?_
  refine ⟨H.pick [1, 2, 3] [0, 1], ?_⟩
  refine qR [0, 4, 5] (by kernel_rfl) (by simp) (xA rfl ?_ (xA rfl ?_ (xA rfl ?_ qU)))
  ·skip
   refine Qs [.slice none 0 0] [] ?_
   refine ⟨H.pick [1, 2, 3] [0, 1], ?_⟩
   refine qR [1, 4, 5] (by kernel_rfl) (by simp) (xA rfl ?_ (xA rfl ?_ (xA rfl ?_ qU)))
   ·skip
    refine zh H [.slice none 0 0] fun b401 w402 H => ?_
    refine ⟨H.pick [2, 3, 4] [0, 1], ?_⟩
    refine qR [4, 5] (by kernel_rfl) (by simp) (xA rfl ?_ (xA rfl ?_ qU))
    ·skip
     refine zt H Tryz.underlying22 ti2 parts.length rfl rfl (by omega) (by omega) (by omega) fun b403 w404 H => ?_
     refine ⟨H.pick [3, 4, 5] [0, 1], ?_⟩
     refine qR [5] (by kernel_rfl) (by simp) (xA rfl ?_ qU)
     refine xy H ti219 [.pointer none] fun b405 w406 H => ?_
     refine ⟨H.pick [4, 5, 6] [0, 1], ?_⟩
     refine qR [7] (by kernel_rfl) (by simp) (xA rfl ?_ qU)
     refine qG H 0 [pp b401 0] Tryz.sizeOf219 fun w407 H => ?_
     try dsimp only [List.set] at H
     refine ⟨H.pick [4, 5, 6] [0, 1], ?_⟩
     refine qR [8] (by kernel_rfl) (by simp) (xA rfl ?_ qU)
     refine qG H 3 [.slice (aa b403 0) parts.length parts.length] Tryz.sizeOf22 fun w408 H => ?_
     try dsimp only [List.set] at H
     refine ⟨H.pick [4, 5, 6] [0, 1], ?_⟩
     refine xq (by kernel_rfl) (?_)
     exact meet ⟨_, b405, b399, b403, b401, (by exact qg (qg (qg (qg (qg (rfl) rfl) rfl) rfl) rfl) rfl), N, H.pick [3, 0, 1, 2, 4, 5, 6] [0, 1]⟩
    refine xy H ti219 [.pointer none] fun b409 w410 H => ?_
    refine ⟨H.pick [3, 4, 5] [0, 1], ?_⟩
    refine qR [4, 7] (by kernel_rfl) (by simp) (xA rfl ?_ (xA rfl ?_ qU))
    ·skip
     refine zt H Tryz.underlying22 ti2 parts.length rfl rfl (by omega) (by omega) (by omega) fun b411 w412 H => ?_
     refine ⟨H.pick [4, 5, 6] [0, 1], ?_⟩
     refine qR [7] (by kernel_rfl) (by simp) (xA rfl ?_ qU)
     refine qG H 1 [pp b401 0] Tryz.sizeOf219 fun w413 H => ?_
     try dsimp only [List.set] at H
     refine ⟨H.pick [4, 5, 6] [0, 1], ?_⟩
     refine qR [8] (by kernel_rfl) (by simp) (xA rfl ?_ qU)
     refine qG H 3 [.slice (aa b411 0) parts.length parts.length] Tryz.sizeOf22 fun w414 H => ?_
     try dsimp only [List.set] at H
     refine ⟨H.pick [4, 5, 6] [0, 1], ?_⟩
     refine xq (by kernel_rfl) (?_)
     exact meet ⟨_, b409, b399, b411, b401, (by exact qg (qg (qg (qg (qg (rfl) rfl) rfl) rfl) rfl) rfl), N, H.pick [3, 1, 0, 2, 4, 5, 6] [0, 1]⟩
    refine qG H 0 [pp b401 0] Tryz.sizeOf219 fun w415 H => ?_
    try dsimp only [List.set] at H
    refine ⟨H.pick [3, 4, 5] [0, 1], ?_⟩
    refine qR [4] (by kernel_rfl) (by simp) (xA rfl ?_ qU)
    refine zt H Tryz.underlying22 ti2 parts.length rfl rfl (by omega) (by omega) (by omega) fun b416 w417 H => ?_
    refine ⟨H.pick [4, 5, 6] [0, 1], ?_⟩
    refine qR [8] (by kernel_rfl) (by simp) (xA rfl ?_ qU)
    refine qG H 3 [.slice (aa b416 0) parts.length parts.length] Tryz.sizeOf22 fun w418 H => ?_
    try dsimp only [List.set] at H
    refine ⟨H.pick [4, 5, 6] [0, 1], ?_⟩
    refine xq (by kernel_rfl) (?_)
    exact meet ⟨_, b409, b399, b416, b401, (by exact qg (qg (qg (qg (qg (rfl) rfl) rfl) rfl) rfl) rfl), N, H.pick [3, 1, 0, 2, 4, 5, 6] [0, 1]⟩
   ·skip
    refine zt H Tryz.underlying22 ti2 parts.length rfl rfl (by omega) (by omega) (by omega) fun b419 w420 H => ?_
    refine ⟨H.pick [2, 3, 4] [0, 1], ?_⟩
    refine qR [1, 5] (by kernel_rfl) (by simp) (xA rfl ?_ (xA rfl ?_ qU))
    ·skip
     refine zh H [.slice none 0 0] fun b421 w422 H => ?_
     refine ⟨H.pick [3, 4, 5] [0, 1], ?_⟩
     refine qR [5] (by kernel_rfl) (by simp) (xA rfl ?_ qU)
     refine xy H ti219 [.pointer none] fun b423 w424 H => ?_
     refine ⟨H.pick [4, 5, 6] [0, 1], ?_⟩
     refine qR [7] (by kernel_rfl) (by simp) (xA rfl ?_ qU)
     refine qG H 0 [pp b421 0] Tryz.sizeOf219 fun w425 H => ?_
     try dsimp only [List.set] at H
     refine ⟨H.pick [4, 5, 6] [0, 1], ?_⟩
     refine qR [8] (by kernel_rfl) (by simp) (xA rfl ?_ qU)
     refine qG H 3 [.slice (aa b419 0) parts.length parts.length] Tryz.sizeOf22 fun w426 H => ?_
     try dsimp only [List.set] at H
     refine ⟨H.pick [4, 5, 6] [0, 1], ?_⟩
     refine xq (by kernel_rfl) (?_)
     exact meet ⟨_, b423, b399, b419, b421, (by exact qg (qg (qg (qg (qg (rfl) rfl) rfl) rfl) rfl) rfl), N, H.pick [3, 0, 2, 1, 4, 5, 6] [0, 1]⟩
    refine xy H ti219 [.pointer none] fun b427 w428 H => ?_
    refine ⟨H.pick [3, 4, 5] [0, 1], ?_⟩
    refine qR [1] (by kernel_rfl) (by simp) (xA rfl ?_ qU)
    refine zh H [.slice none 0 0] fun b429 w430 H => ?_
    refine ⟨H.pick [4, 5, 6] [0, 1], ?_⟩
    refine qR [7] (by kernel_rfl) (by simp) (xA rfl ?_ qU)
    refine qG H 1 [pp b429 0] Tryz.sizeOf219 fun w431 H => ?_
    try dsimp only [List.set] at H
    refine ⟨H.pick [4, 5, 6] [0, 1], ?_⟩
    refine qR [8] (by kernel_rfl) (by simp) (xA rfl ?_ qU)
    refine qG H 3 [.slice (aa b419 0) parts.length parts.length] Tryz.sizeOf22 fun w432 H => ?_
    try dsimp only [List.set] at H
    refine ⟨H.pick [4, 5, 6] [0, 1], ?_⟩
    refine xq (by kernel_rfl) (?_)
    exact meet ⟨_, b427, b399, b419, b429, (by exact qg (qg (qg (qg (qg (rfl) rfl) rfl) rfl) rfl) rfl), N, H.pick [3, 1, 2, 0, 4, 5, 6] [0, 1]⟩
   refine xy H ti219 [.pointer none] fun b433 w434 H => ?_
   refine ⟨H.pick [2, 3, 4] [0, 1], ?_⟩
   refine qR [1, 4] (by kernel_rfl) (by simp) (xA rfl ?_ (xA rfl ?_ qU))
   ·skip
    refine zh H [.slice none 0 0] fun b435 w436 H => ?_
    refine ⟨H.pick [3, 4, 5] [0, 1], ?_⟩
    refine qR [4, 7] (by kernel_rfl) (by simp) (xA rfl ?_ (xA rfl ?_ qU))
    ·skip
     refine zt H Tryz.underlying22 ti2 parts.length rfl rfl (by omega) (by omega) (by omega) fun b437 w438 H => ?_
     refine ⟨H.pick [4, 5, 6] [0, 1], ?_⟩
     refine qR [7] (by kernel_rfl) (by simp) (xA rfl ?_ qU)
     refine qG H 2 [pp b435 0] Tryz.sizeOf219 fun w439 H => ?_
     try dsimp only [List.set] at H
     refine ⟨H.pick [4, 5, 6] [0, 1], ?_⟩
     refine qR [8] (by kernel_rfl) (by simp) (xA rfl ?_ qU)
     refine qG H 3 [.slice (aa b437 0) parts.length parts.length] Tryz.sizeOf22 fun w440 H => ?_
     try dsimp only [List.set] at H
     refine ⟨H.pick [4, 5, 6] [0, 1], ?_⟩
     refine xq (by kernel_rfl) (?_)
     exact meet ⟨_, b433, b399, b437, b435, (by exact qg (qg (qg (qg (qg (rfl) rfl) rfl) rfl) rfl) rfl), N, H.pick [3, 2, 0, 1, 4, 5, 6] [0, 1]⟩
    refine qG H 1 [pp b435 0] Tryz.sizeOf219 fun w441 H => ?_
    try dsimp only [List.set] at H
    refine ⟨H.pick [3, 4, 5] [0, 1], ?_⟩
    refine qR [4] (by kernel_rfl) (by simp) (xA rfl ?_ qU)
    refine zt H Tryz.underlying22 ti2 parts.length rfl rfl (by omega) (by omega) (by omega) fun b442 w443 H => ?_
    refine ⟨H.pick [4, 5, 6] [0, 1], ?_⟩
    refine qR [8] (by kernel_rfl) (by simp) (xA rfl ?_ qU)
    refine qG H 3 [.slice (aa b442 0) parts.length parts.length] Tryz.sizeOf22 fun w444 H => ?_
    try dsimp only [List.set] at H
    refine ⟨H.pick [4, 5, 6] [0, 1], ?_⟩
    refine xq (by kernel_rfl) (?_)
    exact meet ⟨_, b433, b399, b442, b435, (by exact qg (qg (qg (qg (qg (rfl) rfl) rfl) rfl) rfl) rfl), N, H.pick [3, 2, 0, 1, 4, 5, 6] [0, 1]⟩
   refine zt H Tryz.underlying22 ti2 parts.length rfl rfl (by omega) (by omega) (by omega) fun b445 w446 H => ?_
   refine ⟨H.pick [3, 4, 5] [0, 1], ?_⟩
   refine qR [1] (by kernel_rfl) (by simp) (xA rfl ?_ qU)
   refine zh H [.slice none 0 0] fun b447 w448 H => ?_
   refine ⟨H.pick [4, 5, 6] [0, 1], ?_⟩
   refine qR [7] (by kernel_rfl) (by simp) (xA rfl ?_ qU)
   refine qG H 2 [pp b447 0] Tryz.sizeOf219 fun w449 H => ?_
   try dsimp only [List.set] at H
   refine ⟨H.pick [4, 5, 6] [0, 1], ?_⟩
   refine qR [8] (by kernel_rfl) (by simp) (xA rfl ?_ qU)
   refine qG H 3 [.slice (aa b445 0) parts.length parts.length] Tryz.sizeOf22 fun w450 H => ?_
   try dsimp only [List.set] at H
   refine ⟨H.pick [4, 5, 6] [0, 1], ?_⟩
   refine xq (by kernel_rfl) (?_)
   exact meet ⟨_, b433, b399, b445, b447, (by exact qg (qg (qg (qg (qg (rfl) rfl) rfl) rfl) rfl) rfl), N, H.pick [3, 2, 1, 0, 4, 5, 6] [0, 1]⟩
  ·skip
   refine zt H Tryz.underlying22 ti2 parts.length rfl rfl (by omega) (by omega) (by omega) fun b451 w452 H => ?_
   refine ⟨H.pick [2, 3, 4] [0, 1], ?_⟩
   refine qR [0, 5] (by kernel_rfl) (by simp) (xA rfl ?_ (xA rfl ?_ qU))
   ·skip
    refine Qs [.slice none 0 0] [] ?_
    refine ⟨H.pick [2, 3, 4] [0, 1], ?_⟩
    refine qR [1, 5] (by kernel_rfl) (by simp) (xA rfl ?_ (xA rfl ?_ qU))
    ·skip
     refine zh H [.slice none 0 0] fun b453 w454 H => ?_
     refine ⟨H.pick [3, 4, 5] [0, 1], ?_⟩
     refine qR [5] (by kernel_rfl) (by simp) (xA rfl ?_ qU)
     refine xy H ti219 [.pointer none] fun b455 w456 H => ?_
     refine ⟨H.pick [4, 5, 6] [0, 1], ?_⟩
     refine qR [7] (by kernel_rfl) (by simp) (xA rfl ?_ qU)
     refine qG H 0 [pp b453 0] Tryz.sizeOf219 fun w457 H => ?_
     try dsimp only [List.set] at H
     refine ⟨H.pick [4, 5, 6] [0, 1], ?_⟩
     refine qR [8] (by kernel_rfl) (by simp) (xA rfl ?_ qU)
     refine qG H 3 [.slice (aa b451 0) parts.length parts.length] Tryz.sizeOf22 fun w458 H => ?_
     try dsimp only [List.set] at H
     refine ⟨H.pick [4, 5, 6] [0, 1], ?_⟩
     refine xq (by kernel_rfl) (?_)
     exact meet ⟨_, b455, b399, b451, b453, (by exact qg (qg (qg (qg (qg (rfl) rfl) rfl) rfl) rfl) rfl), N, H.pick [3, 0, 2, 1, 4, 5, 6] [0, 1]⟩
    refine xy H ti219 [.pointer none] fun b459 w460 H => ?_
    refine ⟨H.pick [3, 4, 5] [0, 1], ?_⟩
    refine qR [1] (by kernel_rfl) (by simp) (xA rfl ?_ qU)
    refine zh H [.slice none 0 0] fun b461 w462 H => ?_
    refine ⟨H.pick [4, 5, 6] [0, 1], ?_⟩
    refine qR [7] (by kernel_rfl) (by simp) (xA rfl ?_ qU)
    refine qG H 1 [pp b461 0] Tryz.sizeOf219 fun w463 H => ?_
    try dsimp only [List.set] at H
    refine ⟨H.pick [4, 5, 6] [0, 1], ?_⟩
    refine qR [8] (by kernel_rfl) (by simp) (xA rfl ?_ qU)
    refine qG H 3 [.slice (aa b451 0) parts.length parts.length] Tryz.sizeOf22 fun w464 H => ?_
    try dsimp only [List.set] at H
    refine ⟨H.pick [4, 5, 6] [0, 1], ?_⟩
    refine xq (by kernel_rfl) (?_)
    exact meet ⟨_, b459, b399, b451, b461, (by exact qg (qg (qg (qg (qg (rfl) rfl) rfl) rfl) rfl) rfl), N, H.pick [3, 1, 2, 0, 4, 5, 6] [0, 1]⟩
   refine xy H ti219 [.pointer none] fun b465 w466 H => ?_
   refine ⟨H.pick [3, 4, 5] [0, 1], ?_⟩
   refine qR [0] (by kernel_rfl) (by simp) (xA rfl ?_ qU)
   refine Qs [.slice none 0 0] [] ?_
   refine ⟨H.pick [3, 4, 5] [0, 1], ?_⟩
   refine qR [1] (by kernel_rfl) (by simp) (xA rfl ?_ qU)
   refine zh H [.slice none 0 0] fun b467 w468 H => ?_
   refine ⟨H.pick [4, 5, 6] [0, 1], ?_⟩
   refine qR [7] (by kernel_rfl) (by simp) (xA rfl ?_ qU)
   refine qG H 1 [pp b467 0] Tryz.sizeOf219 fun w469 H => ?_
   try dsimp only [List.set] at H
   refine ⟨H.pick [4, 5, 6] [0, 1], ?_⟩
   refine qR [8] (by kernel_rfl) (by simp) (xA rfl ?_ qU)
   refine qG H 3 [.slice (aa b451 0) parts.length parts.length] Tryz.sizeOf22 fun w470 H => ?_
   try dsimp only [List.set] at H
   refine ⟨H.pick [4, 5, 6] [0, 1], ?_⟩
   refine xq (by kernel_rfl) (?_)
   exact meet ⟨_, b465, b399, b451, b467, (by exact qg (qg (qg (qg (qg (rfl) rfl) rfl) rfl) rfl) rfl), N, H.pick [3, 1, 2, 0, 4, 5, 6] [0, 1]⟩
  refine xy H ti219 [.pointer none] fun b471 w472 H => ?_
  refine ⟨H.pick [2, 3, 4] [0, 1], ?_⟩
  refine qR [0, 4] (by kernel_rfl) (by simp) (xA rfl ?_ (xA rfl ?_ qU))
  ·skip
   refine Qs [.slice none 0 0] [] ?_
   refine ⟨H.pick [2, 3, 4] [0, 1], ?_⟩
   refine qR [1, 4] (by kernel_rfl) (by simp) (xA rfl ?_ (xA rfl ?_ qU))
   ·skip
    refine zh H [.slice none 0 0] fun b473 w474 H => ?_
    refine ⟨H.pick [3, 4, 5] [0, 1], ?_⟩
    refine qR [4, 7] (by kernel_rfl) (by simp) (xA rfl ?_ (xA rfl ?_ qU))
    ·skip
     refine zt H Tryz.underlying22 ti2 parts.length rfl rfl (by omega) (by omega) (by omega) fun b475 w476 H => ?_
     refine ⟨H.pick [4, 5, 6] [0, 1], ?_⟩
     refine qR [7] (by kernel_rfl) (by simp) (xA rfl ?_ qU)
     refine qG H 2 [pp b473 0] Tryz.sizeOf219 fun w477 H => ?_
     try dsimp only [List.set] at H
     refine ⟨H.pick [4, 5, 6] [0, 1], ?_⟩
     refine qR [8] (by kernel_rfl) (by simp) (xA rfl ?_ qU)
     refine qG H 3 [.slice (aa b475 0) parts.length parts.length] Tryz.sizeOf22 fun w478 H => ?_
     try dsimp only [List.set] at H
     refine ⟨H.pick [4, 5, 6] [0, 1], ?_⟩
     refine xq (by kernel_rfl) (?_)
     exact meet ⟨_, b471, b399, b475, b473, (by exact qg (qg (qg (qg (qg (rfl) rfl) rfl) rfl) rfl) rfl), N, H.pick [3, 2, 0, 1, 4, 5, 6] [0, 1]⟩
    refine qG H 1 [pp b473 0] Tryz.sizeOf219 fun w479 H => ?_
    try dsimp only [List.set] at H
    refine ⟨H.pick [3, 4, 5] [0, 1], ?_⟩
    refine qR [4] (by kernel_rfl) (by simp) (xA rfl ?_ qU)
    refine zt H Tryz.underlying22 ti2 parts.length rfl rfl (by omega) (by omega) (by omega) fun b480 w481 H => ?_
    refine ⟨H.pick [4, 5, 6] [0, 1], ?_⟩
    refine qR [8] (by kernel_rfl) (by simp) (xA rfl ?_ qU)
    refine qG H 3 [.slice (aa b480 0) parts.length parts.length] Tryz.sizeOf22 fun w482 H => ?_
    try dsimp only [List.set] at H
    refine ⟨H.pick [4, 5, 6] [0, 1], ?_⟩
    refine xq (by kernel_rfl) (?_)
    exact meet ⟨_, b471, b399, b480, b473, (by exact qg (qg (qg (qg (qg (rfl) rfl) rfl) rfl) rfl) rfl), N, H.pick [3, 2, 0, 1, 4, 5, 6] [0, 1]⟩
   refine zt H Tryz.underlying22 ti2 parts.length rfl rfl (by omega) (by omega) (by omega) fun b483 w484 H => ?_
   refine ⟨H.pick [3, 4, 5] [0, 1], ?_⟩
   refine qR [1] (by kernel_rfl) (by simp) (xA rfl ?_ qU)
   refine zh H [.slice none 0 0] fun b485 w486 H => ?_
   refine ⟨H.pick [4, 5, 6] [0, 1], ?_⟩
   refine qR [7] (by kernel_rfl) (by simp) (xA rfl ?_ qU)
   refine qG H 2 [pp b485 0] Tryz.sizeOf219 fun w487 H => ?_
   try dsimp only [List.set] at H
   refine ⟨H.pick [4, 5, 6] [0, 1], ?_⟩
   refine qR [8] (by kernel_rfl) (by simp) (xA rfl ?_ qU)
   refine qG H 3 [.slice (aa b483 0) parts.length parts.length] Tryz.sizeOf22 fun w488 H => ?_
   try dsimp only [List.set] at H
   refine ⟨H.pick [4, 5, 6] [0, 1], ?_⟩
   refine xq (by kernel_rfl) (?_)
   exact meet ⟨_, b471, b399, b483, b485, (by exact qg (qg (qg (qg (qg (rfl) rfl) rfl) rfl) rfl) rfl), N, H.pick [3, 2, 1, 0, 4, 5, 6] [0, 1]⟩
  refine zt H Tryz.underlying22 ti2 parts.length rfl rfl (by omega) (by omega) (by omega) fun b489 w490 H => ?_
  refine ⟨H.pick [3, 4, 5] [0, 1], ?_⟩
  refine qR [0] (by kernel_rfl) (by simp) (xA rfl ?_ qU)
  refine Qs [.slice none 0 0] [] ?_
  refine ⟨H.pick [3, 4, 5] [0, 1], ?_⟩
  refine qR [1] (by kernel_rfl) (by simp) (xA rfl ?_ qU)
  refine zh H [.slice none 0 0] fun b491 w492 H => ?_
  refine ⟨H.pick [4, 5, 6] [0, 1], ?_⟩
  refine qR [7] (by kernel_rfl) (by simp) (xA rfl ?_ qU)
  refine qG H 2 [pp b491 0] Tryz.sizeOf219 fun w493 H => ?_
  try dsimp only [List.set] at H
  refine ⟨H.pick [4, 5, 6] [0, 1], ?_⟩
  refine qR [8] (by kernel_rfl) (by simp) (xA rfl ?_ qU)
  refine qG H 3 [.slice (aa b489 0) parts.length parts.length] Tryz.sizeOf22 fun w494 H => ?_
  try dsimp only [List.set] at H
  refine ⟨H.pick [4, 5, 6] [0, 1], ?_⟩
  refine xq (by kernel_rfl) (?_)
  exact meet ⟨_, b471, b399, b489, b491, (by exact qg (qg (qg (qg (qg (rfl) rfl) rfl) rfl) rfl) rfl), N, H.pick [3, 2, 1, 0, 4, 5, 6] [0, 1]⟩
 clear H N
 rintro ρ w495 ⟨junk, b14, b15, b16, b17, rfl, N, H⟩
 refine t_n (qi (ql ?_))
 refine sw (xy H ti222 [.nilFunc] fun b496 w497 H => ?_)
 refine qj (t_n (qi (ql ?_)))
 refine sp (.func (.func 201) #[] #[pp b3 0, pp b5 0, pp b14 0, pp b15 0, pp b496 0]) ?_
 refine sw (qG H 0 [.func (.func 201) #[] #[pp b3 0, pp b5 0, pp b14 0, pp b15 0, pp b496 0]] Tryz.sizeOf222 fun w498 H => ?_)
 try dsimp only [List.set] at H
 refine qj (t_n (qi (ql ?_)))
 refine oL rfl (H.cell 0 rfl rfl) ?_
 refine sp (.slice ab b.length cb) ?_
 replace H := H.nilRow 22 1
 replace H := H.jq (α := List Int)
 have H1 : St w w498 [.box b3 [.slice aparts parts.length cparts] 27, .box b5 [.func (.func 177) #[] #[pp b1 0]] 170, .box b1 [.slice aparts parts.length cparts] 27, .box b14 [pp b17 0] 219, .box b17 [.slice none 0 0] 221, .box b15 [.slice (aa b16 0) parts.length parts.length] 22, .box b496 [.func (.func 201) #[] #[pp b3 0, pp b5 0, pp b14 0, pp b15 0, pp b496 0]] 222, .row (.slice none 0 0) 22 1 0 [], .row (.slice (aa b16 0) parts.length parts.length) 2 1 parts.length ((List.replicate parts.length (0 : Int)).map (Value.int .i64))] [isF false Fb (.slice ab b.length cb) b, isF false Fparts (.slice aparts parts.length cparts) parts, zn true [] [] ([] : List (List Int)), isF false Fb (.slice ab b.length cb) b, isF false Fparts (.slice aparts parts.length cparts) parts] := H.pick [7, 6, 8, 3, 5, 2, 1, 0, 4] [1, 2, 0, 1, 2]
 have N1 : Fresh _ [[]] := N.emp
 have K1 : Kept [] [isF false Fb (.slice ab b.length cb) b, isF false Fparts (.slice aparts parts.length cparts) parts] := Kept.nil _
 refine sw (o_callF #[.int .i64 0, .slice ab b.length cb, pp b3 0, pp b5 0, pp b14 0, pp b15 0, pp b496 0] rfl rfl Tryz.call201 (packFrom_ok parts.length 0 b parts ([] : List (List Int)) (List.replicate parts.length (0 : Int)) ab cb Fb aparts cparts Fparts b3 b5 b1 b14 b17 b15 b496 none 0 0 [] [] (aa b16 0) parts.length parts.length H1 N1 K1 (by omega) (by first | assumption | exact u4) (by first | assumption | exact j3 | (simp; done)) (by first | assumption | (rw [List.length_set]; exact j1) | (simp; done))) ?_)
 clear H H1 N1 K1
 rintro _ w499 ⟨cs500, raout500, rnout500, rcout500, rxout500, rFout500, hx501, hx502, rfl, N, H⟩
 obtain rfl := H.zK (α := List Int) 7 rfl 2 rfl (by decide)
 refine qj (t_n (qi (ql ?_)))
 refine oL rfl (H.cell 3 rfl rfl) ?_
 refine sw (jf #[pp b17 0] rfl rfl Tryz.call204 ?_)
 refine en Tryz.func204 Tryz.ntmps204 ?_
 refine qi (ql ?_)
 refine sps [.slice none 0 0, .int .i64 0] ?_
 refine qj (t_n (qi (qi (ql ?_))))
 refine sps [pp b17 0, pp b17 0] ?_
 refine oF rfl ?_
 refine oL rfl (H.cell 4 rfl rfl) ?_
 refine oN rfl ?_
 refine sp (.bool (decide (((gath ([] : List (List Int)) (begins ((List.replicate parts.length (0 : Int)).take 0) (packs parts (parts.length - 0) 0 b))).length : Int) > 2000))) ?_
 refine qj (t_n ?_)
 refine qC (decide (((gath ([] : List (List Int)) (begins ((List.replicate parts.length (0 : Int)).take 0) (packs parts (parts.length - 0) 0 b))).length : Int) > 2000)) rfl (fun h503 => ?_) (fun h503 => ?_)
 ·skip
  replace h503 := of_decide_eq_true h503
  refine qi (ql ?_)
  refine sps [.slice none 0 0, .int .i64 3] ?_
  refine qj (t_n (qV (t_r ?_)))
  refine ret2 (.slice none 0 0) (.int .i64 3) rfl rfl rfl ⟨_, rfl, ?_⟩
  refine sps [.slice none 0 0, .int .i64 3, .slice none 0 0, .int .i64 3] ?_
  refine qj (t_n (qV ?_))
  refine ret2 (.slice none 0 0) (.int .i64 3) rfl rfl rfl ⟨_, rfl, ?_⟩
  replace H := H.erases [8, 7, 6, 5, 4, 3, 1, 0]
  dsimp only [Qv, List.eraseIdx] at H
  refine sps [.slice none 0 0, .int .i64 3, .slice none 0 0, .int .i64 3] ?_
  refine qj (t_n (qV ?_))
  replace H := H.nilRow 22 1
  replace H := H.jq (α := List Int)
  refine ret2 (.slice none 0 0) (.int .i64 3) rfl rfl rfl ⟨_, rfl, ?_, H.base⟩
  first | rw [all_a (by assumption)] | rw [all_bI (cs := (List.replicate parts.length (0 : Int))) (by assumption) (by omega)]
  exact ⟨none, 0, 0, [], [], rfl, (N.emp.pick [0]), H.pick [0] [0]⟩
 replace h503 := of_decide_eq_false h503
 refine qM (t_n (qi (ql ?_)))
 refine sps [pp b17 0, pp b17 0] ?_
 refine oF rfl ?_
 refine oL rfl (H.cell 4 rfl rfl) ?_
 refine sps [.slice raout500 ((gath ([] : List (List Int)) (begins ((List.replicate parts.length (0 : Int)).take 0) (packs parts (parts.length - 0) 0 b))).length) rcout500, .int .i64 0] ?_
 refine qj (t_n (qV ?_))
 refine ret2 (.slice raout500 ((gath ([] : List (List Int)) (begins ((List.replicate parts.length (0 : Int)).take 0) (packs parts (parts.length - 0) 0 b))).length) rcout500) (.int .i64 0) rfl rfl rfl ⟨_, rfl, ?_⟩
 refine sps [.slice raout500 ((gath ([] : List (List Int)) (begins ((List.replicate parts.length (0 : Int)).take 0) (packs parts (parts.length - 0) 0 b))).length) rcout500, .int .i64 0, .slice raout500 ((gath ([] : List (List Int)) (begins ((List.replicate parts.length (0 : Int)).take 0) (packs parts (parts.length - 0) 0 b))).length) rcout500, .int .i64 0] ?_
 refine qj (t_n (qV ?_))
 refine ret2 (.slice raout500 ((gath ([] : List (List Int)) (begins ((List.replicate parts.length (0 : Int)).take 0) (packs parts (parts.length - 0) 0 b))).length) rcout500) (.int .i64 0) rfl rfl rfl ⟨_, rfl, ?_⟩
 replace H := H.erases [8, 6, 5, 4, 3, 1, 0]
 dsimp only [Qv, List.eraseIdx] at H
 refine sps [.slice raout500 ((gath ([] : List (List Int)) (begins ((List.replicate parts.length (0 : Int)).take 0) (packs parts (parts.length - 0) 0 b))).length) rcout500, .int .i64 0, .slice raout500 ((gath ([] : List (List Int)) (begins ((List.replicate parts.length (0 : Int)).take 0) (packs parts (parts.length - 0) 0 b))).length) rcout500, .int .i64 0] ?_
 refine qj (t_n (qV ?_))
 refine ret2 (.slice raout500 ((gath ([] : List (List Int)) (begins ((List.replicate parts.length (0 : Int)).take 0) (packs parts (parts.length - 0) 0 b))).length) rcout500) (.int .i64 0) rfl rfl rfl ⟨_, rfl, ?_, H.base⟩
 rw [all_0I (cs := (List.replicate parts.length (0 : Int))) (by assumption) (by omega)]
 exact ⟨raout500, (gath ([] : List (List Int)) (begins ((List.replicate parts.length (0 : Int)).take 0) (packs parts (parts.length - 0) 0 b))).length, rcout500, rxout500, rFout500, rfl, N, H.pick [1] [2]⟩

end Go.Proofs.YtgjnaocffdhnbaaGreat
