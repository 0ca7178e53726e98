/- Walks and laws, printed by program and by hand: what each function comes to, for all arguments, part 6. -/
import Derived.Test.YtgjnaocffdhnbaaGreatA5
namespace Go.Proofs.YtgjnaocffdhnbaaGreat
set_option linter.unusedVariables false
set_option linter.unusedSimpArgs false
open Go.Proofs.YtgjnaocffdhnbaaGreat.Tot (tot)
open Go.Proofs.YtgjnaocffdhnbaaGreat.Mark (cnt mrk mkd mkd_mark cnt_mark)
section
open Go.RowKit
set_option linter.unusedVariables false
set_option linter.unusedSimpArgs false
set_option maxRecDepth 100000
set_option maxHeartbeats 4000000
variable {ab qo qC qN xh qG : Option Addr} {cb qm qA qL qZ qF : Nat} {Fb qP xu xE zf xw : List Nat}
theorem isBag_ok (w : World) (l : List Int) {al : Option Addr} {cl : Nat} {Fl : List Nat} (hl : qB.rep w Fl [.slice al l.length cl] l) : Calls Tryz.prog 209 #[.slice al l.length cl] w (Ret (fun v w' => v = .bool (dec (X6 l))) w) := by
 refine en Tryz.func209 Tryz.ntmps209 ?_
 have H := (St.start w).arg hl
 have nhl := qx hl
 clear hl
 have N := Fresh.nil w.heap.size
 refine zcr (sp (.bool false) (zjc (sp (.slice al l.length cl) (sw (oq (sizeI_ok _ l (H.get 0 rfl).1) H fun w1 H => sp (.slice al l.length cl) (sw (oq (VP _ (l.length : Int) l (H.get 0 rfl).1) H fun w3 H => sp (.bool (dec (zB (l.length : Int) l))) (zjr (ret1 (.bool (dec (zB (l.length : Int) l))) rfl rfl ⟨_, rfl, ?_, H.base⟩)))))))))
 rw [dec_congr bagAny_okH]

theorem isFull_ok (w : World) (rest : List Int) (parts : List (List Int)) {arest : Option Addr} {crest : Nat} {Frest : List Nat} {aparts : Option Addr} {cparts : Nat} {Fparts : List Nat} (hrest : qB.rep w Frest [.slice arest rest.length crest] rest) (hparts : qB.rep w Fparts [.slice aparts parts.length cparts] parts) (p0 : VC parts rest) : Calls Tryz.prog 178 #[.slice arest rest.length crest, .slice aparts parts.length cparts] w (Ret (fun v w' => v = .bool (dec (FullOk parts rest))) w) := by
 refine en Tryz.func178 Tryz.ntmps178 ?_
 have H := ((St.start w).arg hparts).arg hrest
 have nhrest := qx hrest
 have nhparts := qx hparts
 clear hrest hparts
 have N := Fresh.nil w.heap.size
 refine zcr (sw (zY H [.slice arest rest.length crest] fun b1 w2 H => sp (.bool false) (zjc (sps [.slice aparts parts.length cparts, .func (.func 206) #[] #[pp b1 0]] (sw (zS #[.slice aparts parts.length cparts, .func (.func 206) #[] #[pp b1 0]] rfl rfl Tryz.call205 (en Tryz.func205 Tryz.ntmps205 ?_)))))))
 refine zcr (sp (.bool false) (zjc (sps [.slice aparts parts.length cparts, .func (.func 206) #[] #[pp b1 0]] (sw (zS #[.slice aparts parts.length cparts, .func (.func 206) #[] #[pp b1 0]] rfl rfl Tryz.call211 (en Tryz.func211 Tryz.ntmps211 ?_))))))
 refine zcr (sp (.int .i64 0) (zjcc (sp (.slice aparts parts.length cparts) (oN rfl (sp (.int .i64 0) (zjn (qM ?_)))))))
 refine xQ (fun m' ρ w3 => ∃ (junk : Env) (i : Nat), ρ = upd (upd (upd (upd junk 0 (.slice aparts parts.length cparts)) 1 (.func (.func 206) #[] #[pp b1 0])) 7 (.int .i64 parts.length)) 8 (.int .i64 i) ∧ ((i : Int) ≤ parts.length) ∧ (FullTo parts rest i) ∧ m' = (parts.length - (i : Int)).toNat ∧ Fresh w.heap.size [] ∧ St w w3 [.box b1 [.slice arest rest.length crest] 22] [sF false Frest arest crest rest, sF false Fparts aparts cparts parts]) ((parts.length - (0 : Int)).toNat) ⟨_, 0, uE4, (by omega), (by first | trivial | exact fun j hj => by omega), rfl, N, H⟩ ?_
 clear H N
 rintro m' ρ w4 ⟨junk, i, rfl, i0, i1, rfl, N, H⟩
 refine zcr (sp (.bool (decide ((i : Int) < parts.length))) (zjn (xC (cD rfl (fun h5 => ?_) (fun h5 => ?_)))))
 ·skip
  obtain ⟨t1, t2, t3, t4, t5⟩ := p0.times (k := i) (by omega)
  refine qK (t_n (xC (qM (zcr (sps [.int .i64 i, .int .i64 i] (zjc (sps [.func (.func 206) #[] #[pp b1 0], .slice aparts parts.length cparts, .int .i64 i] ?_)))))))
  obtain ⟨b6, o7, rfl⟩ := H.addr 1 rfl (by omega)
  obtain ⟨ae9, ce9, Fe9, H⟩ := H.zU 1 rfl i i (by omega) (by omega) (by omega)
  refine oI rfl rfl (oL rfl (H.xB 1 rfl 0 rfl) (sw (zS #[.slice ae9 ((parts[i]!).length) ce9, pp b1 0] rfl rfl Tryz.call206 (en Tryz.func206 Tryz.ntmps206 ?_))))
  refine zcr (sp (.bool false) (zjc (sp (.slice ae9 ((parts[i]!).length) ce9) (oL rfl (H.cell 0 rfl rfl) (sw (oq (isWithin_ok _ (parts[i]!) rest (H.get 0 rfl).1 (H.get 2 rfl).1 (by first | assumption | omega) (by first | assumption | omega)) H fun w10 H => sp (.bool (within (parts[i]!) rest)) (zjr (ret1 (.bool (within (parts[i]!) rest)) rfl rfl ⟨_, rfl, (zjn (xn (within (parts[i]!) rest) rfl (fun h12 => ?_) (fun h12 => ?_)))⟩))))))))
  ·skip
   refine zcr (sps [.int .i64 i, .int .i64 i] (zjr (zr5 (ret1 (.int .i64 i) rfl rfl ⟨_, rfl, (sw (o_pure (.bool true) (by show some (Value.bool (decide ((i : Int) ≥ 0))) = some (Value.bool true); rw [decide_eq_true (by omega)]) (sp (.bool true) (zjr (ret1 (.bool true) rfl rfl ⟨_, rfl, (sps [.bool false, .bool false] (zjr (ret1 (.bool false) rfl rfl ⟨_, rfl, ?_, H.base⟩)))⟩)))))⟩))))
   rw [qY (fun h => by have := h i (by omega); simp_all)]
  refine qK (b_n (t_n (xH (sw (xX i 1 rfl rfl (by omega) (sp (.int .i64 (i + 1)) (xG (qR (m' := (parts.length - ((i + 1) : Int)).toNat) (by omega) ⟨_, i + 1, uE4, ?_, ?_, rfl, N, H.pick [0] [2, 3]⟩))))))))
  · omega
  · first | trivial | exact i1.succ ‹_›
 refine zx4 (zcr (sp (.int .i64 (-1)) (zjr (ret1 (.int .i64 (-1)) rfl rfl ⟨_, rfl, (sps [.bool false, .bool false] (zjr (ret1 (.bool false) rfl rfl ⟨_, rfl, (sps [.bool true, .bool true] (zjr (ret1 (.bool true) rfl rfl ⟨_, rfl, ?_, H.base⟩)))⟩)))⟩))))
 rw [jF (show FullOk parts rest from fun j hj => i1 j (by omega))]

theorem bagAndParts_ok (w : World) (b : List Int) (parts : List (List Int)) {aparts : Option Addr} {cparts : Nat} {Fparts : List Nat} (hb : qB.rep w Fb [.slice ab b.length cb] b) (hparts : qB.rep w Fparts [.slice aparts parts.length cparts] parts) (p0 : VC parts b) (p1 : 1 ≤ parts.length) : Calls Tryz.prog 200 #[.slice ab b.length cb, .slice aparts parts.length cparts] w (Ret (fun v w' => v = .int .i64 0) w) := by
 refine en Tryz.func200 Tryz.ntmps200 ?_
 have H := ((St.start w).arg hparts).arg hb
 have nhb := qx hb
 have nhparts := qx hparts
 clear hb hparts
 have N := Fresh.nil w.heap.size
 obtain ⟨pb, pl, pk⟩ := p0.bags p1
 refine zcr (sp (.int .i64 0) (zjcc (sp (.slice ab b.length cb) (sw (oq (isBag_ok _ b (H.get 0 rfl).1) H fun w2 H => sp (.bool (!(dec (X6 b)))) (zjn (cQ rfl (fun h4 => ?_) (fun h4 => ?_))))))))
 ·skip
  refine zcr (sp (.int .i64 1) (zjr (t_r (ret1 (.int .i64 1) rfl rfl ⟨_, rfl, ?_, H.base⟩))))
  exfalso; first | omega | exact ‹¬ X6 _› pb
 refine qK (t_n (zcr (sp (.slice ab b.length cb) (oN rfl (sps [.slice aparts parts.length cparts, .slice aparts parts.length cparts] (oN rfl (sw (Xa H Tryz.underlying22 ti2 parts.length rfl rfl (by omega) (by omega) (by omega) fun b5 w6 H => sw (zS #[.int .i64 b.length, .slice aparts parts.length cparts, .slice (aa b5 0) parts.length parts.length] rfl rfl Tryz.call210 (en Tryz.func210 Tryz.ntmps210 ?_))))))))))
 refine zcr (sp (.int .i64 0) (zjcc (sp (.slice aparts parts.length cparts) (sw (zS #[.slice aparts parts.length cparts, .func (.func 212) #[] #[]] rfl rfl Tryz.call205 (en Tryz.func205 Tryz.ntmps205 ?_))))))
 refine zcr (sp (.bool false) (zjc (sps [.slice aparts parts.length cparts, .func (.func 212) #[] #[]] (sw (zS #[.slice aparts parts.length cparts, .func (.func 212) #[] #[]] rfl rfl Tryz.call211 (en Tryz.func211 Tryz.ntmps211 ?_))))))
 refine zcr (sp (.int .i64 0) (zjcc (sp (.slice aparts parts.length cparts) (oN rfl (sp (.int .i64 0) (zjn (qM ?_)))))))
 refine xQ (fun m' ρ w7 => ∃ (junk : Env) (i : Nat), ρ = upd (upd (upd (upd junk 0 (.slice aparts parts.length cparts)) 1 (.func (.func 212) #[] #[])) 7 (.int .i64 parts.length)) 8 (.int .i64 i) ∧ ((i : Int) ≤ parts.length) ∧ (True) ∧ m' = (parts.length - (i : Int)).toNat ∧ Fresh w.heap.size [] ∧ St w w7 [rr (aa b5 0) parts.length parts.length 2 1 ((List.replicate parts.length (0 : Int)).map (Value.int .i64))] [sF false Fb ab cb b, sF false Fparts aparts cparts parts]) ((parts.length - (0 : Int)).toNat) ⟨_, 0, uE4, (by omega), (by first | trivial | exact fun j hj => by omega), rfl, N, H⟩ ?_
 clear H N
 rintro m' ρ w8 ⟨junk, i, rfl, i0, i1, rfl, N, H⟩
 refine zcr (sp (.bool (decide ((i : Int) < parts.length))) (zjn (xC (cD rfl (fun h9 => ?_) (fun h9 => ?_)))))
 ·skip
  refine qK (t_n (xC (qM (zcr (sps [.int .i64 i, .int .i64 i] (zjc (sps [.func (.func 212) #[] #[], .slice aparts parts.length cparts, .int .i64 i] ?_)))))))
  obtain ⟨b10, o11, rfl⟩ := H.addr 1 rfl (by omega)
  obtain ⟨ae13, ce13, Fe13, H⟩ := H.zU 1 rfl i i (by omega) (by omega) (by omega)
  refine oI rfl rfl (oL rfl (H.xB 1 rfl 0 rfl) (sw (zS #[.slice ae13 ((parts[i]!).length) ce13] rfl rfl Tryz.call212 (en Tryz.func212 Tryz.ntmps212 ?_))))
  refine zcr (sp (.bool false) (zjc (sp (.slice ae13 ((parts[i]!).length) ce13) (sw (oq (isBag_ok _ (parts[i]!) (H.get 0 rfl).1) H fun w15 H => sps [.bool (!(dec (X6 (parts[i]!)))), .bool (!(dec (X6 (parts[i]!))))] (zjr (ret1 (.bool (!(dec (X6 (parts[i]!))))) rfl rfl ⟨_, rfl, (zjn (cQ rfl (fun h17 => ?_) (fun h17 => ?_)))⟩)))))))
  ·skip
   exact absurd (pk i (by omega)).1 h17
  refine qK (b_n (t_n (xH (sw (xX i 1 rfl rfl (by omega) (sp (.int .i64 (i + 1)) (xG (qR (m' := (parts.length - ((i + 1) : Int)).toNat) (by omega) ⟨_, i + 1, uE4, ?_, ?_, rfl, N, H.pick [0] [2, 3]⟩))))))))
  · omega
  · first | trivial | exact i1.succ ‹_›
 refine zx4 (zcr (sp (.int .i64 (-1)) (zjr (ret1 (.int .i64 (-1)) rfl rfl ⟨_, rfl, (sps [.bool false, .bool false] (zjr (ret1 (.bool false) rfl rfl ⟨_, rfl, (zjn (xn false rfl (fun h => absurd h (by decide)) (fun _ => qK (t_n (zcc (sp (.slice aparts parts.length cparts) (oN rfl (sps [.bool (decide ((parts.length : Int) > 8)), .bool (decide ((parts.length : Int) > 8))] ?_))))))))⟩)))⟩))))
 cases h18 : (decide ((parts.length : Int) > 8))
 ·skip
  replace h18 := of_decide_eq_false h18
  refine qH 14 rfl rfl (sp (.slice (aa b5 0) parts.length parts.length) (qH 14 rfl rfl (oN rfl (qH 14 rfl rfl (sp (.slice aparts parts.length cparts) (qH 14 rfl rfl (oN rfl (qH 14 rfl rfl (sps [.bool ((parts.length : Int) != parts.length), .bool ((parts.length : Int) != parts.length)] (zjn (xn ((parts.length : Int) != parts.length) rfl (fun h => absurd rfl (bne_iff_ne.1 h)) (fun h19 => ?_))))))))))))
  replace h19 := xf h19
  refine qK (t_n (zcc (sp (.slice aparts parts.length cparts) (oN rfl (sp (.int .i64 0) (zjn (qM ?_)))))))
  refine xQ (fun m' ρ w20 => ∃ (junk : Env) (i_1 : Nat), ρ = upd (upd (upd (upd (upd junk 0 (.int .i64 b.length)) 2 (.slice (aa b5 0) parts.length parts.length)) 21 (.slice aparts parts.length cparts)) 22 (.int .i64 parts.length)) 23 (.int .i64 i_1) ∧ ((i_1 : Int) ≤ parts.length) ∧ m' = (parts.length - (i_1 : Int)).toNat ∧ Fresh w.heap.size [] ∧ St w w20 [rr (aa b5 0) parts.length parts.length 2 1 ((List.replicate parts.length (0 : Int)).map (Value.int .i64))] [sF false Fb ab cb b, sF false Fparts aparts cparts parts]) ((parts.length - (0 : Int)).toNat) ⟨_, 0, uE5, (by omega), rfl, N, H⟩ ?_
  clear H N
  rintro m' ρ w21 ⟨junk, i_1, rfl, i0, rfl, N, H⟩
  refine zcr (sp (.bool (decide ((i_1 : Int) < parts.length))) (zjn (xC (cD rfl (fun h22 => ?_) (fun h22 => ?_)))))
  ·skip
   obtain ⟨r1, r2, r3⟩ := pk i_1 (by omega)
   have r4 := yD r1
   have r5 : (List.replicate parts.length (0 : Int))[i_1]! = 0 := by rw [getElem!_pos _ i_1 (by simp; omega)]; simp
   refine qK (t_n (xC (qM (zcr (sp (.int .i64 i_1) ?_)))))
   obtain ⟨b23, o24, rfl⟩ := H.addr 1 rfl (by omega)
   obtain ⟨ae26, ce26, Fe26, H⟩ := H.zU 1 rfl i_1 i_1 (by omega) (by omega) (by omega)
   refine oI rfl rfl (oL rfl (H.xB 1 rfl 0 rfl) (sps [.int .i64 i_1, .slice ae26 ((parts[i_1]!).length) ce26] (zjc (sp (.slice ae26 ((parts[i_1]!).length) ce26) (oN rfl (sps [.int .i64 b.length, .bool (((parts[i_1]!).length : Int) != b.length), .bool (((parts[i_1]!).length : Int) != b.length)] ?_))))))
   cases h27 : (((parts[i_1]!).length : Int) != b.length)
   ·skip
    replace h27 := xf h27
    refine qH 32 rfl rfl (sp (.slice ae26 ((parts[i_1]!).length) ce26) (qH 32 rfl rfl (sw (oq (XW _ (parts[i_1]!) (H.get 0 rfl).1 (by first | assumption | exact zL (by assumption) | exact yD (by assumption))) H fun w28 H => qH 32 rfl rfl (sps [.bool ((X4 (parts[i_1]!) : Int) == 0), .bool ((X4 (parts[i_1]!) : Int) == 0), .bool ((X4 (parts[i_1]!) : Int) == 0)] ?_)))))
    cases h30 : ((X4 (parts[i_1]!) : Int) == 0)
    ·skip
     replace h30 := ne_of_beq_false h30
     refine qH 37 rfl rfl (sp (.slice (aa b5 0) parts.length parts.length) (qH 37 rfl rfl (sp (.int .i64 i_1) (qH 37 rfl rfl (oI rfl rfl (qH 37 rfl rfl (oL rfl (H.rowInt 0 rfl (iv := i_1) (i := i_1) (by omega) (by omega)) (qH 37 rfl rfl (sw (oq (V4 w28 ((List.replicate parts.length (0 : Int))[i_1]!) 0 1000) H fun w31 H => qH 37 rfl rfl (sps [.bool (!(inR ((List.replicate parts.length (0 : Int))[i_1]!) 0 1000)), .bool (!(inR ((List.replicate parts.length (0 : Int))[i_1]!) 0 1000))] (zjn (xn (!(inR ((List.replicate parts.length (0 : Int))[i_1]!) 0 1000)) rfl (fun h33 => ?_) (fun h33 => ?_))))))))))))))
     ·skip
      replace h33 := qW h33
      replace h33 := XI h33
      refine zcr (sp (.int .i64 2) (zjr (zr5 (ret1 (.int .i64 2) rfl rfl ⟨_, rfl, (sp (.int .i64 2) (zjr (ret1 (.int .i64 2) rfl rfl ⟨_, rfl, ?_, H.base⟩)))⟩))))
      exfalso; first | omega | exact ‹¬ X6 _› pb
     replace h33 := qQ h33
     replace h33 := QZ.1 h33
     refine qK (b_n (t_n (xH (sw (xX i_1 1 rfl rfl (by omega) (sp (.int .i64 (i_1 + 1)) (xG (qR (m' := (parts.length - ((i_1 + 1) : Int)).toNat) (by omega) ⟨_, i_1 + 1, uE5, ?_, rfl, N, H.pick [0] [2, 3]⟩))))))))
     · omega
    replace h30 := eq_of_beq h30
    refine xJ [38, 39, 40, 41, 42, 43] (sp (.bool true) (zjn (xn true rfl (fun _ => zcr (sp (.int .i64 2) (zjr (zr5 (ret1 (.int .i64 2) rfl rfl ⟨_, rfl, (sp (.int .i64 2) (zjr (ret1 (.int .i64 2) rfl rfl ⟨_, rfl, ?_, H.base⟩)))⟩))))) (fun h => absurd h (by decide)))))
    exfalso; first | omega | exact ‹¬ X6 _› pb
   replace h27 := bne_iff_ne.1 h27
   refine xJ [33, 34, 35] (sps [.bool true, .bool true] (xJ [38, 39, 40, 41, 42, 43] (sp (.bool true) (zjn (xn true rfl (fun _ => zcr (sp (.int .i64 2) (zjr (zr5 (ret1 (.int .i64 2) rfl rfl ⟨_, rfl, (sp (.int .i64 2) (zjr (ret1 (.int .i64 2) rfl rfl ⟨_, rfl, ?_, H.base⟩)))⟩))))) (fun h => absurd h (by decide)))))))
   exfalso; first | omega | exact ‹¬ X6 _› pb
  refine zx4 (zcr (sp (.int .i64 0) (zjr (ret1 (.int .i64 0) rfl rfl ⟨_, rfl, (sp (.int .i64 0) (zjr (ret1 (.int .i64 0) rfl rfl ⟨_, rfl, ?_, H.base⟩)))⟩))))
  rfl
 replace h18 := of_decide_eq_true h18
 refine xJ [15, 16, 17, 18, 19] (sp (.bool true) (zjn (xn true rfl (fun _ => zcr (sp (.int .i64 2) (zjr (t_r (ret1 (.int .i64 2) rfl rfl ⟨_, rfl, (sp (.int .i64 2) (zjr (ret1 (.int .i64 2) rfl rfl ⟨_, rfl, ?_, H.base⟩)))⟩))))) (fun h => absurd h (by decide)))))
 exfalso; first | omega | exact ‹¬ X6 _› pb

def packFrom_ok_S (f : Nat) : Prop := ∀ {W0 w : World} {ps : List Prv} {Γ : List Fact} {Ns : List (List Nat)} (i : Nat) (rest : List Int) (parts : List (List Int)) (out : List (List Int)) (cs : List Int) (arest : Option Addr) (crest : Nat) (Frest : List Nat) (aparts : Option Addr) (cparts : Nat) (Fparts : List Nat) (bp : Nat) (bi : Nat) (bq : Nat) (bo : Nat) (bl : Nat) (bc : Nat) (bf : Nat) (raout : Option Addr) (rnout : Nat) (rcout : Nat) (rxout : List Value) (rFout : List Nat) (racs : Option Addr) (rncs : Nat) (rccs : Nat) (H : St W0 w ((.box bp [.slice aparts parts.length cparts] 27) :: (.box bi [.func (.func 177) #[] #[pp bq 0]] 170) :: (.box bq [.slice aparts parts.length cparts] 27) :: (.box bo [pp bl 0] 219) :: (.box bl [.slice raout rnout rcout] 221) :: (.box bc [.slice racs rncs rccs] 22) :: (.box bf [.func (.func 201) #[] #[pp bp 0, pp bi 0, pp bo 0, pp bc 0, pp bf 0]] 222) :: (rr raout rnout rcout 22 1 rxout) :: (rr racs rncs rccs 2 1 (cs.map (Value.int .i64))) :: ps) ((sF false Frest arest crest rest) :: (sF false Fparts aparts cparts parts) :: (xN true rFout rxout out) :: Γ)) (N : Fresh W0.heap.size (rFout :: Ns)) (K0 : Kept Ns Γ) (p0 : i + f = parts.length) (p1 : VC parts rest) (p2 : out.length ≤ 2000) (p3 : cs.length = parts.length), Calls Tryz.prog 201 #[.int .i64 i, .slice arest rest.length crest, pp bp 0, pp bi 0, pp bo 0, pp bc 0, pp bf 0] w (fun e w' => ∃ v, e = .returned v ∧ ∃ (cs_ : List Int) (raout_ : Option Addr) (rnout_ : Nat) (rcout_ : Nat) (rxout_ : List Value) (rFout_ : List Nat), (cs_.length = cs.length) ∧ (cs_.take i = cs.take i) ∧ v = .bool (dec ((gath out (begins (cs.take i) (packs parts (parts.length - i) i rest))).length ≤ 2000)) ∧ Fresh W0.heap.size (rFout_ :: Ns) ∧ St W0 w' ((.box bp [.slice aparts parts.length cparts] 27) :: (.box bi [.func (.func 177) #[] #[pp bq 0]] 170) :: (.box bq [.slice aparts parts.length cparts] 27) :: (.box bo [pp bl 0] 219) :: (.box bl [.slice raout_ rnout_ rcout_] 221) :: (.box bc [.slice racs rncs rccs] 22) :: (.box bf [.func (.func 201) #[] #[pp bp 0, pp bi 0, pp bo 0, pp bc 0, pp bf 0]] 222) :: (rr raout_ rnout_ rcout_ 22 1 rxout_) :: (rr racs rncs rccs 2 1 (cs_.map (Value.int .i64))) :: ps) ((sF false Frest arest crest rest) :: (sF false Fparts aparts cparts parts) :: (xN true rFout_ rxout_ (gath out (begins (cs.take i) (packs parts (parts.length - i) i rest)))) :: Γ))
theorem packFrom_ok_step (f : Nat) (IH : ∀ k, k < f → packFrom_ok_S k) {W0 w : World} {ps : List Prv} {Γ : List Fact} {Ns : List (List Nat)} (i : Nat) (rest : List Int) (parts : List (List Int)) (out : List (List Int)) (cs : List Int) (arest : Option Addr) (crest : Nat) (Frest : List Nat) (aparts : Option Addr) (cparts : Nat) (Fparts : List Nat) (bp : Nat) (bi : Nat) (bq : Nat) (bo : Nat) (bl : Nat) (bc : Nat) (bf : Nat) (raout : Option Addr) (rnout : Nat) (rcout : Nat) (rxout : List Value) (rFout : List Nat) (racs : Option Addr) (rncs : Nat) (rccs : Nat) (H : St W0 w ((.box bp [.slice aparts parts.length cparts] 27) :: (.box bi [.func (.func 177) #[] #[pp bq 0]] 170) :: (.box bq [.slice aparts parts.length cparts] 27) :: (.box bo [pp bl 0] 219) :: (.box bl [.slice raout rnout rcout] 221) :: (.box bc [.slice racs rncs rccs] 22) :: (.box bf [.func (.func 201) #[] #[pp bp 0, pp bi 0, pp bo 0, pp bc 0, pp bf 0]] 222) :: (rr raout rnout rcout 22 1 rxout) :: (rr racs rncs rccs 2 1 (cs.map (Value.int .i64))) :: ps) ((sF false Frest arest crest rest) :: (sF false Fparts aparts cparts parts) :: (xN true rFout rxout out) :: Γ)) (N : Fresh W0.heap.size (rFout :: Ns)) (K0 : Kept Ns Γ) (p0 : i + f = parts.length) (p1 : VC parts rest) (p2 : out.length ≤ 2000) (p3 : cs.length = parts.length) : Calls Tryz.prog 201 #[.int .i64 i, .slice arest rest.length crest, pp bp 0, pp bi 0, pp bo 0, pp bc 0, pp bf 0] w (fun e w' => ∃ v, e = .returned v ∧ ∃ (cs_ : List Int) (raout_ : Option Addr) (rnout_ : Nat) (rcout_ : Nat) (rxout_ : List Value) (rFout_ : List Nat), (cs_.length = cs.length) ∧ (cs_.take i = cs.take i) ∧ v = .bool (dec ((gath out (begins (cs.take i) (packs parts (parts.length - i) i rest))).length ≤ 2000)) ∧ Fresh W0.heap.size (rFout_ :: Ns) ∧ St W0 w' ((.box bp [.slice aparts parts.length cparts] 27) :: (.box bi [.func (.func 177) #[] #[pp bq 0]] 170) :: (.box bq [.slice aparts parts.length cparts] 27) :: (.box bo [pp bl 0] 219) :: (.box bl [.slice raout_ rnout_ rcout_] 221) :: (.box bc [.slice racs rncs rccs] 22) :: (.box bf [.func (.func 201) #[] #[pp bp 0, pp bi 0, pp bo 0, pp bc 0, pp bf 0]] 222) :: (rr raout_ rnout_ rcout_ 22 1 rxout_) :: (rr racs rncs rccs 2 1 (cs_.map (Value.int .i64))) :: ps) ((sF false Frest arest crest rest) :: (sF false Fparts aparts cparts parts) :: (xN true rFout_ rxout_ (gath out (begins (cs.take i) (packs parts (parts.length - i) i rest)))) :: Γ)) := by
 refine en Tryz.func201 Tryz.ntmps201 ?_
 have nrest := qx (H.get 0 rfl).1
 have nparts := qx (H.get 1 rfl).1
 obtain rfl := H.xP (α := List Int) 7 rfl 2 rfl (by decide)
 obtain rfl := H.rowNI 8 rfl
 have p4 := p1.small
 refine zcr (sp (.bool false) (zjcc (sp (.int .i64 i) (oL rfl (H.cell 0 rfl rfl) (oN rfl (sp (.bool ((i : Int) == parts.length)) (zjn (cE rfl (fun h1 => ?_) (fun h1 => ?_)))))))))
 ·skip
  refine zcr (oL rfl (H.cell 1 rfl rfl) (sp (.slice arest rest.length crest) (sw (zS #[.slice arest rest.length crest, pp bq 0] rfl rfl Tryz.call177 (en Tryz.func177 Tryz.ntmps177 ?_)))))
  refine zcr (sp (.bool false) (zjc (sp (.slice arest rest.length crest) (oL rfl (H.cell 2 rfl rfl) (sw (oq (isFull_ok _ rest parts (H.get 0 rfl).1 (H.get 1 rfl).1 (by first | assumption | omega)) H fun w3 H => sp (.bool (dec (FullOk parts rest))) (zjr (ret1 (.bool (dec (FullOk parts rest))) rfl rfl ⟨_, rfl, (sps [.bool (!(dec (FullOk parts rest))), .bool (!(dec (FullOk parts rest)))] ?_)⟩))))))))
  cases h5 : (!(dec (FullOk parts rest)))
  ·skip
   replace h5 := qQ h5
   replace h5 := yU h5
   refine qH 19 rfl rfl (oL rfl (H.cell 3 rfl rfl) (qH 19 rfl rfl (oL rfl (H.cell 5 rfl rfl) (qH 19 rfl rfl (sw (zS #[pp bl 0, .slice racs cs.length rccs] rfl rfl Tryz.call202 (en Tryz.func202 Tryz.ntmps202 ?_)))))))
   refine zcr (sp (.bool false) (zjcc (sps [pp bl 0, pp bl 0] (oF rfl (oL rfl (H.cell 4 rfl rfl) (oN rfl (sp (.bool (decide ((out.length : Int) > 2000))) (zjn (cD rfl (fun h6 => ?_) (fun h6 => ?_))))))))))
   ·skip
    refine zcr (sp (.bool false) (zjr (t_r (ret1 (.bool false) rfl rfl ⟨_, rfl, (sps [.bool false, .bool false] (zjr (t_r (ret1 (.bool false) rfl rfl ⟨_, rfl, ?_⟩))))⟩))))
    exfalso; omega
   refine qK (t_n (xC ?_))
   refine c_cut (fun ρ w12 => ∃ (junk : Env) (a7 : Option Addr) (c8 : Nat) (a9 : Option Addr) (c10 : Nat) (G11 : List Nat), ρ = upd junk 0 (pp bl 0) ∧ Fresh W0.heap.size ((rFout ++ G11) :: Ns) ∧ St W0 w12 ((.box bp [.slice aparts parts.length cparts] 27) :: (.box bi [.func (.func 177) #[] #[pp bq 0]] 170) :: (.box bq [.slice aparts parts.length cparts] 27) :: (.box bo [pp bl 0] 219) :: (.box bl [.slice a7 (out.length + 1) c8] 221) :: (.box bc [.slice racs cs.length rccs] 22) :: (.box bf [.func (.func 201) #[] #[pp bp 0, pp bi 0, pp bo 0, pp bc 0, pp bf 0]] 222) :: (rr a7 (out.length + 1) c8 22 1 (rxout ++ [.slice a9 cs.length c10])) :: (rr racs cs.length rccs 2 1 (cs.map (Value.int .i64))) :: ps) ((xN true (rFout ++ G11) (rxout ++ [.slice a9 cs.length c10]) (out ++ [cs])) :: (sF true G11 a9 c10 cs) :: (sF false Frest arest crest rest) :: (sF false Fparts aparts cparts parts) :: Γ)) ?_ ?_
   ·skip
    refine c_drawK2 rfl H [0, 1, 2, 3, 5, 6, 8] [0, 1, 2] fun H => ?_
    have S := H.jZ [0, 1, 2, 3, 5, 6, 8] [0, 1, 2]
    refine rtp 0 (pp bl 0) S ?_
    refine rtp 1 (pp bl 0) S ?_
    refine rtp 2 (pp bl 0) S ?_
    refine tF 3 rfl rfl S ?_
    refine rtp 5 (.slice racs cs.length rccs) S ?_
    refine vT [4, 6] (by kernel_rfl) (by simp) (yx rfl ?_ (yx rfl ?_ vU))
    ·skip
     refine zl (.slice raout out.length rcout) Tryz.isAgg27 rfl (H.cell 4 rfl rfl) (⟨H.pick [0, 1, 2, 3, 5, 6, 8] [0, 1, 2], (ro 6 rfl ?_)⟩)
     obtain ⟨G14, hn15, h16⟩ := H.rowIsI 8 rfl
     have sz17 := H.base.size
     have lt18 := all_two (H.ltN (L := [rFout]) [2]) (H.ltK (K0.behind 3 rfl))
     refine oc (cloneI_ok _ cs h16 (by first | assumption | omega)) ?_
     rintro v22 w20 r22 x21
     replace H := H.xW x21 r22
     obtain ⟨a23, c24, rfl, hc25, hm26⟩ := H.vN 0 rfl
     refine ⟨H.pick [1, 2, 3, 4, 6, 7, 9] [0, 1, 2], (ro 7 rfl (zM H Tryz.underlying27 ti22 [.slice a23 cs.length c24] fun b27 w28 H => ⟨H.pick [2, 3, 4, 5, 7, 8, 10] [0, 1, 2], (ro 8 rfl ?_)⟩))⟩
     obtain ⟨G32, N, hn33, H⟩ := H.vG 1 rfl N (fun F hF b hb => (List.mem_append.1 (show F ∈ [rFout] ++ Ns from hF)).elim (fun h => (H.yT (L := [rFout]) [2]) F h b hb) fun h => H.awayK (K0.behind 3 rfl) F h b hb)
     try dsimp only [List.set] at H
     refine zV H 9 rfl 0 rfl Tryz.underlying27 ti22 rfl (by decide) rfl rfl rfl (by simp [Value.oneCell', Value.cells]) (by unfold maxLen; omega) (by omega) fun a29 c30 w31 H => ?_
     try dsimp only [List.set] at H
     replace H := H.yl 3 rfl 0 rfl
     replace N : Fresh W0.heap.size ((rFout ++ G32) :: Ns) := (N.V8 2 [1, 0] (by simp only [List.length_cons]; omega)).join
     refine ⟨H.pick [2, 3, 4, 5, 7, 8, 10] [2, 3, 4], ?_⟩
     have S := H.jZ [2, 3, 4, 5, 7, 8, 10] [2, 3, 4]
     refine rtp 9 (pp bl 0) S ?_
     refine tF 10 rfl rfl S ?_
     refine ro 11 rfl (zk H 6 [.slice a29 (out.length + 1) c30] Tryz.sizeOf27 fun w34 H => ?_)
     try dsimp only [List.set] at H
     refine ⟨H.pick [2, 3, 4, 5, 7, 8, 10] [2, 3, 4], (xy (by kernel_rfl) ((meet ⟨_, a29, c30, a23, c24, G32, uE1, N, H.V8 11 5 [2, 3, 4, 5, 6, 7, 8, 9, 10] [0, 1, 2, 3] (by simp only [List.length_cons]; omega) (by simp only [List.length_cons]; omega)⟩)))⟩
    obtain ⟨G35, hn36, h37⟩ := H.rowIsI 8 rfl
    have sz38 := H.base.size
    have lt39 := all_two (H.ltN (L := [rFout]) [2]) (H.ltK (K0.behind 3 rfl))
    refine oc (cloneI_ok _ cs h37 (by first | assumption | omega)) ?_
    rintro v43 w41 r43 x42
    replace H := H.xW x42 r43
    obtain ⟨a44, c45, rfl, hc46, hm47⟩ := H.vN 0 rfl
    refine ⟨H.pick [1, 2, 3, 4, 6, 7, 9] [0, 1, 2], (vT [4, 7] (by kernel_rfl) (by simp) (yx rfl ?_ (yx rfl ?_ vU)))⟩
    ·skip
     refine zl (.slice raout out.length rcout) Tryz.isAgg27 rfl (H.cell 5 rfl rfl) (⟨H.pick [1, 2, 3, 4, 6, 7, 9] [0, 1, 2], (ro 7 rfl (zM H Tryz.underlying27 ti22 [.slice a44 cs.length c45] fun b48 w49 H => ⟨H.pick [2, 3, 4, 5, 7, 8, 10] [0, 1, 2], (ro 8 rfl ?_)⟩))⟩)
     obtain ⟨G53, N, hn54, H⟩ := H.vG 1 rfl N (fun F hF b hb => (List.mem_append.1 (show F ∈ [rFout] ++ Ns from hF)).elim (fun h => (H.yT (L := [rFout]) [2]) F h b hb) fun h => H.awayK (K0.behind 3 rfl) F h b hb)
     try dsimp only [List.set] at H
     refine zV H 9 rfl 0 rfl Tryz.underlying27 ti22 rfl (by decide) rfl rfl rfl (by simp [Value.oneCell', Value.cells]) (by unfold maxLen; omega) (by omega) fun a50 c51 w52 H => ?_
     try dsimp only [List.set] at H
     replace H := H.yl 3 rfl 0 rfl
     replace N : Fresh W0.heap.size ((rFout ++ G53) :: Ns) := (N.V8 2 [1, 0] (by simp only [List.length_cons]; omega)).join
     refine ⟨H.pick [2, 3, 4, 5, 7, 8, 10] [2, 3, 4], ?_⟩
     have S := H.jZ [2, 3, 4, 5, 7, 8, 10] [2, 3, 4]
     refine rtp 9 (pp bl 0) S ?_
     refine tF 10 rfl rfl S ?_
     refine ro 11 rfl (zk H 6 [.slice a50 (out.length + 1) c51] Tryz.sizeOf27 fun w55 H => ?_)
     try dsimp only [List.set] at H
     refine ⟨H.pick [2, 3, 4, 5, 7, 8, 10] [2, 3, 4], (xy (by kernel_rfl) ((meet ⟨_, a50, c51, a44, c45, G53, uE1, N, H.V8 11 5 [2, 3, 4, 5, 6, 7, 8, 9, 10] [0, 1, 2, 3] (by simp only [List.length_cons]; omega) (by simp only [List.length_cons]; omega)⟩)))⟩
    refine zM H Tryz.underlying27 ti22 [.slice a44 cs.length c45] fun b56 w57 H => ⟨H.pick [2, 3, 4, 5, 7, 8, 10] [0, 1, 2], (ro 4 rfl (zl (.slice raout out.length rcout) Tryz.isAgg27 rfl (H.cell 6 rfl rfl) (⟨H.pick [2, 3, 4, 5, 7, 8, 10] [0, 1, 2], (ro 8 rfl ?_)⟩)))⟩
    obtain ⟨G61, N, hn62, H⟩ := H.vG 1 rfl N (fun F hF b hb => (List.mem_append.1 (show F ∈ [rFout] ++ Ns from hF)).elim (fun h => (H.yT (L := [rFout]) [2]) F h b hb) fun h => H.awayK (K0.behind 3 rfl) F h b hb)
    try dsimp only [List.set] at H
    refine zV H 9 rfl 0 rfl Tryz.underlying27 ti22 rfl (by decide) rfl rfl rfl (by simp [Value.oneCell', Value.cells]) (by unfold maxLen; omega) (by omega) fun a58 c59 w60 H => ?_
    try dsimp only [List.set] at H
    replace H := H.yl 3 rfl 0 rfl
    replace N : Fresh W0.heap.size ((rFout ++ G61) :: Ns) := (N.V8 2 [1, 0] (by simp only [List.length_cons]; omega)).join
    refine ⟨H.pick [2, 3, 4, 5, 7, 8, 10] [2, 3, 4], ?_⟩
    have S := H.jZ [2, 3, 4, 5, 7, 8, 10] [2, 3, 4]
    refine rtp 9 (pp bl 0) S ?_
    refine tF 10 rfl rfl S ?_
    refine ro 11 rfl (zk H 6 [.slice a58 (out.length + 1) c59] Tryz.sizeOf27 fun w63 H => ?_)
    try dsimp only [List.set] at H
    refine ⟨H.pick [2, 3, 4, 5, 7, 8, 10] [2, 3, 4], (xy (by kernel_rfl) ((meet ⟨_, a58, c59, a44, c45, G61, uE1, N, H.V8 11 5 [2, 3, 4, 5, 6, 7, 8, 9, 10] [0, 1, 2, 3] (by simp only [List.length_cons]; omega) (by simp only [List.length_cons]; omega)⟩)))⟩
   clear H N
   rintro ρ w64 ⟨junk, a7, c8, a9, c10, G11, rfl, N, H⟩
   refine t_n (zcr (sps [pp bl 0, pp bl 0] (oF rfl (oL rfl (H.cell 4 rfl rfl) (oN rfl (sps [.bool (decide ((out.length + 1 : Int) ≤ 2000)), .bool (decide ((out.length + 1 : Int) ≤ 2000))] (zjr (ret1 (.bool (decide ((out.length + 1 : Int) ≤ 2000))) rfl rfl ⟨_, rfl, (sps [.bool (decide ((out.length + 1 : Int) ≤ 2000)), .bool (decide ((out.length + 1 : Int) ≤ 2000))] (zjr (t_r (ret1 (.bool (decide ((out.length + 1 : Int) ≤ 2000))) rfl rfl ⟨_, rfl, ?_⟩))))⟩))))))))
   rw [pack_fullI (by omega) p3 ‹FullOk _ _› p2, show decide ((out.length + 1 : Int) ≤ 2000) = dec ((out ++ [cs]).length ≤ 2000) from dec_eq (by simp; omega)]
   exact ⟨cs, a7, out.length + 1, c8, rxout ++ [Value.slice a9 cs.length c10], (rFout ++ G11), (by first | rfl | omega | (have := ‹_ = (List.set _ _ _).length›; rw [List.length_set] at this; omega)), (by first | rfl | assumption | exact pack_keep ‹_› j2), rfl, N, H.V8 9 4 [0, 1, 2, 3, 4, 5, 6, 7, 8] [2, 3, 0] (by simp only [List.length_cons]; omega) (by simp only [List.length_cons]; omega)⟩
  replace h5 := qW h5
  replace h5 := zA h5
  refine xJ [20, 21, 22] (sps [.bool true, .bool true] (zjr (t_r (ret1 (.bool true) rfl rfl ⟨_, rfl, ?_⟩))))
  rw [pack_noneI (by omega) ‹_› p2, jF p2]
  exact ⟨cs, raout, out.length, rcout, rxout, rFout, (by first | rfl | omega | (have := ‹_ = (List.set _ _ _).length›; rw [List.length_set] at this; omega)), (by first | rfl | assumption | exact pack_keep ‹_› j2), rfl, N, H.V8 9 3 [0, 1, 2, 3, 4, 5, 6, 7, 8] [0, 1, 2] (by simp only [List.length_cons]; omega) (by simp only [List.length_cons]; omega)⟩
 refine qK (t_n (zcc (sp (.int .i64 0) (zjn (qM ?_)))))
 obtain ⟨t1, t2, t3, t4, t5, t6⟩ := p1.times (k := i) (by omega)
 refine xQ (fun m' ρ w65 => ∃ (junk : Env) (n : Nat) (VX : Option Addr) (VS : Nat) (VW : Nat) (out_lists : List (List Int)) (VN : List Value) (QS : List Nat) (cs_1 : List Int), ρ = upd (upd (upd (upd (upd (upd junk 0 (.int .i64 i)) 1 (.slice arest rest.length crest)) 2 (pp bp 0)) 5 (pp bc 0)) 6 (pp bf 0)) 10 (.int .i64 n) ∧ out_lists = (gath out (begins (cs.take i) (vV parts (f - 1) i rest n))) ∧ ((n : Int) ≤ vM (parts[i]!) rest + 1) ∧ (cs_1.length = parts.length) ∧ (cs_1.take i = cs.take i) ∧ ((gath out (begins (cs.take i) (vV parts (f - 1) i rest n))).length ≤ 2000) ∧ m' = (vM (parts[i]!) rest + 1 - (n : Int)).toNat ∧ Fresh W0.heap.size (QS :: Ns) ∧ St W0 w65 ((.box bp [.slice aparts parts.length cparts] 27) :: (.box bi [.func (.func 177) #[] #[pp bq 0]] 170) :: (.box bq [.slice aparts parts.length cparts] 27) :: (.box bo [pp bl 0] 219) :: (.box bl [.slice VX VS VW] 221) :: (.box bc [.slice racs cs.length rccs] 22) :: (.box bf [.func (.func 201) #[] #[pp bp 0, pp bi 0, pp bo 0, pp bc 0, pp bf 0]] 222) :: (rr VX VS VW 22 1 VN) :: (rr racs cs.length rccs 2 1 (cs_1.map (Value.int .i64))) :: ps) ((sF false Frest arest crest rest) :: (sF false Fparts aparts cparts parts) :: (xN true QS VN out_lists) :: Γ)) ((vM (parts[i]!) rest + 1 - (0 : Int)).toNat) ⟨_, 0, raout, out.length, rcout, out, rxout, rFout, cs, uE6, (by exact pack_startI p2), (by omega), (by assumption), (by rfl), (by rw [← pack_startI p2]; exact p2), rfl, N, H⟩ ?_
 clear H N
 rintro m' ρ w66 ⟨junk, n, VX, VS, VW, out_lists, VN, QS, cs_1, rfl, rfl, i0, j1, j2, j3, rfl, N, H⟩
 have hn_out_lists := H.xP (α := List Int) 7 rfl 2 rfl (by decide)
 have hn_cs := H.rowNI 8 rfl
 refine zcc (sp (.int .i64 n) (oL rfl (H.cell 0 rfl rfl) (sp (.int .i64 i) ?_)))
 obtain ⟨b67, o68, rfl⟩ := H.addr 1 rfl (by omega)
 obtain ⟨ae70, ce70, Fe70, H⟩ := H.zU 1 rfl i i (by omega) (by omega) (by omega)
 refine oI rfl rfl (oL rfl (H.xB 1 rfl 0 rfl) (sp (.slice arest rest.length crest) ?_))
 obtain ⟨t1, t2, t3, t4, t5, t6⟩ := p1.times (k := i) (by omega)
 refine sw (oq (timesIn_ok _ (parts[i]!) rest (H.get 0 rfl).1 (H.get 2 rfl).1 (by first | assumption | omega) (by first | assumption | omega)) H fun w72 H => sp (.bool (decide ((n : Int) ≤ (vM (parts[i]!) rest)))) (zjn (cD rfl (fun h74 => ?_) (fun h74 => ?_))))
 ·skip
  refine qK (t_n (xC (qM (zcr (oL rfl (H.cell 5 rfl rfl) (sps [.int .i64 i, .int .i64 n] ?_))))))
  obtain ⟨b75, rfl⟩ := H.Qn 8 rfl (by omega)
  refine oI rfl rfl (sw (o_storeInt H 8 rfl n Tryz.sizeOf2 rfl rfl (i := i) (by omega) (by omega) fun w76 H => ?_))
  try dsimp only [List.set] at H
  refine zjn (xC ?_)
  refine c_drawK2 rfl H [0, 1, 2, 3, 5, 6] [0, 1, 2, 3] fun H => ?_
  have S := H.jZ [0, 1, 2, 3, 5, 6] [0, 1, 2, 3]
  refine tL 0 rfl rfl (fun _ h => h.cell 5 rfl rfl) S ?_
  refine rtp 1 (.int .i64 i) S ?_
  refine rt 2 (.int .i64 (i + 1)) (y_add i 1 rfl rfl (by omega)) S ?_
  refine rtp 3 (.slice arest rest.length crest) S ?_
  refine tL 4 rfl rfl (fun _ h => h.cell 0 rfl rfl) S ?_
  refine rtp 5 (.int .i64 i) S ?_
  refine tI 6 rfl rfl rfl S ?_
  refine tL 7 rfl rfl (fun _ h => h.xB 1 rfl 0 rfl) S ?_
  refine rtp 8 (.int .i64 n) S ?_
  refine rt 9 (.int .i64 (-n)) (y_neg n rfl (by omega)) S ?_
  refine ro 10 rfl ?_
  obtain ⟨u1, u2, u3, u4⟩ := p1.plus (k := i) (by omega) (n := (n : Int)) (by omega) (by omega)
  have sz78 := H.base.size
  have lt79 := all_two (H.ltN (L := [QS]) [4]) (H.ltK (K0.behind 5 rfl))
  refine oc (plus_ok _ rest (parts[i]!) (-n) (H.get 2 rfl).1 (H.get 0 rfl).1 (by first | assumption | omega) (by first | assumption | omega) (by first | assumption | omega)) ?_
  rintro v83 w81 r83 x82
  replace H := H.xW x82 r83
  obtain ⟨a84, c85, rfl, hc86, hm87⟩ := H.vN 0 rfl
  refine ⟨H.pick [1, 2, 3, 4, 6, 7] [0, 1, 2, 3], (ro 11 rfl ?_)⟩
  obtain ⟨G88, N, hn89, H⟩ := H.vG 0 rfl N (fun F hF b hb => (List.mem_append.1 (show F ∈ [QS] ++ Ns from hF)).elim (fun h => (H.yT (L := [QS]) [4]) F h b hb) fun h => H.awayK (K0.behind 5 rfl) F h b hb)
  try dsimp only [List.set] at H
  replace H := H.unfreeI 0 rfl
  have H1 : St W0 w81 ((.box bp [.slice (aa b67 o68) parts.length cparts] 27) :: (.box bi [.func (.func 177) #[] #[pp bq 0]] 170) :: (.box bq [.slice (aa b67 o68) parts.length cparts] 27) :: (.box bo [pp bl 0] 219) :: (.box bl [.slice VX VS VW] 221) :: (.box bc [.slice (aa b75 0) cs.length rccs] 22) :: (.box bf [.func (.func 201) #[] #[pp bp 0, pp bi 0, pp bo 0, pp bc 0, pp bf 0]] 222) :: (rr VX VS VW 22 1 VN) :: (rr (aa b75 0) cs.length rccs 2 1 ((cs_1.set i n).map (Value.int .i64))) :: (rr none 0 0 0 1 []) :: ps) ((sF false G88 a84 c85 (vk rest (parts[i]!) (-n))) :: (sF false Fparts (aa b67 o68) cparts parts) :: (xN true QS VN (gath out (begins (cs.take i) (vV parts (f - 1) i rest n)))) :: (sF false G88 a84 c85 (vk rest (parts[i]!) (-n))) :: (sF true G88 a84 c85 (vk rest (parts[i]!) (-n))) :: (sF false Fe70 ae70 ce70 (parts[i]!)) :: (atF b67 (o68 + (i : Int).toNat * 1) [.slice ae70 ((parts[i]!).length) ce70]) :: (sF false Frest arest crest rest) :: (sF false Fparts (aa b67 o68) cparts parts) :: Γ) := H.V8 10 7 [1, 2, 3, 4, 5, 6, 7, 8, 9, 0] [0, 5, 6, 0, 1, 2, 3, 4, 5] (by simp only [List.length_cons]; omega) (by simp only [List.length_cons]; omega)
  have N1 : Fresh _ (QS :: G88 :: Ns) := (N.V8 2 [1, 0] (by simp only [List.length_cons]; omega))
  have K1 : Kept (Ns) ((sF false G88 a84 c85 (vk rest (parts[i]!) (-n))) :: (sF true G88 a84 c85 (vk rest (parts[i]!) (-n))) :: (sF false Fe70 ae70 ce70 (parts[i]!)) :: (atF b67 (o68 + (i : Int).toNat * 1) [.slice ae70 ((parts[i]!).length) ce70]) :: (sF false Frest arest crest rest) :: (sF false Fparts (aa b67 o68) cparts parts) :: Γ) := K0.behind 6 rfl
  replace K1 := K1.cons (F := G88) 0 rfl rfl
  refine o_callF #[.int .i64 (i + 1), .slice a84 ((vk rest (parts[i]!) (-n)).length) c85, pp bp 0, pp bi 0, pp bo 0, pp bc 0, pp bf 0] rfl rfl Tryz.call201 (IH (f - 1) (by omega) (i + 1) (vk rest (parts[i]!) (-n)) parts (gath out (begins (cs.take i) (vV parts (f - 1) i rest n))) (cs_1.set i n) a84 c85 G88 (aa b67 o68) cparts Fparts bp bi bq bo bl bc bf VX VS VW VN QS (aa b75 0) cs.length rccs H1 N1 K1 (by omega) (by first | assumption | exact u4) (by first | assumption | exact j3 | (simp; done)) (by first | assumption | (rw [List.length_set]; exact j1) | (simp; done))) ?_
  clear H H1 N1 K1
  rintro _ w90 ⟨cs91, raout91, rnout91, rcout91, rxout91, rFout91, hx92, hx93, rfl, N, H⟩
  obtain rfl := H.xP (α := List Int) 7 rfl 2 rfl (by decide)
  refine ⟨H.pick [0, 1, 2, 3, 5, 6] [5, 6, 7, 8], (rtp 12 (.bool (!(dec ((gath (gath out (begins (cs.take i) (vV parts (f - 1) i rest n))) (begins ((cs_1.set i n).take (i + 1)) (packs parts (parts.length - (i + 1)) (i + 1) (vk rest (parts[i]!) (-n))))).length ≤ 2000)))) (H.pick [0, 1, 2, 3, 5, 6] [5, 6, 7, 8]) ?_)⟩
  refine xy (by kernel_rfl) (t_n (cQ rfl (fun h94 => ?_) (fun h94 => ?_)))
  ·skip
   refine zcr (sp (.bool false) (zjr (zr5 (ret1 (.bool false) rfl rfl ⟨_, rfl, ?_⟩))))
   have e1 := pack_stepI (out := out) p0 (by omega) j1 j2 j3
   have e2 := ‹¬ (gath (gath _ _) _).length ≤ 2000›
   rw [e1] at e2
   rw [pack_endI (n := n + 1) p0 (by omega) (by omega) (by omega) (.inr e2), ← e1, qY (by rw [e1]; exact e2)]
   exact ⟨cs91, raout91, (gath (gath out (begins (cs.take i) (vV parts (f - 1) i rest n))) (begins ((cs_1.set i n).take (i + 1)) (packs parts (parts.length - (i + 1)) (i + 1) (vk rest (parts[i]!) (-n))))).length, rcout91, rxout91, rFout91, (by first | rfl | omega | (have := ‹_ = (List.set _ _ _).length›; rw [List.length_set] at this; omega)), (by first | rfl | assumption | exact pack_keep ‹_› j2), rfl, (N.V8 2 [0] (by simp only [List.length_cons]; omega)), H.V8 10 9 [0, 1, 2, 3, 4, 5, 6, 7, 8] [7, 1, 2] (by simp only [List.length_cons]; omega) (by simp only [List.length_cons]; omega)⟩
  refine qK (b_n (t_n (xH (sp (.int .i64 n) (sw (xX n 1 rfl rfl (by omega) (sp (.int .i64 (n + 1)) (xG ?_))))))))
  refine qR (m' := (vM (parts[i]!) rest + 1 - ((n + 1) : Int)).toNat) (by omega) ⟨_, n + 1, raout91, (gath (gath out (begins (cs.take i) (vV parts (f - 1) i rest n))) (begins ((cs_1.set i n).take (i + 1)) (packs parts (parts.length - (i + 1)) (i + 1) (vk rest (parts[i]!) (-n))))).length, rcout91, (gath (gath out (begins (cs.take i) (vV parts (f - 1) i rest n))) (begins ((cs_1.set i n).take (i + 1)) (packs parts (parts.length - (i + 1)) (i + 1) (vk rest (parts[i]!) (-n))))), rxout91, rFout91, cs91, uE6, ?_, ?_, ?_, ?_, ?_, rfl, (N.V8 2 [0] (by simp only [List.length_cons]; omega)), H.V8 10 9 [0, 1, 2, 3, 4, 5, 6, 7, 8] [7, 8, 2] (by simp only [List.length_cons]; omega) (by simp only [List.length_cons]; omega)⟩
  · exact pack_stepI p0 (by omega) j1 j2 j3
  · omega
  · have := ‹_ = (List.set _ _ _).length›; rw [List.length_set] at this; omega
  · exact pack_keep ‹_› j2
  · rw [← pack_stepI p0 (by omega) j1 j2 j3]; assumption
 refine zx4 (zcr (sp (.bool true) (zjr (ret1 (.bool true) rfl rfl ⟨_, rfl, ?_⟩))))
 rw [pack_endI (f := f) (n := n) p0 (by omega) i0 (by omega) (.inl (by omega)), jF j3]
 exact ⟨cs_1, VX, VS, VW, VN, QS, (by first | rfl | omega | (have := ‹_ = (List.set _ _ _).length›; rw [List.length_set] at this; omega)), (by first | rfl | assumption | exact pack_keep ‹_› j2), rfl, N, H.V8 9 5 [0, 1, 2, 3, 4, 5, 6, 7, 8] [2, 3, 4] (by simp only [List.length_cons]; omega) (by simp only [List.length_cons]; omega)⟩

theorem packFrom_ok (f : Nat) : packFrom_ok_S f := Nat.strongRecOn (motive := packFrom_ok_S) f fun f IH => by unfold packFrom_ok_S; intros; apply packFrom_ok_step f IH <;> assumption

theorem maxPack_ok (w : World) (b : List Int) (parts : List (List Int)) {aparts : Option Addr} {cparts : Nat} {Fparts : List Nat} (hb : qB.rep w Fb [.slice ab b.length cb] b) (hparts : qB.rep w Fparts [.slice aparts parts.length cparts] parts) (p0 : VC parts b) (p1 : 1 ≤ parts.length) : Calls Tryz.prog 142 #[.slice ab b.length cb, .slice aparts parts.length cparts] w (Ret (fun v w' => ∃ (ra0 : Option Addr) (rn0 : Nat) (rc0 : Nat) (rx0 : List Value) (rF0 : List Nat), v = .tuple #[.slice ra0 rn0 rc0, .int .i64 ((zu b parts).2)] ∧ Fresh w.heap.size [rF0] ∧ St w w' [rr ra0 rn0 rc0 22 1 rx0] [xN true rF0 rx0 ((zu b parts).1)]) w) := by
 refine en Tryz.func142 Tryz.ntmps142 ?_
 have H := ((St.start w).arg hparts).arg hb
 have nhb := qx hb
 have nhparts := qx hparts
 clear hb hparts
 have N := Fresh.nil w.heap.size
 have p3 := p0.small
 have p4 := p0.smallB
 refine zcr (sw (zY H [.slice aparts parts.length cparts] fun b1 w2 H => sps [.slice none 0 0, .int .i64 0] (zjc (sp (.slice ab b.length cb) (oL rfl (H.cell 0 rfl rfl) (sp (.func (.func 177) #[] #[pp b1 0]) (sw (zS #[.slice ab b.length cb, .slice aparts parts.length cparts, .func (.func 177) #[] #[pp b1 0]] rfl rfl Tryz.call176 (en Tryz.func176 Tryz.ntmps176 ?_)))))))))
 refine zcr (sw (zY H [.slice aparts parts.length cparts] fun b3 w4 H => sw (zY H [.func (.func 177) #[] #[pp b1 0]] fun b5 w6 H => sps [.slice none 0 0, .int .i64 0] (zjcc (sp (.slice ab b.length cb) (oL rfl (H.cell 1 rfl rfl) (sw (oq (bagAndParts_ok _ b parts (H.get 0 rfl).1 (H.get 1 rfl).1 (by first | assumption | omega) (by first | assumption | omega)) H fun w8 H => sp (.int .i64 0) (zjc (sps [.int .i64 0, .bool false] (zjn (xn false rfl (fun h => absurd h (by decide)) (fun _ => qK (t_n (zcc (sp (.slice ab b.length cb) ?_))))))))))))))))
 refine sw (oq (XW _ b (H.get 0 rfl).1 (by first | assumption | exact zL (by assumption) | exact yD (by assumption))) H fun w10 H => sp (.bool (decide ((X4 b : Int) > 16))) (zjn (cD rfl (fun h12 => ?_) (fun h12 => ?_))))
 ·skip
  refine zcr (sps [.slice none 0 0, .int .i64 3] (zjr (t_r (ret2 (.slice none 0 0) (.int .i64 3) rfl rfl rfl ⟨_, rfl, ?_⟩))))
  replace H := H.erases [1, 0]
  dsimp only [jf, List.eraseIdx] at H
  refine sps [.slice none 0 0, .int .i64 3, .slice none 0 0, .int .i64 3] (zjr ?_)
  replace H := H.nilRow 22 1
  replace H := H.vw (α := List Int)
  refine ret2 (.slice none 0 0) (.int .i64 3) rfl rfl rfl ⟨_, rfl, ?_, H.base⟩
  first | rw [all_a (by assumption)] | rw [all_bI (cs := (List.replicate parts.length (0 : Int))) (by assumption) (by omega)]
  exact ⟨none, 0, 0, [], [], rfl, N.emp, H.pick [0] [0]⟩
 refine qK (t_n (xC ?_))
 refine c_cut (fun ρ w17 => ∃ (junk : Env) (b13 : Nat) (b14 : Nat) (b15 : Nat) (b16 : Nat), ρ = upd (upd (upd (upd (upd junk 0 (.slice ab b.length cb)) 4 (pp b3 0)) 5 (pp b5 0)) 9 (pp b13 0)) 10 (pp b14 0) ∧ Fresh w.heap.size [] ∧ St w w17 [.box b14 [.slice (aa b15 0) parts.length parts.length] 22, .box b13 [pp b16 0] 219, rr (aa b15 0) parts.length parts.length 2 1 ((List.replicate parts.length (0 : Int)).map (Value.int .i64)), .box b16 [.slice none 0 0] 221, .box b5 [.func (.func 177) #[] #[pp b1 0]] 170, .box b3 [.slice aparts parts.length cparts] 27, .box b1 [.slice aparts parts.length cparts] 27] [sF false Fb ab cb b, sF false Fparts aparts cparts parts]) ?_ ?_
 ·skip
  refine vH rfl H fun H => ?_
  refine r_have (fun ρ w23 => ∃ (junk : Env) (b19 : Nat) (b20 : Nat) (b21 : Nat), ρ = upd (upd (upd (upd (upd (upd (upd junk 0 (.slice ab b.length cb)) 4 (pp b3 0)) 5 (pp b5 0)) 9 (pp b20 0)) 10 (pp b21 0)) 22 (pp b19 0)) 24 (.int .i64 parts.length) ∧ Fresh w.heap.size [] ∧ St w w23 [.box b21 [.slice none 0 0] 22, .box b20 [.pointer none] 219, .box b19 [.slice none 0 0] 221, .box b5 [.func (.func 177) #[] #[pp b1 0]] 170, .box b3 [.slice aparts parts.length cparts] 27, .box b1 [.slice aparts parts.length cparts] 27] [sF false Fb ab cb b, sF false Fparts aparts cparts parts]) 3 #[true, true, true, true, false, true, true, false, false] ?_ fun L22 => ?_
  ·skip
   rintro ρ w24 ⟨junk, b19, b20, b21, rfl, N, H⟩
   refine vT [4, 7] (by kernel_rfl) (by simp) (yx rfl ?_ (yx rfl ?_ vU))
   ·skip
    refine Xa H Tryz.underlying22 ti2 parts.length rfl rfl (by omega) (by omega) (by omega) fun b25 w26 H => ⟨H.pick [4, 5, 6] [0, 1], (ro 7 rfl (zk H 2 [pp b19 0] Tryz.sizeOf219 fun w27 H => ⟨H.pick [4, 5, 6] [0, 1], (ro 8 rfl (zk H 1 [.slice (aa b25 0) parts.length parts.length] Tryz.sizeOf22 fun w28 H => ⟨H.pick [4, 5, 6] [0, 1], (xy (by kernel_rfl) ((meet ⟨_, b20, b21, b25, b19, uE5, N, H.pick [1, 2, 0, 3, 4, 5, 6] [0, 1]⟩)))⟩))⟩))⟩
   refine zk H 1 [pp b19 0] Tryz.sizeOf219 fun w29 H => ⟨H.pick [3, 4, 5] [0, 1], (ro 4 rfl (Xa H Tryz.underlying22 ti2 parts.length rfl rfl (by omega) (by omega) (by omega) fun b30 w31 H => ⟨H.pick [4, 5, 6] [0, 1], (ro 8 rfl (zk H 1 [.slice (aa b30 0) parts.length parts.length] Tryz.sizeOf22 fun w32 H => ⟨H.pick [4, 5, 6] [0, 1], (xy (by kernel_rfl) ((meet ⟨_, b20, b21, b30, b19, uE5, N, H.pick [1, 2, 0, 3, 4, 5, 6] [0, 1]⟩)))⟩))⟩))⟩
  refine r_have (fun ρ w36 => ∃ (junk : Env) (b33 : Nat) (b34 : Nat), ρ = upd (upd (upd (upd (upd junk 0 (.slice ab b.length cb)) 4 (pp b3 0)) 5 (pp b5 0)) 22 (pp b33 0)) 25 (.slice (aa b34 0) parts.length parts.length) ∧ Fresh w.heap.size [] ∧ St w w36 [rr (aa b34 0) parts.length parts.length 2 1 ((List.replicate parts.length (0 : Int)).map (Value.int .i64)), .box b33 [.slice none 0 0] 221, .box b5 [.func (.func 177) #[] #[pp b1 0]] 170, .box b3 [.slice aparts parts.length cparts] 27, .box b1 [.slice aparts parts.length cparts] 27] [sF false Fb ab cb b, sF false Fparts aparts cparts parts]) 4 #[true, true, true, true, true, false, false, false, false] ?_ fun L35 => ?_
  ·skip
   rintro ρ w37 ⟨junk, b33, b34, rfl, N, H⟩
   refine vT [5, 6] (by kernel_rfl) (by simp) (yx rfl ?_ (yx rfl ?_ vU))
   ·skip
    refine xM H ti219 [.pointer none] fun b38 w39 H => ⟨H.pick [3, 4, 5] [0, 1], (ro 6 rfl (xM H ti22 [.slice none 0 0] fun b40 w41 H => ⟨H.pick [4, 5, 6] [0, 1], (ro 7 rfl (zk H 1 [pp b33 0] Tryz.sizeOf219 fun w42 H => ⟨H.pick [4, 5, 6] [0, 1], (ro 8 rfl (zk H 0 [.slice (aa b34 0) parts.length parts.length] Tryz.sizeOf22 fun w43 H => ⟨H.pick [4, 5, 6] [0, 1], (xy (by kernel_rfl) ((meet ⟨_, b38, b40, b34, b33, uE5, N, H⟩)))⟩))⟩))⟩))⟩
   refine xM H ti22 [.slice none 0 0] fun b44 w45 H => ⟨H.pick [3, 4, 5] [0, 1], (ro 5 rfl (xM H ti219 [.pointer none] fun b46 w47 H => ⟨H.pick [4, 5, 6] [0, 1], (ro 7 rfl (zk H 0 [pp b33 0] Tryz.sizeOf219 fun w48 H => ⟨H.pick [4, 5, 6] [0, 1], (ro 8 rfl (zk H 1 [.slice (aa b34 0) parts.length parts.length] Tryz.sizeOf22 fun w49 H => ⟨H.pick [4, 5, 6] [0, 1], (xy (by kernel_rfl) ((meet ⟨_, b46, b44, b34, b33, uE5, N, H.pick [1, 0, 2, 3, 4, 5, 6] [0, 1]⟩)))⟩))⟩))⟩))⟩
  refine r_have (fun ρ w53 => ∃ (junk : Env) (b50 : Nat) (b51 : Nat), ρ = upd (upd (upd (upd (upd (upd junk 0 (.slice ab b.length cb)) 4 (pp b3 0)) 5 (pp b5 0)) 9 (pp b51 0)) 22 (pp b50 0)) 24 (.int .i64 parts.length) ∧ Fresh w.heap.size [] ∧ St w w53 [.box b51 [.pointer none] 219, .box b50 [.slice none 0 0] 221, .box b5 [.func (.func 177) #[] #[pp b1 0]] 170, .box b3 [.slice aparts parts.length cparts] 27, .box b1 [.slice aparts parts.length cparts] 27] [sF false Fb ab cb b, sF false Fparts aparts cparts parts]) 4 #[true, true, true, true, false, true, false, false, false] ?_ fun L52 => ?_
  ·skip
   rintro ρ w54 ⟨junk, b50, b51, rfl, N, H⟩
   refine vT [4, 6] (by kernel_rfl) (by simp) (yx rfl ?_ (yx rfl ?_ vU))
   ·skip
    refine Xa H Tryz.underlying22 ti2 parts.length rfl rfl (by omega) (by omega) (by omega) fun b55 w56 H => ⟨H.pick [3, 4, 5] [0, 1], (ro 6 rfl (xM H ti22 [.slice none 0 0] fun b57 w58 H => ⟨H.pick [4, 5, 6] [0, 1], (ro 7 rfl (zk H 2 [pp b50 0] Tryz.sizeOf219 fun w59 H => ⟨H.pick [4, 5, 6] [0, 1], (ro 8 rfl (zk H 0 [.slice (aa b55 0) parts.length parts.length] Tryz.sizeOf22 fun w60 H => ⟨H.pick [4, 5, 6] [0, 1], (xy (by kernel_rfl) ((meet ⟨_, b51, b57, b55, b50, uE5, N, H.pick [0, 2, 1, 3, 4, 5, 6] [0, 1]⟩)))⟩))⟩))⟩))⟩
   refine xM H ti22 [.slice none 0 0] fun b61 w62 H => ⟨H.pick [3, 4, 5] [0, 1], (Xl L22 ⟨_, b50, b51, b61, uE7, N, H⟩)⟩
  refine r_have (fun ρ w66 => ∃ (junk : Env) (b63 : Nat) (b64 : Nat), ρ = upd (upd (upd (upd (upd (upd junk 0 (.slice ab b.length cb)) 4 (pp b3 0)) 5 (pp b5 0)) 10 (pp b64 0)) 22 (pp b63 0)) 24 (.int .i64 parts.length) ∧ Fresh w.heap.size [] ∧ St w w66 [.box b64 [.slice none 0 0] 22, .box b63 [.slice none 0 0] 221, .box b5 [.func (.func 177) #[] #[pp b1 0]] 170, .box b3 [.slice aparts parts.length cparts] 27, .box b1 [.slice aparts parts.length cparts] 27] [sF false Fb ab cb b, sF false Fparts aparts cparts parts]) 4 #[true, true, true, true, false, false, true, false, false] ?_ fun L65 => ?_
  ·skip
   rintro ρ w67 ⟨junk, b63, b64, rfl, N, H⟩
   refine vT [4, 5] (by kernel_rfl) (by simp) (yx rfl ?_ (yx rfl ?_ vU))
   ·skip
    refine Xa H Tryz.underlying22 ti2 parts.length rfl rfl (by omega) (by omega) (by omega) fun b68 w69 H => ⟨H.pick [3, 4, 5] [0, 1], (ro 5 rfl (xM H ti219 [.pointer none] fun b70 w71 H => ⟨H.pick [4, 5, 6] [0, 1], (ro 7 rfl (zk H 0 [pp b63 0] Tryz.sizeOf219 fun w72 H => ⟨H.pick [4, 5, 6] [0, 1], (ro 8 rfl (zk H 2 [.slice (aa b68 0) parts.length parts.length] Tryz.sizeOf22 fun w73 H => ⟨H.pick [4, 5, 6] [0, 1], (xy (by kernel_rfl) ((meet ⟨_, b70, b64, b68, b63, uE5, N, H.pick [2, 0, 1, 3, 4, 5, 6] [0, 1]⟩)))⟩))⟩))⟩))⟩
   refine xM H ti219 [.pointer none] fun b74 w75 H => ⟨H.pick [3, 4, 5] [0, 1], (Xl L22 ⟨_, b63, b74, b64, uE7, N, H.pick [1, 0, 2, 3, 4, 5] [0, 1]⟩)⟩
  refine r_have (fun ρ w79 => ∃ (junk : Env) (b76 : Nat) (b77 : Nat), ρ = upd (upd (upd (upd (upd (upd junk 0 (.slice ab b.length cb)) 4 (pp b3 0)) 5 (pp b5 0)) 9 (pp b77 0)) 21 (.agg #[.slice none 0 0])) 25 (.slice (aa b76 0) parts.length parts.length) ∧ Fresh w.heap.size [] ∧ St w w79 [.box b77 [.pointer none] 219, rr (aa b76 0) parts.length parts.length 2 1 ((List.replicate parts.length (0 : Int)).map (Value.int .i64)), .box b5 [.func (.func 177) #[] #[pp b1 0]] 170, .box b3 [.slice aparts parts.length cparts] 27, .box b1 [.slice aparts parts.length cparts] 27] [sF false Fb ab cb b, sF false Fparts aparts cparts parts]) 4 #[true, false, true, true, true, true, false, false, false] ?_ fun L78 => ?_
  ·skip
   rintro ρ w80 ⟨junk, b76, b77, rfl, N, H⟩
   refine vT [1, 6] (by kernel_rfl) (by simp) (yx rfl ?_ (yx rfl ?_ vU))
   ·skip
    refine zY H [.slice none 0 0] fun b81 w82 H => ⟨H.pick [3, 4, 5] [0, 1], (ro 6 rfl (xM H ti22 [.slice none 0 0] fun b83 w84 H => ⟨H.pick [4, 5, 6] [0, 1], (ro 7 rfl (zk H 2 [pp b81 0] Tryz.sizeOf219 fun w85 H => ⟨H.pick [4, 5, 6] [0, 1], (ro 8 rfl (zk H 0 [.slice (aa b76 0) parts.length parts.length] Tryz.sizeOf22 fun w86 H => ⟨H.pick [4, 5, 6] [0, 1], (xy (by kernel_rfl) ((meet ⟨_, b77, b83, b76, b81, uE5, N, H.pick [0, 2, 3, 1, 4, 5, 6] [0, 1]⟩)))⟩))⟩))⟩))⟩
   refine xM H ti22 [.slice none 0 0] fun b87 w88 H => ⟨H.pick [3, 4, 5] [0, 1], (ro 1 rfl (zY H [.slice none 0 0] fun b89 w90 H => ⟨H.pick [4, 5, 6] [0, 1], (ro 7 rfl (zk H 2 [pp b89 0] Tryz.sizeOf219 fun w91 H => ⟨H.pick [4, 5, 6] [0, 1], (ro 8 rfl (zk H 1 [.slice (aa b76 0) parts.length parts.length] Tryz.sizeOf22 fun w92 H => ⟨H.pick [4, 5, 6] [0, 1], (xy (by kernel_rfl) ((meet ⟨_, b77, b87, b76, b89, uE5, N, H.pick [1, 2, 3, 0, 4, 5, 6] [0, 1]⟩)))⟩))⟩))⟩))⟩
  refine r_have (fun ρ w96 => ∃ (junk : Env) (b93 : Nat) (b94 : Nat), ρ = upd (upd (upd (upd (upd (upd junk 0 (.slice ab b.length cb)) 4 (pp b3 0)) 5 (pp b5 0)) 10 (pp b94 0)) 21 (.agg #[.slice none 0 0])) 25 (.slice (aa b93 0) parts.length parts.length) ∧ Fresh w.heap.size [] ∧ St w w96 [.box b94 [.slice none 0 0] 22, rr (aa b93 0) parts.length parts.length 2 1 ((List.replicate parts.length (0 : Int)).map (Value.int .i64)), .box b5 [.func (.func 177) #[] #[pp b1 0]] 170, .box b3 [.slice aparts parts.length cparts] 27, .box b1 [.slice aparts parts.length cparts] 27] [sF false Fb ab cb b, sF false Fparts aparts cparts parts]) 4 #[true, false, true, true, true, false, true, false, false] ?_ fun L95 => ?_
  ·skip
   rintro ρ w97 ⟨junk, b93, b94, rfl, N, H⟩
   refine vT [1, 5] (by kernel_rfl) (by simp) (yx rfl ?_ (yx rfl ?_ vU))
   ·skip
    refine zY H [.slice none 0 0] fun b98 w99 H => ⟨H.pick [3, 4, 5] [0, 1], (ro 5 rfl (xM H ti219 [.pointer none] fun b100 w101 H => ⟨H.pick [4, 5, 6] [0, 1], (ro 7 rfl (zk H 0 [pp b98 0] Tryz.sizeOf219 fun w102 H => ⟨H.pick [4, 5, 6] [0, 1], (ro 8 rfl (zk H 2 [.slice (aa b93 0) parts.length parts.length] Tryz.sizeOf22 fun w103 H => ⟨H.pick [4, 5, 6] [0, 1], (xy (by kernel_rfl) ((meet ⟨_, b100, b94, b93, b98, uE5, N, H.pick [2, 0, 3, 1, 4, 5, 6] [0, 1]⟩)))⟩))⟩))⟩))⟩
   refine xM H ti219 [.pointer none] fun b104 w105 H => ⟨H.pick [3, 4, 5] [0, 1], (ro 1 rfl (zY H [.slice none 0 0] fun b106 w107 H => ⟨H.pick [4, 5, 6] [0, 1], (ro 7 rfl (zk H 1 [pp b106 0] Tryz.sizeOf219 fun w108 H => ⟨H.pick [4, 5, 6] [0, 1], (ro 8 rfl (zk H 2 [.slice (aa b93 0) parts.length parts.length] Tryz.sizeOf22 fun w109 H => ⟨H.pick [4, 5, 6] [0, 1], (xy (by kernel_rfl) ((meet ⟨_, b104, b94, b93, b106, uE5, N, H.pick [2, 1, 3, 0, 4, 5, 6] [0, 1]⟩)))⟩))⟩))⟩))⟩
  refine r_have (fun ρ w113 => ∃ (junk : Env) (b110 : Nat) (b111 : Nat), ρ = upd (upd (upd (upd (upd (upd (upd junk 0 (.slice ab b.length cb)) 4 (pp b3 0)) 5 (pp b5 0)) 9 (pp b110 0)) 10 (pp b111 0)) 21 (.agg #[.slice none 0 0])) 24 (.int .i64 parts.length) ∧ Fresh w.heap.size [] ∧ St w w113 [.box b111 [.slice none 0 0] 22, .box b110 [.pointer none] 219, .box b5 [.func (.func 177) #[] #[pp b1 0]] 170, .box b3 [.slice aparts parts.length cparts] 27, .box b1 [.slice aparts parts.length cparts] 27] [sF false Fb ab cb b, sF false Fparts aparts cparts parts]) 4 #[true, false, true, true, false, true, true, false, false] ?_ fun L112 => ?_
  ·skip
   rintro ρ w114 ⟨junk, b110, b111, rfl, N, H⟩
   refine vT [1, 4] (by kernel_rfl) (by simp) (yx rfl ?_ (yx rfl ?_ vU))
   ·skip
    refine zY H [.slice none 0 0] fun b115 w116 H => ⟨H.pick [3, 4, 5] [0, 1], (Xl L22 ⟨_, b115, b110, b111, uE7, N, H.pick [1, 2, 0, 3, 4, 5] [0, 1]⟩)⟩
   refine Xa H Tryz.underlying22 ti2 parts.length rfl rfl (by omega) (by omega) (by omega) fun b117 w118 H => ⟨H.pick [3, 4, 5] [0, 1], (ro 1 rfl (zY H [.slice none 0 0] fun b119 w120 H => ⟨H.pick [4, 5, 6] [0, 1], (ro 7 rfl (zk H 3 [pp b119 0] Tryz.sizeOf219 fun w121 H => ⟨H.pick [4, 5, 6] [0, 1], (ro 8 rfl (zk H 2 [.slice (aa b117 0) parts.length parts.length] Tryz.sizeOf22 fun w122 H => ⟨H.pick [4, 5, 6] [0, 1], (xy (by kernel_rfl) ((meet ⟨_, b110, b111, b117, b119, uE5, N, H.pick [2, 3, 1, 0, 4, 5, 6] [0, 1]⟩)))⟩))⟩))⟩))⟩
  refine r_have (fun ρ w125 => ∃ (junk : Env) (b123 : Nat), ρ = upd (upd (upd (upd (upd junk 0 (.slice ab b.length cb)) 4 (pp b3 0)) 5 (pp b5 0)) 21 (.agg #[.slice none 0 0])) 25 (.slice (aa b123 0) parts.length parts.length) ∧ Fresh w.heap.size [] ∧ St w w125 [rr (aa b123 0) parts.length parts.length 2 1 ((List.replicate parts.length (0 : Int)).map (Value.int .i64)), .box b5 [.func (.func 177) #[] #[pp b1 0]] 170, .box b3 [.slice aparts parts.length cparts] 27, .box b1 [.slice aparts parts.length cparts] 27] [sF false Fb ab cb b, sF false Fparts aparts cparts parts]) 5 #[true, false, true, true, true, false, false, false, false] ?_ fun L124 => ?_
  ·skip
   rintro ρ w126 ⟨junk, b123, rfl, N, H⟩
   refine vT [1, 5, 6] (by kernel_rfl) (by simp) (yx rfl ?_ (yx rfl ?_ (yx rfl ?_ vU)))
   ·skip
    refine zY H [.slice none 0 0] fun b127 w128 H => ⟨H.pick [2, 3, 4] [0, 1], (Xl L35 ⟨_, b127, b123, uE5, N, H.pick [1, 0, 2, 3, 4] [0, 1]⟩)⟩
   ·skip
    refine xM H ti219 [.pointer none] fun b129 w130 H => ⟨H.pick [2, 3, 4] [0, 1], (Xl L78 ⟨_, b123, b129, uE6, N, H⟩)⟩
   refine xM H ti22 [.slice none 0 0] fun b131 w132 H => ⟨H.pick [2, 3, 4] [0, 1], (Xl L95 ⟨_, b123, b131, uE6, N, H⟩)⟩
  refine r_have (fun ρ w135 => ∃ (junk : Env) (b133 : Nat), ρ = upd (upd (upd (upd (upd (upd junk 0 (.slice ab b.length cb)) 4 (pp b3 0)) 5 (pp b5 0)) 9 (pp b133 0)) 21 (.agg #[.slice none 0 0])) 24 (.int .i64 parts.length) ∧ Fresh w.heap.size [] ∧ St w w135 [.box b133 [.pointer none] 219, .box b5 [.func (.func 177) #[] #[pp b1 0]] 170, .box b3 [.slice aparts parts.length cparts] 27, .box b1 [.slice aparts parts.length cparts] 27] [sF false Fb ab cb b, sF false Fparts aparts cparts parts]) 5 #[true, false, true, true, false, true, false, false, false] ?_ fun L134 => ?_
  ·skip
   rintro ρ w136 ⟨junk, b133, rfl, N, H⟩
   refine vT [1, 4, 6] (by kernel_rfl) (by simp) (yx rfl ?_ (yx rfl ?_ (yx rfl ?_ vU)))
   ·skip
    refine zY H [.slice none 0 0] fun b137 w138 H => ⟨H.pick [2, 3, 4] [0, 1], (Xl L52 ⟨_, b137, b133, uE6, N, H.pick [1, 0, 2, 3, 4] [0, 1]⟩)⟩
   ·skip
    refine Xa H Tryz.underlying22 ti2 parts.length rfl rfl (by omega) (by omega) (by omega) fun b139 w140 H => ⟨H.pick [2, 3, 4] [0, 1], (Xl L78 ⟨_, b139, b133, uE6, N, H.pick [1, 0, 2, 3, 4] [0, 1]⟩)⟩
   refine xM H ti22 [.slice none 0 0] fun b141 w142 H => ⟨H.pick [2, 3, 4] [0, 1], (Xl L112 ⟨_, b133, b141, uE7, N, H⟩)⟩
  refine r_have (fun ρ w145 => ∃ (junk : Env) (b143 : Nat), ρ = upd (upd (upd (upd (upd (upd junk 0 (.slice ab b.length cb)) 4 (pp b3 0)) 5 (pp b5 0)) 10 (pp b143 0)) 21 (.agg #[.slice none 0 0])) 24 (.int .i64 parts.length) ∧ Fresh w.heap.size [] ∧ St w w145 [.box b143 [.slice none 0 0] 22, .box b5 [.func (.func 177) #[] #[pp b1 0]] 170, .box b3 [.slice aparts parts.length cparts] 27, .box b1 [.slice aparts parts.length cparts] 27] [sF false Fb ab cb b, sF false Fparts aparts cparts parts]) 5 #[true, false, true, true, false, false, true, false, false] ?_ fun L144 => ?_
  ·skip
   rintro ρ w146 ⟨junk, b143, rfl, N, H⟩
   refine vT [1, 4, 5] (by kernel_rfl) (by simp) (yx rfl ?_ (yx rfl ?_ (yx rfl ?_ vU)))
   ·skip
    refine zY H [.slice none 0 0] fun b147 w148 H => ⟨H.pick [2, 3, 4] [0, 1], (Xl L65 ⟨_, b147, b143, uE6, N, H.pick [1, 0, 2, 3, 4] [0, 1]⟩)⟩
   ·skip
    refine Xa H Tryz.underlying22 ti2 parts.length rfl rfl (by omega) (by omega) (by omega) fun b149 w150 H => ⟨H.pick [2, 3, 4] [0, 1], (Xl L95 ⟨_, b149, b143, uE6, N, H.pick [1, 0, 2, 3, 4] [0, 1]⟩)⟩
   refine xM H ti219 [.pointer none] fun b151 w152 H => ⟨H.pick [2, 3, 4] [0, 1], (Xl L112 ⟨_, b151, b143, uE7, N, H.pick [1, 0, 2, 3, 4] [0, 1]⟩)⟩
  refine r_have (fun ρ w156 => ∃ (junk : Env) (b153 : Nat) (b154 : Nat), ρ = upd (upd (upd (upd (upd junk 0 (.slice ab b.length cb)) 4 (pp b3 0)) 5 (pp b5 0)) 9 (pp b154 0)) 25 (.slice (aa b153 0) parts.length parts.length) ∧ Fresh w.heap.size [] ∧ St w w156 [.box b154 [.pointer none] 219, rr (aa b153 0) parts.length parts.length 2 1 ((List.replicate parts.length (0 : Int)).map (Value.int .i64)), .box b5 [.func (.func 177) #[] #[pp b1 0]] 170, .box b3 [.slice aparts parts.length cparts] 27, .box b1 [.slice aparts parts.length cparts] 27] [sF false Fb ab cb b, sF false Fparts aparts cparts parts]) 5 #[false, false, true, true, true, true, false, false, false] ?_ fun L155 => ?_
  ·skip
   rintro ρ w157 ⟨junk, b153, b154, rfl, N, H⟩
   refine vT [0, 6] (by kernel_rfl) (by simp) (yx rfl ?_ (yx rfl ?_ vU))
   ·skip
    refine jD [.slice none 0 0] [] (⟨H.pick [2, 3, 4] [0, 1], (Xl L78 ⟨_, b153, b154, uE6, N, H⟩)⟩)
   refine xM H ti22 [.slice none 0 0] fun b158 w159 H => ⟨H.pick [3, 4, 5] [0, 1], (ro 0 rfl (jD [.slice none 0 0] [] (⟨H.pick [3, 4, 5] [0, 1], (ro 1 rfl (zY H [.slice none 0 0] fun b160 w161 H => ⟨H.pick [4, 5, 6] [0, 1], (ro 7 rfl (zk H 2 [pp b160 0] Tryz.sizeOf219 fun w162 H => ⟨H.pick [4, 5, 6] [0, 1], (ro 8 rfl (zk H 1 [.slice (aa b153 0) parts.length parts.length] Tryz.sizeOf22 fun w163 H => ⟨H.pick [4, 5, 6] [0, 1], (xy (by kernel_rfl) ((meet ⟨_, b154, b158, b153, b160, uE5, N, H.pick [1, 2, 3, 0, 4, 5, 6] [0, 1]⟩)))⟩))⟩))⟩))⟩)))⟩
  refine r_have (fun ρ w167 => ∃ (junk : Env) (b164 : Nat) (b165 : Nat), ρ = upd (upd (upd (upd (upd junk 0 (.slice ab b.length cb)) 4 (pp b3 0)) 5 (pp b5 0)) 10 (pp b165 0)) 25 (.slice (aa b164 0) parts.length parts.length) ∧ Fresh w.heap.size [] ∧ St w w167 [.box b165 [.slice none 0 0] 22, rr (aa b164 0) parts.length parts.length 2 1 ((List.replicate parts.length (0 : Int)).map (Value.int .i64)), .box b5 [.func (.func 177) #[] #[pp b1 0]] 170, .box b3 [.slice aparts parts.length cparts] 27, .box b1 [.slice aparts parts.length cparts] 27] [sF false Fb ab cb b, sF false Fparts aparts cparts parts]) 5 #[false, false, true, true, true, false, true, false, false] ?_ fun L166 => ?_
  ·skip
   rintro ρ w168 ⟨junk, b164, b165, rfl, N, H⟩
   refine vT [0, 5] (by kernel_rfl) (by simp) (yx rfl ?_ (yx rfl ?_ vU))
   ·skip
    refine jD [.slice none 0 0] [] (⟨H.pick [2, 3, 4] [0, 1], (Xl L95 ⟨_, b164, b165, uE6, N, H⟩)⟩)
   refine xM H ti219 [.pointer none] fun b169 w170 H => ⟨H.pick [3, 4, 5] [0, 1], (ro 0 rfl (jD [.slice none 0 0] [] (⟨H.pick [3, 4, 5] [0, 1], (ro 1 rfl (zY H [.slice none 0 0] fun b171 w172 H => ⟨H.pick [4, 5, 6] [0, 1], (ro 7 rfl (zk H 1 [pp b171 0] Tryz.sizeOf219 fun w173 H => ⟨H.pick [4, 5, 6] [0, 1], (ro 8 rfl (zk H 2 [.slice (aa b164 0) parts.length parts.length] Tryz.sizeOf22 fun w174 H => ⟨H.pick [4, 5, 6] [0, 1], (xy (by kernel_rfl) ((meet ⟨_, b169, b165, b164, b171, uE5, N, H.pick [2, 1, 3, 0, 4, 5, 6] [0, 1]⟩)))⟩))⟩))⟩))⟩)))⟩
  refine r_have (fun ρ w178 => ∃ (junk : Env) (b175 : Nat) (b176 : Nat), ρ = upd (upd (upd (upd (upd (upd junk 0 (.slice ab b.length cb)) 4 (pp b3 0)) 5 (pp b5 0)) 9 (pp b175 0)) 10 (pp b176 0)) 24 (.int .i64 parts.length) ∧ Fresh w.heap.size [] ∧ St w w178 [.box b176 [.slice none 0 0] 22, .box b175 [.pointer none] 219, .box b5 [.func (.func 177) #[] #[pp b1 0]] 170, .box b3 [.slice aparts parts.length cparts] 27, .box b1 [.slice aparts parts.length cparts] 27] [sF false Fb ab cb b, sF false Fparts aparts cparts parts]) 5 #[false, false, true, true, false, true, true, false, false] ?_ fun L177 => ?_
  ·skip
   rintro ρ w179 ⟨junk, b175, b176, rfl, N, H⟩
   refine vT [0, 4] (by kernel_rfl) (by simp) (yx rfl ?_ (yx rfl ?_ vU))
   ·skip
    refine jD [.slice none 0 0] [] (⟨H.pick [2, 3, 4] [0, 1], (Xl L112 ⟨_, b175, b176, uE7, N, H⟩)⟩)
   refine Xa H Tryz.underlying22 ti2 parts.length rfl rfl (by omega) (by omega) (by omega) fun b180 w181 H => ⟨H.pick [3, 4, 5] [0, 1], (ro 0 rfl (jD [.slice none 0 0] [] (⟨H.pick [3, 4, 5] [0, 1], (ro 1 rfl (zY H [.slice none 0 0] fun b182 w183 H => ⟨H.pick [4, 5, 6] [0, 1], (ro 7 rfl (zk H 3 [pp b182 0] Tryz.sizeOf219 fun w184 H => ⟨H.pick [4, 5, 6] [0, 1], (ro 8 rfl (zk H 2 [.slice (aa b180 0) parts.length parts.length] Tryz.sizeOf22 fun w185 H => ⟨H.pick [4, 5, 6] [0, 1], (xy (by kernel_rfl) ((meet ⟨_, b175, b176, b180, b182, uE5, N, H.pick [2, 3, 1, 0, 4, 5, 6] [0, 1]⟩)))⟩))⟩))⟩))⟩)))⟩
  refine tL 2 rfl rfl (fun _ h => h.cell 1 rfl rfl) H ?_
  refine tN 3 rfl rfl H ?_
  refine vT [0, 4, 5, 6] (by kernel_rfl) (by simp) (yx rfl ?_ (yx rfl ?_ (yx rfl ?_ (yx rfl ?_ vU))))
  ·skip
   refine jD [.slice none 0 0] [] (⟨H, (vT [1, 4, 5, 6] (by kernel_rfl) (by simp) (yx rfl ?_ (yx rfl ?_ (yx rfl ?_ (yx rfl ?_ vU)))))⟩)
   ·skip
    refine zY H [.slice none 0 0] fun b186 w187 H => ⟨H.pick [1, 2, 3] [0, 1], (vT [4, 5, 6] (by kernel_rfl) (by simp) (yx rfl ?_ (yx rfl ?_ (yx rfl ?_ vU))))⟩
    ·skip
     refine Xa H Tryz.underlying22 ti2 parts.length rfl rfl (by omega) (by omega) (by omega) fun b188 w189 H => ⟨H.pick [2, 3, 4] [0, 1], (Xl L35 ⟨_, b186, b188, uE5, N, H⟩)⟩
    ·skip
     refine xM H ti219 [.pointer none] fun b190 w191 H => ⟨H.pick [2, 3, 4] [0, 1], (Xl L52 ⟨_, b186, b190, uE6, N, H⟩)⟩
    refine xM H ti22 [.slice none 0 0] fun b192 w193 H => ⟨H.pick [2, 3, 4] [0, 1], (Xl L65 ⟨_, b186, b192, uE6, N, H⟩)⟩
   ·skip
    refine Xa H Tryz.underlying22 ti2 parts.length rfl rfl (by omega) (by omega) (by omega) fun b194 w195 H => ⟨H.pick [1, 2, 3] [0, 1], (Xl L124 ⟨_, b194, uE5, N, H⟩)⟩
   ·skip
    refine xM H ti219 [.pointer none] fun b196 w197 H => ⟨H.pick [1, 2, 3] [0, 1], (Xl L134 ⟨_, b196, uE6, N, H⟩)⟩
   refine xM H ti22 [.slice none 0 0] fun b198 w199 H => ⟨H.pick [1, 2, 3] [0, 1], (Xl L144 ⟨_, b198, uE6, N, H⟩)⟩
  ·skip
   refine Xa H Tryz.underlying22 ti2 parts.length rfl rfl (by omega) (by omega) (by omega) fun b200 w201 H => ⟨H.pick [1, 2, 3] [0, 1], (vT [0, 5, 6] (by kernel_rfl) (by simp) (yx rfl ?_ (yx rfl ?_ (yx rfl ?_ vU))))⟩
   ·skip
    refine jD [.slice none 0 0] [] (⟨H.pick [1, 2, 3] [0, 1], (Xl L124 ⟨_, b200, uE5, N, H⟩)⟩)
   ·skip
    refine xM H ti219 [.pointer none] fun b202 w203 H => ⟨H.pick [2, 3, 4] [0, 1], (Xl L155 ⟨_, b200, b202, uE5, N, H⟩)⟩
   refine xM H ti22 [.slice none 0 0] fun b204 w205 H => ⟨H.pick [2, 3, 4] [0, 1], (Xl L166 ⟨_, b200, b204, uE5, N, H⟩)⟩
  ·skip
   refine xM H ti219 [.pointer none] fun b206 w207 H => ⟨H.pick [1, 2, 3] [0, 1], (vT [0, 4, 6] (by kernel_rfl) (by simp) (yx rfl ?_ (yx rfl ?_ (yx rfl ?_ vU))))⟩
   ·skip
    refine jD [.slice none 0 0] [] (⟨H.pick [1, 2, 3] [0, 1], (Xl L134 ⟨_, b206, uE6, N, H⟩)⟩)
   ·skip
    refine Xa H Tryz.underlying22 ti2 parts.length rfl rfl (by omega) (by omega) (by omega) fun b208 w209 H => ⟨H.pick [2, 3, 4] [0, 1], (Xl L155 ⟨_, b208, b206, uE5, N, H.pick [1, 0, 2, 3, 4] [0, 1]⟩)⟩
   refine xM H ti22 [.slice none 0 0] fun b210 w211 H => ⟨H.pick [2, 3, 4] [0, 1], (Xl L177 ⟨_, b206, b210, uE6, N, H⟩)⟩
  refine xM H ti22 [.slice none 0 0] fun b212 w213 H => ⟨H.pick [1, 2, 3] [0, 1], (vT [0, 4, 5] (by kernel_rfl) (by simp) (yx rfl ?_ (yx rfl ?_ (yx rfl ?_ vU))))⟩
  ·skip
   refine jD [.slice none 0 0] [] (⟨H.pick [1, 2, 3] [0, 1], (Xl L144 ⟨_, b212, uE6, N, H⟩)⟩)
  ·skip
   refine Xa H Tryz.underlying22 ti2 parts.length rfl rfl (by omega) (by omega) (by omega) fun b214 w215 H => ⟨H.pick [2, 3, 4] [0, 1], (Xl L166 ⟨_, b214, b212, uE5, N, H.pick [1, 0, 2, 3, 4] [0, 1]⟩)⟩
  refine xM H ti219 [.pointer none] fun b216 w217 H => ⟨H.pick [2, 3, 4] [0, 1], (Xl L177 ⟨_, b216, b212, uE6, N, H.pick [1, 0, 2, 3, 4] [0, 1]⟩)⟩
 clear H N
 rintro ρ w218 ⟨junk, b13, b14, b15, b16, rfl, N, H⟩
 refine t_n (zcr (sw (xM H ti222 [.nilFunc] fun b219 w220 H => zjc (sp (.func (.func 201) #[] #[pp b3 0, pp b5 0, pp b13 0, pp b14 0, pp b219 0]) (sw (zk H 0 [.func (.func 201) #[] #[pp b3 0, pp b5 0, pp b13 0, pp b14 0, pp b219 0]] Tryz.sizeOf222 fun w221 H => zjc (oL rfl (H.cell 0 rfl rfl) (sp (.slice ab b.length cb) ?_))))))))
 replace H := H.nilRow 22 1
 replace H := H.vw (α := List Int)
 have H1 : St w w221 [.box b3 [.slice aparts parts.length cparts] 27, .box b5 [.func (.func 177) #[] #[pp b1 0]] 170, .box b1 [.slice aparts parts.length cparts] 27, .box b13 [pp b16 0] 219, .box b16 [.slice none 0 0] 221, .box b14 [.slice (aa b15 0) parts.length parts.length] 22, .box b219 [.func (.func 201) #[] #[pp b3 0, pp b5 0, pp b13 0, pp b14 0, pp b219 0]] 222, rr none 0 0 22 1 [], rr (aa b15 0) parts.length parts.length 2 1 ((List.replicate parts.length (0 : Int)).map (Value.int .i64))] [sF false Fb ab cb b, sF false Fparts aparts cparts parts, xN true [] [] ([] : List (List Int)), sF false Fb ab cb b, sF false Fparts aparts cparts parts] := H.pick [7, 6, 8, 3, 5, 2, 1, 0, 4] [1, 2, 0, 1, 2]
 have N1 : Fresh _ [[]] := N.emp
 have K1 : Kept [] [sF false Fb ab cb b, sF false Fparts aparts cparts parts] := Kept.nil _
 refine sw (o_callF #[.int .i64 0, .slice ab b.length cb, pp b3 0, pp b5 0, pp b13 0, pp b14 0, pp b219 0] rfl rfl Tryz.call201 (packFrom_ok parts.length 0 b parts ([] : List (List Int)) (List.replicate parts.length (0 : Int)) ab cb Fb aparts cparts Fparts b3 b5 b1 b13 b16 b14 b219 none 0 0 [] [] (aa b15 0) parts.length parts.length H1 N1 K1 (by omega) (by first | assumption | exact u4) (by first | assumption | exact j3 | (simp; done)) (by first | assumption | (rw [List.length_set]; exact j1) | (simp; done))) ?_)
 clear H H1 N1 K1
 rintro _ w222 ⟨cs223, raout223, rnout223, rcout223, rxout223, rFout223, hx224, hx225, rfl, N, H⟩
 obtain rfl := H.xP (α := List Int) 7 rfl 2 rfl (by decide)
 refine zjc (oL rfl (H.cell 3 rfl rfl) (sw (zS #[pp b16 0] rfl rfl Tryz.call204 (en Tryz.func204 Tryz.ntmps204 ?_))))
 refine zcr (sps [.slice none 0 0, .int .i64 0] (zjcc (sps [pp b16 0, pp b16 0] (oF rfl (oL rfl (H.cell 4 rfl rfl) (oN rfl (sp (.bool (decide (((gath ([] : List (List Int)) (begins ((List.replicate parts.length (0 : Int)).take 0) (packs parts (parts.length - 0) 0 b))).length : Int) > 2000))) (zjn (cD rfl (fun h226 => ?_) (fun h226 => ?_))))))))))
 ·skip
  refine zcr (sps [.slice none 0 0, .int .i64 3] (zjr (t_r (ret2 (.slice none 0 0) (.int .i64 3) rfl rfl rfl ⟨_, rfl, (sps [.slice none 0 0, .int .i64 3, .slice none 0 0, .int .i64 3] (zjr (ret2 (.slice none 0 0) (.int .i64 3) rfl rfl rfl ⟨_, rfl, ?_⟩)))⟩))))
  replace H := H.erases [8, 7, 6, 5, 4, 3, 1, 0]
  dsimp only [jf, List.eraseIdx] at H
  refine sps [.slice none 0 0, .int .i64 3, .slice none 0 0, .int .i64 3] (zjr ?_)
  replace H := H.nilRow 22 1
  replace H := H.vw (α := List Int)
  refine ret2 (.slice none 0 0) (.int .i64 3) rfl rfl rfl ⟨_, rfl, ?_, H.base⟩
  first | rw [all_a (by assumption)] | rw [all_bI (cs := (List.replicate parts.length (0 : Int))) (by assumption) (by omega)]
  exact ⟨none, 0, 0, [], [], rfl, (N.emp.pick [0]), H.pick [0] [0]⟩
 refine qK (t_n (zcr (sps [pp b16 0, pp b16 0] (oF rfl (oL rfl (H.cell 4 rfl rfl) (sps [.slice raout223 ((gath ([] : List (List Int)) (begins ((List.replicate parts.length (0 : Int)).take 0) (packs parts (parts.length - 0) 0 b))).length) rcout223, .int .i64 0] (zjr (ret2 (.slice raout223 ((gath ([] : List (List Int)) (begins ((List.replicate parts.length (0 : Int)).take 0) (packs parts (parts.length - 0) 0 b))).length) rcout223) (.int .i64 0) rfl rfl rfl ⟨_, rfl, ?_⟩))))))))
 refine sps [.slice raout223 ((gath ([] : List (List Int)) (begins ((List.replicate parts.length (0 : Int)).take 0) (packs parts (parts.length - 0) 0 b))).length) rcout223, .int .i64 0, .slice raout223 ((gath ([] : List (List Int)) (begins ((List.replicate parts.length (0 : Int)).take 0) (packs parts (parts.length - 0) 0 b))).length) rcout223, .int .i64 0] (zjr (ret2 (.slice raout223 ((gath ([] : List (List Int)) (begins ((List.replicate parts.length (0 : Int)).take 0) (packs parts (parts.length - 0) 0 b))).length) rcout223) (.int .i64 0) rfl rfl rfl ⟨_, rfl, ?_⟩))
 replace H := H.erases [8, 6, 5, 4, 3, 1, 0]
 dsimp only [jf, List.eraseIdx] at H
 refine sps [.slice raout223 ((gath ([] : List (List Int)) (begins ((List.replicate parts.length (0 : Int)).take 0) (packs parts (parts.length - 0) 0 b))).length) rcout223, .int .i64 0, .slice raout223 ((gath ([] : List (List Int)) (begins ((List.replicate parts.length (0 : Int)).take 0) (packs parts (parts.length - 0) 0 b))).length) rcout223, .int .i64 0] (zjr (ret2 (.slice raout223 ((gath ([] : List (List Int)) (begins ((List.replicate parts.length (0 : Int)).take 0) (packs parts (parts.length - 0) 0 b))).length) rcout223) (.int .i64 0) rfl rfl rfl ⟨_, rfl, ?_, H.base⟩))
 rw [all_0I (cs := (List.replicate parts.length (0 : Int))) (by assumption) (by omega)]
 exact ⟨raout223, (gath ([] : List (List Int)) (begins ((List.replicate parts.length (0 : Int)).take 0) (packs parts (parts.length - 0) 0 b))).length, rcout223, rxout223, rFout223, rfl, N, H.pick [1] [2]⟩
theorem compareL_ok (w : World) (a : List Int) (b : List Int) (aa : Option Addr) (ca : Nat) (Fa : List Nat) (ab : Option Addr) (cb : Nat) (Fb : List Nat) (ha : qB.rep w Fa [.slice aa a.length ca] a) (hb : qB.rep w Fb [.slice ab b.length cb] b) : Calls Tryz.prog 94 #[.slice aa a.length ca, .slice ab b.length cb] w (Ret (fun v w' => v = .int .i64 (cmpL a b) ∧ w' = w) w) := by
 refine en Tryz.func94 Tryz.ntmps94 ?_
 have H := ((St.start w).arg hb).arg ha
 have nha := qx ha
 have nhb := qx hb
 clear ha hb
 have N := Fresh.nil w.heap.size
 refine zcr (sp (.int .i64 0) (zjcc (sp (.slice aa a.length ca) (oN rfl (sp (.int .i64 0) (zjn (qM ?_)))))))
 refine xQ (fun m' ρ w1 => ∃ (junk : Env) (i : Nat), ρ = upd (upd (upd (upd (upd junk 0 (.slice aa a.length ca)) 1 (.slice ab b.length cb)) 9 (.slice aa a.length ca)) 10 (.int .i64 a.length)) 11 (.int .i64 i) ∧ ((i : Int) ≤ a.length) ∧ (w1 = w) ∧ (cmpL a b = cmpL (a.drop i) (b.drop i)) ∧ (i ≤ b.length) ∧ m' = (a.length - (i : Int)).toNat ∧ Fresh w.heap.size [] ∧ St w w1 [] [sF false Fa aa ca a, sF false Fb ab cb b]) ((a.length - (0 : Int)).toNat) ⟨_, 0, uE5, (by omega), (by rfl), (by rfl), (by omega), rfl, N, H⟩ ?_
 clear H N
 rintro m' ρ w2 ⟨junk, i, rfl, i0, wk, i1, i2, rfl, N, H⟩
 refine zcr (sp (.bool (decide ((i : Int) < a.length))) (zjn (xC (cD rfl (fun h3 => ?_) (fun h3 => ?_)))))
 ·skip
  refine qK (t_n (xC (qM (zcr (sp (.int .i64 i) ?_)))))
  obtain ⟨b4, o5, rfl⟩ := H.addr 0 rfl (by omega)
  refine oI rfl rfl (oL rfl (H.jd 0 rfl i (by omega) (by omega)) (sps [.int .i64 i, .int .i64 (a[i]!)] (zjcc (sps [.int .i64 i, .slice ab b.length cb] (oN rfl (sp (.bool (decide ((i : Int) ≥ b.length))) (zjn (cD rfl (fun h7 => ?_) (fun h7 => ?_)))))))))
  ·skip
   refine zcr (sp (.int .i64 1) (zjr (t_r (zr5 (ret1 (.int .i64 1) rfl rfl ⟨_, rfl, (⟨?_, wk⟩), H.base⟩)))))
   rw [i1, show cmpL (a.drop i) (b.drop i) = 1 by first | exact cmp_a (by omega) (by omega) | exact cmp_e (by omega) (by omega) ‹_›]
  refine qK (t_n (zcr (sps [.slice ab b.length cb, .int .i64 i] ?_)))
  obtain ⟨b8, o9, rfl⟩ := H.addr 1 rfl (by omega)
  refine oI rfl rfl (oL rfl (H.jd 1 rfl i (by omega) (by omega)) (sp (.int .i64 (b[i]!)) (zjc (sps [.int .i64 (a[i]!), .int .i64 (b[i]!)] (sw (zS #[.int .i64 (a[i]!), .int .i64 (b[i]!)] rfl rfl Tryz.call131 (en Tryz.func131 Tryz.ntmps131 ?_)))))))
  refine zcr (sp (.int .i64 0) (zjc (sp (.int .i64 (a[i]!)) (sw (zS #[.int .i64 (a[i]!)] rfl rfl Tryz.call168 (en Tryz.func168 Tryz.ntmps168 ?_))))))
  refine zcr (sp (.bool false) (zjc (sps [.int .i64 (a[i]!), .int .i64 (a[i]!), .bool ((a[i]! : Int) != (a[i]!)), .bool ((a[i]! : Int) != (a[i]!))] (zjr (ret1 (.bool ((a[i]! : Int) != (a[i]!))) rfl rfl ⟨_, rfl, (sp (.bool ((a[i]! : Int) != (a[i]!))) (zjc (sp (.int .i64 (b[i]!)) (sw (zS #[.int .i64 (b[i]!)] rfl rfl Tryz.call168 (en Tryz.func168 Tryz.ntmps168 ?_))))))⟩)))))
  refine zcr (sp (.bool false) (zjc (sps [.int .i64 (b[i]!), .int .i64 (b[i]!), .bool ((b[i]! : Int) != (b[i]!)), .bool ((b[i]! : Int) != (b[i]!))] (zjr (ret1 (.bool ((b[i]! : Int) != (b[i]!))) rfl rfl ⟨_, rfl, (sp (.bool ((b[i]! : Int) != (b[i]!))) (zjcc (sp (.bool ((a[i]! : Int) != (a[i]!))) (zjn (xn ((a[i]! : Int) != (a[i]!)) rfl (fun h => absurd rfl (bne_iff_ne.1 h)) (fun h11 => ?_))))))⟩)))))
  replace h11 := xf h11
  refine qK (t_n (zcc (sp (.bool ((b[i]! : Int) != (b[i]!))) (zjn (xn ((b[i]! : Int) != (b[i]!)) rfl (fun h => absurd rfl (bne_iff_ne.1 h)) (fun h12 => ?_))))))
  replace h12 := xf h12
  refine qK (t_n (zcc (sps [.int .i64 (a[i]!), .int .i64 (b[i]!), .bool (decide ((a[i]! : Int) < (b[i]!)))] (zjn (cD rfl (fun h13 => ?_) (fun h13 => ?_))))))
  ·skip
   refine zcr (sp (.int .i64 (-1)) (zjr (t_r (ret1 (.int .i64 (-1)) rfl rfl ⟨_, rfl, (sp (.int .i64 (-1)) (zjc (sps [.int .i64 (-1), .bool true] (zjn (xn true rfl (fun _ => zcr (sps [.int .i64 (-1), .int .i64 (-1)] (zjr (zr5 (ret1 (.int .i64 (-1)) rfl rfl ⟨_, rfl, (⟨?_, wk⟩), H.base⟩))))) (fun h => absurd h (by decide)))))))⟩))))
   rw [i1, show cmpL (a.drop i) (b.drop i) = -1 by first | exact cmp_b (by omega) (by omega) | exact cmp_d (by omega) (by omega) ‹_›]
  refine qK (t_n (zcc (sps [.int .i64 (a[i]!), .int .i64 (b[i]!), .bool (decide ((a[i]! : Int) > (b[i]!)))] (zjn (cD rfl (fun h14 => ?_) (fun h14 => ?_))))))
  ·skip
   refine zcr (sp (.int .i64 1) (zjr (t_r (ret1 (.int .i64 1) rfl rfl ⟨_, rfl, (sp (.int .i64 1) (zjc (sps [.int .i64 1, .bool true] (zjn (xn true rfl (fun _ => zcr (sps [.int .i64 1, .int .i64 1] (zjr (zr5 (ret1 (.int .i64 1) rfl rfl ⟨_, rfl, (⟨?_, wk⟩), H.base⟩))))) (fun h => absurd h (by decide)))))))⟩))))
   rw [i1, show cmpL (a.drop i) (b.drop i) = 1 by first | exact cmp_a (by omega) (by omega) | exact cmp_e (by omega) (by omega) ‹_›]
  refine qK (t_n (zcr (sp (.int .i64 0) (zjr (ret1 (.int .i64 0) rfl rfl ⟨_, rfl, (sp (.int .i64 0) (zjc (sps [.int .i64 0, .bool false] (zjn (xn false rfl (fun h => absurd h (by decide)) (fun _ => qK (b_n (t_n (xH (sw (xX i 1 rfl rfl (by omega) (sp (.int .i64 (i + 1)) (xG (qR (m' := (a.length - ((i + 1) : Int)).toNat) (by omega) ⟨_, i + 1, uE5, ?_, ?_, ?_, ?_, rfl, N, H⟩))))))))))))))⟩)))))
  · omega
  · exact wk
  · exact i1.trans (cmp_f (by omega) (by omega) ‹_› ‹_›)
  · omega
 refine zx4 (zcc (sp (.slice aa a.length ca) (oN rfl (sp (.slice ab b.length cb) (oN rfl (sp (.bool (decide ((a.length : Int) < b.length))) (zjn (cD rfl (fun h15 => ?_) (fun h15 => ?_)))))))))
 ·skip
  refine zcr (sp (.int .i64 (-1)) (zjr (t_r (ret1 (.int .i64 (-1)) rfl rfl ⟨_, rfl, (⟨?_, wk⟩), H.base⟩))))
  rw [i1, show cmpL (a.drop i) (b.drop i) = -1 by first | exact cmp_b (by omega) (by omega) | exact cmp_d (by omega) (by omega) ‹_›]
 refine qK (t_n (zcr (sp (.int .i64 0) (zjr (ret1 (.int .i64 0) rfl rfl ⟨_, rfl, (⟨?_, wk⟩), H.base⟩)))))
 rw [i1, cmp_c (by omega) (by omega)]
def sortL_ren : Go.Shelf.Ren := ⟨fun | 6 => 93 | 15 => 130 | 14 => 129 | 28 => 166 | 29 => 167 | 20 => 158 | 21 => 159 | 22 => 160 | 23 => 161 | 24 => 162 | 25 => 163 | 26 => 164 | 27 => 165 | 46 => 193 | 47 => 194 | 48 => 195 | 49 => 196 | 50 => 197 | 57 => 208 | n => n, fun | 22 => 27 | 24 => 22 | 25 => 106 | 3 => 3 | 39 => 149 | 0 => 0 | 53 => 186 | 55 => 188 | 4 => 4 | 46 => 179 | 45 => 178 | 50 => 183 | 5 => 5 | 9 => 9 | 66 => 211 | 70 => 215 | 76 => 226 | 77 => 227 | n => n, fun | n => n⟩
theorem sortL : Go.Proofs.SlLaysF.n6 Tryz.prog sortL_ren := {
  mixed := by kernel_rfl
  f6 := ⟨Tryz.f93.name, by decide, Tryz.func93.trans (congrArg some (by kernel_rfl))⟩
  f14 := ⟨Tryz.f129.name, by decide, Tryz.func129.trans (congrArg some (by kernel_rfl))⟩
  f15 := Tryz.func130.trans (congrArg some (by kernel_rfl))
  f20 := ⟨Tryz.f158.name, by decide, Tryz.func158.trans (congrArg some (by kernel_rfl))⟩
  f21 := ⟨Tryz.f159.name, by decide, Tryz.func159.trans (congrArg some (by kernel_rfl))⟩
  f22 := ⟨Tryz.f160.name, by decide, Tryz.func160.trans (congrArg some (by kernel_rfl))⟩
  f23 := ⟨Tryz.f161.name, by decide, Tryz.func161.trans (congrArg some (by kernel_rfl))⟩
  f24 := ⟨Tryz.f162.name, by decide, Tryz.func162.trans (congrArg some (by kernel_rfl))⟩
  f25 := ⟨Tryz.f163.name, by decide, Tryz.func163.trans (congrArg some (by kernel_rfl))⟩
  f26 := ⟨Tryz.f164.name, by decide, Tryz.func164.trans (congrArg some (by kernel_rfl))⟩
  f27 := ⟨Tryz.f165.name, by decide, Tryz.func165.trans (congrArg some (by kernel_rfl))⟩
  f28 := Tryz.func166.trans (congrArg some (by kernel_rfl))
  f29 := Tryz.func167.trans (congrArg some (by kernel_rfl))
  f46 := ⟨Tryz.f193.name, by decide, Tryz.func193.trans (congrArg some (by kernel_rfl))⟩
  f47 := Tryz.func194.trans (congrArg some (by kernel_rfl))
  f48 := Tryz.func195.trans (congrArg some (by kernel_rfl))
  f49 := ⟨Tryz.f196.name, by decide, Tryz.func196.trans (congrArg some (by kernel_rfl))⟩
  f50 := ⟨Tryz.f197.name, by decide, Tryz.func197.trans (congrArg some (by kernel_rfl))⟩
  f57 := ⟨Tryz.f208.name, by decide, Tryz.func208.trans (congrArg some (by kernel_rfl))⟩
  t0 := Tryz.underlying0
  a0 := Tryz.isAgg0
  z0 := Tryz.sizeOf0
  v0 := Tryz.zeroValue0
  t3 := Tryz.underlying3
  a3 := Tryz.isAgg3
  z3 := Tryz.sizeOf3
  v3 := Tryz.zeroValue3
  t4 := Tryz.underlying4
  a4 := Tryz.isAgg4
  z4 := Tryz.sizeOf4
  v4 := Tryz.zeroValue4
  t5 := Tryz.underlying5
  a5 := Tryz.isAgg5
  z5 := Tryz.sizeOf5
  v5 := Tryz.zeroValue5
  t9 := Tryz.underlying9
  a9 := Tryz.isAgg9
  z9 := Tryz.sizeOf9
  v9 := Tryz.zeroValue9
  t22 := Tryz.underlying27
  a22 := Tryz.isAgg27
  z22 := Tryz.sizeOf27
  v22 := Tryz.zeroValue27
  a24 := Tryz.isAgg22
  z24 := Tryz.sizeOf22
  t25 := Tryz.underlying106
  a25 := Tryz.isAgg106
  z25 := Tryz.sizeOf106
  v25 := Tryz.zeroValue106
  t39 := Tryz.underlying149
  a39 := Tryz.isAgg149
  z39 := Tryz.sizeOf149
  v39 := Tryz.zeroValue149
  t45 := Tryz.underlying178
  a45 := Tryz.isAgg178
  z45 := Tryz.sizeOf178
  v45 := Tryz.zeroValue178
  t46 := Tryz.underlying179
  a46 := Tryz.isAgg179
  z46 := Tryz.sizeOf179
  v46 := Tryz.zeroValue179
  t50 := Tryz.underlying183
  a50 := Tryz.isAgg183
  z50 := Tryz.sizeOf183
  v50 := Tryz.zeroValue183
  t53 := Tryz.underlying186
  a53 := Tryz.isAgg186
  z53 := Tryz.sizeOf186
  v53 := Tryz.zeroValue186
  t55 := Tryz.underlying188
  a55 := Tryz.isAgg188
  z55 := Tryz.sizeOf188
  v55 := Tryz.zeroValue188
  t66 := Tryz.underlying211
  a66 := Tryz.isAgg211
  z66 := Tryz.sizeOf211
  v66 := Tryz.zeroValue211
  t70 := Tryz.underlying215
  a70 := Tryz.isAgg215
  z70 := Tryz.sizeOf215
  v70 := Tryz.zeroValue215
  t76 := Tryz.underlying226
  a76 := Tryz.isAgg226
  z76 := Tryz.sizeOf226
  v76 := Tryz.zeroValue226
  t77 := Tryz.underlying227
  a77 := Tryz.isAgg227
  z77 := Tryz.sizeOf227
  v77 := Tryz.zeroValue227 }
theorem cmpSort (W : World) (x y : List Int) (a : Option Addr) (c : Nat) (F : List Nat) (a' : Option Addr) (c' : Nat) (F' : List Nat) (hx : qB.rep W F [.slice a x.length c] x) (hy : qB.rep W F' [.slice a' y.length c'] y) :
    Calls Tryz.prog 94 #[.slice a x.length c, .slice a' y.length c'] W fun e w' => e = .returned (.int .i64 (cmpL x y)) ∧ w' = W :=
  (compareL_ok W x y a c F a' c' F' hx hy).mono fun _ _ ⟨_, he, ⟨hv, hw⟩, _⟩ => ⟨he.trans (by rw [hv]), hw⟩

theorem choices_ok (w : World) (s : qy) (t : qE) (qU : qB.rep w qP [.slice qo s.qf.length qm] s.qf) (xx : qB.rep w xu [.slice qC s.qg.length qA] s.qg) (xK : qB.rep w xE [.slice qN t.qh.length qL] t.qh) (zn : qB.rep w zf [.slice xh t.ql.length qZ] t.ql) (xA : qB.rep w xw [.slice qG t.qj.length qF] t.qj) (p0 : jG s) (p1 : zt s t) : Calls Tryz.prog 64 #[.agg #[.int .i64 s.qJ, .slice qo s.qf.length qm, .slice qC s.qg.length qA], .agg #[.slice qN t.qh.length qL, .slice xh t.ql.length qZ, .slice qG t.qj.length qF]] w (Ret (fun v w' => ∃ (ra0 : Option Addr) (rn0 : Nat) (rc0 : Nat) (rx0 : List Value) (rF0 : List Nat), v = .tuple #[.slice ra0 rn0 rc0, .int .i64 ((zG s t).2)] ∧ Fresh w.heap.size [rF0] ∧ St w w' [rr ra0 rn0 rc0 22 1 rx0] [xN true rF0 rx0 ((zG s t).1)]) w) := by
 refine en Tryz.func64 Tryz.ntmps64 ?_
 have H := (((((St.start w).arg xA).arg zn).arg xK).arg xx).arg qU
 have zJ := qx qU
 have vW := qx xx
 have yJ := qx xK
 have QD := qx zn
 have jB := qx xA
 clear qU xx xK zn xA
 have N := Fresh.nil w.heap.size
 have A := H.ltN (L := [qP, xu, xE, zf, xw]) [0, 1, 2, 3, 4]
 have p2 := p0.2.1
 have p3 := p0.1.2.1
 have p4 := p1.1
 have p5 := p1.2.1
 refine zcr (sw (zY H [.int .i64 s.qJ, .slice qo s.qf.length qm, .slice qC s.qg.length qA] fun b1 w2 H => sw (zY H [.slice qN t.qh.length qL, .slice xh t.ql.length qZ, .slice qG t.qj.length qF] fun b3 w4 H => sps [.slice none 0 0, .int .i64 0] (zjc (sw (xU [.int .i64 s.qJ, .slice qo s.qf.length qm, .slice qC s.qg.length qA] Tryz.isAgg36 Tryz.sizeOf36 rfl (qw (H.cells 1 rfl) 0 3) ?_))))))
 refine sw (xU [.slice qN t.qh.length qL, .slice xh t.ql.length qZ, .slice qG t.qj.length qF] Tryz.isAgg38 Tryz.sizeOf38 rfl (qw (H.cells 0 rfl) 0 3) (sw (zS #[.agg #[.int .i64 s.qJ, .slice qo s.qf.length qm, .slice qC s.qg.length qA], .agg #[.slice qN t.qh.length qL, .slice xh t.ql.length qZ, .slice qG t.qj.length qF]] rfl rfl Tryz.call107 (en Tryz.func107 Tryz.ntmps107 ?_))))
 refine zcr (sw (zY H [.int .i64 s.qJ, .slice qo s.qf.length qm, .slice qC s.qg.length qA] fun b5 w6 H => sw (zY H [.slice qN t.qh.length qL, .slice xh t.ql.length qZ, .slice qG t.qj.length qF] fun b7 w8 H => sps [.slice none 0 0, .int .i64 0] (zjc (oF rfl (oL rfl (H.cell 1 rfl rfl) (oN rfl (sw (o_makeZ (⟨[]⟩ : OwnI 2) H Tryz.underlying27 ti22 (by decide) (fun _ => ⟨.slice none 0 0, rfl, Or.inl ⟨rfl, rfl, rfl⟩⟩) s.qf.length rfl rfl (by omega) (by omega) (by omega) fun b9 w10 xs11 H => ?_)))))))))
 refine sp (.slice (aa b9 0) s.qf.length s.qf.length) (zjcc (sw (xU [.int .i64 s.qJ, .slice qo s.qf.length qm, .slice qC s.qg.length qA] Tryz.isAgg36 Tryz.sizeOf36 rfl (qw (H.cells 2 rfl) 0 3) (sw (xU [.slice qN t.qh.length qL, .slice xh t.ql.length qZ, .slice qG t.qj.length qF] Tryz.isAgg38 Tryz.sizeOf38 rfl (qw (H.cells 1 rfl) 0 3) ?_)))))
 have sz15 := H.base.size
 refine sw (oc (applicable_ok _ s t (H.get 1 rfl).1 (H.get 2 rfl).1 (H.get 3 rfl).1 (H.get 4 rfl).1 (H.get 5 rfl).1 (by first | assumption | omega) (by first | assumption | omega)) ?_)
 rintro _ w13 ⟨ra12, rn12, rc12, rfl, M, K⟩ _
 replace H := H.merge K M
 obtain rfl := H.rowNI 0 rfl
 have al : (appls s t).length ≤ s.qg.length := applL_le s t s.qg.length
 refine oN rfl (sp (.int .i64 0) (zjn (qM ?_)))
 refine xQ (fun m' ρ w18 => ∃ (junk : Env) (k : Nat) (own : List (OwnI 2)) (x_own : List Value) (F_own : List Nat), ρ = upd (upd (upd (upd (upd (upd junk 2 (pp b5 0)) 3 (pp b7 0)) 6 (.slice (aa b9 0) s.qf.length s.qf.length)) 24 (.slice ra12 ((appls s t).length) rc12)) 25 (.int .i64 ((appls s t).length))) 26 (.int .i64 k) ∧ own = (ownL 2 s t s.qf.length k) ∧ ((k : Int) ≤ ((appls s t).length)) ∧ m' = (((appls s t).length) - (k : Int)).toNat ∧ Fresh w.heap.size [F_own] ∧ St w w18 [rr ra12 ((appls s t).length) rc12 2 1 ((appls s t).map (Value.int .i64)), rr (aa b9 0) s.qf.length s.qf.length 22 1 x_own, .box b7 [.slice qN t.qh.length qL, .slice xh t.ql.length qZ, .slice qG t.qj.length qF] 38, .box b5 [.int .i64 s.qJ, .slice qo s.qf.length qm, .slice qC s.qg.length qA] 36, .box b3 [.slice qN t.qh.length qL, .slice xh t.ql.length qZ, .slice qG t.qj.length qF] 38, .box b1 [.int .i64 s.qJ, .slice qo s.qf.length qm, .slice qC s.qg.length qA] 36] [xN true F_own x_own own, sF false qP qo qm s.qf, sF false xu qC qA s.qg, sF false xE qN qL t.qh, sF false zf xh qZ t.ql, sF false xw qG qF t.qj]) ((((appls s t).length) - (0 : Int)).toNat) ⟨_, 0, (List.replicate s.qf.length (⟨[]⟩ : OwnI 2)), xs11, [], uE6, (by exact ownL_zero 2 s t _), (by omega), rfl, N.emp, H⟩ ?_
 clear H N
 rintro m' ρ w19 ⟨junk, k, own, x_own, F_own, rfl, rfl, i0, rfl, N, H⟩
 have hn_own := H.xP (α := OwnI 2) 1 rfl 0 rfl (by decide)
 have ol := ownL_len 2 s t s.qf.length k
 refine zcr (sp (.bool (decide ((k : Int) < ((appls s t).length)))) (zjn (xC (cD rfl (fun h20 => ?_) (fun h20 => ?_)))))
 ·skip
  obtain ⟨a0, a1, a2⟩ := appls_inH (s := s) (t := t) (q := k) (by omega)
  have q := p0.rule (i := ((appls s t)[k]!).toNat) (by omega)
  have qc := q.1
  have qk : (s.qg[((appls s t)[k]!).toNat]!).qp.toNat < s.qf.length := q.cell
  have le := ownL_le (e := 2) (s := s) (t := t) (n := s.qf.length) (q := k) (c := (s.qg[((appls s t)[k]!).toNat]!).qp.toNat) (by omega)
  have sm := zL (p1.2.2.2.2 (s.qg[((appls s t)[k]!).toNat]!).qp.toNat (by omega)).1
  refine qK (t_n (xC (qM (zcr ?_))))
  obtain ⟨b21, rfl⟩ := H.Qn 0 rfl (by omega)
  refine oI rfl rfl (oL rfl (H.rowInt 0 rfl (iv := k) (i := k) (by omega) (by omega)) (sp (.int .i64 ((appls s t)[k]!)) (zjc (oF rfl (oL rfl (H.cell 3 rfl rfl) (sp (.int .i64 ((appls s t)[k]!)) ?_))))))
  obtain ⟨b22, o23, rfl⟩ := H.addr 2 rfl (by omega)
  obtain ⟨ae25Need, ce25Need, Fe25Need, ae25Have, ce25Have, Fe25Have, ae25Lack, ce25Lack, Fe25Lack, ae25Here, ce25Here, Fe25Here, ae25Out, ce25Out, Fe25Out, ae25Into, ce25Into, Fe25Into, H⟩ := H.jy 2 rfl ((appls s t)[k]!) (((appls s t)[k]!).toNat) (by omega) (by omega) (by omega)
  refine oI rfl rfl (oF rfl (oL rfl (H.xB 6 rfl 0 rfl) (sp (.int .i64 ((s.qg[((appls s t)[k]!).toNat]!).qp)) (zjcc (oF rfl (oL rfl (H.cell 2 rfl rfl) (sp (.int .i64 ((s.qg[((appls s t)[k]!).toNat]!).qp)) ?_)))))))
  obtain ⟨b26, o27, rfl⟩ := H.addr 11 rfl (by omega)
  obtain ⟨ae29, ce29, Fe29, H⟩ := H.zU 11 rfl ((s.qg[((appls s t)[k]!).toNat]!).qp) (((s.qg[((appls s t)[k]!).toNat]!).qp).toNat) (by omega) (by omega) (by omega)
  refine oI rfl rfl (oL rfl (H.xB 1 rfl 0 rfl) (sw (oq (XW _ (t.ql[((s.qg[((appls s t)[k]!).toNat]!).qp).toNat]!) (H.get 0 rfl).1 (by first | assumption | exact zL (by assumption) | exact yD (by assumption))) H fun w30 H => sp (.bool (decide ((X4 (t.ql[((s.qg[((appls s t)[k]!).toNat]!).qp).toNat]!) : Int) > 16))) (zjn (cD rfl (fun h32 => ?_) (fun h32 => ?_))))))
  ·skip
   refine zcr (sps [.slice none 0 0, .int .i64 3] (zjr (t_r (zr5 (ret2 (.slice none 0 0) (.int .i64 3) rfl rfl rfl ⟨_, rfl, ?_⟩)))))
   replace H := H.erases [3, 2, 1, 0]
   dsimp only [jf, List.eraseIdx] at H
   refine sps [.tuple #[.slice none 0 0, .int .i64 3], .slice none 0 0, .int .i64 3, .slice none 0 0, .int .i64 3] (zjcc (sps [.int .i64 3, .bool true] (zjn (xn true rfl (fun _ => zcr (sps [.int .i64 3, .slice none 0 0, .int .i64 3] (zjr (t_r ?_)))) (fun h => absurd h (by decide))))))
   replace H := H.nilRow 22 1
   replace H := H.vw (α := List Int)
   refine ret2 (.slice none 0 0) (.int .i64 3) rfl rfl rfl ⟨_, rfl, ?_, H.base⟩
   first | rw [cho_3 (.inl (own_bad p0 (q := k) (by omega) (by omega)))] | rw [cho_3 (.inr (prod_stop (G := (vF s.qg.length (qO s t s.qf.length) (xk s t s.qf.length) k_1)) (r := ((qO s t s.qf.length)[k_1]!)) (k := k_51 + 1) (i := k_1) kn (by omega) (XF _) (by omega) (by rw [← nextX_end (x := k_52) (by omega) (by omega)]; omega)))]
   exact ⟨none, 0, 0, [], [], rfl, (N.emp.pick [0]), H.pick [0] [0]⟩
  refine qK (t_n (xH (sps [.slice (aa b9 0) s.qf.length s.qf.length, .int .i64 ((s.qg[((appls s t)[k]!).toNat]!).qp), .slice (aa b9 0) s.qf.length s.qf.length, .int .i64 ((s.qg[((appls s t)[k]!).toNat]!).qp)] (oI rfl rfl ?_))))
  replace N : Fresh w.heap.size [F_own] := N
  obtain ⟨a33, c34, F35, h36, N, H⟩ := H.openI 1 rfl 9 rfl N (iv := (s.qg[((appls s t)[k]!).toNat]!).qp) (((s.qg[((appls s t)[k]!).toNat]!).qp).toNat) (by omega) (by omega) [sF false qP qo qm s.qf, sF false xu (aa b22 o23) qA s.qg, sF false xE qN qL t.qh, sF false zf (aa b26 o27) qZ t.ql, sF false xw qG qF t.qj] (keepA A N [10, 11, 12, 13, 14] rfl rfl)
  refine oL rfl h36 (sp (.int .i64 ((appls s t)[k]!)) (sw (zM H Tryz.underlying22 ti2 [.int .i64 ((appls s t)[k]!)] fun b37 w38 H => sw (zV H 1 rfl 0 rfl Tryz.underlying22 ti2 rfl (by decide) rfl rfl rfl (by simp [Value.oneCell', Value.cells]) (by unfold maxLen; omega) (by omega) fun a39 c40 w41 H => ?_))))
  rw [snocI] at H
  refine oI rfl rfl (sw (o_closeI H 3 rfl 1 (by decide) rfl 0 rfl (c := (((s.qg[((appls s t)[k]!).toNat]!).qp).toNat)) (N : Fresh w.heap.size [F35]) (H.yT []) Tryz.sizeOf22 rfl rfl (by omega) (by omega) fun w42 F43 N H => xG (b_n (t_n (xH (sw (xX k 1 rfl rfl (by omega) (sp (.int .i64 (k + 1)) (xG ?_)))))))))
  refine qR (m' := (((appls s t).length) - ((k + 1) : Int)).toNat) (by omega) ⟨_, k + 1, (((ownL 2 s t s.qf.length k).set (((s.qg[((appls s t)[k]!).toNat]!).qp).toNat) ⟨[]⟩).set (((s.qg[((appls s t)[k]!).toNat]!).qp).toNat) ⟨(((ownL 2 s t s.qf.length k)[((s.qg[((appls s t)[k]!).toNat]!).qp).toNat]!).l ++ [(appls s t)[k]!])⟩), (x_own.set (((s.qg[((appls s t)[k]!).toNat]!).qp).toNat) (.slice a39 ((((ownL 2 s t s.qf.length k)[((s.qg[((appls s t)[k]!).toNat]!).qp).toNat]!).l.length) + 1) c40)), F43, uE6, ?_, ?_, rfl, N, H.pick [2, 3, 4, 5, 6, 7] [0, 2, 3, 4, 5, 6]⟩
  · exact ownL_set (by omega) rfl (by omega) (by omega) (by rw [List.set_set])
  · omega
 refine zx4 (zcr (sw (vI H Tryz.underlying125 ti129 fun b44 w45 H => sp (.slice (aa b44 0) 0 0) (zjcc (sp (.slice (aa b9 0) s.qf.length s.qf.length) (oN rfl (sp (.int .i64 0) (zjn (qM ?_)))))))))
 replace H := H.ofOwn 0 rfl
 rw [ownL_end (by omega)] at H
 have cl := cellsR_len s t s.qf.length
 replace H := H.boxRow 0 rfl 2 0 rfl (by decide)
 replace H := H.vw (α := inCellD)
 replace H : St _ _ [rr (aa b44 0) 0 0 129 2 [], rr ra12 ((appls s t).length) rc12 2 1 ((appls s t).map (Value.int .i64)), rr (aa b9 0) s.qf.length s.qf.length 22 1 x_own, .box b7 [.slice qN t.qh.length qL, .slice xh t.ql.length qZ, .slice qG t.qj.length qF] 38, .box b5 [.int .i64 s.qJ, .slice qo s.qf.length qm, .slice qC s.qg.length qA] 36, .box b3 [.slice qN t.qh.length qL, .slice xh t.ql.length qZ, .slice qG t.qj.length qF] 38, .box b1 [.int .i64 s.qJ, .slice qo s.qf.length qm, .slice qC s.qg.length qA] 36] [xN true [] [] ([] : List inCellD), xN true F_own x_own (cellsR s t s.qf.length), xN true F_own x_own (ownL 2 s t s.qf.length k), sF false qP qo qm s.qf, sF false xu qC qA s.qg, sF false xE qN qL t.qh, sF false zf xh qZ t.ql, sF false xw qG qF t.qj] := H
 refine xQ (fun m' ρ w46 => ∃ (junk : Env) (zW : Option Addr) (xZ : Nat) (zH : Nat) (out : List inCellD) (QC : List Value) (yK : List Nat) (c : Nat), ρ = upd (upd (upd (upd (upd (upd junk 2 (pp b5 0)) 3 (pp b7 0)) 10 (.slice zW xZ zH)) 55 (.slice (aa b9 0) s.qf.length s.qf.length)) 56 (.int .i64 s.qf.length)) 57 (.int .i64 c) ∧ out = (Qq s t c) ∧ ((c : Int) ≤ s.qf.length) ∧ (GoodP s t c) ∧ m' = (s.qf.length - (c : Int)).toNat ∧ Fresh w.heap.size [F_own] ∧ St w w46 [rr zW xZ zH 129 2 QC, rr ra12 ((appls s t).length) rc12 2 1 ((appls s t).map (Value.int .i64)), rr (aa b9 0) s.qf.length s.qf.length 22 1 x_own, .box b7 [.slice qN t.qh.length qL, .slice xh t.ql.length qZ, .slice qG t.qj.length qF] 38, .box b5 [.int .i64 s.qJ, .slice qo s.qf.length qm, .slice qC s.qg.length qA] 36, .box b3 [.slice qN t.qh.length qL, .slice xh t.ql.length qZ, .slice qG t.qj.length qF] 38, .box b1 [.int .i64 s.qJ, .slice qo s.qf.length qm, .slice qC s.qg.length qA] 36] [xN true yK QC out, xN true F_own x_own (cellsR s t s.qf.length), xN true F_own x_own (ownL 2 s t s.qf.length k), sF false qP qo qm s.qf, sF false xu qC qA s.qg, sF false xE qN qL t.qh, sF false zf xh qZ t.ql, sF false xw qG qF t.qj]) ((s.qf.length - (0 : Int)).toNat) ⟨_, (aa b44 0), 0, 0, ([] : List inCellD), [], [], 0, uE6, (by rfl), (by omega), (by exact fun j hj => by omega), rfl, N, H⟩ ?_
 clear H N
 rintro m' ρ w47 ⟨junk, zW, xZ, zH, out, QC, yK, c, rfl, rfl, i0, gp, rfl, N, H⟩
 have hn_out := H.xP (α := inCellD) 0 rfl 0 rfl (by decide)
 have ce := cells_len s t c
 have rl := rules_le s t c
 refine zcr (sp (.bool (decide ((c : Int) < s.qf.length))) (zjn (xC (cD rfl (fun h48 => ?_) (fun h48 => ?_)))))
 ·skip
  refine qK (t_n (xC (qM (zcr (sp (.int .i64 c) (oI rfl rfl ?_))))))
  obtain ⟨a49, c50, G51, s52, h53, H⟩ := H.jo 2 rfl 1 rfl (iv := c) c (by omega) (by omega)
  refine oL rfl (h53) (sps [.int .i64 c, .slice a49 (((cellsR s t s.qf.length)[c]!).length) c50] (zjcc (sp (.slice a49 (((cellsR s t s.qf.length)[c]!).length) c50) (oN rfl (sp (.bool ((((cellsR s t s.qf.length)[c]!).length : Int) == 0)) (zjn (cE rfl (fun h54 => ?_) (fun h54 => ?_))))))))
  ·skip
   rw [cellsR_get (s := s) (t := t) (n := s.qf.length) (c := c) (by omega)] at H h54 ⊢
   refine c_exit (t_x (b_x (t_n (xH (sw (xX c 1 rfl rfl (by omega) (sp (.int .i64 (c + 1)) (xG (qR (m' := (s.qf.length - ((c + 1) : Int)).toNat) (by omega) ⟨_, zW, xZ, zH, (Qq s t c), QC, yK, c + 1, uE6, ?_, ?_, ?_, rfl, N, H.pick [0, 1, 2, 3, 4, 5, 6] [1, 2, 3, 4, 5, 6, 7, 8]⟩)))))))))
   · first | exact cells_yes (by omega) | exact cells_no (by omega)
   · omega
   · exact gp.succ (by first | exact .inl (by omega) | exact .inr (show (zu _ _).2 = 0 from ‹_›))
  rw [cellsR_get (s := s) (t := t) (n := s.qf.length) (c := c) (by omega)] at H h54 ⊢
  refine qK (t_n (zcr (sw (vI H Tryz.underlying27 ti22 fun b55 w56 H => sp (.slice (aa b55 0) 0 0) (zjcc (sp (.slice a49 ((xY s t c).length) c50) (oN rfl (sp (.int .i64 0) (zjn (qM ?_))))))))))
  replace H := H.boxRow 0 rfl 1 0 rfl (by decide)
  replace H := H.vw (α := List Int)
  replace H := H.unfree 0 rfl
  refine xQ (fun m' ρ w57 => ∃ (junk : Env) (jS : Option Addr) (ja : Nat) (jM : Nat) (needs : List (List Int)) (Xp : List Value) (VY : List Nat) (k_1 : Nat), ρ = upd (upd (upd (upd (upd (upd (upd (upd (upd (upd (upd (upd junk 2 (pp b5 0)) 3 (pp b7 0)) 10 (.slice zW xZ zH)) 11 (.int .i64 c)) 12 (.slice a49 ((xY s t c).length) c50)) 13 (.slice jS ja jM)) 55 (.slice (aa b9 0) s.qf.length s.qf.length)) 56 (.int .i64 s.qf.length)) 57 (.int .i64 c)) 66 (.slice a49 ((xY s t c).length) c50)) 67 (.int .i64 ((xY s t c).length))) 68 (.int .i64 k_1) ∧ needs = (xI s ((xY s t c).take k_1)) ∧ ((k_1 : Int) ≤ ((xY s t c).length)) ∧ m' = (((xY s t c).length) - (k_1 : Int)).toNat ∧ Fresh w.heap.size [F_own] ∧ St w w57 [rr jS ja jM 22 1 Xp, rr zW xZ zH 129 2 QC, rr ra12 ((appls s t).length) rc12 2 1 ((appls s t).map (Value.int .i64)), rr (aa b9 0) s.qf.length s.qf.length 22 1 x_own, .box b7 [.slice qN t.qh.length qL, .slice xh t.ql.length qZ, .slice qG t.qj.length qF] 38, .box b5 [.int .i64 s.qJ, .slice qo s.qf.length qm, .slice qC s.qg.length qA] 36, .box b3 [.slice qN t.qh.length qL, .slice xh t.ql.length qZ, .slice qG t.qj.length qF] 38, .box b1 [.int .i64 s.qJ, .slice qo s.qf.length qm, .slice qC s.qg.length qA] 36] [xN false VY Xp needs, sF true G51 a49 c50 (xY s t c), xN true yK QC (Qq s t c), xN true F_own x_own (cellsR s t s.qf.length), xN true F_own x_own (ownL 2 s t s.qf.length k), sF false qP qo qm s.qf, sF false xu qC qA s.qg, sF false xE qN qL t.qh, sF false zf xh qZ t.ql, sF false xw qG qF t.qj]) ((((xY s t c).length) - (0 : Int)).toNat) ⟨_, (aa b55 0), 0, 0, ([] : List (List Int)), [], [], 0, uE12, (by rfl), (by omega), rfl, N, H.pick [0, 1, 2, 3, 4, 5, 6, 7] [0, 2, 3, 4, 5, 6, 7, 8, 9, 10]⟩ ?_
  clear H N
  rintro m' ρ w58 ⟨junk, jS, ja, jM, needs, Xp, VY, k_1, rfl, rfl, i0, rfl, N, H⟩
  have hn_needs := H.xP (α := List Int) 0 rfl 0 rfl (by decide)
  have nl := XG s ((xY s t c).take k_1)
  have tl := List.length_take_le k_1 (xY s t c)
  have cl8 := cellR_len (t := t) p0 c
  refine zcr (sp (.bool (decide ((k_1 : Int) < ((xY s t c).length)))) (zjn (xC (cD rfl (fun h59 => ?_) (fun h59 => ?_)))))
  ·skip
   obtain ⟨e1, e2, e3, e4⟩ := cellR_at (s := s) (t := t) (c := c) (j := k_1) (by omega)
   refine qK (t_n (xC (qM (zcr ?_))))
   obtain ⟨b60, o61, rfl⟩ := H.addr 1 rfl (by omega)
   refine oI rfl rfl (oL rfl (H.jd 1 rfl k_1 (by omega) (by omega)) (sp (.int .i64 ((xY s t c)[k_1]!)) (zjn (xH (sp (.slice jS ja jM) (oF rfl (oL rfl (H.cell 5 rfl rfl) (sp (.int .i64 ((xY s t c)[k_1]!)) ?_))))))))
   obtain ⟨b63, o64, rfl⟩ := H.addr 6 rfl (by omega)
   obtain ⟨ae66Need, ce66Need, Fe66Need, ae66Have, ce66Have, Fe66Have, ae66Lack, ce66Lack, Fe66Lack, ae66Here, ce66Here, Fe66Here, ae66Out, ce66Out, Fe66Out, ae66Into, ce66Into, Fe66Into, H⟩ := H.jy 6 rfl ((xY s t c)[k_1]!) (((xY s t c)[k_1]!).toNat) (by omega) (by omega) (by omega)
   refine oI rfl rfl (oF rfl (oL rfl (H.xB 6 rfl 2 rfl) (sw (zM H Tryz.underlying27 ti22 [.slice ae66Need (((s.qg[((xY s t c)[k_1]!).toNat]!).qV).length) ce66Need] fun b67 w68 H => sw (zV H 1 rfl 0 rfl Tryz.underlying27 ti22 rfl (by decide) rfl rfl rfl (by simp [Value.oneCell', Value.cells]) (by unfold maxLen; omega) (by omega) fun a69 c70 w71 H => ?_)))))
   replace H := H.yl 7 rfl 0 rfl
   refine sp (.slice a69 (ja + 1) c70) (xG (b_n (t_n (xH (sw (xX k_1 1 rfl rfl (by omega) (sp (.int .i64 (k_1 + 1)) (xG (qR (m' := (((xY s t c).length) - ((k_1 + 1) : Int)).toNat) (by omega) ⟨_, a69, ja + 1, c70, ((xI s ((xY s t c).take k_1)) ++ [(s.qg[((xY s t c)[k_1]!).toNat]!).qV]), Xp ++ [.slice ae66Need (((s.qg[((xY s t c)[k_1]!).toNat]!).qV).length) ce66Need], (VY ++ Fe66Need), k_1 + 1, uE12, ?_, ?_, rfl, N, H.pick [1, 2, 3, 4, 5, 6, 7, 8] [0, 9, 10, 11, 12, 13, 14, 15, 16, 17]⟩)))))))))
   · exact needs_take (by omega)
   · omega
  rw [List.take_of_length_le (l := xY s t c) (i := k_1) (by omega)] at H
  refine zx4 (zcr (oF rfl (oL rfl (H.cell 4 rfl rfl) (sp (.int .i64 c) ?_))))
  obtain ⟨b72, o73, rfl⟩ := H.addr 8 rfl (by omega)
  obtain ⟨ae75, ce75, Fe75, H⟩ := H.zU 8 rfl c c (by omega) (by omega) (by omega)
  refine oI rfl rfl (oL rfl (H.xB 1 rfl 0 rfl) (sp (.slice jS ja jM) ?_))
  obtain ⟨G76, hn77, h78⟩ := H.rowIsR (α := List Int) 0 rfl 2 rfl (by decide)
  have cp := cell_pack p0 p1 (c := c) (by omega)
  have nl2 := XG s (xY s t c)
  have sz82 := H.base.size
  have lt83 := H.ltN (L := [F_own]) [5]
  refine sw (oc (args_eq (by rw [← hn77]) (maxPack_ok _ (t.ql[c]!) (xI s (xY s t c)) (H.get 0 rfl).1 (hn77 ▸ h78) (by first | assumption | omega) (by first | assumption | omega))) ?_)
  rintro _ w80 ⟨ra79a, rn79a, rc79a, rx79a, rF79a, rfl, M, K⟩ _
  replace N := N.merge sz82 lt83 M
  replace H := H.merge K M
  obtain rfl := H.xP (α := List Int) 0 rfl 0 rfl (by decide)
  refine sps [.tuple #[.slice ra79a (((zu (t.ql[c]!) (xI s (xY s t c))).1).length) rc79a, .int .i64 ((zu (t.ql[c]!) (xI s (xY s t c))).2)], .slice ra79a (((zu (t.ql[c]!) (xI s (xY s t c))).1).length) rc79a, .int .i64 ((zu (t.ql[c]!) (xI s (xY s t c))).2), .slice ra79a (((zu (t.ql[c]!) (xI s (xY s t c))).1).length) rc79a, .int .i64 ((zu (t.ql[c]!) (xI s (xY s t c))).2)] (zjcc (sps [.int .i64 ((zu (t.ql[c]!) (xI s (xY s t c))).2), .bool (((zu (t.ql[c]!) (xI s (xY s t c))).2 : Int) != 0)] (zjn ?_)))
  refine xn (((zu (t.ql[c]!) (xI s (xY s t c))).2 : Int) != 0) rfl (fun h85 => ?_) (fun h85 => ?_)
  ·skip
   replace h85 := bne_iff_ne.1 h85
   refine zcr (sps [.int .i64 ((zu (t.ql[c]!) (xI s (xY s t c))).2), .slice none 0 0, .int .i64 ((zu (t.ql[c]!) (xI s (xY s t c))).2)] (zjr (t_r (zr5 (ret2 (.slice none 0 0) (.int .i64 ((zu (t.ql[c]!) (xI s (xY s t c))).2)) rfl rfl rfl ⟨_, rfl, ?_⟩)))))
   replace H := H.erases [6, 5, 4, 3, 2, 1, 0]
   dsimp only [jf, List.eraseIdx] at H
   refine sps [.tuple #[.slice none 0 0, .int .i64 ((zu (t.ql[c]!) (xI s (xY s t c))).2)], .slice none 0 0, .int .i64 ((zu (t.ql[c]!) (xI s (xY s t c))).2), .slice none 0 0, .int .i64 ((zu (t.ql[c]!) (xI s (xY s t c))).2)] (zjcc (sps [.int .i64 ((zu (t.ql[c]!) (xI s (xY s t c))).2), .bool (((zu (t.ql[c]!) (xI s (xY s t c))).2 : Int) != 0)] (zjn (xn (((zu (t.ql[c]!) (xI s (xY s t c))).2 : Int) != 0) rfl (fun h86 => ?_) (fun h => absurd (xf h) h85)))))
   replace h86 := bne_iff_ne.1 h86
   refine zcr (sps [.int .i64 ((zu (t.ql[c]!) (xI s (xY s t c))).2), .slice none 0 0, .int .i64 ((zu (t.ql[c]!) (xI s (xY s t c))).2)] (zjr (t_r ?_)))
   replace H := H.nilRow 22 1
   replace H := H.vw (α := List Int)
   refine ret2 (.slice none 0 0) (.int .i64 ((zu (t.ql[c]!) (xI s (xY s t c))).2)) rfl rfl rfl ⟨_, rfl, ?_, H.base⟩
   rw [cho_code (bad_code (c := c) (by omega) (by omega) ‹_›) ‹_›]
   exact ⟨none, 0, 0, [], [], rfl, (N.emp.pick [0]), H.pick [0] [0]⟩
  replace h85 := xf h85
  refine qK (t_n (xH (sps [.slice zW xZ zH, .slice a49 ((xY s t c).length) c50, .slice ra79a (((zu (t.ql[c]!) (xI s (xY s t c))).1).length) rc79a] (sw (jD [.slice a49 ((xY s t c).length) c50, .slice ra79a (((zu (t.ql[c]!) (xI s (xY s t c))).1).length) rc79a] [(0, .slice a49 ((xY s t c).length) c50), (1, .slice ra79a (((zu (t.ql[c]!) (xI s (xY s t c))).1).length) rc79a)] (sw (zM H Tryz.underlying125 ti129 [.slice a49 ((xY s t c).length) c50, .slice ra79a (((zu (t.ql[c]!) (xI s (xY s t c))).1).length) rc79a] fun b87 w88 H => ?_)))))))
  have H0 := H
  obtain ⟨G92, hg94, hn93, H⟩ := H.VU (α := List Int) 1 rfl 0 rfl (by decide)
  replace N : Fresh w.heap.size [G92, F_own] := Fresh.ice N H0 1 hg94.1 hg94.2 (H0.yT [6])
  clear H0
  refine sw (zV H 3 rfl 0 rfl Tryz.underlying125 ti129 rfl (by decide) rfl rfl rfl (by simp [Value.oneCell', Value.cells]) (by unfold maxLen; omega) (by omega) fun a89 c90 w91 H => ?_)
  replace H := H.snoc_inCellD 6 rfl 5 rfl 0 rfl
  refine sp (.slice a89 (xZ + 1) c90) (xG (b_n (t_n (xH (sw (xX c 1 rfl rfl (by omega) (sp (.int .i64 (c + 1)) (xG (qR (m' := (s.qf.length - ((c + 1) : Int)).toNat) (by omega) ⟨_, a89, xZ + 1, c90, ((Qq s t c) ++ [⟨xY s t c, (zu (t.ql[c]!) (xI s (xY s t c))).1⟩]), QC ++ [.slice a49 ((xY s t c).length) c50, .slice ra79a (((zu (t.ql[c]!) (xI s (xY s t c))).1).length) rc79a], (yK ++ (G51 ++ G92)), c + 1, uE6, ?_, ?_, ?_, rfl, (N.pick [1]), H.pick [3, 4, 5, 6, 7, 8, 9] [0, 8, 9, 10, 11, 12, 13, 14]⟩)))))))))
  · first | exact cells_yes (by omega) | exact cells_no (by omega)
  · omega
  · exact gp.succ (by first | exact .inl (by omega) | exact .inr (show (zu _ _).2 = 0 from ‹_›))
 refine zx4 (zcr (sps [.slice zW xZ zH, .slice zW xZ zH, .int .i64 0] (zjr (ret2 (.slice zW xZ zH) (.int .i64 0) rfl rfl rfl ⟨_, rfl, ?_⟩))))
 replace H := H.erases [4, 3, 2, 1]
 dsimp only [jf, List.eraseIdx] at H
 obtain rfl : c = s.qf.length := by omega
 have kn := packsL_ne p0 p1 (k := s.qf.length) (by omega) gp
 have kr := rules_le s t s.qf.length
 have kl := packsL_le s t s.qf.length
 have ce := cells_len s t s.qf.length
 refine sps [.tuple #[.slice zW xZ zH, .int .i64 0], .slice zW xZ zH, .int .i64 0, .slice zW xZ zH, .int .i64 0] (zjcc (sps [.int .i64 0, .bool false] (zjn (xn false rfl (fun h => absurd h (by decide)) (fun _ => qK (t_n (zcr (oF rfl (oL rfl (H.cell 2 rfl rfl) (oN rfl (sw (Xa H Tryz.underlying22 ti2 s.qg.length rfl rfl (by omega) (by omega) (by omega) fun b95 w96 H => sw (zM H Tryz.underlying27 ti22 [.slice (aa b95 0) s.qg.length s.qg.length] fun b97 w98 H => sp (.slice (aa b97 0) 1 1) (zjcc ?_))))))))))))))
 refine sp (.slice zW xZ zH) (oN rfl (sp (.int .i64 0) (zjn (qM ?_))))
 obtain ⟨G99, hg101, hn100, H⟩ := H.VU (α := inCellD) 2 rfl 0 rfl (by decide)
 replace H := H.boxRow 0 rfl 1 1 rfl (by decide)
 replace H := H.vw (α := List Int)
 obtain ⟨G102, N, hn103, H⟩ := H.vG 1 rfl N (H.yT [3])
 replace H := H.VK true 0 rfl 1 rfl (by simp)
 replace N : Fresh w.heap.size [(G102 ++ []), F_own] := (N.emp.pick [1, 0, 2]).join
 refine xQ (fun m' ρ w104 => ∃ (junk : Env) (a_out_1 : Option Addr) (Qo : Nat) (Va : Nat) (out_1 : List (List Int)) (VO : List Value) (XN : List Nat) (k_1 : Nat), ρ = upd (upd (upd (upd junk 8 (.slice a_out_1 Qo Va)) 33 (.slice zW xZ zH)) 34 (.int .i64 xZ)) 35 (.int .i64 k_1) ∧ out_1 = (vF s.qg.length (qO s t s.qf.length) (xk s t s.qf.length) k_1) ∧ ((k_1 : Int) ≤ xZ) ∧ ((vF s.qg.length (qO s t s.qf.length) (xk s t s.qf.length) k_1).length ≤ 300) ∧ m' = (xZ - (k_1 : Int)).toNat ∧ Fresh w.heap.size [XN] ∧ St w w104 [rr a_out_1 Qo Va 22 1 VO, .box b3 [.slice qN t.qh.length qL, .slice xh t.ql.length qZ, .slice qG t.qj.length qF] 38, .box b1 [.int .i64 s.qJ, .slice qo s.qf.length qm, .slice qC s.qg.length qA] 36] [xN true XN VO out_1, isF true G99 (.slice zW xZ zH) (Qq s t s.qf.length), sF false qP qo qm s.qf, sF false xu qC qA s.qg, sF false xE qN qL t.qh, sF false zf xh qZ t.ql, sF false xw qG qF t.qj]) ((xZ - (0 : Int)).toNat) ⟨_, (aa b97 0), 1, 1, [(List.replicate s.qg.length (0 : Int))], [.slice (aa b95 0) s.qg.length s.qg.length], (G102 ++ []), 0, uE4, (by rfl), (by omega), (by rw [XF]; show 1 ≤ 300; omega), rfl, (N.pick [0]), H.pick [0, 3, 4] [0, 3, 7, 8, 9, 10, 11]⟩ ?_
 clear H N
 rintro m' ρ w105 ⟨junk, a_out_1, Qo, Va, out_1, VO, XN, k_1, rfl, rfl, i0, g3, rfl, N, H⟩
 have hn_out := H.xP (α := List Int) 0 rfl 0 rfl (by decide)
 refine zcr (sp (.bool (decide ((k_1 : Int) < xZ))) (zjn (xC (cD rfl (fun h106 => ?_) (fun h106 => ?_)))))
 ·skip
  obtain ⟨gb, gc⟩ := cell_few (s := s) (t := t) (n := s.qf.length) (i := k_1) p0 (by omega)
  refine qK (t_n (xC (qM (zcr ?_))))
  have hl109 := H.isLen 1 rfl
  obtain ⟨b107, o108, rfl⟩ := H.addr 1 rfl (by omega)
  obtain ⟨ae110rules, ce110rules, Fe110rules, ae110packings, ce110packings, Fe110packings, H⟩ := H.elem_inCellD 1 rfl k_1 k_1 (by omega) (by omega) (by omega)
  refine oI rfl rfl (sw (xU [.slice ae110rules ((((Qq s t s.qf.length)[k_1]!).frules).length) ce110rules, .slice ae110packings ((((Qq s t s.qf.length)[k_1]!).fpackings).length) ce110packings] Tryz.isAgg129 Tryz.sizeOf129 rfl (qw (H.get 2 rfl) 0 2) (sw (xM H ti129 [.slice none 0 0, .slice none 0 0] fun b111 w112 H => sw (zF H 0 [.slice ae110rules ((((Qq s t s.qf.length)[k_1]!).frules).length) ce110rules, .slice ae110packings ((((Qq s t s.qf.length)[k_1]!).fpackings).length) ce110packings] Tryz.sizeOf129 fun w113 H => zjc (sw (vI H Tryz.underlying27 ti22 fun b114 w115 H => ?_)))))))
  refine sp (.slice (aa b114 0) 0 0) (zjcc (sp (.slice a_out_1 Qo Va) (oN rfl (sp (.int .i64 0) (zjn (qM ?_))))))
  obtain ⟨ce1, ce2⟩ := cells_at (s := s) (t := t) (k := s.qf.length) (i := k_1) (by omega)
  rw [ce1, ce2] at H
  replace H := H.boxRow 0 rfl 1 0 rfl (by decide)
  replace H := H.vw (α := List Int)
  refine xQ (fun m' ρ w116 => ∃ (junk : Env) (a_next : Option Addr) (n_next : Nat) (c_next : Nat) (next : List (List Int)) (x_next : List Value) (F_next : List Nat) (k_51 : Nat), ρ = upd (upd (upd (upd (upd (upd (upd (upd junk 10 (pp b111 0)) 11 (.slice a_next n_next c_next)) 33 (.slice (aa b107 o108) xZ zH)) 34 (.int .i64 xZ)) 35 (.int .i64 k_1)) 40 (.slice a_out_1 Qo Va)) 41 (.int .i64 Qo)) 42 (.int .i64 k_51) ∧ next = (nextK (vF s.qg.length (qO s t s.qf.length) (xk s t s.qf.length) k_1) ((qO s t s.qf.length)[k_1]!) ((xk s t s.qf.length)[k_1]!) k_51) ∧ ((k_51 : Int) ≤ Qo) ∧ ((nextK (vF s.qg.length (qO s t s.qf.length) (xk s t s.qf.length) k_1) ((qO s t s.qf.length)[k_1]!) ((xk s t s.qf.length)[k_1]!) k_51).length ≤ 300) ∧ m' = (Qo - (k_51 : Int)).toNat ∧ Fresh w.heap.size [XN, F_next] ∧ St w w116 [rr a_next n_next c_next 22 1 x_next, .box b111 [.slice ae110rules (((qO s t s.qf.length)[k_1]!).length) ce110rules, .slice ae110packings (((xk s t s.qf.length)[k_1]!).length) ce110packings] 129, rr a_out_1 Qo Va 22 1 VO, .box b3 [.slice qN t.qh.length qL, .slice xh t.ql.length qZ, .slice qG t.qj.length qF] 38, .box b1 [.int .i64 s.qJ, .slice qo s.qf.length qm, .slice qC s.qg.length qA] 36] [xN true F_next x_next next, sF true Fe110rules ae110rules ce110rules ((qO s t s.qf.length)[k_1]!), sF true Fe110packings ae110packings ce110packings ((xk s t s.qf.length)[k_1]!), atF b107 (o108 + (k_1 : Int).toNat * 2) [.slice ae110rules (((qO s t s.qf.length)[k_1]!).length) ce110rules, .slice ae110packings (((xk s t s.qf.length)[k_1]!).length) ce110packings], xN true XN VO (vF s.qg.length (qO s t s.qf.length) (xk s t s.qf.length) k_1), isF true G99 (.slice (aa b107 o108) xZ zH) (Qq s t s.qf.length), sF false qP qo qm s.qf, sF false xu qC qA s.qg, sF false xE qN qL t.qh, sF false zf xh qZ t.ql, sF false xw qG qF t.qj]) ((Qo - (0 : Int)).toNat) ⟨_, (aa b114 0), 0, 0, ([] : List (List Int)), [], [], 0, uE8, (by rfl), (by omega), (by show 0 ≤ 300; omega), rfl, (N.emp.pick [1, 0]), H⟩ ?_
  clear H N
  rintro m' ρ w117 ⟨junk, a_next, n_next, c_next, next, x_next, F_next, k_51, rfl, rfl, i0, n3, rfl, N, H⟩
  have hn_next := H.xP (α := List Int) 0 rfl 0 rfl (by decide)
  refine zcr (sp (.bool (decide ((k_51 : Int) < Qo))) (zjn (xC (cD rfl (fun h118 => ?_) (fun h118 => ?_)))))
  ·skip
   refine qK (t_n (xC (qM (zcr ?_))))
   obtain ⟨b119, rfl⟩ := H.Qn 2 rfl (by omega)
   refine oI rfl rfl ?_
   obtain ⟨a120, c121, G122, s123, h124, H⟩ := H.jo 2 rfl 4 rfl (iv := k_51) k_51 (by omega) (by omega)
   refine oL rfl (h124) (sp (.slice a120 (((vF s.qg.length (qO s t s.qf.length) (xk s t s.qf.length) k_1)[k_51]!).length) c121) (zjcc (oF rfl (oL rfl (H.cell 1 rfl rfl) (oN rfl (sp (.int .i64 0) (zjn (qM ?_))))))))
   refine xQ (fun m' ρ w125 => ∃ (junk : Env) (QV : Option Addr) (yR : Nat) (QU : Nat) (next_1 : List (List Int)) (Q7 : List Value) (Qs : List Nat) (k_52 : Nat), ρ = upd (upd (upd (upd (upd (upd (upd (upd (upd (upd (upd (upd junk 10 (pp b111 0)) 11 (.slice QV yR QU)) 13 (.slice a120 (((vF s.qg.length (qO s t s.qf.length) (xk s t s.qf.length) k_1)[k_51]!).length) c121)) 33 (.slice (aa b107 o108) xZ zH)) 34 (.int .i64 xZ)) 35 (.int .i64 k_1)) 40 (.slice (aa b119 0) Qo Va)) 41 (.int .i64 Qo)) 42 (.int .i64 k_51)) 47 (.slice ae110packings (((xk s t s.qf.length)[k_1]!).length) ce110packings)) 48 (.int .i64 (((xk s t s.qf.length)[k_1]!).length))) 49 (.int .i64 k_52) ∧ next_1 = (nextX (vF s.qg.length (qO s t s.qf.length) (xk s t s.qf.length) k_1) ((qO s t s.qf.length)[k_1]!) ((xk s t s.qf.length)[k_1]!) k_51 k_52) ∧ ((k_52 : Int) ≤ (((xk s t s.qf.length)[k_1]!).length)) ∧ m' = ((((xk s t s.qf.length)[k_1]!).length) - (k_52 : Int)).toNat ∧ Fresh w.heap.size [XN, Qs] ∧ St w w125 [rr QV yR QU 22 1 Q7, .box b111 [.slice ae110rules (((qO s t s.qf.length)[k_1]!).length) ce110rules, .slice ae110packings (((xk s t s.qf.length)[k_1]!).length) ce110packings] 129, rr (aa b119 0) Qo Va 22 1 VO, .box b3 [.slice qN t.qh.length qL, .slice xh t.ql.length qZ, .slice qG t.qj.length qF] 38, .box b1 [.int .i64 s.qJ, .slice qo s.qf.length qm, .slice qC s.qg.length qA] 36] [sF true G122 a120 c121 ((vF s.qg.length (qO s t s.qf.length) (xk s t s.qf.length) k_1)[k_51]!), xN true Qs Q7 next_1, sF true Fe110rules ae110rules ce110rules ((qO s t s.qf.length)[k_1]!), sF true Fe110packings ae110packings ce110packings ((xk s t s.qf.length)[k_1]!), atF b107 (o108 + (k_1 : Int).toNat * 2) [.slice ae110rules (((qO s t s.qf.length)[k_1]!).length) ce110rules, .slice ae110packings (((xk s t s.qf.length)[k_1]!).length) ce110packings], xN true XN VO (vF s.qg.length (qO s t s.qf.length) (xk s t s.qf.length) k_1), isF true G99 (.slice (aa b107 o108) xZ zH) (Qq s t s.qf.length), sF false qP qo qm s.qf, sF false xu qC qA s.qg, sF false xE qN qL t.qh, sF false zf xh qZ t.ql, sF false xw qG qF t.qj]) (((((xk s t s.qf.length)[k_1]!).length) - (0 : Int)).toNat) ⟨_, a_next, n_next, c_next, (nextK (vF s.qg.length (qO s t s.qf.length) (xk s t s.qf.length) k_1) ((qO s t s.qf.length)[k_1]!) ((xk s t s.qf.length)[k_1]!) k_51), x_next, F_next, 0, uE12, (by exact nextX_zero _ _ _ _), (by omega), rfl, N, H⟩ ?_
   clear H N
   rintro m' ρ w126 ⟨junk, QV, yR, QU, next_1, Q7, Qs, k_52, rfl, rfl, i0, rfl, N, H⟩
   have hn_next := H.xP (α := List Int) 0 rfl 1 rfl (by decide)
   refine zcr (sp (.bool (decide ((k_52 : Int) < (((xk s t s.qf.length)[k_1]!).length)))) (zjn (xC (cD rfl (fun h127 => ?_) (fun h127 => ?_)))))
   ·skip
    have nx := nextX_len (r := ((qO s t s.qf.length)[k_1]!)) (show k_51 < (vF s.qg.length (qO s t s.qf.length) (xk s t s.qf.length) k_1).length by omega) (show k_52 ≤ ((xk s t s.qf.length)[k_1]!).length by omega)
    have nk := nextK_len (r := ((qO s t s.qf.length)[k_1]!)) (P := ((xk s t s.qf.length)[k_1]!)) (show k_51 ≤ (vF s.qg.length (qO s t s.qf.length) (xk s t s.qf.length) k_1).length by omega)
    have g1 := prodG_at (n := s.qg.length) (rs := (qO s t s.qf.length)) (all := (xk s t s.qf.length)) (i := k_1) (k := k_51) (by omega)
    have g2 := pack_at (s := s) (t := t) (n := s.qf.length) (i := k_1) (x := k_52) (by omega) (by omega)
    refine qK (t_n (xC (qM (zcr ?_))))
    obtain ⟨b128, o129, rfl⟩ := H.addr 3 rfl (by omega)
    obtain ⟨ae131, ce131, Fe131, H⟩ := H.zU 3 rfl k_52 k_52 (by omega) (by omega) (by omega)
    refine oI rfl rfl (oL rfl (H.xB 1 rfl 0 rfl) (sp (.slice ae131 ((((xk s t s.qf.length)[k_1]!)[k_52]!).length) ce131) (zjc (sp (.slice a120 (((vF s.qg.length (qO s t s.qf.length) (xk s t s.qf.length) k_1)[k_51]!).length) c121) ?_))))
    have sz132 := H.base.size
    have lt133 := H.ltN (L := [XN, Qs]) [7, 3]
    refine sw (oc (cloneI_ok _ ((vF s.qg.length (qO s t s.qf.length) (xk s t s.qf.length) k_1)[k_51]!) (H.get 2 rfl).1 (by first | assumption | omega)) ?_)
    rintro v137 w135 r137 x136
    replace H := H.xW x136 r137
    obtain ⟨a138, c139, rfl, hc140, hm141⟩ := H.vN 0 rfl
    refine sp (.slice a138 (((vF s.qg.length (qO s t s.qf.length) (xk s t s.qf.length) k_1)[k_51]!).length) c139) (zjcc (oF rfl (oL rfl (H.cell 2 rfl rfl) (oN rfl (sp (.int .i64 0) (zjn (qM ?_)))))))
    refine xQ (fun m' ρ w142 => ∃ (junk : Env) (k_53 : Nat) (own_1 : List Int), ρ = upd (upd (upd (upd (upd (upd (upd (upd (upd (upd (upd (upd (upd (upd (upd (upd (upd junk 10 (pp b111 0)) 11 (.slice QV yR QU)) 13 (.slice a120 (((vF s.qg.length (qO s t s.qf.length) (xk s t s.qf.length) k_1)[k_51]!).length) c121)) 15 (.slice ae131 ((((xk s t s.qf.length)[k_1]!)[k_52]!).length) ce131)) 16 (.slice a138 (((vF s.qg.length (qO s t s.qf.length) (xk s t s.qf.length) k_1)[k_51]!).length) c139)) 33 (.slice (aa b107 o108) xZ zH)) 34 (.int .i64 xZ)) 35 (.int .i64 k_1)) 40 (.slice (aa b119 0) Qo Va)) 41 (.int .i64 Qo)) 42 (.int .i64 k_51)) 47 (.slice (aa b128 o129) (((xk s t s.qf.length)[k_1]!).length) ce110packings)) 48 (.int .i64 (((xk s t s.qf.length)[k_1]!).length))) 49 (.int .i64 k_52)) 56 (.slice ae110rules (((qO s t s.qf.length)[k_1]!).length) ce110rules)) 57 (.int .i64 (((qO s t s.qf.length)[k_1]!).length))) 58 (.int .i64 k_53) ∧ own_1 = (setTo ((vF s.qg.length (qO s t s.qf.length) (xk s t s.qf.length) k_1)[k_51]!) ((qO s t s.qf.length)[k_1]!) (((xk s t s.qf.length)[k_1]!)[k_52]!) k_53) ∧ ((k_53 : Int) ≤ (((qO s t s.qf.length)[k_1]!).length)) ∧ m' = ((((qO s t s.qf.length)[k_1]!).length) - (k_53 : Int)).toNat ∧ Fresh w.heap.size [XN, Qs] ∧ St w w142 [rr a138 (((vF s.qg.length (qO s t s.qf.length) (xk s t s.qf.length) k_1)[k_51]!).length) c139 2 1 (own_1.map (Value.int .i64)), rr QV yR QU 22 1 Q7, .box b111 [.slice ae110rules (((qO s t s.qf.length)[k_1]!).length) ce110rules, .slice (aa b128 o129) (((xk s t s.qf.length)[k_1]!).length) ce110packings] 129, rr (aa b119 0) Qo Va 22 1 VO, .box b3 [.slice qN t.qh.length qL, .slice xh t.ql.length qZ, .slice qG t.qj.length qF] 38, .box b1 [.int .i64 s.qJ, .slice qo s.qf.length qm, .slice qC s.qg.length qA] 36] [sF true Fe131 ae131 ce131 (((xk s t s.qf.length)[k_1]!)[k_52]!), atF b128 (o129 + (k_52 : Int).toNat * 1) [.slice ae131 ((((xk s t s.qf.length)[k_1]!)[k_52]!).length) ce131], sF true G122 a120 c121 ((vF s.qg.length (qO s t s.qf.length) (xk s t s.qf.length) k_1)[k_51]!), xN true Qs Q7 (nextX (vF s.qg.length (qO s t s.qf.length) (xk s t s.qf.length) k_1) ((qO s t s.qf.length)[k_1]!) ((xk s t s.qf.length)[k_1]!) k_51 k_52), sF true Fe110rules ae110rules ce110rules ((qO s t s.qf.length)[k_1]!), sF true Fe110packings (aa b128 o129) ce110packings ((xk s t s.qf.length)[k_1]!), atF b107 (o108 + (k_1 : Int).toNat * 2) [.slice ae110rules (((qO s t s.qf.length)[k_1]!).length) ce110rules, .slice (aa b128 o129) (((xk s t s.qf.length)[k_1]!).length) ce110packings], xN true XN VO (vF s.qg.length (qO s t s.qf.length) (xk s t s.qf.length) k_1), isF true G99 (.slice (aa b107 o108) xZ zH) (Qq s t s.qf.length), sF false qP qo qm s.qf, sF false xu qC qA s.qg, sF false xE qN qL t.qh, sF false zf xh qZ t.ql, sF false xw qG qF t.qj]) (((((qO s t s.qf.length)[k_1]!).length) - (0 : Int)).toNat) ⟨_, 0, ((vF s.qg.length (qO s t s.qf.length) (xk s t s.qf.length) k_1)[k_51]!), uE17, (by rfl), (by omega), rfl, N, H⟩ ?_
    clear H N
    rintro m' ρ w143 ⟨junk, k_53, own_1, rfl, rfl, i0, rfl, N, H⟩
    have hn_own := H.rowNI 0 rfl
    have sl := setTo_len ((vF s.qg.length (qO s t s.qf.length) (xk s t s.qf.length) k_1)[k_51]!) ((qO s t s.qf.length)[k_1]!) (((xk s t s.qf.length)[k_1]!)[k_52]!) k_53
    refine zcr (sp (.bool (decide ((k_53 : Int) < (((qO s t s.qf.length)[k_1]!).length)))) (zjn (xC (cD rfl (fun h144 => ?_) (fun h144 => ?_)))))
    ·skip
     obtain ⟨g3', g4⟩ := choice_at (s := s) (t := t) (n := s.qf.length) (i := k_1) (r := k_53) (by omega) (by omega)
     refine qK (t_n (xC (qM (zcr (sp (.int .i64 k_53) ?_)))))
     obtain ⟨b145, o146, rfl⟩ := H.addr 4 rfl (by omega)
     refine oI rfl rfl (oL rfl (H.jd 4 rfl k_53 (by omega) (by omega)) (sps [.int .i64 k_53, .int .i64 (((qO s t s.qf.length)[k_1]!)[k_53]!)] (zjn (xH (sps [.slice a138 (((vF s.qg.length (qO s t s.qf.length) (xk s t s.qf.length) k_1)[k_51]!).length) c139, .int .i64 (((qO s t s.qf.length)[k_1]!)[k_53]!), .slice ae131 ((((xk s t s.qf.length)[k_1]!)[k_52]!).length) ce131, .int .i64 k_53] ?_)))))
     obtain ⟨b148, o149, rfl⟩ := H.addr 0 rfl (by omega)
     refine oI rfl rfl (oL rfl (H.jd 0 rfl k_53 (by omega) (by omega)) ?_)
     obtain ⟨b151, rfl⟩ := H.Qn 0 rfl (by omega)
     refine oI rfl rfl (sw (o_storeInt H 0 rfl ((((xk s t s.qf.length)[k_1]!)[k_52]!)[k_53]!) Tryz.sizeOf2 rfl rfl (i := ((((qO s t s.qf.length)[k_1]!)[k_53]!).toNat)) (by omega) (by omega) fun w152 H => xG (b_n (t_n (xH (sw (xX k_53 1 rfl rfl (by omega) (sp (.int .i64 (k_53 + 1)) (xG ?_)))))))))
     refine qR (m' := ((((qO s t s.qf.length)[k_1]!).length) - ((k_53 + 1) : Int)).toNat) (by omega) ⟨_, k_53 + 1, ((setTo ((vF s.qg.length (qO s t s.qf.length) (xk s t s.qf.length) k_1)[k_51]!) ((qO s t s.qf.length)[k_1]!) (((xk s t s.qf.length)[k_1]!)[k_52]!) k_53).set ((((qO s t s.qf.length)[k_1]!)[k_53]!).toNat) ((((xk s t s.qf.length)[k_1]!)[k_52]!)[k_53]!)), uE17, ?_, ?_, rfl, N, H⟩
     · rfl
     · omega
    refine zx4 (xH (sps [.slice QV yR QU, .slice a138 (((vF s.qg.length (qO s t s.qf.length) (xk s t s.qf.length) k_1)[k_51]!).length) c139] (sw (zM H Tryz.underlying27 ti22 [.slice a138 (((vF s.qg.length (qO s t s.qf.length) (xk s t s.qf.length) k_1)[k_51]!).length) c139] fun b153 w154 H => ?_))))
    obtain ⟨G158, N, hn159, H⟩ := H.vG 1 rfl N (H.yT [7, 3])
    refine sw (zV H 2 rfl 0 rfl Tryz.underlying27 ti22 rfl (by decide) rfl rfl rfl (by simp [Value.oneCell', Value.cells]) (by unfold maxLen; omega) (by omega) fun a155 c156 w157 H => ?_)
    replace H := H.yl 4 rfl 0 rfl
    replace N : Fresh w.heap.size [(Qs ++ G158), XN] := (N.pick [2, 0, 1]).join
    refine sp (.slice a155 (yR + 1) c156) (xG (b_n (t_n (xH (sw (xX k_52 1 rfl rfl (by omega) (sp (.int .i64 (k_52 + 1)) (xG ?_))))))))
    refine qR (m' := ((((xk s t s.qf.length)[k_1]!).length) - ((k_52 + 1) : Int)).toNat) (by omega) ⟨_, a155, yR + 1, c156, ((nextX (vF s.qg.length (qO s t s.qf.length) (xk s t s.qf.length) k_1) ((qO s t s.qf.length)[k_1]!) ((xk s t s.qf.length)[k_1]!) k_51 k_52) ++ [(setTo ((vF s.qg.length (qO s t s.qf.length) (xk s t s.qf.length) k_1)[k_51]!) ((qO s t s.qf.length)[k_1]!) (((xk s t s.qf.length)[k_1]!)[k_52]!) k_53)]), Q7 ++ [.slice a138 (((vF s.qg.length (qO s t s.qf.length) (xk s t s.qf.length) k_1)[k_51]!).length) c139], (Qs ++ G158), k_52 + 1, uE12, ?_, ?_, rfl, (N.pick [1, 0]), H.pick [2, 3, 4, 5, 6] [4, 0, 6, 7, 8, 9, 10, 11, 12, 13, 14, 15]⟩
    · exact nextX_succ (by omega) (by rw [show k_53 = ((qO s t s.qf.length)[k_1]!).length by omega]; rfl)
    · omega
   refine zx4 (zcr (sp (.slice QV yR QU) (oN rfl (sp (.bool (decide ((yR : Int) > 300))) (zjn (cD rfl (fun h160 => ?_) (fun h160 => ?_)))))))
   ·skip
    refine zcr (sps [.slice none 0 0, .int .i64 3] (zjr (zr5 (zr5 ?_))))
    replace H := H.nilRow 22 1
    replace H := H.vw (α := List Int)
    refine ret2 (.slice none 0 0) (.int .i64 3) rfl rfl rfl ⟨_, rfl, ?_, H.base⟩
    first | rw [cho_3 (.inl (own_bad p0 (q := k) (by omega) (by omega)))] | rw [cho_3 (.inr (prod_stop (G := (vF s.qg.length (qO s t s.qf.length) (xk s t s.qf.length) k_1)) (r := ((qO s t s.qf.length)[k_1]!)) (k := k_51 + 1) (i := k_1) kn (by omega) (XF _) (by omega) (by rw [← nextX_end (x := k_52) (by omega) (by omega)]; omega)))]
    exact ⟨none, 0, 0, [], [], rfl, (N.emp.pick [0]), H.pick [0] [0]⟩
   refine qK (b_n (t_n (xH (sw (xX k_51 1 rfl rfl (by omega) (sp (.int .i64 (k_51 + 1)) (xG (qR (m' := (Qo - ((k_51 + 1) : Int)).toNat) (by omega) ⟨_, QV, yR, QU, (nextX (vF s.qg.length (qO s t s.qf.length) (xk s t s.qf.length) k_1) ((qO s t s.qf.length)[k_1]!) ((xk s t s.qf.length)[k_1]!) k_51 k_52), Q7, Qs, k_51 + 1, uE8, ?_, ?_, ?_, rfl, N, H.pick [0, 1, 2, 3, 4] [1, 2, 3, 4, 5, 6, 7, 8, 9, 10, 11]⟩))))))))
   · exact nextX_end (by omega) (by omega)
   · omega
   · rw [← nextX_end (x := k_52) (by omega) (by omega)]; omega
  refine zx4 (xH (sps [.slice a_next n_next c_next, .slice a_next n_next c_next] (xG (b_n (t_n (xH (sw (xX k_1 1 rfl rfl (by omega) (sp (.int .i64 (k_1 + 1)) (xG (qR (m' := (xZ - ((k_1 + 1) : Int)).toNat) (by omega) ⟨_, a_next, n_next, c_next, (nextK (vF s.qg.length (qO s t s.qf.length) (xk s t s.qf.length) k_1) ((qO s t s.qf.length)[k_1]!) ((xk s t s.qf.length)[k_1]!) k_51), x_next, F_next, k_1 + 1, uE4, ?_, ?_, ?_, rfl, (N.pick [1]), H.pick [0, 3, 4] [0, 5, 6, 7, 8, 9, 10]⟩)))))))))))
  · rw [show k_51 = (vF s.qg.length (qO s t s.qf.length) (xk s t s.qf.length) k_1).length by omega]; rfl
  · omega
  · show (nextK (vF s.qg.length (qO s t s.qf.length) (xk s t s.qf.length) k_1) ((qO s t s.qf.length)[k_1]!) ((xk s t s.qf.length)[k_1]!) (vF s.qg.length (qO s t s.qf.length) (xk s t s.qf.length) k_1).length).length ≤ 300; rw [← show k_51 = (vF s.qg.length (qO s t s.qf.length) (xk s t s.qf.length) k_1).length by omega]; exact n3
 obtain rfl : k_1 = (xk s t s.qf.length).length := by omega
 have on : 0 < (vF s.qg.length (qO s t s.qf.length) (xk s t s.qf.length) (xk s t s.qf.length).length).length := by rw [XF]; exact prod_mono kn (Nat.zero_le _) (Nat.le_refl _)
 have kc : ¬ QO (xk s t s.qf.length) (xk s t s.qf.length).length > 300 := by rw [XF] at g3; omega
 refine zx4 (zcr (sp (.slice a_out_1 Qo Va) ?_))
 obtain ⟨b161, rfl⟩ := H.Qn 0 rfl (by omega)
 refine sw (o_callF #[.slice (aa b161 0) Qo Va, .func (.func 94) #[] #[]] rfl rfl Tryz.call93 (sortRow sortL Tryz.call94 cmpSort H 0 rfl 0 rfl (by omega) (by omega)) ?_)
 rintro _ w162 ⟨xs163, F164, l165, rfl, hF166, hp167, hs168, H⟩
 replace N : Fresh w.heap.size [F164] := Fresh.perm N hF166
 refine zjc (sps [.slice (aa b161 0) Qo Va, .slice (aa b161 0) Qo Va, .int .i64 0] (zjr (ret2 (.slice (aa b161 0) Qo Va) (.int .i64 0) rfl rfl rfl ⟨_, rfl, ?_, H.base⟩)))
 rw [cho_0 gp kc hp167 (in_order (Nat.le_refl _) fun a b h1 h2 h3 => hs168 a b h1 h2 ((cmpL_ahead ((perm_rows hp167 b (by omega)).trans (perm_rows hp167 a (by omega)).symm)).2 h3))]
 exact ⟨(aa b161 0), Qo, Va, xs163, F164, rfl, N, H.pick [0] [0]⟩
theorem l03Succ_ok (w : World) (s : qy) (t : qE) {bs os : Nat} {bt ot : Nat} (hs : zK w bs os [.int .i64 s.qJ, .slice qo s.qf.length qm, .slice qC s.qg.length qA]) (qU : qB.rep w qP [.slice qo s.qf.length qm] s.qf) (xx : qB.rep w xu [.slice qC s.qg.length qA] s.qg) (ht : zK w bt ot [.slice qN t.qh.length qL, .slice xh t.ql.length qZ, .slice qG t.qj.length qF]) (xK : qB.rep w xE [.slice qN t.qh.length qL] t.qh) (zn : qB.rep w zf [.slice xh t.ql.length qZ] t.ql) (xA : qB.rep w xw [.slice qG t.qj.length qF] t.qj) (p0 : jG s) (p1 : zt s t) : Calls Tryz.prog 72 #[pp bs os, pp bt ot] w (Ret (fun v w' => ∃ (ra0 : Option Addr) (rn0 : Nat) (rc0 : Nat) (rx0 : List Value) (rF0 : List Nat), v = .tuple #[.slice ra0 rn0 rc0, .int .i64 ((yt s t).2)] ∧ Fresh w.heap.size [rF0] ∧ St w w' [rr ra0 rn0 rc0 38 3 rx0] [xN true rF0 rx0 ((yt s t).1)]) w) := by
 refine en Tryz.func72 Tryz.ntmps72 ?_
 have H := (((((((St.start w).arg xA).arg zn).arg xK).XX ht).arg xx).arg qU).XX hs
 have zJ := qx qU
 have vW := qx xx
 have yJ := qx xK
 have QD := qx zn
 have jB := qx xA
 clear hs qU xx ht xK zn xA
 have N := Fresh.nil w.heap.size
 refine zcr (sps [.slice none 0 0, .int .i64 0] (zjcc (sps [pp bs os, pp bt ot] (sw (oq (l03Halted_ok _ s t (qw (H.get 0 rfl) 0 3) (H.get 1 rfl).1 (H.get 2 rfl).1 (qw (H.get 3 rfl) 0 3) (H.get 4 rfl).1 (H.get 5 rfl).1 (H.get 6 rfl).1 (by first | assumption | omega) (by first | assumption | omega)) H fun w2 H => zjn (cP rfl (fun h4 => ?_) (fun h4 => ?_)))))))
 ·skip
  refine zcr (sw (vI H Tryz.underlying47 ti38 fun b5 w6 H => sps [.slice (aa b5 0) 0 0, .int .i64 0] (zjr (t_r ?_))))
  replace H := H.boxRow 0 rfl 3 0 rfl (by decide)
  replace H := H.vw (α := qE)
  replace H : St _ _ [rr (aa b5 0) 0 0 38 3 []] [xN true [] [] ([] : List qE), atF bs os [.int .i64 s.qJ, .slice qo s.qf.length qm, .slice qC s.qg.length qA], sF false qP qo qm s.qf, sF false xu qC qA s.qg, atF bt ot [.slice qN t.qh.length qL, .slice xh t.ql.length qZ, .slice qG t.qj.length qF], sF false xE qN qL t.qh, sF false zf xh qZ t.ql, sF false xw qG qF t.qj] := H
  refine ret2 (.slice (aa b5 0) 0 0) (.int .i64 0) rfl rfl rfl ⟨_, rfl, ?_, H.base⟩
  rw [succ_h (by first | assumption | exact appls_halt.1 (by omega))]
  exact ⟨(aa b5 0), 0, 0, [], [], rfl, N.emp, H.pick [0] [0]⟩
 refine qK (t_n (zcr (sps [pp bs os, pp bt ot] ?_)))
 have sz10 := H.base.size
 refine sw (oc (l03Choices_ok _ s t (qw (H.get 0 rfl) 0 3) (H.get 1 rfl).1 (H.get 2 rfl).1 (qw (H.get 3 rfl) 0 3) (H.get 4 rfl).1 (H.get 5 rfl).1 (H.get 6 rfl).1 (by first | assumption | omega) (by first | assumption | omega)) ?_)
 rintro _ w8 ⟨ra7a, rn7a, rc7a, rx7a, rF7a, rfl, M, K⟩ _
 replace N := N.merge sz10 (by simp) M
 replace H := H.merge K M
 obtain rfl := H.xP (α := List Int) 0 rfl 0 rfl (by decide)
 refine sps [.tuple #[.slice ra7a (((zG s t).1).length) rc7a, .int .i64 ((zG s t).2)], .slice ra7a (((zG s t).1).length) rc7a, .int .i64 ((zG s t).2), .slice ra7a (((zG s t).1).length) rc7a, .int .i64 ((zG s t).2)] (zjcc (sps [.int .i64 ((zG s t).2), .bool (((zG s t).2 : Int) != 0)] (zjn (xn (((zG s t).2 : Int) != 0) rfl (fun h13 => ?_) (fun h13 => ?_)))))
 ·skip
  replace h13 := bne_iff_ne.1 h13
  refine zcr (sw (vI H Tryz.underlying47 ti38 fun b14 w15 H => sps [.int .i64 ((zG s t).2), .slice (aa b14 0) 0 0, .int .i64 ((zG s t).2)] (zjr (t_r ?_))))
  replace H := H.boxRow 0 rfl 3 0 rfl (by decide)
  replace H := H.vw (α := qE)
  replace H : St _ _ [rr (aa b14 0) 0 0 38 3 [], rr ra7a (((zG s t).1).length) rc7a 22 1 rx7a] [xN true [] [] ([] : List qE), xN true rF7a rx7a ((zG s t).1), atF bs os [.int .i64 s.qJ, .slice qo s.qf.length qm, .slice qC s.qg.length qA], sF false qP qo qm s.qf, sF false xu qC qA s.qg, atF bt ot [.slice qN t.qh.length qL, .slice xh t.ql.length qZ, .slice qG t.qj.length qF], sF false xE qN qL t.qh, sF false zf xh qZ t.ql, sF false xw qG qF t.qj] := H
  refine ret2 (.slice (aa b14 0) 0 0) (.int .i64 ((zG s t).2)) rfl rfl rfl ⟨_, rfl, ?_, H.base⟩
  rw [succ_c ‹_›]
  exact ⟨(aa b14 0), 0, 0, [], [], rfl, (N.emp.pick [0]), H.pick [0] [0]⟩
 replace h13 := xf h13
 refine qK (t_n (zcr (sps [pp bs os, pp bt ot, .slice ra7a (((zG s t).1).length) rc7a] ?_)))
 obtain ⟨G16, hn17, h18⟩ := H.rowIsR (α := List Int) 0 rfl 0 rfl (by decide)
 have ln := cho_len s t
 have cc := fun q (hq : q < (zG s t).1.length) => (cho_ok p0 p1 hq).1
 have ci := fun q (hq : q < (zG s t).1.length) => (cho_ok p0 p1 hq).2
 have sz22 := H.base.size
 have lt23 := H.ltN (L := [rF7a]) [0]
 refine sw (oc (l03Next_ok _ s t ((zG s t).1) (qw (H.get 1 rfl) 0 3) (H.get 2 rfl).1 (H.get 3 rfl).1 (qw (H.get 4 rfl) 0 3) (H.get 5 rfl).1 (H.get 6 rfl).1 (H.get 7 rfl).1 h18 (by first | assumption | omega) (by first | assumption | omega) (by first | assumption | omega) (by first | assumption | omega)) ?_)
 rintro _ w20 ⟨ra19a, rn19a, rc19a, rx19a, rF19a, rfl, M, K⟩ _
 replace N := N.merge sz22 lt23 M
 replace H := H.merge K M
 obtain rfl := H.xP (α := qE) 0 rfl 0 rfl (by decide)
 refine sps [.slice ra19a (((yN s t ((zG s t).1)).1).length) rc19a, .int .i64 ((yN s t ((zG s t).1)).2), .slice ra19a (((yN s t ((zG s t).1)).1).length) rc19a, .int .i64 ((yN s t ((zG s t).1)).2)] (zjr (ret2 (.slice ra19a (((yN s t ((zG s t).1)).1).length) rc19a) (.int .i64 ((yN s t ((zG s t).1)).2)) rfl rfl rfl ⟨_, rfl, ?_, H.base⟩))
 rw [succ_0 (by first | assumption | exact fun h => by have := appls_halt.2 h; omega) (by assumption)]
 exact ⟨ra19a, ((yN s t ((zG s t).1)).1).length, rc19a, rx19a, rF19a, rfl, (N.pick [0]), H.pick [0] [0]⟩

theorem nextStates_ok (w : World) (s : qy) (t : qE) (qU : qB.rep w qP [.slice qo s.qf.length qm] s.qf) (xx : qB.rep w xu [.slice qC s.qg.length qA] s.qg) (xK : qB.rep w xE [.slice qN t.qh.length qL] t.qh) (zn : qB.rep w zf [.slice xh t.ql.length qZ] t.ql) (xA : qB.rep w xw [.slice qG t.qj.length qF] t.qj) (p0 : jG s) (p1 : zt s t) : Calls Tryz.prog 73 #[.agg #[.int .i64 s.qJ, .slice qo s.qf.length qm, .slice qC s.qg.length qA], .agg #[.slice qN t.qh.length qL, .slice xh t.ql.length qZ, .slice qG t.qj.length qF]] w (Ret (fun v w' => ∃ (ra0 : Option Addr) (rn0 : Nat) (rc0 : Nat) (rx0 : List Value) (rF0 : List Nat), v = .tuple #[.slice ra0 rn0 rc0, .int .i64 ((yt s t).2)] ∧ Fresh w.heap.size [rF0] ∧ St w w' [rr ra0 rn0 rc0 38 3 rx0] [xN true rF0 rx0 ((yt s t).1)]) w) := by
 refine en Tryz.func73 Tryz.ntmps73 ?_
 have H := (((((St.start w).arg xA).arg zn).arg xK).arg xx).arg qU
 have zJ := qx qU
 have vW := qx xx
 have yJ := qx xK
 have QD := qx zn
 have jB := qx xA
 clear qU xx xK zn xA
 have N := Fresh.nil w.heap.size
 refine zcr (sw (zY H [.int .i64 s.qJ, .slice qo s.qf.length qm, .slice qC s.qg.length qA] fun b1 w2 H => sw (zY H [.slice qN t.qh.length qL, .slice xh t.ql.length qZ, .slice qG t.qj.length qF] fun b3 w4 H => sps [.slice none 0 0, .int .i64 0] (zjc (sw (xU [.int .i64 s.qJ, .slice qo s.qf.length qm, .slice qC s.qg.length qA] Tryz.isAgg36 Tryz.sizeOf36 rfl (qw (H.cells 1 rfl) 0 3) ?_))))))
 refine sw (xU [.slice qN t.qh.length qL, .slice xh t.ql.length qZ, .slice qG t.qj.length qF] Tryz.isAgg38 Tryz.sizeOf38 rfl (qw (H.cells 0 rfl) 0 3) ?_)
 have sz8 := H.base.size
 refine sw (oc (choices_ok _ s t (H.get 0 rfl).1 (H.get 1 rfl).1 (H.get 2 rfl).1 (H.get 3 rfl).1 (H.get 4 rfl).1 (by first | assumption | omega) (by first | assumption | omega)) ?_)
 rintro _ w6 ⟨ra5a, rn5a, rc5a, rx5a, rF5a, rfl, M, K⟩ _
 replace N := N.merge sz8 (by simp) M
 replace H := H.merge K M
 obtain rfl := H.xP (α := List Int) 0 rfl 0 rfl (by decide)
 refine sps [.tuple #[.slice ra5a (((zG s t).1).length) rc5a, .int .i64 ((zG s t).2)], .slice ra5a (((zG s t).1).length) rc5a, .int .i64 ((zG s t).2), .slice ra5a (((zG s t).1).length) rc5a, .int .i64 ((zG s t).2)] (zjcc (sps [.int .i64 ((zG s t).2), .bool (((zG s t).2 : Int) != 0)] (zjn (xn (((zG s t).2 : Int) != 0) rfl (fun h11 => ?_) (fun h11 => ?_)))))
 ·skip
  replace h11 := bne_iff_ne.1 h11
  refine zcr (sps [.int .i64 ((zG s t).2), .slice none 0 0, .int .i64 ((zG s t).2)] (zjr (t_r ?_)))
  replace H := H.nilRow 38 3
  replace H := H.vw (α := qE)
  refine ret2 (.slice none 0 0) (.int .i64 ((zG s t).2)) rfl rfl rfl ⟨_, rfl, ?_, H.base⟩
  rw [succ_c ‹_›]
  exact ⟨none, 0, 0, [], [], rfl, (N.emp.pick [0]), H.pick [0] [0]⟩
 replace h11 := xf h11
 refine qK (t_n (zcc (sw (xU [.int .i64 s.qJ, .slice qo s.qf.length qm, .slice qC s.qg.length qA] Tryz.isAgg36 Tryz.sizeOf36 rfl (qw (H.cells 2 rfl) 0 3) (sw (xU [.slice qN t.qh.length qL, .slice xh t.ql.length qZ, .slice qG t.qj.length qF] Tryz.isAgg38 Tryz.sizeOf38 rfl (qw (H.cells 1 rfl) 0 3) ?_))))))
 have sz15 := H.base.size
 refine sw (oc (applicable_ok _ s t (H.get 1 rfl).1 (H.get 2 rfl).1 (H.get 3 rfl).1 (H.get 4 rfl).1 (H.get 5 rfl).1 (by first | assumption | omega) (by first | assumption | omega)) ?_)
 rintro _ w13 ⟨ra12, rn12, rc12, rfl, M, K⟩ _
 replace H := H.merge K M
 obtain rfl := H.rowNI 0 rfl
 refine oN rfl (sp (.bool (((appls s t).length : Int) == 0)) (zjn (cE rfl (fun h18 => ?_) (fun h18 => ?_))))
 ·skip
  refine zcr (sps [.slice none 0 0, .int .i64 0] (zjr (t_r ?_)))
  replace H := H.nilRow 38 3
  replace H := H.vw (α := qE)
  refine ret2 (.slice none 0 0) (.int .i64 0) rfl rfl rfl ⟨_, rfl, ?_, H.base⟩
  rw [succ_h (by first | assumption | exact appls_halt.1 (by omega))]
  exact ⟨none, 0, 0, [], [], rfl, (N.emp.pick [0]), H.pick [0] [0]⟩
 refine qK (t_n (zcr (sw (xU [.int .i64 s.qJ, .slice qo s.qf.length qm, .slice qC s.qg.length qA] Tryz.isAgg36 Tryz.sizeOf36 rfl (qw (H.cells 3 rfl) 0 3) (sw (xU [.slice qN t.qh.length qL, .slice xh t.ql.length qZ, .slice qG t.qj.length qF] Tryz.isAgg38 Tryz.sizeOf38 rfl (qw (H.cells 2 rfl) 0 3) (sp (.slice ra5a (((zG s t).1).length) rc5a) ?_)))))))
 obtain ⟨G19, hn20, h21⟩ := H.rowIsR (α := List Int) 1 rfl 0 rfl (by decide)
 have ln := cho_len s t
 have cc := fun q (hq : q < (zG s t).1.length) => (cho_ok p0 p1 hq).1
 have ci := fun q (hq : q < (zG s t).1.length) => (cho_ok p0 p1 hq).2
 have sz25 := H.base.size
 have lt26 := H.ltN (L := [rF5a]) [0]
 refine sw (oc (behind_ok _ s t ((zG s t).1) (H.get 1 rfl).1 (H.get 2 rfl).1 (H.get 3 rfl).1 (H.get 4 rfl).1 (H.get 5 rfl).1 h21 (by first | assumption | omega) (by first | assumption | omega) (by first | assumption | omega) (by first | assumption | omega) (by first | assumption | omega)) ?_)
 rintro _ w23 ⟨ra22a, rn22a, rc22a, rx22a, rF22a, rfl, M, K⟩ _
 replace N := N.merge sz25 lt26 M
 replace H := H.merge K M
 obtain rfl := H.xP (α := qE) 0 rfl 0 rfl (by decide)
 refine sps [.slice ra22a (((yN s t ((zG s t).1)).1).length) rc22a, .int .i64 ((yN s t ((zG s t).1)).2), .slice ra22a (((yN s t ((zG s t).1)).1).length) rc22a, .int .i64 ((yN s t ((zG s t).1)).2)] (zjr (ret2 (.slice ra22a (((yN s t ((zG s t).1)).1).length) rc22a) (.int .i64 ((yN s t ((zG s t).1)).2)) rfl rfl rfl ⟨_, rfl, ?_, H.base⟩))
 rw [succ_0 (by first | assumption | exact fun h => by have := appls_halt.2 h; omega) (by assumption)]
 exact ⟨ra22a, ((yN s t ((zG s t).1)).1).length, rc22a, rx22a, rF22a, rfl, (N.pick [0]), H.pick [0] [0]⟩

theorem specNx_ok (w : World) (s : qy) (t : qE) (qU : qB.rep w qP [.slice qo s.qf.length qm] s.qf) (xx : qB.rep w xu [.slice qC s.qg.length qA] s.qg) (xK : qB.rep w xE [.slice qN t.qh.length qL] t.qh) (zn : qB.rep w zf [.slice xh t.ql.length qZ] t.ql) (xA : qB.rep w xw [.slice qG t.qj.length qF] t.qj) : Calls Tryz.prog 27 #[.agg #[.int .i64 s.qJ, .slice qo s.qf.length qm, .slice qC s.qg.length qA], .agg #[.slice qN t.qh.length qL, .slice xh t.ql.length qZ, .slice qG t.qj.length qF]] w (Ret (fun v w' => ∃ (ra0 : Option Addr) (rn0 : Nat) (rc0 : Nat) (rx0 : List Value) (rF0 : List Nat), v = .tuple #[.slice ra0 rn0 rc0, .int .i64 ((zy s t).2)] ∧ Fresh w.heap.size [rF0] ∧ St w w' [rr ra0 rn0 rc0 38 3 rx0] [xN true rF0 rx0 ((zy s t).1)]) w) := by
 refine en Tryz.func27 Tryz.ntmps27 ?_
 have H := (((((St.start w).arg xA).arg zn).arg xK).arg xx).arg qU
 have zJ := qx qU
 have vW := qx xx
 have yJ := qx xK
 have QD := qx zn
 have jB := qx xA
 clear qU xx xK zn xA
 have N := Fresh.nil w.heap.size
 refine zcr (sw (zY H [.int .i64 s.qJ, .slice qo s.qf.length qm, .slice qC s.qg.length qA] fun b1 w2 H => sw (zY H [.slice qN t.qh.length qL, .slice xh t.ql.length qZ, .slice qG t.qj.length qF] fun b3 w4 H => sps [.slice none 0 0, .int .i64 0] (zjcc (sw (oq (l03Both_ok _ s t (qw (H.cells 1 rfl) 0 3) (H.get 0 rfl).1 (H.get 1 rfl).1 (qw (H.cells 0 rfl) 0 3) (H.get 2 rfl).1 (H.get 3 rfl).1 (H.get 4 rfl).1) H fun w6 H => sp (.bool (!(dec (jG s ∧ zt s t)))) (zjn (cQ rfl (fun h8 => ?_) (fun h8 => ?_)))))))))
 ·skip
  refine zcr (sw (vI H Tryz.underlying47 ti38 fun b9 w10 H => sps [.slice (aa b9 0) 0 0, .int .i64 1] (zjr (t_r ?_))))
  replace H := H.boxRow 0 rfl 3 0 rfl (by decide)
  replace H := H.vw (α := qE)
  replace H : St _ _ [rr (aa b9 0) 0 0 38 3 [], .box b3 [.slice qN t.qh.length qL, .slice xh t.ql.length qZ, .slice qG t.qj.length qF] 38, .box b1 [.int .i64 s.qJ, .slice qo s.qf.length qm, .slice qC s.qg.length qA] 36] [xN true [] [] ([] : List qE), sF false qP qo qm s.qf, sF false xu qC qA s.qg, sF false xE qN qL t.qh, sF false zf xh qZ t.ql, sF false xw qG qF t.qj] := H
  refine ret2 (.slice (aa b9 0) 0 0) (.int .i64 1) rfl rfl rfl ⟨_, rfl, ?_, H.base⟩
  rw [nx_1 ‹_›]
  exact ⟨(aa b9 0), 0, 0, [], [], rfl, N.emp, H.pick [0] [0]⟩
 have k0 := (‹jG s ∧ zt s t› : jG s ∧ zt s t)
 have k1 := k0.1
 have k2 := k0.2
 refine qK (t_n (zcr ?_))
 have sz14 := H.base.size
 refine sw (oc (l03Succ_ok _ s t (qw (H.cells 1 rfl) 0 3) (H.get 0 rfl).1 (H.get 1 rfl).1 (qw (H.cells 0 rfl) 0 3) (H.get 2 rfl).1 (H.get 3 rfl).1 (H.get 4 rfl).1 (by first | assumption | omega) (by first | assumption | omega)) ?_)
 rintro _ w12 ⟨ra11a, rn11a, rc11a, rx11a, rF11a, rfl, M, K⟩ _
 replace N := N.merge sz14 (by simp) M
 replace H := H.merge K M
 obtain rfl := H.xP (α := qE) 0 rfl 0 rfl (by decide)
 refine sps [.slice ra11a (((yt s t).1).length) rc11a, .int .i64 ((yt s t).2), .slice ra11a (((yt s t).1).length) rc11a, .int .i64 ((yt s t).2)] (zjr (ret2 (.slice ra11a (((yt s t).1).length) rc11a) (.int .i64 ((yt s t).2)) rfl rfl rfl ⟨_, rfl, ?_, H.base⟩))
 rw [nx_0 k0]
 exact ⟨ra11a, ((yt s t).1).length, rc11a, rx11a, rF11a, rfl, N, H.pick [0] [0]⟩

theorem implNx_ok (w : World) (s : qy) (t : qE) (qU : qB.rep w qP [.slice qo s.qf.length qm] s.qf) (xx : qB.rep w xu [.slice qC s.qg.length qA] s.qg) (xK : qB.rep w xE [.slice qN t.qh.length qL] t.qh) (zn : qB.rep w zf [.slice xh t.ql.length qZ] t.ql) (xA : qB.rep w xw [.slice qG t.qj.length qF] t.qj) : Calls Tryz.prog 28 #[.agg #[.int .i64 s.qJ, .slice qo s.qf.length qm, .slice qC s.qg.length qA], .agg #[.slice qN t.qh.length qL, .slice xh t.ql.length qZ, .slice qG t.qj.length qF]] w (Ret (fun v w' => ∃ (ra0 : Option Addr) (rn0 : Nat) (rc0 : Nat) (rx0 : List Value) (rF0 : List Nat), v = .tuple #[.slice ra0 rn0 rc0, .int .i64 ((zy s t).2)] ∧ Fresh w.heap.size [rF0] ∧ St w w' [rr ra0 rn0 rc0 38 3 rx0] [xN true rF0 rx0 ((zy s t).1)]) w) := by
 refine en Tryz.func28 Tryz.ntmps28 ?_
 have H := (((((St.start w).arg xA).arg zn).arg xK).arg xx).arg qU
 have zJ := qx qU
 have vW := qx xx
 have yJ := qx xK
 have QD := qx zn
 have jB := qx xA
 clear qU xx xK zn xA
 have N := Fresh.nil w.heap.size
 refine zcr (sw (zY H [.int .i64 s.qJ, .slice qo s.qf.length qm, .slice qC s.qg.length qA] fun b1 w2 H => sw (zY H [.slice qN t.qh.length qL, .slice xh t.ql.length qZ, .slice qG t.qj.length qF] fun b3 w4 H => sps [.slice none 0 0, .int .i64 0] (zjcc (sw (xU [.int .i64 s.qJ, .slice qo s.qf.length qm, .slice qC s.qg.length qA] Tryz.isAgg36 Tryz.sizeOf36 rfl (qw (H.cells 1 rfl) 0 3) ?_))))))
 refine sw (xU [.slice qN t.qh.length qL, .slice xh t.ql.length qZ, .slice qG t.qj.length qF] Tryz.isAgg38 Tryz.sizeOf38 rfl (qw (H.cells 0 rfl) 0 3) (sw (oq (validState_ok _ s t (H.get 0 rfl).1 (H.get 1 rfl).1 (H.get 2 rfl).1 (H.get 3 rfl).1 (H.get 4 rfl).1) H fun w6 H => sp (.bool (!(dec (jG s ∧ zt s t)))) (zjn (cQ rfl (fun h8 => ?_) (fun h8 => ?_))))))
 ·skip
  refine zcr (sps [.slice none 0 0, .int .i64 1] (zjr (t_r ?_)))
  replace H := H.nilRow 38 3
  replace H := H.vw (α := qE)
  refine ret2 (.slice none 0 0) (.int .i64 1) rfl rfl rfl ⟨_, rfl, ?_, H.base⟩
  rw [nx_1 ‹_›]
  exact ⟨none, 0, 0, [], [], rfl, N.emp, H.pick [0] [0]⟩
 have k0 := (‹jG s ∧ zt s t› : jG s ∧ zt s t)
 have k1 := k0.1
 have k2 := k0.2
 refine qK (t_n (zcr (sw (xU [.int .i64 s.qJ, .slice qo s.qf.length qm, .slice qC s.qg.length qA] Tryz.isAgg36 Tryz.sizeOf36 rfl (qw (H.cells 1 rfl) 0 3) (sw (xU [.slice qN t.qh.length qL, .slice xh t.ql.length qZ, .slice qG t.qj.length qF] Tryz.isAgg38 Tryz.sizeOf38 rfl (qw (H.cells 0 rfl) 0 3) ?_))))))
 have sz12 := H.base.size
 refine sw (oc (nextStates_ok _ s t (H.get 0 rfl).1 (H.get 1 rfl).1 (H.get 2 rfl).1 (H.get 3 rfl).1 (H.get 4 rfl).1 (by first | assumption | omega) (by first | assumption | omega)) ?_)
 rintro _ w10 ⟨ra9a, rn9a, rc9a, rx9a, rF9a, rfl, M, K⟩ _
 replace N := N.merge sz12 (by simp) M
 replace H := H.merge K M
 obtain rfl := H.xP (α := qE) 0 rfl 0 rfl (by decide)
 refine sps [.slice ra9a (((yt s t).1).length) rc9a, .int .i64 ((yt s t).2), .slice ra9a (((yt s t).1).length) rc9a, .int .i64 ((yt s t).2)] (zjr (ret2 (.slice ra9a (((yt s t).1).length) rc9a) (.int .i64 ((yt s t).2)) rfl rfl rfl ⟨_, rfl, ?_, H.base⟩))
 rw [nx_0 k0]
 exact ⟨ra9a, ((yt s t).1).length, rc9a, rx9a, rF9a, rfl, N, H.pick [0] [0]⟩

theorem law_NextStates (w : World) (aS : qy) (aT : qE) (yj : Option Addr) (yh : Nat) (V7 : List Nat) (QM : Option Addr) (QI : Nat) (FaSRules : List Nat) (QL : Option Addr) (QH : Nat) (FaTAlive : List Nat) (XM : Option Addr) (XK : Nat) (FaTBags : List Nat) (yY : Option Addr) (yX : Nat) (FaTAround : List Nat) (haSParents : qB.rep w V7 [.slice yj aS.qf.length yh] aS.qf) (haSRules : qB.rep w FaSRules [.slice QM aS.qg.length QI] aS.qg) (haTAlive : qB.rep w FaTAlive [.slice QL aT.qh.length QH] aT.qh) (haTBags : qB.rep w FaTBags [.slice XM aT.ql.length XK] aT.ql) (haTAround : qB.rep w FaTAround [.slice yY aT.qj.length yX] aT.qj) : Calls Tryz.prog 4 #[.agg #[.int .i64 aS.qJ, .slice yj aS.qf.length yh, .slice QM aS.qg.length QI], .agg #[.slice QL aT.qh.length QH, .slice XM aT.ql.length XK, .slice yY aT.qj.length yX]] w (Ret (fun v w' => v = .bool true) w) := by
 refine en Tryz.func4 Tryz.ntmps4 ?_
 have H := (((((St.start w).arg haTAround).arg haTBags).arg haTAlive).arg haSRules).arg haSParents
 have nhaSParents := qx haSParents
 have nhaSRules := qx haSRules
 have nhaTAlive := qx haTAlive
 have nhaTBags := qx haTBags
 have nhaTAround := qx haTAround
 clear haSParents haSRules haTAlive haTBags haTAround
 have N := Fresh.nil w.heap.size
 have A := H.ltN (L := [V7, FaSRules, FaTAlive, FaTBags, FaTAround]) [0, 1, 2, 3, 4]
 have t1 := tot_SystemD aS
 have t2 := tot_StateD aT
 have c0 := XR aS.qf
 have c1 := XR aS.qg
 have c2 := XR aT.qh
 have c3 := XR aT.ql
 have c4 := XR aT.qj
 have f1 := few_nx aS aT
 refine zcr (sw (zY H [.int .i64 aS.qJ, .slice yj aS.qf.length yh, .slice QM aS.qg.length QI] fun b1 w2 H => sw (zY H [.slice QL aT.qh.length QH, .slice XM aT.ql.length XK, .slice yY aT.qj.length yX] fun b3 w4 H => sp (.bool false) (zjc (sp (.int .i64 1048576) (zjc (sw (xU [.int .i64 aS.qJ, .slice yj aS.qf.length yh, .slice QM aS.qg.length QI] Tryz.isAgg25 Tryz.sizeOf25 rfl (qw (H.cells 1 rfl) 0 3) (sp (.int .i64 1048576) ?_)))))))))
 refine sw (oq (szSystem_ok _ aS 1048576 (H.get 0 rfl).1 (H.get 1 rfl).1 (by omega)) H fun w5 H => ?_)
 have := zh (tot aS) 1048576
 refine sp (.int .i64 (szR (tot aS) 1048576)) (zjcc (sps [.int .i64 (szR (tot aS) 1048576), .bool (decide ((szR (tot aS) 1048576 : Int) < 0))] (zjn (cD rfl (fun h7 => ?_) (fun h7 => ?_)))))
 ·skip
  refine zcr (sp (.bool true) (zjr (t_r (ret1 (.bool true) rfl rfl ⟨_, rfl, ?_, H.base⟩))))
  rfl
 refine qK (t_n (zcr (sw (xU [.slice QL aT.qh.length QH, .slice XM aT.ql.length XK, .slice yY aT.qj.length yX] Tryz.isAgg29 Tryz.sizeOf29 rfl (qw (H.cells 0 rfl) 0 3) (sp (.int .i64 (szR (tot aS) 1048576)) (sw (oq (szState_ok _ aT (szR (tot aS) 1048576) (H.get 2 rfl).1 (H.get 3 rfl).1 (H.get 4 rfl).1 (by omega)) H fun w8 H => ?_)))))))
 have := zh (tot aT) (szR (tot aS) 1048576)
 refine sp (.int .i64 (szR (tot aT) (szR (tot aS) 1048576))) (zjcc (sps [.int .i64 (szR (tot aT) (szR (tot aS) 1048576)), .bool (decide ((szR (tot aT) (szR (tot aS) 1048576) : Int) < 0))] (zjn (cD rfl (fun h10 => ?_) (fun h10 => ?_)))))
 ·skip
  refine zcr (sp (.bool true) (zjr (t_r (ret1 (.bool true) rfl rfl ⟨_, rfl, ?_, H.base⟩))))
  rfl
 refine qK (t_n (xC ?_))
 refine vH rfl H fun H => rt 0 (.agg #[.int .i64 aS.qJ, .slice yj aS.qf.length yh, .slice QM aS.qg.length QI]) (Qm (cs := [.int .i64 aS.qJ, .slice yj aS.qf.length yh, .slice QM aS.qg.length QI]) Tryz.isAgg25 Tryz.sizeOf25 rfl (fun _ h => qw (h.cells 1 rfl) 0 3)) H ?_
 refine rt 2 (.agg #[.slice QL aT.qh.length QH, .slice XM aT.ql.length XK, .slice yY aT.qj.length yX]) (Qm (cs := [.slice QL aT.qh.length QH, .slice XM aT.ql.length XK, .slice yY aT.qj.length yX]) Tryz.isAgg29 Tryz.sizeOf29 rfl (fun _ h => qw (h.cells 0 rfl) 0 3)) H ?_
 refine ro 1 rfl ?_
 have sz12 := H.base.size
 refine oc (toSystem_ok _ aS (H.get 0 rfl).1 (H.get 1 rfl).1 (by first | assumption | omega)) ?_
 rintro v17 w15 r17 x16
 obtain ⟨a17Parents, c17Parents, jm, a17Rules, c17Rules, Qe, rfl, f17, H⟩ := H.add_SystemD x16 r17
 replace N := N.cons f17 sz12 (by intro F hF; simp at hF)
 replace N := N.split
 refine ⟨H.pick [0, 1] [2, 3, 4, 5, 6], (ro 3 rfl ?_)⟩
 have sz18 := H.base.size
 have lt19 := H.ltN (L := [jm, Qe]) [0, 1]
 refine oc (toState_ok _ aT (H.get 4 rfl).1 (H.get 5 rfl).1 (H.get 6 rfl).1 (by first | assumption | omega)) ?_
 rintro v23 w21 r23 x22
 obtain ⟨a23Alive, c23Alive, Qv, a23Bags, c23Bags, Xk, a23Around, c23Around, yH, rfl, f23, H⟩ := H.add_StateD x22 r23
 replace N := N.cons f23 sz18 lt19
 replace N := N.split
 replace N := N.split
 refine ⟨H.pick [0, 1] [5, 6, 7, 8, 9], (ro 4 rfl ?_)⟩
 have sz27 := H.base.size
 have lt28 := H.ltN (L := [Qv, Xk, yH, jm, Qe]) [0, 1, 2, 3, 4]
 refine oc (specNx_ok _ aS aT (H.get 3 rfl).1 (H.get 4 rfl).1 (H.get 0 rfl).1 (H.get 1 rfl).1 (H.get 2 rfl).1) ?_
 rintro _ w25 ⟨ra24a, rn24a, rc24a, rx24a, rF24a, rfl, M, K⟩ _
 replace N := N.merge sz27 lt28 M
 replace H := H.merge K M
 obtain rfl := H.xP (α := qE) 0 rfl 0 rfl (by decide)
 refine ⟨H.pick [1, 2] [6, 7, 8, 9, 10], ?_⟩
 have S := H.jZ [1, 2] [6, 7, 8, 9, 10]
 refine rtp 5 (.tuple #[.slice ra24a (((zy aS aT).1).length) rc24a, .int .i64 ((zy aS aT).2)]) S ?_
 refine rtp 6 (.slice ra24a (((zy aS aT).1).length) rc24a) S ?_
 refine rtp 7 (.int .i64 ((zy aS aT).2)) S ?_
 refine rtp 8 (.slice ra24a (((zy aS aT).1).length) rc24a) S ?_
 refine rtp 9 (.int .i64 ((zy aS aT).2)) S ?_
 refine xy (by kernel_rfl) (t_n (zcr (sw (xU [.int .i64 aS.qJ, .slice yj aS.qf.length yh, .slice QM aS.qg.length QI] Tryz.isAgg25 Tryz.sizeOf25 rfl (qw (H.cells 2 rfl) 0 3) ?_))))
 have sz30 := H.base.size
 have lt31 := H.ltN (L := [rF24a, Qv, Xk, yH, jm, Qe]) [0, 1, 2, 3, 4, 5]
 refine sw (oc (toSystem_ok _ aS (H.get 6 rfl).1 (H.get 7 rfl).1 (by first | assumption | omega)) ?_)
 rintro v35 w33 r35 x34
 obtain ⟨Qa, y9, jl, XC, Xx, Qd, rfl, f35, H⟩ := H.add_SystemD x34 r35
 replace N := N.cons f35 sz30 lt31
 replace N := N.split
 refine sw (xM H ti36 [.int .i64 0, .slice none 0 0, .slice none 0 0] fun b36 w37 H => sw (zF H 0 [.int .i64 aS.qJ, .slice Qa aS.qf.length y9, .slice XC aS.qg.length Xx] Tryz.sizeOf36 fun w38 H => zjc (sw (xU [.slice QL aT.qh.length QH, .slice XM aT.ql.length XK, .slice yY aT.qj.length yX] Tryz.isAgg29 Tryz.sizeOf29 rfl (qw (H.cells 2 rfl) 0 3) ?_))))
 have sz39 := H.base.size
 have lt40 := H.ltN (L := [jl, Qd, rF24a, Qv, Xk, yH, jm, Qe]) [0, 1, 2, 3, 4, 5, 6, 7]
 refine sw (oc (toState_ok _ aT (H.get 10 rfl).1 (H.get 11 rfl).1 (H.get 12 rfl).1 (by first | assumption | omega)) ?_)
 rintro v44 w42 r44 x43
 obtain ⟨XB, Xw, Qu, a44Bags, c44Bags, Xj, QN, QK, yG, rfl, f44, H⟩ := H.add_StateD x43 r44
 replace N := N.cons f44 sz39 lt40
 replace N := N.split
 replace N := N.split
 refine sw (xM H ti38 [.slice none 0 0, .slice none 0 0, .slice none 0 0] fun b45 w46 H => sw (zF H 0 [.slice XB aT.qh.length Xw, .slice a44Bags aT.ql.length c44Bags, .slice QN aT.qj.length QK] Tryz.sizeOf38 fun w47 H => zjc (sw (xU [.int .i64 aS.qJ, .slice Qa aS.qf.length y9, .slice XC aS.qg.length Xx] Tryz.isAgg36 Tryz.sizeOf36 rfl (qw (H.cells 1 rfl) 0 3) ?_))))
 refine sw (xU [.slice XB aT.qh.length Xw, .slice a44Bags aT.ql.length c44Bags, .slice QN aT.qj.length QK] Tryz.isAgg38 Tryz.sizeOf38 rfl (qw (H.cells 0 rfl) 0 3) ?_)
 have sz51 := H.base.size
 have lt52 := H.ltN (L := [Qu, Xj, yG, jl, Qd, rF24a, Qv, Xk, yH, jm, Qe]) [0, 1, 2, 3, 4, 5, 6, 7, 8, 9, 10]
 refine sw (oc (implNx_ok _ aS aT (H.get 3 rfl).1 (H.get 4 rfl).1 (H.get 0 rfl).1 (H.get 1 rfl).1 (H.get 2 rfl).1) ?_)
 rintro _ w49 ⟨ra48a, rn48a, rc48a, rx48a, rF48a, rfl, M, K⟩ _
 replace N := N.merge sz51 lt52 M
 replace H := H.merge K M
 obtain rfl := H.xP (α := qE) 0 rfl 0 rfl (by decide)
 refine sps [.tuple #[.slice ra48a (((zy aS aT).1).length) rc48a, .int .i64 ((zy aS aT).2)], .slice ra48a (((zy aS aT).1).length) rc48a, .int .i64 ((zy aS aT).2), .slice ra48a (((zy aS aT).1).length) rc48a, .int .i64 ((zy aS aT).2)] (zjcc (sps [.slice ra48a (((zy aS aT).1).length) rc48a, .slice ra24a (((zy aS aT).1).length) rc24a] ?_))
 obtain ⟨G54, hn55, h56⟩ := H.rowIsR (α := qE) 0 rfl 0 rfl (by decide)
 obtain ⟨G57, hn58, h59⟩ := H.rowIsR (α := qE) 3 rfl 6 rfl (by decide)
 refine sw (oq (eqStateS_ok _ ((zy aS aT).1) ((zy aS aT).1) h56 h59) H fun w60 H => sps [.bool (!(decide (((zy aS aT).1) = ((zy aS aT).1)))), .bool (!(decide (((zy aS aT).1) = ((zy aS aT).1))))] ?_)
 cases h62 : (!(decide (((zy aS aT).1) = ((zy aS aT).1))))
 ·skip
  replace h62 := qQ h62
  refine qH 49 rfl rfl (sp (.int .i64 ((zy aS aT).2)) (qH 49 rfl rfl (sp (.int .i64 ((zy aS aT).2)) (qH 49 rfl rfl (sps [.bool (((zy aS aT).2 : Int) != ((zy aS aT).2)), .bool (((zy aS aT).2 : Int) != ((zy aS aT).2))] (zjn (xn (((zy aS aT).2 : Int) != ((zy aS aT).2)) rfl (fun h => absurd rfl (bne_iff_ne.1 h)) (fun h63 => ?_))))))))
  replace h63 := xf h63
  refine qK (t_n (xC (xC ?_)))
  refine vH rfl H fun H => rt 0 (.agg #[.int .i64 aS.qJ, .slice Qa aS.qf.length y9, .slice XC aS.qg.length Xx]) (Qm (cs := [.int .i64 aS.qJ, .slice Qa aS.qf.length y9, .slice XC aS.qg.length Xx]) Tryz.isAgg36 Tryz.sizeOf36 rfl (fun _ h => qw (h.cells 2 rfl) 0 3)) H ?_
  refine rt 1 (.agg #[.int .i64 aS.qJ, .slice yj aS.qf.length yh, .slice QM aS.qg.length QI]) (Qm (cs := [.int .i64 aS.qJ, .slice yj aS.qf.length yh, .slice QM aS.qg.length QI]) Tryz.isAgg25 Tryz.sizeOf25 rfl (fun _ h => qw (h.cells 5 rfl) 0 3)) H ?_
  refine ro 2 rfl ?_
  have sz65 := H.base.size
  have lt66 := H.ltN (L := [rF48a, Qu, Xj, yG, jl, Qd, rF24a, Qv, Xk, yH, jm, Qe]) [0, 1, 2, 3, 4, 5, 6, 7, 8, 9, 10, 11]
  refine oc (toSystem_ok _ aS (H.get 12 rfl).1 (H.get 13 rfl).1 (by first | assumption | omega)) ?_
  rintro v70 w68 r70 x69
  obtain ⟨a70Parents, c70Parents, Qc, a70Rules, c70Rules, XD, rfl, f70, H⟩ := H.add_SystemD x69 r70
  replace N := N.cons f70 sz65 lt66
  replace N := N.split
  refine ⟨H.pick [0, 1, 2, 3, 4, 5] [2, 3, 4, 5, 6, 7, 8, 9, 10, 11, 12, 13, 14, 15, 16, 17, 18], (ro 3 rfl (oq (eqSystem_ok _ aS aS (H.get 6 rfl).1 (H.get 7 rfl).1 (H.get 0 rfl).1 (H.get 1 rfl).1) H fun w71 H => ⟨H.pick [0, 1, 2, 3, 4, 5] [2, 3, 4, 5, 6, 7, 8, 9, 10, 11, 12, 13, 14, 15, 16, 17, 18], (rtp 4 (.bool (!(decide (aS = aS)))) (H.pick [0, 1, 2, 3, 4, 5] [2, 3, 4, 5, 6, 7, 8, 9, 10, 11, 12, 13, 14, 15, 16, 17, 18]) ?_)⟩))⟩
  refine xy (by kernel_rfl) (t_n (xn (!(decide (aS = aS))) rfl (fun h => absurd (qW h) (by simp)) (fun h73 => ?_)))
  replace h73 := qQ h73
  refine qK (t_n (xC (xC ?_)))
  refine vH rfl H fun H => rt 0 (.agg #[.slice XB aT.qh.length Xw, .slice a44Bags aT.ql.length c44Bags, .slice QN aT.qj.length QK]) (Qm (cs := [.slice XB aT.qh.length Xw, .slice a44Bags aT.ql.length c44Bags, .slice QN aT.qj.length QK]) Tryz.isAgg38 Tryz.sizeOf38 rfl (fun _ h => qw (h.cells 1 rfl) 0 3)) H ?_
  refine rt 1 (.agg #[.slice QL aT.qh.length QH, .slice XM aT.ql.length XK, .slice yY aT.qj.length yX]) (Qm (cs := [.slice QL aT.qh.length QH, .slice XM aT.ql.length XK, .slice yY aT.qj.length yX]) Tryz.isAgg29 Tryz.sizeOf29 rfl (fun _ h => qw (h.cells 4 rfl) 0 3)) H ?_
  refine ro 2 rfl ?_
  have sz75 := H.base.size
  have lt76 := H.ltN (L := [Qc, XD, rF48a, Qu, Xj, yG, jl, Qd, rF24a, Qv, Xk, yH, jm, Qe]) [0, 1, 2, 3, 4, 5, 6, 7, 8, 9, 10, 11, 12, 13]
  refine oc (toState_ok _ aT (H.get 16 rfl).1 (H.get 17 rfl).1 (H.get 18 rfl).1 (by first | assumption | omega)) ?_
  rintro v80 w78 r80 x79
  obtain ⟨a80Alive, c80Alive, X3, a80Bags, c80Bags, F80Bags, a80Around, c80Around, Q5, rfl, f80, H⟩ := H.add_StateD x79 r80
  replace N := N.cons f80 sz75 lt76
  replace N := N.split
  replace N := N.split
  refine ⟨H.pick [0, 1, 2, 3, 4, 5] [3, 4, 5, 6, 7, 8, 9, 10, 11, 12, 13, 14, 15, 16, 17, 18, 19, 20, 21], (ro 3 rfl (oq (eqState_ok _ aT aT (H.get 6 rfl).1 (H.get 7 rfl).1 (H.get 8 rfl).1 (H.get 0 rfl).1 (H.get 1 rfl).1 (H.get 2 rfl).1) H fun w81 H => ⟨H.pick [0, 1, 2, 3, 4, 5] [3, 4, 5, 6, 7, 8, 9, 10, 11, 12, 13, 14, 15, 16, 17, 18, 19, 20, 21], (rtp 4 (.bool (!(decide (aT = aT)))) (H.pick [0, 1, 2, 3, 4, 5] [3, 4, 5, 6, 7, 8, 9, 10, 11, 12, 13, 14, 15, 16, 17, 18, 19, 20, 21]) ?_)⟩))⟩
  refine xy (by kernel_rfl) (t_n (xn (!(decide (aT = aT))) rfl (fun h => absurd (qW h) (by simp)) (fun h83 => ?_)))
  replace h83 := qQ h83
  refine qK (t_n (zcr (sp (.int .i64 1) (zjc (sw (xU [.int .i64 aS.qJ, .slice Qa aS.qf.length y9, .slice XC aS.qg.length Xx] Tryz.isAgg36 Tryz.sizeOf36 rfl (qw (H.cells 2 rfl) 0 3) (sp (.int .i64 1) ?_)))))))
  have N84 : Fresh w.heap.size [jl, Qd, X3, F80Bags, Q5, Qc, XD, rF48a, Qu, Xj, yG, rF24a, Qv, Xk, yH, jm, Qe] := (N.pick [9, 10, 0, 1, 2, 3, 4, 5, 6, 7, 8, 11, 12, 13, 14, 15, 16])
  refine sw (Xb #[.agg #[.int .i64 aS.qJ, .slice Qa aS.qf.length y9, .slice XC aS.qg.length Xx], .int .i64 1] rfl rfl Tryz.call23 (markSystem_ok w81 aS 1 Qa y9 jl XC Xx Qd (H.get 9 rfl).1 (H.get 10 rfl).1 (N84.pick [0, 1] : Fresh _ [jl, Qd]).join.one.2 (((H.get 9 rfl).2 rfl).app ((H.get 10 rfl).2 rfl)) (by omega) (by omega)) ?_)
  rintro _ w85 ⟨rfl, m87⟩ x86
  replace H : St _ _ [rr ra48a (((zy aS aT).1).length) rc48a 38 3 rx48a, .box b45 [.slice XB aT.qh.length Xw, .slice a44Bags aT.ql.length c44Bags, .slice QN aT.qj.length QK] 38, .box b36 [.int .i64 aS.qJ, .slice Qa aS.qf.length y9, .slice XC aS.qg.length Xx] 36, rr ra24a (((zy aS aT).1).length) rc24a 38 3 rx24a, .box b3 [.slice QL aT.qh.length QH, .slice XM aT.ql.length XK, .slice yY aT.qj.length yX] 29, .box b1 [.int .i64 aS.qJ, .slice yj aS.qf.length yh, .slice QM aS.qg.length QI] 25] [isF true jl (.slice Qa aS.qf.length y9) (mrk aS.qf (1)), isF true Qd (.slice XC aS.qg.length Xx) (mrk aS.qg (1 + (cnt aS.qf : Nat))), sF true X3 a80Alive c80Alive aT.qh, sF true F80Bags a80Bags c80Bags aT.ql, sF true Q5 a80Around c80Around aT.qj, sF true Qc a70Parents c70Parents aS.qf, sF true XD a70Rules c70Rules aS.qg, xN true rF48a rx48a ((zy aS aT).1), sF true Qu XB Xw aT.qh, sF true Xj a44Bags c44Bags aT.ql, sF true yG QN QK aT.qj, xN true rF24a rx24a ((zy aS aT).1), sF true Qv a23Alive c23Alive aT.qh, sF true Xk a23Bags c23Bags aT.ql, sF true yH a23Around c23Around aT.qj, sF true jm a17Parents c17Parents aS.qf, sF true Qe a17Rules c17Rules aS.qg, sF false V7 yj yh aS.qf, sF false FaSRules QM QI aS.qg, sF false FaTAlive QL QH aT.qh, sF false FaTBags XM XK aT.ql, sF false FaTAround yY yX aT.qj] := H.chgFacts (Fs := [jl, Qd]) (L := [X3, F80Bags, Q5, Qc, XD, rF48a, Qu, Xj, yG, rF24a, Qv, Xk, yH, jm, Qe]) (A := [V7, FaSRules, FaTAlive, FaTBags, FaTAround]) N84 A (x86.mono (by intro z hz; simpa using hz)) [9, 10] [isF true jl (.slice Qa aS.qf.length y9) (mrk aS.qf (1)), isF true Qd (.slice XC aS.qg.length Xx) (mrk aS.qg (1 + (cnt aS.qf : Nat)))] (all_of ⟨m87.1, ⟨m87.2, trivial⟩⟩) [0, 1, 2, 3, 4, 5, 6, 7, 8, 11, 12, 13, 14, 15, 16, 17, 18, 19, 20, 21] [0, 1, 2, 3, 4, 5, 6, 7, 8, 9, 10, 11, 12, 13, 14, 15, 16, 17, 18, 19]
  replace N := N84
  refine sp (.int .i64 (1 + (cnt aS.qf : Nat) + (cnt aS.qg : Nat))) (zjc (sw (xU [.slice XB aT.qh.length Xw, .slice a44Bags aT.ql.length c44Bags, .slice QN aT.qj.length QK] Tryz.isAgg38 Tryz.sizeOf38 rfl (qw (H.cells 1 rfl) 0 3) (sp (.int .i64 (1 + (cnt aS.qf : Nat) + (cnt aS.qg : Nat))) ?_))))
  have N88 : Fresh w.heap.size [Qu, Xj, yG, jl, Qd, X3, F80Bags, Q5, Qc, XD, rF48a, rF24a, Qv, Xk, yH, jm, Qe] := (N.pick [8, 9, 10, 0, 1, 2, 3, 4, 5, 6, 7, 11, 12, 13, 14, 15, 16])
  refine sw (Xb #[.agg #[.slice XB aT.qh.length Xw, .slice a44Bags aT.ql.length c44Bags, .slice QN aT.qj.length QK], .int .i64 (1 + (cnt aS.qf : Nat) + (cnt aS.qg : Nat))] rfl rfl Tryz.call24 (markState_ok w85 aT (1 + (cnt aS.qf : Nat) + (cnt aS.qg : Nat)) XB Xw Qu a44Bags c44Bags Xj QN QK yG (H.get 8 rfl).1 (H.get 9 rfl).1 (H.get 10 rfl).1 (N88.pick [0, 1, 2] : Fresh _ [Qu, Xj, yG]).join.join.one.2 ((((H.get 8 rfl).2 rfl).app ((H.get 9 rfl).2 rfl)).app ((H.get 10 rfl).2 rfl)) (by omega) (by omega)) ?_)
  rintro _ w89 ⟨rfl, m91⟩ x90
  replace H : St _ _ [rr ra48a (((zy aS aT).1).length) rc48a 38 3 rx48a, .box b45 [.slice XB aT.qh.length Xw, .slice a44Bags aT.ql.length c44Bags, .slice QN aT.qj.length QK] 38, .box b36 [.int .i64 aS.qJ, .slice Qa aS.qf.length y9, .slice XC aS.qg.length Xx] 36, rr ra24a (((zy aS aT).1).length) rc24a 38 3 rx24a, .box b3 [.slice QL aT.qh.length QH, .slice XM aT.ql.length XK, .slice yY aT.qj.length yX] 29, .box b1 [.int .i64 aS.qJ, .slice yj aS.qf.length yh, .slice QM aS.qg.length QI] 25] [isF true Qu (.slice XB aT.qh.length Xw) (mrk aT.qh (1 + (cnt aS.qf : Nat) + (cnt aS.qg : Nat))), isF true Xj (.slice a44Bags aT.ql.length c44Bags) (mrk aT.ql (1 + (cnt aS.qf : Nat) + (cnt aS.qg : Nat) + (cnt aT.qh : Nat))), isF true yG (.slice QN aT.qj.length QK) (mrk aT.qj (1 + (cnt aS.qf : Nat) + (cnt aS.qg : Nat) + (cnt aT.qh : Nat) + (cnt aT.ql : Nat))), isF true jl (.slice Qa aS.qf.length y9) (mrk aS.qf (1)), isF true Qd (.slice XC aS.qg.length Xx) (mrk aS.qg (1 + (cnt aS.qf : Nat))), sF true X3 a80Alive c80Alive aT.qh, sF true F80Bags a80Bags c80Bags aT.ql, sF true Q5 a80Around c80Around aT.qj, sF true Qc a70Parents c70Parents aS.qf, sF true XD a70Rules c70Rules aS.qg, xN true rF48a rx48a ((zy aS aT).1), xN true rF24a rx24a ((zy aS aT).1), sF true Qv a23Alive c23Alive aT.qh, sF true Xk a23Bags c23Bags aT.ql, sF true yH a23Around c23Around aT.qj, sF true jm a17Parents c17Parents aS.qf, sF true Qe a17Rules c17Rules aS.qg, sF false V7 yj yh aS.qf, sF false FaSRules QM QI aS.qg, sF false FaTAlive QL QH aT.qh, sF false FaTBags XM XK aT.ql, sF false FaTAround yY yX aT.qj] := H.chgFacts (Fs := [Qu, Xj, yG]) (L := [jl, Qd, X3, F80Bags, Q5, Qc, XD, rF48a, rF24a, Qv, Xk, yH, jm, Qe]) (A := [V7, FaSRules, FaTAlive, FaTBags, FaTAround]) N88 A (x90.mono (by intro z hz; simpa using hz)) [8, 9, 10] [isF true Qu (.slice XB aT.qh.length Xw) (mrk aT.qh (1 + (cnt aS.qf : Nat) + (cnt aS.qg : Nat))), isF true Xj (.slice a44Bags aT.ql.length c44Bags) (mrk aT.ql (1 + (cnt aS.qf : Nat) + (cnt aS.qg : Nat) + (cnt aT.qh : Nat))), isF true yG (.slice QN aT.qj.length QK) (mrk aT.qj (1 + (cnt aS.qf : Nat) + (cnt aS.qg : Nat) + (cnt aT.qh : Nat) + (cnt aT.ql : Nat)))] (all_of ⟨m91.1, ⟨m91.2.1, ⟨m91.2.2, trivial⟩⟩⟩) [0, 1, 2, 3, 4, 5, 6, 7, 11, 12, 13, 14, 15, 16, 17, 18, 19, 20, 21] [0, 1, 2, 3, 4, 5, 6, 7, 8, 9, 10, 11, 12, 13, 14, 15, 16, 17, 18]
  replace N := N88
  refine sp (.int .i64 (1 + (cnt aS.qf : Nat) + (cnt aS.qg : Nat) + (cnt aT.qh : Nat) + (cnt aT.ql : Nat) + (cnt aT.qj : Nat))) (zjcc (sps [.int .i64 (1 + (cnt aS.qf : Nat) + (cnt aS.qg : Nat) + (cnt aT.qh : Nat) + (cnt aT.ql : Nat) + (cnt aT.qj : Nat)), .bool (decide ((1 + (cnt aS.qf : Nat) + (cnt aS.qg : Nat) + (cnt aT.qh : Nat) + (cnt aT.ql : Nat) + (cnt aT.qj : Nat) : Int) < 0)), .bool (decide ((1 + (cnt aS.qf : Nat) + (cnt aS.qg : Nat) + (cnt aT.qh : Nat) + (cnt aT.ql : Nat) + (cnt aT.qj : Nat) : Int) < 0))] ?_))
  cases h92 : (decide ((1 + (cnt aS.qf : Nat) + (cnt aS.qg : Nat) + (cnt aT.qh : Nat) + (cnt aT.ql : Nat) + (cnt aT.qj : Nat) : Int) < 0))
  ·skip
   replace h92 := of_decide_eq_false h92
   refine qH 72 rfl rfl (sp (.slice ra48a (((zy aS aT).1).length) rc48a) (qH 72 rfl rfl (sp (.slice ra24a (((zy aS aT).1).length) rc24a) (qH 72 rfl rfl ?_))))
   obtain ⟨G93, hn94, h95⟩ := H.rowIsR (α := qE) 0 rfl 10 rfl (by decide)
   obtain ⟨G96, hn97, h98⟩ := H.rowIsR (α := qE) 3 rfl 11 rfl (by decide)
   refine sw (oq (eqStateS_ok _ ((zy aS aT).1) ((zy aS aT).1) h95 h98) H fun w99 H => qH 72 rfl rfl (sps [.bool (!(decide (((zy aS aT).1) = ((zy aS aT).1)))), .bool (!(decide (((zy aS aT).1) = ((zy aS aT).1)))), .bool (!(decide (((zy aS aT).1) = ((zy aS aT).1))))] ?_))
   cases h101 : (!(decide (((zy aS aT).1) = ((zy aS aT).1))))
   ·skip
    replace h101 := qQ h101
    refine qH 78 rfl rfl (sp (.int .i64 ((zy aS aT).2)) (qH 78 rfl rfl (sp (.int .i64 ((zy aS aT).2)) (qH 78 rfl rfl (sps [.bool (((zy aS aT).2 : Int) != ((zy aS aT).2)), .bool (((zy aS aT).2 : Int) != ((zy aS aT).2))] (zjn (xn (((zy aS aT).2 : Int) != ((zy aS aT).2)) rfl (fun h => absurd rfl (bne_iff_ne.1 h)) (fun h102 => ?_))))))))
    replace h102 := xf h102
    refine qK (t_n (zcr (sp (.int .i64 1) (zjc (sps [.slice ra48a (((zy aS aT).1).length) rc48a, .int .i64 1] ?_)))))
    have H0 := H
    obtain ⟨G103, hg105, hn104, H⟩ := H.VU (α := qE) 0 rfl 10 rfl (by decide)
    replace N : Fresh w.heap.size [G103, Qu, Xj, yG, jl, Qd, X3, F80Bags, Q5, Qc, XD, rF24a, Qv, Xk, yH, jm, Qe] := Fresh.ice (N.pick [10, 0, 1, 2, 3, 4, 5, 6, 7, 8, 9, 11, 12, 13, 14, 15, 16]) H0 0 hg105.1 hg105.2 (H0.yT [0, 1, 2, 3, 4, 5, 6, 7, 8, 9, 11, 12, 13, 14, 15, 16])
    clear H0
    have N106 : Fresh w.heap.size [G103, Qu, Xj, yG, jl, Qd, X3, F80Bags, Q5, Qc, XD, rF24a, Qv, Xk, yH, jm, Qe] := N
    refine sw (Xb #[.slice ra48a (((zy aS aT).1).length) rc48a, .int .i64 1] rfl rfl Tryz.call30 (markStateS_ok w99 ((zy aS aT).1) 1 ra48a rc48a G103 (H.get 0 rfl).1 (N106.pick [0] : Fresh _ [G103]).one.2 ((H.get 0 rfl).2 rfl) (by omega) (by omega)) ?_)
    rintro _ w107 ⟨rfl, m109⟩ x108
    replace H : St _ _ [rr none 0 0 0 1 [], .box b45 [.slice XB aT.qh.length Xw, .slice a44Bags aT.ql.length c44Bags, .slice QN aT.qj.length QK] 38, .box b36 [.int .i64 aS.qJ, .slice Qa aS.qf.length y9, .slice XC aS.qg.length Xx] 36, rr ra24a (((zy aS aT).1).length) rc24a 38 3 rx24a, .box b3 [.slice QL aT.qh.length QH, .slice XM aT.ql.length XK, .slice yY aT.qj.length yX] 29, .box b1 [.int .i64 aS.qJ, .slice yj aS.qf.length yh, .slice QM aS.qg.length QI] 25] [isF true G103 (.slice ra48a (((zy aS aT).1).length) rc48a) (mrk ((zy aS aT).1) (1)), isF true Qu (.slice XB aT.qh.length Xw) (mrk aT.qh (1 + (cnt aS.qf : Nat) + (cnt aS.qg : Nat))), isF true Xj (.slice a44Bags aT.ql.length c44Bags) (mrk aT.ql (1 + (cnt aS.qf : Nat) + (cnt aS.qg : Nat) + (cnt aT.qh : Nat))), isF true yG (.slice QN aT.qj.length QK) (mrk aT.qj (1 + (cnt aS.qf : Nat) + (cnt aS.qg : Nat) + (cnt aT.qh : Nat) + (cnt aT.ql : Nat))), isF true jl (.slice Qa aS.qf.length y9) (mrk aS.qf (1)), isF true Qd (.slice XC aS.qg.length Xx) (mrk aS.qg (1 + (cnt aS.qf : Nat))), sF true X3 a80Alive c80Alive aT.qh, sF true F80Bags a80Bags c80Bags aT.ql, sF true Q5 a80Around c80Around aT.qj, sF true Qc a70Parents c70Parents aS.qf, sF true XD a70Rules c70Rules aS.qg, xN true rF24a rx24a ((zy aS aT).1), sF true Qv a23Alive c23Alive aT.qh, sF true Xk a23Bags c23Bags aT.ql, sF true yH a23Around c23Around aT.qj, sF true jm a17Parents c17Parents aS.qf, sF true Qe a17Rules c17Rules aS.qg, sF false V7 yj yh aS.qf, sF false FaSRules QM QI aS.qg, sF false FaTAlive QL QH aT.qh, sF false FaTBags XM XK aT.ql, sF false FaTAround yY yX aT.qj] := H.chgFacts (Fs := [G103]) (L := [Qu, Xj, yG, jl, Qd, X3, F80Bags, Q5, Qc, XD, rF24a, Qv, Xk, yH, jm, Qe]) (A := [V7, FaSRules, FaTAlive, FaTBags, FaTAround]) N106 A (x108.mono (by intro z hz; simpa using hz)) [0] [isF true G103 (.slice ra48a (((zy aS aT).1).length) rc48a) (mrk ((zy aS aT).1) (1))] (all_of ⟨m109, trivial⟩) [1, 2, 3, 4, 5, 6, 7, 8, 9, 10, 12, 13, 14, 15, 16, 17, 18, 19, 20, 21, 22] [0, 1, 2, 3, 4, 5, 6, 7, 8, 9, 10, 11, 12, 13, 14, 15, 16, 17, 18, 19, 20]
    replace N := N106
    refine sp (.int .i64 (1 + (cnt ((zy aS aT).1) : Nat))) (zjc (sp (.int .i64 1) (zjc (sps [.slice ra48a (((zy aS aT).1).length) rc48a, .int .i64 1] ?_))))
    have hn110 := H.isLen 0 rfl
    refine sw (oq (args_eq (by rw [← hn110]) (heldStateS_ok _ (mrk ((zy aS aT).1) (1)) 1 (hn110 ▸ (H.get 0 rfl).1) (by first | exact mkd_mark _ _ | omega | (simp only [cnt_mark]; first | exact mkd_mark _ _ | omega)) (by first | exact mkd_mark _ _ | omega | (simp only [cnt_mark]; first | exact mkd_mark _ _ | omega)) (by first | exact mkd_mark _ _ | omega | (simp only [cnt_mark]; first | exact mkd_mark _ _ | omega)))) H fun w111 H => sp (.int .i64 (1 + (cnt (mrk ((zy aS aT).1) (1)) : Nat))) (zjcc (sps [.int .i64 (1 + (cnt (mrk ((zy aS aT).1) (1)) : Nat)), .bool (decide ((1 + (cnt (mrk ((zy aS aT).1) (1)) : Nat) : Int) < 0))] (zjn ?_))))
    refine cD rfl (fun h113 => ?_) (fun h113 => ?_)
    ·skip
     refine zcr (sp (.bool false) (zjr (t_r (ret1 (.bool false) rfl rfl ⟨_, rfl, ?_, H.base⟩))))
     exfalso; first | omega
    refine qK (t_n (zcc (sps [.int .i64 (1 + (cnt (mrk ((zy aS aT).1) (1)) : Nat)), .int .i64 (1 + (cnt ((zy aS aT).1) : Nat)), .bool ((1 + (cnt (mrk ((zy aS aT).1) (1)) : Nat) : Int) != (1 + (cnt ((zy aS aT).1) : Nat)))] (zjn (xn ((1 + (cnt (mrk ((zy aS aT).1) (1)) : Nat) : Int) != (1 + (cnt ((zy aS aT).1) : Nat))) rfl (fun h114 => ?_) (fun h114 => ?_))))))
    ·skip
     replace h114 := bne_iff_ne.1 h114
     refine zcr (sp (.bool false) (zjr (t_r (ret1 (.bool false) rfl rfl ⟨_, rfl, ?_, H.base⟩))))
     exfalso; first | omega | exact h114 (by simp only [cnt_mark])
    replace h114 := xf h114
    refine qK (t_n (xC ?_))
    refine vH rfl H fun H => rt 0 (.agg #[.int .i64 aS.qJ, .slice yj aS.qf.length yh, .slice QM aS.qg.length QI]) (Qm (cs := [.int .i64 aS.qJ, .slice yj aS.qf.length yh, .slice QM aS.qg.length QI]) Tryz.isAgg25 Tryz.sizeOf25 rfl (fun _ h => qw (h.cells 5 rfl) 0 3)) H ?_
    refine rt 2 (.agg #[.slice QL aT.qh.length QH, .slice XM aT.ql.length XK, .slice yY aT.qj.length yX]) (Qm (cs := [.slice QL aT.qh.length QH, .slice XM aT.ql.length XK, .slice yY aT.qj.length yX]) Tryz.isAgg29 Tryz.sizeOf29 rfl (fun _ h => qw (h.cells 4 rfl) 0 3)) H ?_
    refine ro 1 rfl ?_
    have sz116 := H.base.size
    have lt117 := H.ltN (L := [G103, Qu, Xj, yG, jl, Qd, X3, F80Bags, Q5, Qc, XD, rF24a, Qv, Xk, yH, jm, Qe]) [0, 1, 2, 3, 4, 5, 6, 7, 8, 9, 10, 11, 12, 13, 14, 15, 16]
    refine oc (toSystem_ok _ aS (H.get 17 rfl).1 (H.get 18 rfl).1 (by first | assumption | omega)) ?_
    rintro v121 w119 r121 x120
    obtain ⟨a121Parents, c121Parents, F121Parents, a121Rules, c121Rules, F121Rules, rfl, f121, H⟩ := H.add_SystemD x120 r121
    replace N := N.cons f121 sz116 lt117
    replace N := N.split
    refine ⟨H.pick [0, 1, 2, 3, 4, 5] [2, 3, 4, 5, 6, 7, 8, 9, 10, 11, 12, 13, 14, 15, 16, 17, 18, 19, 20, 21, 22, 23], (ro 3 rfl ?_)⟩
    have sz122 := H.base.size
    have lt123 := H.ltN (L := [F121Parents, F121Rules, G103, Qu, Xj, yG, jl, Qd, X3, F80Bags, Q5, Qc, XD, rF24a, Qv, Xk, yH, jm, Qe]) [0, 1, 2, 3, 4, 5, 6, 7, 8, 9, 10, 11, 12, 13, 14, 15, 16, 17, 18]
    refine oc (toState_ok _ aT (H.get 21 rfl).1 (H.get 22 rfl).1 (H.get 23 rfl).1 (by first | assumption | omega)) ?_
    rintro v127 w125 r127 x126
    obtain ⟨a127Alive, c127Alive, F127Alive, a127Bags, c127Bags, F127Bags, a127Around, c127Around, F127Around, rfl, f127, H⟩ := H.add_StateD x126 r127
    replace N := N.cons f127 sz122 lt123
    replace N := N.split
    replace N := N.split
    refine ⟨H.pick [0, 1, 2, 3, 4, 5] [5, 6, 7, 8, 9, 10, 11, 12, 13, 14, 15, 16, 17, 18, 19, 20, 21, 22, 23, 24, 25, 26], (ro 4 rfl ?_)⟩
    have sz131 := H.base.size
    have lt132 := H.ltN (L := [F127Alive, F127Bags, F127Around, F121Parents, F121Rules, G103, Qu, Xj, yG, jl, Qd, X3, F80Bags, Q5, Qc, XD, rF24a, Qv, Xk, yH, jm, Qe]) [0, 1, 2, 3, 4, 5, 6, 7, 8, 9, 10, 11, 12, 13, 14, 15, 16, 17, 18, 19, 20, 21]
    refine oc (implNx_ok _ aS aT (H.get 3 rfl).1 (H.get 4 rfl).1 (H.get 0 rfl).1 (H.get 1 rfl).1 (H.get 2 rfl).1) ?_
    rintro _ w129 ⟨ra128a, rn128a, rc128a, rx128a, rF128a, rfl, M, K⟩ _
    replace N := N.merge sz131 lt132 M
    replace H := H.merge K M
    obtain rfl := H.xP (α := qE) 0 rfl 0 rfl (by decide)
    refine ⟨H.pick [1, 2, 3, 4, 5, 6] [6, 7, 8, 9, 10, 11, 12, 13, 14, 15, 16, 17, 18, 19, 20, 21, 22, 23, 24, 25, 26, 27], ?_⟩
    have S := H.jZ [1, 2, 3, 4, 5, 6] [6, 7, 8, 9, 10, 11, 12, 13, 14, 15, 16, 17, 18, 19, 20, 21, 22, 23, 24, 25, 26, 27]
    refine rtp 5 (.tuple #[.slice ra128a (((zy aS aT).1).length) rc128a, .int .i64 ((zy aS aT).2)]) S ?_
    refine rtp 6 (.slice ra128a (((zy aS aT).1).length) rc128a) S ?_
    refine rtp 7 (.int .i64 ((zy aS aT).2)) S ?_
    refine rtp 8 (.slice ra128a (((zy aS aT).1).length) rc128a) S ?_
    refine rtp 9 (.int .i64 ((zy aS aT).2)) S ?_
    refine xy (by kernel_rfl) (t_n (zcc (sps [.slice ra128a (((zy aS aT).1).length) rc128a, .slice ra24a (((zy aS aT).1).length) rc24a] ?_)))
    obtain ⟨G134, hn135, h136⟩ := H.rowIsR (α := qE) 0 rfl 0 rfl (by decide)
    obtain ⟨G137, hn138, h139⟩ := H.rowIsR (α := qE) 4 rfl 17 rfl (by decide)
    refine sw (oq (eqStateS_ok _ ((zy aS aT).1) ((zy aS aT).1) h136 h139) H fun w140 H => sps [.bool (!(decide (((zy aS aT).1) = ((zy aS aT).1)))), .bool (!(decide (((zy aS aT).1) = ((zy aS aT).1))))] ?_)
    cases h142 : (!(decide (((zy aS aT).1) = ((zy aS aT).1))))
    ·skip
     replace h142 := qQ h142
     refine qH 106 rfl rfl (sp (.int .i64 ((zy aS aT).2)) (qH 106 rfl rfl (sp (.int .i64 ((zy aS aT).2)) (qH 106 rfl rfl (sps [.bool (((zy aS aT).2 : Int) != ((zy aS aT).2)), .bool (((zy aS aT).2 : Int) != ((zy aS aT).2))] (zjn (xn (((zy aS aT).2 : Int) != ((zy aS aT).2)) rfl (fun h => absurd rfl (bne_iff_ne.1 h)) (fun h143 => ?_))))))))
     replace h143 := xf h143
     refine qK (t_n (zcr (sp (.int .i64 1) (zjc (sps [.slice ra48a (((zy aS aT).1).length) rc48a, .int .i64 1] ?_)))))
     have hn144 := H.isLen 6 rfl
     refine sw (oq (args_eq (by rw [← hn144]) (heldStateS_ok _ (mrk ((zy aS aT).1) (1)) 1 (hn144 ▸ (H.get 6 rfl).1) (by first | exact mkd_mark _ _ | omega | (simp only [cnt_mark]; first | exact mkd_mark _ _ | omega)) (by first | exact mkd_mark _ _ | omega | (simp only [cnt_mark]; first | exact mkd_mark _ _ | omega)) (by first | exact mkd_mark _ _ | omega | (simp only [cnt_mark]; first | exact mkd_mark _ _ | omega)))) H fun w145 H => sp (.int .i64 (1 + (cnt (mrk ((zy aS aT).1) (1)) : Nat))) (zjcc (sps [.int .i64 (1 + (cnt (mrk ((zy aS aT).1) (1)) : Nat)), .bool (decide ((1 + (cnt (mrk ((zy aS aT).1) (1)) : Nat) : Int) < 0))] ?_)))
     refine zjn (cD rfl (fun h147 => ?_) (fun h147 => ?_))
     ·skip
      refine zcr (sp (.bool false) (zjr (t_r (ret1 (.bool false) rfl rfl ⟨_, rfl, ?_, H.base⟩))))
      exfalso; first | omega
     refine qK (t_n (zcc (sps [.int .i64 (1 + (cnt (mrk ((zy aS aT).1) (1)) : Nat)), .int .i64 (1 + (cnt ((zy aS aT).1) : Nat)), .bool ((1 + (cnt (mrk ((zy aS aT).1) (1)) : Nat) : Int) != (1 + (cnt ((zy aS aT).1) : Nat)))] (zjn (xn ((1 + (cnt (mrk ((zy aS aT).1) (1)) : Nat) : Int) != (1 + (cnt ((zy aS aT).1) : Nat))) rfl (fun h => absurd h114 (bne_iff_ne.1 h)) (fun h148 => ?_))))))
     replace h148 := xf h148
     refine qK (t_n (zcr (sp (.bool true) (zjr (ret1 (.bool true) rfl rfl ⟨_, rfl, ?_, H.base⟩)))))
     rfl
    · exact absurd (qW h142) (by simp)
   · exact absurd (qW h101) (by simp)
  replace h92 := of_decide_eq_true h92
  refine xJ [73, 74, 75, 76] (sps [.bool true, .bool true] (xJ [79, 80, 81] (sp (.bool true) (zjn (xn true rfl (fun _ => zcr (sp (.bool false) (zjr (t_r (ret1 (.bool false) rfl rfl ⟨_, rfl, ?_, H.base⟩))))) (fun h => absurd h (by decide)))))))
  exfalso; first | omega
 · exact absurd (qW h62) (by simp)
end
end Go.Proofs.YtgjnaocffdhnbaaGreat
