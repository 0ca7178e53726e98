/- Walks, printed by program (wip/tools/gv.py): what each function comes to, for all arguments. -/
import Derived.Test.YtgjnaocffdhnbaaGreatG9
import Derived.Test.YtgjnaocffdhnbaaGreatPF
import Derived.Test.YtgjnaocffdhnbaaGreatF
import Derived.Test.YtgjnaocffdhnbaaGreatI
import Derived.Test.YtgjnaocffdhnbaaGreatTI
namespace Go.Proofs.YtgjnaocffdhnbaaGreat
set_option linter.unusedVariables false
set_option linter.unusedSimpArgs false
open Go.Proofs.YtgjnaocffdhnbaaGreat.Tot (tot)
open Go.Proofs.YtgjnaocffdhnbaaGreat.Mark (cnt mrk mkd mkd_mark cnt_mark)
open Go.RowKit
set_option linter.unusedVariables false
set_option linter.unusedSimpArgs false
set_option maxRecDepth 100000
set_option maxHeartbeats 4000000

instance iC198_G30 : Qn Tryz.prog 198 := ⟨Tryz.call198⟩
instance iC101_G30 : Qn Tryz.prog 101 := ⟨Tryz.call101⟩
instance iC199_G30 : Qn Tryz.prog 199 := ⟨Tryz.call199⟩
instance iC181_G30 : Qn Tryz.prog 181 := ⟨Tryz.call181⟩


theorem l01Full_ok (w : World) (rest : List Int) (parts : List (List Int)) (arest : Option Addr) (crest : Nat) (Frest : List Nat) (aparts : Option Addr) (cparts : Nat) (Fparts : List Nat) (hrest : qE.rep w Frest [.slice arest rest.length crest] rest) (hparts : qE.rep w Fparts [.slice aparts parts.length cparts] parts) (p0 : Xk parts rest) : Calls Tryz.prog 198 #[.slice arest rest.length crest, .slice aparts parts.length cparts] w (Ret (fun v w' => v = .bool (dec (FullOk parts rest))) w) := by
 refine en Tryz.func198 Tryz.ntmps198 ?_
 have H := ((St.start w).arg hparts).arg hrest
 have nhrest := qA hrest
 have nhparts := qA hparts
 clear hrest hparts
 have N := Fresh.nil w.heap.size
 refine qi (ql ?_)
 refine sp (.bool false) ?_
 refine qj (t_n (qi (qi (ql ?_))))
 refine sp (.int .i64 0) ?_
 refine qj (t_n (qW ?_))
 refine zf (fun m' ρ w1 => ∃ (junk : Env) (i : Nat), ρ = upd (upd (upd junk 0 (.slice arest rest.length crest)) 1 (.slice aparts parts.length cparts)) 5 (.int .i64 i) ∧ ((i : Int) ≤ parts.length) ∧ (FullTo parts rest i) ∧ m' = (parts.length - (i : Int)).toNat ∧ Fresh w.heap.size [] ∧ St w w1 [] [isF false Frest (.slice arest rest.length crest) rest, isF false Fparts (.slice aparts parts.length cparts) parts]) ((parts.length - (0 : Int)).toNat) ⟨_, 0, (by exact qg (qg (qg (rfl) rfl) rfl) rfl), (by omega), (by exact fun j hj => by omega), rfl, N, H⟩ ?_
 clear H N
 rintro m' ρ w2 ⟨junk, i, rfl, i0, i1, rfl, N, H⟩
 refine qi (qi (ql ?_))
 refine sps [.int .i64 i, .slice aparts parts.length cparts] ?_
 refine oN rfl ?_
 refine sp (.bool (decide ((i : Int) < parts.length))) ?_
 refine qj (t_n ?_)
 refine qC (decide ((i : Int) < parts.length)) rfl (fun h3 => ?_) (fun h3 => ?_)
 ·skip
  replace h3 := of_decide_eq_true h3
  refine qM (t_n (qi (qW (qi (ql ?_)))))
  refine sps [.slice aparts parts.length cparts, .int .i64 i] ?_
  obtain ⟨b4, o5, rfl⟩ := H.addr 1 rfl (by omega)
  obtain ⟨ae7, ce7, Fe7, H⟩ := H.jo 1 rfl i i (by omega) (by omega) (by omega)
  refine oI rfl rfl ?_
  refine oL rfl (H.xJ 1 rfl 0 rfl) ?_
  refine sp (.slice arest rest.length crest) ?_
  obtain ⟨t1, t2⟩ := p0.times (k := i) (by omega)
  refine sw (oc (l01Within_ok _ (parts[i]!) rest _ _ _ _ _ _ (H.get 0 rfl).1 (H.get 2 rfl).1 (by first | assumption | omega)) ?_)
  rintro _ w9 rfl x10
  replace H := H.ext x10
  refine qj (t_n ?_)
  refine qC (within (parts[i]!) rest) rfl (fun h11 => ?_) (fun h11 => ?_)
  ·skip
   refine qi (ql ?_)
   refine sp (.bool false) ?_
   refine qj (t_n (qV (b_r (t_r (t_r (b_r (t_r ?_)))))))
   refine ret1 (.bool false) rfl rfl ⟨_, rfl, ?_, H.base⟩
   rw [qY (fun h => by have := h i (by omega); simp_all)]
  refine qM (b_n (t_n (ql ?_)))
  refine sp (.int .i64 i) ?_
  refine sw (zk i 1 rfl rfl (by omega) ?_)
  refine sp (.int .i64 (i + 1)) ?_
  refine qj ?_
  refine xk (m' := (parts.length - ((i + 1) : Int)).toNat) (by omega) ⟨_, i + 1, (by exact qg (qg (qg (rfl) rfl) rfl) rfl), ?_, ?_, rfl, N, H.pick [] [2, 3]⟩
  · omega
  · exact i1.succ ‹_›
 replace h3 := of_decide_eq_false h3
 refine xQ (t_x (t_x (b_x (t_n (qi (ql ?_))))))
 refine sp (.bool true) ?_
 refine qj (t_n (qV ?_))
 refine ret1 (.bool true) rfl rfl ⟨_, rfl, ?_, H.base⟩
 rw [jE (show FullOk parts rest from fun j hj => i1 j (by omega))]

def l01Pack_ok_S (f : Nat) : Prop := ∀ {W0 w : World} {ps : List Prv} {Γ : List Fact} {Ns : List (List Nat)} (rest : List Int) (parts : List (List Int)) (begin : List Int) (out : List (List Int)) (arest : Option Addr) (crest : Nat) (Frest : List Nat) (aparts : Option Addr) (cparts : Nat) (Fparts : List Nat) (abegin : Option Addr) (cbegin : Nat) (Fbegin : List Nat) (bout : Nat) (raout : Option Addr) (rnout : Nat) (rcout : Nat) (rxout : List Value) (rFout : List Nat) (H : St W0 w ((.box bout [.slice raout rnout rcout] 27) :: (.row (.slice raout rnout rcout) 22 1 rnout rxout) :: ps) ((isF false Frest (.slice arest rest.length crest) rest) :: (isF false Fparts (.slice aparts parts.length cparts) parts) :: (isF false Fbegin (.slice abegin begin.length cbegin) begin) :: (zn true rFout rxout out) :: Γ)) (N : Fresh W0.heap.size (rFout :: Ns)) (K0 : Kept Ns Γ) (p0 : begin.length + f = parts.length) (p1 : Xk parts rest) (p2 : out.length ≤ 2000), Calls Tryz.prog 171 #[.slice arest rest.length crest, .slice aparts parts.length cparts, .slice abegin begin.length cbegin, pp bout 0] w (fun e w' => ∃ v, e = .returned v ∧ ∃ (raout_ : Option Addr) (rnout_ : Nat) (rcout_ : Nat) (rxout_ : List Value) (rFout_ : List Nat), v = .tuple #[] ∧ Fresh W0.heap.size (rFout_ :: Ns) ∧ St W0 w' ((.box bout [.slice raout_ rnout_ rcout_] 27) :: (.row (.slice raout_ rnout_ rcout_) 22 1 rnout_ rxout_) :: ps) ((isF false Frest (.slice arest rest.length crest) rest) :: (isF false Fparts (.slice aparts parts.length cparts) parts) :: (isF false Fbegin (.slice abegin begin.length cbegin) begin) :: (zn true rFout_ rxout_ (gath out (begins begin (packs parts (parts.length - begin.length) begin.length rest)))) :: Γ))
theorem l01Pack_ok_step (f : Nat) (IH : ∀ k, k < f → l01Pack_ok_S k) {W0 w : World} {ps : List Prv} {Γ : List Fact} {Ns : List (List Nat)} (rest : List Int) (parts : List (List Int)) (begin : List Int) (out : List (List Int)) (arest : Option Addr) (crest : Nat) (Frest : List Nat) (aparts : Option Addr) (cparts : Nat) (Fparts : List Nat) (abegin : Option Addr) (cbegin : Nat) (Fbegin : List Nat) (bout : Nat) (raout : Option Addr) (rnout : Nat) (rcout : Nat) (rxout : List Value) (rFout : List Nat) (H : St W0 w ((.box bout [.slice raout rnout rcout] 27) :: (.row (.slice raout rnout rcout) 22 1 rnout rxout) :: ps) ((isF false Frest (.slice arest rest.length crest) rest) :: (isF false Fparts (.slice aparts parts.length cparts) parts) :: (isF false Fbegin (.slice abegin begin.length cbegin) begin) :: (zn true rFout rxout out) :: Γ)) (N : Fresh W0.heap.size (rFout :: Ns)) (K0 : Kept Ns Γ) (p0 : begin.length + f = parts.length) (p1 : Xk parts rest) (p2 : out.length ≤ 2000) : Calls Tryz.prog 171 #[.slice arest rest.length crest, .slice aparts parts.length cparts, .slice abegin begin.length cbegin, pp bout 0] w (fun e w' => ∃ v, e = .returned v ∧ ∃ (raout_ : Option Addr) (rnout_ : Nat) (rcout_ : Nat) (rxout_ : List Value) (rFout_ : List Nat), v = .tuple #[] ∧ Fresh W0.heap.size (rFout_ :: Ns) ∧ St W0 w' ((.box bout [.slice raout_ rnout_ rcout_] 27) :: (.row (.slice raout_ rnout_ rcout_) 22 1 rnout_ rxout_) :: ps) ((isF false Frest (.slice arest rest.length crest) rest) :: (isF false Fparts (.slice aparts parts.length cparts) parts) :: (isF false Fbegin (.slice abegin begin.length cbegin) begin) :: (zn true rFout_ rxout_ (gath out (begins begin (packs parts (parts.length - begin.length) begin.length rest)))) :: Γ)) := by
 refine en Tryz.func171 Tryz.ntmps171 ?_
 have nhrest := qA (H.get 0 rfl).1
 have nhparts := qA (H.get 1 rfl).1
 have nhbegin := qA (H.get 2 rfl).1
 obtain rfl := H.zK (α := List Int) 1 rfl 3 rfl (by decide)
 have p3 := p1.small
 refine qi (ql ?_)
 refine sp (.slice abegin begin.length cbegin) ?_
 refine oN rfl ?_
 refine sp (.int .i64 begin.length) ?_
 refine qj (t_n (qi (qi (ql ?_))))
 refine sps [.int .i64 begin.length, .slice aparts parts.length cparts] ?_
 refine oN rfl ?_
 refine sp (.bool ((begin.length : Int) == parts.length)) ?_
 refine qj (t_n ?_)
 refine qC ((begin.length : Int) == parts.length) rfl (fun h1 => ?_) (fun h1 => ?_)
 ·skip
  replace h1 := eq_of_beq h1
  refine qi (qi (ql ?_))
  refine sps [.slice arest rest.length crest, .slice aparts parts.length cparts] ?_
  refine sw (oc (l01Full_ok _ rest parts _ _ _ _ _ _ (H.get 0 rfl).1 (H.get 1 rfl).1 (by first | assumption | omega)) ?_)
  rintro _ w3 rfl x4
  replace H := H.ext x4
  refine qj (t_n ?_)
  refine qC (dec (FullOk parts rest)) rfl (fun h5 => ?_) (fun h5 => ?_)
  ·skip
   replace h5 := vC h5
   refine c_cut (fun ρ w6 => ∃ (junk : Env) (a7 : Option Addr) (c8 : Nat) (a9 : Option Addr) (c10 : Nat) (G11 : List Nat), ρ = junk ∧ Fresh W0.heap.size ((rFout ++ G11) :: Ns) ∧ St W0 w6 ((.box bout [.slice a7 (out.length + 1) c8] 27) :: (.row (.slice a7 (out.length + 1) c8) 22 1 (out.length + 1) (rxout ++ [.slice a9 begin.length c10])) :: ps) ((zn true (rFout ++ G11) (rxout ++ [.slice a9 begin.length c10]) (out ++ [begin])) :: (isF true G11 (.slice a9 begin.length c10) begin) :: (isF false Frest (.slice arest rest.length crest) rest) :: (isF false Fparts (.slice aparts parts.length cparts) parts) :: (isF false Fbegin (.slice abegin begin.length cbegin) begin) :: Γ)) ?_ ?_
   ·skip
    refine c_drawK2 rfl H [] [0, 1, 2, 3] fun H => ?_
    have S := H.pickC [] [0, 1, 2, 3]
    refine rtp 0 (pp bout 0) S ?_
    refine rtp 1 (pp bout 0) S ?_
    refine rtp 2 (pp bout 0) S ?_
    refine rtp 4 (.slice abegin begin.length cbegin) S ?_
    refine qR [3, 5] (by kernel_rfl) (by simp) (xA rfl ?_ (xA rfl ?_ qU))
    ·skip
     refine jU (.slice raout out.length rcout) Tryz.isAgg27 rfl (H.cell 0 rfl rfl) ?_
     refine ⟨H.pick [] [0, 1, 2, 3], ?_⟩
     refine qR [5] (by kernel_rfl) (by simp) (xA rfl ?_ qU)
     have sz13 := H.base.size
     have lt14 := all_two (H.ltN (L := [rFout]) [3]) (H.ltK (K0.behind 4 rfl))
     refine oc (l00Own_ok _ begin _ _ _ (H.get 2 rfl).1 (by first | assumption | omega)) ?_
     rintro v18 w16 r18 x17
     replace H := H.yM x17 r18
     obtain ⟨a19, c20, rfl, hc21, hm22⟩ := H.rowForm 0 rfl
     refine ⟨H.pick [] [0, 1, 2, 3], ?_⟩
     refine qR [6] (by kernel_rfl) (by simp) (xA rfl ?_ qU)
     refine vJ H Tryz.underlying27 ti22 [.slice a19 begin.length c20] fun b23 w24 H => ?_
     refine ⟨H.pick [] [0, 1, 2, 3], ?_⟩
     refine qR [7] (by kernel_rfl) (by simp) (xA rfl ?_ qU)
     obtain ⟨G28, N, hn29, H⟩ := H.Xx 1 rfl N (fun F hF b hb => (List.mem_append.1 (show F ∈ [rFout] ++ Ns from hF)).elim (fun h => (H.awayN (L := [rFout]) [3]) F h b hb) fun h => H.awayK (K0.behind 4 rfl) F h b hb)
     try dsimp only [List.set] at H
     refine jh H 3 rfl 0 rfl Tryz.underlying27 ti22 rfl (by decide) rfl rfl rfl (by simp [Value.oneCell', Value.cells]) (by unfold maxLen; omega) (by omega) fun a25 c26 w27 H => ?_
     try dsimp only [List.set] at H
     replace H := H.QF 4 rfl 0 rfl
     replace N : Fresh W0.heap.size ((rFout ++ G28) :: Ns) := (N.XH 2 [1, 0] (by simp only [List.length_cons]; omega)).join
     refine ⟨H.pick [] [2, 3, 4, 5], ?_⟩
     refine rtp 8 (pp bout 0) (H.pick [] [2, 3, 4, 5]) ?_
     refine qR [9] (by kernel_rfl) (by simp) (xA rfl ?_ qU)
     refine qG H 2 [.slice a25 (out.length + 1) c26] Tryz.sizeOf27 fun w30 H => ?_
     try dsimp only [List.set] at H
     refine ⟨H.pick [] [2, 3, 4, 5], ?_⟩
     refine xq (by kernel_rfl) (?_)
     exact meet ⟨_, a25, c26, a19, c20, G28, (by exact rfl), N, H.XH 4 6 [2, 3] [0, 1, 2, 3, 4] (by simp only [List.length_cons]; omega) (by simp only [List.length_cons]; omega)⟩
    have sz31 := H.base.size
    have lt32 := all_two (H.ltN (L := [rFout]) [3]) (H.ltK (K0.behind 4 rfl))
    refine oc (l00Own_ok _ begin _ _ _ (H.get 2 rfl).1 (by first | assumption | omega)) ?_
    rintro v36 w34 r36 x35
    replace H := H.yM x35 r36
    obtain ⟨a37, c38, rfl, hc39, hm40⟩ := H.rowForm 0 rfl
    refine ⟨H.pick [] [0, 1, 2, 3], ?_⟩
    refine qR [3, 6] (by kernel_rfl) (by simp) (xA rfl ?_ (xA rfl ?_ qU))
    ·skip
     refine jU (.slice raout out.length rcout) Tryz.isAgg27 rfl (H.cell 1 rfl rfl) ?_
     refine ⟨H.pick [] [0, 1, 2, 3], ?_⟩
     refine qR [6] (by kernel_rfl) (by simp) (xA rfl ?_ qU)
     refine vJ H Tryz.underlying27 ti22 [.slice a37 begin.length c38] fun b41 w42 H => ?_
     refine ⟨H.pick [] [0, 1, 2, 3], ?_⟩
     refine qR [7] (by kernel_rfl) (by simp) (xA rfl ?_ qU)
     obtain ⟨G46, N, hn47, H⟩ := H.Xx 1 rfl N (fun F hF b hb => (List.mem_append.1 (show F ∈ [rFout] ++ Ns from hF)).elim (fun h => (H.awayN (L := [rFout]) [3]) F h b hb) fun h => H.awayK (K0.behind 4 rfl) F h b hb)
     try dsimp only [List.set] at H
     refine jh H 3 rfl 0 rfl Tryz.underlying27 ti22 rfl (by decide) rfl rfl rfl (by simp [Value.oneCell', Value.cells]) (by unfold maxLen; omega) (by omega) fun a43 c44 w45 H => ?_
     try dsimp only [List.set] at H
     replace H := H.QF 4 rfl 0 rfl
     replace N : Fresh W0.heap.size ((rFout ++ G46) :: Ns) := (N.XH 2 [1, 0] (by simp only [List.length_cons]; omega)).join
     refine ⟨H.pick [] [2, 3, 4, 5], ?_⟩
     refine rtp 8 (pp bout 0) (H.pick [] [2, 3, 4, 5]) ?_
     refine qR [9] (by kernel_rfl) (by simp) (xA rfl ?_ qU)
     refine qG H 2 [.slice a43 (out.length + 1) c44] Tryz.sizeOf27 fun w48 H => ?_
     try dsimp only [List.set] at H
     refine ⟨H.pick [] [2, 3, 4, 5], ?_⟩
     refine xq (by kernel_rfl) (?_)
     exact meet ⟨_, a43, c44, a37, c38, G46, (by exact rfl), N, H.XH 4 6 [2, 3] [0, 1, 2, 3, 4] (by simp only [List.length_cons]; omega) (by simp only [List.length_cons]; omega)⟩
    refine vJ H Tryz.underlying27 ti22 [.slice a37 begin.length c38] fun b49 w50 H => ?_
    refine ⟨H.pick [] [0, 1, 2, 3], ?_⟩
    refine qR [3] (by kernel_rfl) (by simp) (xA rfl ?_ qU)
    refine jU (.slice raout out.length rcout) Tryz.isAgg27 rfl (H.cell 2 rfl rfl) ?_
    refine ⟨H.pick [] [0, 1, 2, 3], ?_⟩
    refine qR [7] (by kernel_rfl) (by simp) (xA rfl ?_ qU)
    obtain ⟨G54, N, hn55, H⟩ := H.Xx 1 rfl N (fun F hF b hb => (List.mem_append.1 (show F ∈ [rFout] ++ Ns from hF)).elim (fun h => (H.awayN (L := [rFout]) [3]) F h b hb) fun h => H.awayK (K0.behind 4 rfl) F h b hb)
    try dsimp only [List.set] at H
    refine jh H 3 rfl 0 rfl Tryz.underlying27 ti22 rfl (by decide) rfl rfl rfl (by simp [Value.oneCell', Value.cells]) (by unfold maxLen; omega) (by omega) fun a51 c52 w53 H => ?_
    try dsimp only [List.set] at H
    replace H := H.QF 4 rfl 0 rfl
    replace N : Fresh W0.heap.size ((rFout ++ G54) :: Ns) := (N.XH 2 [1, 0] (by simp only [List.length_cons]; omega)).join
    refine ⟨H.pick [] [2, 3, 4, 5], ?_⟩
    refine rtp 8 (pp bout 0) (H.pick [] [2, 3, 4, 5]) ?_
    refine qR [9] (by kernel_rfl) (by simp) (xA rfl ?_ qU)
    refine qG H 2 [.slice a51 (out.length + 1) c52] Tryz.sizeOf27 fun w56 H => ?_
    try dsimp only [List.set] at H
    refine ⟨H.pick [] [2, 3, 4, 5], ?_⟩
    refine xq (by kernel_rfl) (?_)
    exact meet ⟨_, a51, c52, a37, c38, G54, (by exact rfl), N, H.XH 4 6 [2, 3] [0, 1, 2, 3, 4] (by simp only [List.length_cons]; omega) (by simp only [List.length_cons]; omega)⟩
   clear H N
   rintro ρ w57 ⟨junk, a7, c8, a9, c10, G11, rfl, N, H⟩
   refine t_n (qV (t_r ?_))
   refine ret0' rfl ⟨_, rfl, ?_⟩
   rw [pack_full (by omega) ‹_› p2]
   exact ⟨a7, out.length + 1, c8, rxout ++ [Value.slice a9 begin.length c10], (rFout ++ G11), rfl, N, H.XH 2 5 [0, 1] [2, 3, 4, 0] (by simp only [List.length_cons]; omega) (by simp only [List.length_cons]; omega)⟩
  replace h5 := xI h5
  refine qM (t_n (qV (t_r ?_)))
  refine ret0' rfl ⟨_, rfl, ?_⟩
  rw [pack_none (by omega) ‹_› p2]
  exact ⟨raout, out.length, rcout, rxout, rFout, rfl, N, H.XH 2 4 [0, 1] [0, 1, 2, 3] (by simp only [List.length_cons]; omega) (by simp only [List.length_cons]; omega)⟩
 replace h1 := ne_of_beq_false h1
 refine qM (t_n (qi (ql ?_)))
 refine sp (.int .i64 0) ?_
 refine qj (t_n (qW ?_))
 obtain ⟨t1, t2, t3, t4, t5, t6⟩ := p1.times (k := begin.length) (by omega)
 refine zf (fun m' ρ w58 => ∃ (junk : Env) (n : Nat) (vH : Option Addr) (xX : Nat) (zQ : Nat) (out_1 : List (List Int)) (x_out : List Value) (Q5 : List Nat), ρ = upd (upd (upd (upd (upd (upd junk 0 (.slice arest rest.length crest)) 1 (.slice aparts parts.length cparts)) 2 (.slice abegin begin.length cbegin)) 3 (pp bout 0)) 8 (.int .i64 begin.length)) 9 (.int .i64 n) ∧ out_1 = gath out (begins begin (zL parts (f - 1) begin.length rest n)) ∧ ((n : Int) ≤ zI (parts[begin.length]!) rest + 1) ∧ m' = (zI (parts[begin.length]!) rest + 1 - (n : Int)).toNat ∧ Fresh W0.heap.size (Q5 :: Ns) ∧ St W0 w58 ((.box bout [.slice vH xX zQ] 27) :: (.row (.slice vH xX zQ) 22 1 xX x_out) :: ps) ((isF false Frest (.slice arest rest.length crest) rest) :: (isF false Fparts (.slice aparts parts.length cparts) parts) :: (isF false Fbegin (.slice abegin begin.length cbegin) begin) :: (zn true Q5 x_out out_1) :: Γ)) ((zI (parts[begin.length]!) rest + 1 - (0 : Int)).toNat) ⟨_, 0, raout, out.length, rcout, out, rxout, rFout, (by exact qg (qg (qg (qg (qg (qg (rfl) rfl) rfl) rfl) rfl) rfl) rfl), (by exact pack_start p2), (by omega), rfl, N, H⟩ ?_
 clear H N
 rintro m' ρ w59 ⟨junk, n, vH, xX, zQ, out_1, x_out, Q5, rfl, rfl, i0, rfl, N, H⟩
 have hn_out := H.zK (α := List Int) 1 rfl 3 rfl (by decide)
 have gl := gath_len out (begins begin (zL parts (f - 1) begin.length rest n))
 refine qi (qi (ql ?_))
 refine sps [.int .i64 n, .slice aparts parts.length cparts, .int .i64 begin.length] ?_
 obtain ⟨b60, o61, rfl⟩ := H.addr 1 rfl (by omega)
 obtain ⟨ae63, ce63, Fe63, H⟩ := H.jo 1 rfl begin.length begin.length (by omega) (by omega) (by omega)
 refine oI rfl rfl ?_
 refine oL rfl (H.xJ 1 rfl 0 rfl) ?_
 refine sp (.slice arest rest.length crest) ?_
 obtain ⟨t1, t2, t3, t4, t5, t6⟩ := p1.times (k := begin.length) (by omega)
 refine sw (oc (l01Times_ok _ (parts[begin.length]!) rest _ _ _ _ _ _ (H.get 0 rfl).1 (H.get 2 rfl).1 (by first | assumption | omega) (by first | assumption | omega) (by first | assumption | omega)) ?_)
 rintro _ w65 rfl x66
 replace H := H.ext x66
 refine sps [.bool (decide ((n : Int) ≤ (zI (parts[begin.length]!) rest))), .bool (decide ((n : Int) ≤ (zI (parts[begin.length]!) rest)))] ?_
 cases h67 : (decide ((n : Int) ≤ (zI (parts[begin.length]!) rest)))
 ·skip
  replace h67 := of_decide_eq_false h67
  refine xF [37, 38, 39, 40, 41] ?_
  refine sp (.bool false) ?_
  refine qj (t_n ?_)
  refine qC false rfl (fun h => absurd h (by decide)) (fun _ => ?_)
  refine xQ (t_x (t_x (b_x ?_)))
  refine ret0 rfl ⟨_, rfl, ?_⟩
  rw [pack_end p0 (by omega) (by omega) (by omega) (by first | (left; omega) | (right; omega))]
  exact ⟨vH, xX, zQ, x_out, Q5, rfl, N, H.XH 2 6 [0, 1] [2, 3, 4, 5] (by simp only [List.length_cons]; omega) (by simp only [List.length_cons]; omega)⟩
 replace h67 := of_decide_eq_true h67
 refine qB 36 rfl rfl ?_
 refine sp (pp bout 0) ?_
 refine qB 36 rfl rfl ?_
 refine sp (pp bout 0) ?_
 refine qB 36 rfl rfl ?_
 refine oL rfl (H.cell 0 rfl rfl) ?_
 refine qB 36 rfl rfl ?_
 refine oN rfl ?_
 refine qB 36 rfl rfl ?_
 refine sps [.bool (decide ((xX : Int) ≤ 2000)), .bool (decide ((xX : Int) ≤ 2000))] ?_
 refine qj (t_n ?_)
 refine qC (decide ((xX : Int) ≤ 2000)) rfl (fun h68 => ?_) (fun h68 => ?_)
 ·skip
  replace h68 := of_decide_eq_true h68
  refine qM (t_n (qi (qW (ql ?_))))
  refine sps [.slice arest rest.length crest, .slice (aa b60 o61) parts.length cparts, .int .i64 begin.length] ?_
  refine oI rfl rfl ?_
  refine oL rfl (H.xJ 1 rfl 0 rfl) ?_
  refine sp (.int .i64 n) ?_
  refine sw (o_neg n rfl (by omega) ?_)
  obtain ⟨u1, u2, u3, u4⟩ := p1.plus (k := begin.length) (by omega) (n := (n : Int)) (by omega) (by omega)
  have sz69 := H.base.size
  have lt70 := all_two (H.ltN (L := [Q5]) [5]) (H.ltK (K0.behind 6 rfl))
  refine sw (oc (l01Plus_ok _ rest (parts[begin.length]!) (-n) _ _ _ _ _ _ (H.get 2 rfl).1 (H.get 0 rfl).1 (by first | assumption | omega) (by first | assumption | omega) (by first | assumption | omega)) ?_)
  rintro v74 w72 r74 x73
  replace H := H.yM x73 r74
  obtain ⟨a75, c76, rfl, hc77, hm78⟩ := H.rowForm 0 rfl
  refine sps [.slice (aa b60 o61) parts.length cparts, .slice abegin begin.length cbegin] ?_
  have sz79 := H.base.size
  have lt80 := all_two (H.ltN (L := [Q5]) [5]) (H.ltK (K0.behind 6 rfl))
  refine sw (oc (l00Own_ok _ begin _ _ _ (H.get 4 rfl).1 (by first | assumption | omega)) ?_)
  rintro v84 w82 r84 x83
  replace H := H.yM x83 r84
  obtain ⟨a85, c86, rfl, hc87, hm88⟩ := H.rowForm 0 rfl
  refine sp (.int .i64 n) ?_
  refine sw (vJ H Tryz.underlying22 ti2 [.int .i64 n] fun b89 w90 H => ?_)
  refine sw (jh H 1 rfl 0 rfl Tryz.underlying22 ti2 rfl (by decide) rfl rfl rfl (by simp [Value.oneCell', Value.cells]) (by unfold maxLen; omega) (by omega) fun a91 c92 w93 H => ?_)
  rw [snocI] at H
  try dsimp only [List.set] at H
  refine sp (pp bout 0) ?_
  obtain ⟨G94, N, hn95, H⟩ := H.Xx 2 rfl N (fun F hF b hb => (List.mem_append.1 (show F ∈ [Q5] ++ Ns from hF)).elim (fun h => (H.awayN (L := [Q5]) [5]) F h b hb) fun h => H.awayK (K0.behind 6 rfl) F h b hb)
  try dsimp only [List.set] at H
  replace H := H.unfreeI 0 rfl
  obtain ⟨G96, N, hn97, H⟩ := H.Xx 1 rfl N (fun F hF b hb => (List.mem_append.1 (show F ∈ [G94, Q5] ++ Ns from hF)).elim (fun h => (H.awayN (L := [G94, Q5]) [0, 7]) F h b hb) fun h => H.awayK (K0.behind 8 rfl) F h b hb)
  try dsimp only [List.set] at H
  replace H := H.unfreeI 0 rfl
  have hn98 := H.isLen 0 rfl
  have H1 : St W0 w93 ((.box bout [.slice vH xX zQ] 27) :: (.row (.slice vH xX zQ) 22 1 xX x_out) :: (.box b89 [.int .i64 n] 2) :: (.row (.slice none 0 0) 0 1 0 []) :: (.row (.slice none 0 0) 0 1 0 []) :: ps) ((isF false G94 (.slice a75 ((jH rest (parts[begin.length]!) (-n)).length) c76) (jH rest (parts[begin.length]!) (-n))) :: (isF false Fparts (.slice (aa b60 o61) parts.length cparts) parts) :: (isF false G96 (.slice a91 ((begin ++ [(n : Int)]).length) c92) (begin ++ [(n : Int)])) :: (zn true Q5 x_out (gath out (begins begin (zL parts (f - 1) begin.length rest n)))) :: (isF false G96 (.slice a91 (begin.length + 1) c92) (begin ++ [(n : Int)])) :: (isF true G96 (.slice a91 (begin.length + 1) c92) (begin ++ [(n : Int)])) :: (isF false G94 (.slice a75 ((jH rest (parts[begin.length]!) (-n)).length) c76) (jH rest (parts[begin.length]!) (-n))) :: (isF true G94 (.slice a75 ((jH rest (parts[begin.length]!) (-n)).length) c76) (jH rest (parts[begin.length]!) (-n))) :: (isF false Fe63 (.slice ae63 ((parts[begin.length]!).length) ce63) (parts[begin.length]!)) :: (atF b60 (o61 + (begin.length : Int).toNat * 1) [.slice ae63 ((parts[begin.length]!).length) ce63]) :: (isF false Frest (.slice arest rest.length crest) rest) :: (isF false Fparts (.slice (aa b60 o61) parts.length cparts) parts) :: (isF false Fbegin (.slice abegin begin.length cbegin) begin) :: Γ) := by (try rw [← hn98]); exact H.XH 5 10 [3, 4, 0, 1, 2] [2, 7, 0, 9, 0, 1, 2, 3, 4, 5, 6, 7, 8] (by simp only [List.length_cons]; omega) (by simp only [List.length_cons]; omega)
  have N1 : Fresh _ (Q5 :: G96 :: G94 :: Ns) := (N.XH 3 [2, 0, 1] (by simp only [List.length_cons]; omega))
  have K1 : Kept (Ns) ((isF false G96 (.slice a91 (begin.length + 1) c92) (begin ++ [(n : Int)])) :: (isF true G96 (.slice a91 (begin.length + 1) c92) (begin ++ [(n : Int)])) :: (isF false G94 (.slice a75 ((jH rest (parts[begin.length]!) (-n)).length) c76) (jH rest (parts[begin.length]!) (-n))) :: (isF true G94 (.slice a75 ((jH rest (parts[begin.length]!) (-n)).length) c76) (jH rest (parts[begin.length]!) (-n))) :: (isF false Fe63 (.slice ae63 ((parts[begin.length]!).length) ce63) (parts[begin.length]!)) :: (atF b60 (o61 + (begin.length : Int).toNat * 1) [.slice ae63 ((parts[begin.length]!).length) ce63]) :: (isF false Frest (.slice arest rest.length crest) rest) :: (isF false Fparts (.slice (aa b60 o61) parts.length cparts) parts) :: (isF false Fbegin (.slice abegin begin.length cbegin) begin) :: Γ) := K0.behind 9 rfl
  replace K1 := K1.cons (F := G94) 2 rfl rfl
  replace K1 := K1.cons (F := G96) 0 rfl rfl
  refine sw (o_callF #[.slice a75 ((jH rest (parts[begin.length]!) (-n)).length) c76, .slice (aa b60 o61) parts.length cparts, .slice a91 (begin.length + 1) c92, pp bout 0] rfl rfl Tryz.call171 (args_eq (by first | rfl | rw [hn98]) (IH (f - 1) (by omega) (jH rest (parts[begin.length]!) (-n)) parts (begin ++ [(n : Int)]) (gath out (begins begin (zL parts (f - 1) begin.length rest n))) a75 c76 G94 (aa b60 o61) cparts Fparts a91 c92 G96 bout vH xX zQ x_out Q5 H1 N1 K1 (by simp only [List.length_append, List.length_cons, List.length_nil]; omega) (by first | assumption | exact u4) (by first | assumption | (simp only [List.length_nil]; omega) | omega))) ?_)
  clear H H1 N1 K1
  rintro _ w99 ⟨ra100, rn100, rc100, rx100, rF100, rfl, N, H⟩
  obtain rfl := H.zK (α := List Int) 1 rfl 3 rfl (by decide)
  refine qj (b_n (t_n (ql ?_)))
  refine sp (.int .i64 n) ?_
  refine sw (zk n 1 rfl rfl (by omega) ?_)
  refine sp (.int .i64 (n + 1)) ?_
  refine qj ?_
  refine xk (m' := (zI (parts[begin.length]!) rest + 1 - ((n + 1) : Int)).toNat) (by omega) ⟨_, n + 1, ra100, (gath (gath out (begins begin (zL parts (f - 1) begin.length rest n))) (begins (begin ++ [(n : Int)]) (packs parts (parts.length - (begin ++ [(n : Int)]).length) (begin ++ [(n : Int)]).length (jH rest (parts[begin.length]!) (-n))))).length, rc100, (gath (gath out (begins begin (zL parts (f - 1) begin.length rest n))) (begins (begin ++ [(n : Int)]) (packs parts (parts.length - (begin ++ [(n : Int)]).length) (begin ++ [(n : Int)]).length (jH rest (parts[begin.length]!) (-n))))), rx100, rF100, (by exact qg (qg (qg (qg (qg (qg (rfl) rfl) rfl) rfl) rfl) rfl) rfl), ?_, ?_, rfl, (N.XH 3 [0] (by simp only [List.length_cons]; omega)), H.XH 5 13 [0, 1] [10, 11, 12, 3] (by simp only [List.length_cons]; omega) (by simp only [List.length_cons]; omega)⟩
  · exact pack_step p0 (by omega) (by omega)
  · omega
 replace h68 := of_decide_eq_false h68
 refine xQ (t_x (t_x (b_x ?_)))
 refine ret0 rfl ⟨_, rfl, ?_⟩
 rw [pack_end p0 (by omega) (by omega) (by omega) (by first | (left; omega) | (right; omega))]
 exact ⟨vH, xX, zQ, x_out, Q5, rfl, N, H.XH 2 6 [0, 1] [2, 3, 4, 5] (by simp only [List.length_cons]; omega) (by simp only [List.length_cons]; omega)⟩

theorem l01Pack_ok (f : Nat) : l01Pack_ok_S f := Nat.strongRecOn (motive := l01Pack_ok_S) f fun f IH => by unfold l01Pack_ok_S; intros; apply l01Pack_ok_step f IH <;> assumption

theorem l01All_ok (w : World) (b : List Int) (parts : List (List Int)) (ab : Option Addr) (cb : Nat) (Fb : List Nat) (aparts : Option Addr) (cparts : Nat) (Fparts : List Nat) (hb : qE.rep w Fb [.slice ab b.length cb] b) (hparts : qE.rep w Fparts [.slice aparts parts.length cparts] parts) (p0 : Xk parts b) : Calls Tryz.prog 136 #[.slice ab b.length cb, .slice aparts parts.length cparts] w (Ret (fun v w' => ∃ (ra0 : Option Addr) (rn0 : Nat) (rc0 : Nat) (rx0 : List Value) (rF0 : List Nat), v = .tuple #[.slice ra0 rn0 rc0, .int .i64 ((xY b parts).2)] ∧ Fresh w.heap.size [rF0] ∧ St w w' [.row (.slice ra0 rn0 rc0) 22 1 rn0 rx0] [zn true rF0 rx0 ((xY b parts).1)]) w) := by
 refine en Tryz.func136 Tryz.ntmps136 ?_
 have H := ((St.start w).arg hparts).arg hb
 have nhb := qA hb
 have nhparts := qA hparts
 clear hb hparts
 have N := Fresh.nil w.heap.size
 have p3 := p0.small
 have p4 := p0.smallB
 refine qi (ql ?_)
 refine sps [.slice none 0 0, .int .i64 0] ?_
 refine qj (t_n (qi (qi (ql ?_))))
 refine sp (.slice ab b.length cb) ?_
 refine sw (oc (XC _ b _ _ _ (H.get 0 rfl).1 (by first | assumption | exact zo (by assumption) | exact jw (by assumption))) ?_)
 rintro _ w1 rfl x2
 replace H := H.ext x2
 refine sp (.bool (decide ((Qz b : Int) > 16))) ?_
 refine qj (t_n ?_)
 refine qC (decide ((Qz b : Int) > 16)) rfl (fun h3 => ?_) (fun h3 => ?_)
 ·skip
  replace h3 := of_decide_eq_true h3
  refine qi (ql ?_)
  refine sw (jm H Tryz.underlying27 ti22 fun b4 w5 H => ?_)
  refine sps [.slice (aa b4 0) 0 0, .int .i64 3] ?_
  refine qj (t_n (qV (t_r ?_)))
  replace H := H.boxRow 0 rfl 1 0 rfl (by decide)
  try dsimp only [List.set] at H
  replace H := H.jq (α := List Int)
  refine ret2 (.slice (aa b4 0) 0 0) (.int .i64 3) rfl rfl rfl ⟨_, rfl, ?_, H.base⟩
  first | rw [all_a (by assumption)] | rw [all_b (by assumption) (by assumption)]
  exact ⟨(aa b4 0), 0, 0, [], [], rfl, N.emp, H.pick [0] [0]⟩
 replace h3 := of_decide_eq_false h3
 refine qM (t_n (qi (ql ?_)))
 refine sw (jm H Tryz.underlying27 ti22 fun b6 w7 H => ?_)
 refine sw (xy H ti27 [.slice none 0 0] fun b8 w9 H => ?_)
 refine sw (qG H 0 [.slice (aa b6 0) 0 0] Tryz.sizeOf27 fun w10 H => ?_)
 try dsimp only [List.set] at H
 refine qj (t_n (qi (ql ?_)))
 refine sps [.slice ab b.length cb, .slice aparts parts.length cparts] ?_
 refine sw (jm H Tryz.underlying22 ti2 fun b11 w12 H => ?_)
 replace H := H.boxRowI 0 [] 0
 try dsimp only [List.set] at H
 obtain ⟨G13, N, hn14, H⟩ := H.Xx 0 rfl N (H.awayN [])
 try dsimp only [List.set] at H
 replace H := H.unfreeI 0 rfl
 have hn15 := H.isLen 0 rfl
 replace H := H.boxRow 2 rfl 1 0 rfl (by decide)
 try dsimp only [List.set] at H
 replace H := H.jq (α := List Int)
 have H1 : St w w12 [.box b8 [.slice (aa b6 0) 0 0] 27, .row (.slice (aa b6 0) 0 0) 22 1 0 [], .row (.slice none 0 0) 0 1 0 []] [isF false Fb (.slice ab b.length cb) b, isF false Fparts (.slice aparts parts.length cparts) parts, isF false G13 (.slice (aa b11 0) (([] : List Int).length) 0) ([] : List Int), zn true [] [] ([] : List (List Int)), isF false G13 (.slice (aa b11 0) 0 0) ([] : List Int), isF true G13 (.slice (aa b11 0) 0 0) ([] : List Int), isF false Fb (.slice ab b.length cb) b, isF false Fparts (.slice aparts parts.length cparts) parts] := by (try rw [← hn15]); exact H.pick [1, 2, 0] [3, 4, 1, 0, 1, 2, 3, 4]
 have N1 : Fresh _ [[], G13] := N.emp
 have K1 : Kept [] [isF false G13 (.slice (aa b11 0) 0 0) ([] : List Int), isF true G13 (.slice (aa b11 0) 0 0) ([] : List Int), isF false Fb (.slice ab b.length cb) b, isF false Fparts (.slice aparts parts.length cparts) parts] := Kept.nil _
 replace K1 := K1.cons (F := G13) 0 rfl rfl
 refine sw (o_callF #[.slice ab b.length cb, .slice aparts parts.length cparts, .slice (aa b11 0) 0 0, pp b8 0] rfl rfl Tryz.call171 (args_eq (by first | rfl | rw [hn15]) (l01Pack_ok (parts.length - ([] : List Int).length) b parts ([] : List Int) ([] : List (List Int)) ab cb Fb aparts cparts Fparts (aa b11 0) 0 G13 b8 (aa b6 0) 0 0 [] [] H1 N1 K1 (by simp only [List.length_append, List.length_cons, List.length_nil]; omega) (by first | assumption | exact u4) (by first | assumption | (simp only [List.length_nil]; omega) | omega))) ?_)
 clear H H1 N1 K1
 rintro _ w16 ⟨ra17, rn17, rc17, rx17, rF17, rfl, N, H⟩
 obtain rfl := H.zK (α := List Int) 1 rfl 3 rfl (by decide)
 refine qj (t_n (qi (qi (ql ?_))))
 refine oL rfl (H.cell 0 rfl rfl) ?_
 refine oN rfl ?_
 refine sp (.bool (decide (((gath ([] : List (List Int)) (begins ([] : List Int) (packs parts (parts.length - ([] : List Int).length) ([] : List Int).length b))).length : Int) > 2000))) ?_
 refine qj (t_n ?_)
 refine qC (decide (((gath ([] : List (List Int)) (begins ([] : List Int) (packs parts (parts.length - ([] : List Int).length) ([] : List Int).length b))).length : Int) > 2000)) rfl (fun h18 => ?_) (fun h18 => ?_)
 ·skip
  replace h18 := of_decide_eq_true h18
  refine qi (ql ?_)
  refine sw (jm H Tryz.underlying27 ti22 fun b19 w20 H => ?_)
  refine sps [.slice (aa b19 0) 0 0, .int .i64 3] ?_
  refine qj (t_n (qV (t_r ?_)))
  replace H := H.boxRow 0 rfl 1 0 rfl (by decide)
  try dsimp only [List.set] at H
  replace H := H.jq (α := List Int)
  refine ret2 (.slice (aa b19 0) 0 0) (.int .i64 3) rfl rfl rfl ⟨_, rfl, ?_, H.base⟩
  first | rw [all_a (by assumption)] | rw [all_b (by assumption) (by assumption)]
  exact ⟨(aa b19 0), 0, 0, [], [], rfl, (N.emp.pick [0]), H.pick [0] [0]⟩
 replace h18 := of_decide_eq_false h18
 refine qM (t_n (qi (ql ?_)))
 refine oL rfl (H.cell 0 rfl rfl) ?_
 refine sps [.slice ra17 ((gath ([] : List (List Int)) (begins ([] : List Int) (packs parts (parts.length - ([] : List Int).length) ([] : List Int).length b))).length) rc17, .int .i64 0] ?_
 refine qj (t_n (qV ?_))
 refine ret2 (.slice ra17 ((gath ([] : List (List Int)) (begins ([] : List Int) (packs parts (parts.length - ([] : List Int).length) ([] : List Int).length b))).length) rc17) (.int .i64 0) rfl rfl rfl ⟨_, rfl, ?_, H.base⟩
 rw [all_0 (by assumption) (by assumption)]
 exact ⟨ra17, (gath ([] : List (List Int)) (begins ([] : List Int) (packs parts (parts.length - ([] : List Int).length) ([] : List Int).length b))).length, rc17, rx17, rF17, rfl, (N.pick [0]), H.pick [1] [3]⟩

end Go.Proofs.YtgjnaocffdhnbaaGreat
