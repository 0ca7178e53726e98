/- Walks and laws, printed by program and by hand: what each function comes to, for all arguments, part 5. -/
import Derived.Test.YtfekhnffbngoaabGreatA4
import Derived.Test.YtfekhnffbngoaabGreatRows
import Derived.ProofKit
import Derived.OpenShut
import Derived.Carry
import Derived.BigQuiet
import Derived.Lib.SmallJoins
namespace Go.Proofs.YtfekhnffbngoaabGreat
set_option linter.unusedVariables false
set_option linter.unusedSimpArgs false
open Go.Proofs.YtfekhnffbngoaabGreat.Tot (tot)
open Go.Proofs.YtfekhnffbngoaabGreat.Mark (cnt mrk mkd mkd_mark cnt_mark)
section
open Go.RowKit
set_option linter.unusedVariables false
set_option linter.unusedSimpArgs false
set_option maxRecDepth 100000
set_option maxHeartbeats 4000000
variable {cb cweights xe xG qX qC qH bs os zY vg zZ ve jM zT : Nat}
theorem yR (w:World) (a:yLI) (b:yLI) {aa:yOA} {ca:Nat} {Fa:yLN} {ab:yOA} {Fb:yLN} (ha:qW.rep w Fa [.slice aa a.length ca] a) (hb:qW.rep w Fb [.slice ab b.length cb] b) (p0:SmallD a b):Calls Tryz.prog 50 #[.slice aa a.length ca,.slice ab b.length cb] w (Ret (fun v w' =>v=.int .i64 (jS a b)) w):=by
 refine en Tryz.func50 Tryz.ntmps50 ?_
 have H:=((St.start w).arg hb).arg ha
 have nha:=qU ha
 have nhb:=qU hb
 clear ha hb
 have N:=Fresh.nil w.heap.size
 have p1:=p0.1
 refine zcr (sp (.int .i64 0) (zjc (sp (.int .i64 0) (zjcc (sp (.int .i64 0) (zjn (xg ?_)))))))
 refine zH (fun m' ρ w1=>∃ (xU:Env) (sum:Int) (i:Nat),ρ=upd (upd (upd (upd xU 0 (.slice aa a.length ca)) 1 (.slice ab b.length cb)) 5 (.int .i64 sum)) 6 (.int .i64 i)∧sum=(jX (fun k=>a[k]! * b[k]!) i)∧((i:Int)≤a.length)∧m' =(a.length - (i:Int)).toNat∧Fresh w.heap.size []∧St w w1 [] [sF false Fa aa ca a,sF false Fb ab cb b]) ((a.length - (0:Int)).toNat) ⟨_,0,0,uE4,(by rfl),qf,rfl,N,H⟩ ?_
 clear H N
 rintro m' ρ w2 ⟨xU,sum,i,rfl,rfl,i0,rfl,N,H⟩
 have hs:=dotTo_bd p0 i
 have hv:=p0.2 i
 refine zcc (sps [.int .i64 i,.slice aa a.length ca] (oN rfl (sp (.bool (decide ((i:Int) < a.length))) (zjn (cD rfl (fun h3=>?_) (fun h3=>?_))))))
 ·skip
  refine xh (t_n (x8 (xg ?_)))
  refine yf rfl H fun H=>rtp 0 (.int .i64 (jX (fun k=>a[k]! * b[k]!) i)) H ?_
  refine rtp 1 (.slice aa a.length ca) H ?_
  refine rtp 2 (.int .i64 i) H ?_
  obtain ⟨b5,o6,rfl⟩:=H.addr 0 rfl qf
  refine tI 3 rfl rfl rfl H ?_
  refine tL 4 rfl rfl (fun _ h=>h.elemIntN 0 rfl i qf) H ?_
  refine rtp 5 (.slice ab b.length cb) H ?_
  refine rtp 6 (.int .i64 i) H ?_
  obtain ⟨b8,o9,rfl⟩:=H.addr 1 rfl qf
  refine tI 7 rfl rfl rfl H ?_
  refine tL 8 rfl rfl (fun _ h=>h.elemIntN 1 rfl i qf) H ?_
  refine rt 9 (.int .i64 ((a[i]!) * (b[i]!))) (y_mul (a[i]!) (b[i]!) rfl rfl (by (first | omega | (have h8:=hs qf;have h9:=hv qf;omega)))) H ?_
  refine rt 10 (.int .i64 ((jX (fun k=>a[k]! * b[k]!) i)+((a[i]!) * (b[i]!)))) (y_add (jX (fun k=>a[k]! * b[k]!) i) ((a[i]!) * (b[i]!)) rfl rfl (by (first | omega | (have h8:=hs qf;have h9:=hv qf;omega)))) H ?_
  refine rtp 11 (.int .i64 ((jX (fun k=>a[k]! * b[k]!) i)+((a[i]!) * (b[i]!)))) H ?_
  refine xH qh (b_n (t_n (xZ (sp (.int .i64 i) (sw (zB i 1 rfl rfl (by (first | omega | (have h8:=hs qf;have h9:=hv qf;omega))) (sp (.int .i64 (i+1)) (zi (xq (m' :=(a.length - ((i+1):Int)).toNat) qf ⟨_,(jX (fun k=>a[k]! * b[k]!) i)+((a[i]!) * (b[i]!)),i+1,uE4,?_,?_,rfl,N,H⟩)))))))))
  · rfl
  · omega
 ·skip
  refine zx4 (zcr (sps [.int .i64 (jX (fun k=>a[k]! * b[k]!) i),.int .i64 (jX (fun k=>a[k]! * b[k]!) i)] (zjr (ret1 (.int .i64 (jX (fun k=>a[k]! * b[k]!) i)) rfl rfl ⟨_,rfl,?_,H.base⟩))))
  obtain rfl:i=a.length:=by omega
  rfl

theorem weigh1_ok (w:World) (x:Int) (y:Int) (p0:0≤x * y∧x * y≤5000):Calls Tryz.prog 76 #[.int .i64 x,.int .i64 y] w (Ret (fun v w' =>v=.int .i64 (x * y)) w):=by
 refine en Tryz.func76 Tryz.ntmps76 ?_
 have H:=St.start w
 have N:=Fresh.nil w.heap.size
 refine zcr (sp (.int .i64 0) (zjc (sps [.int .i64 x,.int .i64 y] (sw (o_mul x y rfl rfl qf (sp (.int .i64 (x * y)) (zjr (ret1 (.int .i64 (x * y)) rfl rfl ⟨_,rfl,?_,H.base⟩))))))))
 rfl

theorem weigh_ok (w:World) (b:yLI) (weights:yLI) {ab:yOA} {Fb:yLN} {aweights:yOA} {Fweights:yLN} (hb:qW.rep w Fb [.slice ab b.length cb] b) (hweights:qW.rep w Fweights [.slice aweights weights.length cweights] weights) (p0:SmallD b weights):Calls Tryz.prog 42 #[.slice ab b.length cb,.slice aweights weights.length cweights] w (Ret (fun v w' =>v=.int .i64 (jS b weights)) w):=by
 refine en Tryz.func42 Tryz.ntmps42 ?_
 have H:=((St.start w).arg hweights).arg hb
 have nhb:=qU hb
 have nhweights:=qU hweights
 clear hb hweights
 have N:=Fresh.nil w.heap.size
 have p1:=p0.1
 refine zcr (sp (.int .i64 0) (zjc (sps [.slice ab b.length cb,.slice aweights weights.length cweights] ?_)))
 have sz1:=H.base.size
 refine sw (oc (both_ok _ b weights 76 #[] (fun k=>b[k]! * weights[k]!) (H.get 0 rfl).1 (H.get 1 rfl).1 qg qg Tryz.call76 (fun k w' hk e=>weigh1_ok w' _ _ (p0.2 k hk))) ?_)
 rintro v6 w4 r6 x5
 replace H:=H.jw x5 r6
 obtain ⟨a7,c8,rfl,hc9,hm10⟩:=H.Qw 0 rfl
 obtain ⟨G11,hn12,h13⟩:=H.Qs 0 rfl
 have sm:=p0.small
 refine sw (oq (bagSize_ok _ (tabTo (fun k=>b[k]! * weights[k]!) b.length) h13 (by first | assumption | exact vY ql | exact yY ql)) H fun w14 H=>sp (.int .i64 (Xc (tabTo (fun k=>b[k]! * weights[k]!) b.length))) (zjr (ret1 (.int .i64 (Xc (tabTo (fun k=>b[k]! * weights[k]!) b.length))) rfl rfl ⟨_,rfl,?_,H.base⟩)))
 rw [dot_sum]

theorem weighState_ok (w:World) (t:qR) (weights:yLL) {xk:yOA} {zF:yLN} {xJ:yOA} {vM:yLN} {qY:yOA} {zf:yLN} {aweights:yOA} {Fweights:yLN} (zu:qW.rep w zF [.slice xk t.qJ.length xe] t.qJ) (zW:qW.rep w vM [.slice xJ t.qN.length xG] t.qN) (xY:qW.rep w zf [.slice qY t.qM.length qX] t.qM) (hweights:qW.rep w Fweights [.slice aweights weights.length cweights] weights) (Z:WtSt t weights):Calls Tryz.prog 20 #[.agg #[.slice xk t.qJ.length xe,.slice xJ t.qN.length xG,.slice qY t.qM.length qX],.slice aweights weights.length cweights] w (Ret (fun v w' =>v=.int .i64 (weight t weights)) w):=by
 refine en Tryz.func20 Tryz.ntmps20 ?_
 have H:=((((St.start w).arg hweights).arg xY).arg zW).arg zu
 have Ql:=qU zu
 have Xq:=qU zW
 have yG:=qU xY
 have nhweights:=qU hweights
 clear zu zW xY hweights
 have N:=Fresh.nil w.heap.size
 have z1:=Z.len
 have z2:=Z.few
 have z3:=Z.around
 have z4:=vT z3
 refine zcr (sw (vK H [.slice xk t.qJ.length xe,.slice xJ t.qN.length xG,.slice qY t.qM.length qX] fun b1 w2 H=>sp (.int .i64 0) (zjn (x8 ?_))))
 refine yf rfl H fun H=>tF 0 rfl rfl H ?_
 refine tL 1 rfl rfl (fun _ h=>h.cell 0 rfl rfl) H ?_
 refine rtp 2 (.slice aweights weights.length cweights) H ?_
 refine tF 3 rfl rfl H ?_
 refine tL 4 rfl rfl (fun _ h=>h.cell 0 rfl rfl) H ?_
 refine tN 5 rfl rfl H ?_
 obtain ⟨b4,o5,rfl⟩:=H.addr 3 rfl qf
 obtain ⟨ae7,ce7,Fe7,H⟩:=H.vV 3 rfl t.qN.length t.qN.length qf qf qf
 refine tI 6 rfl rfl rfl (H.pick [0] [2,3,4,5]) ?_
 refine ro 7 rfl (xX (.slice ae7 ((weights[t.qN.length]!).length) ce7) Tryz.isAgg24 rfl (H.zh 1 rfl 0 rfl) (⟨H.pick [0] [2,3,4,5],(ro 8 rfl (oq (weigh_ok _ t.qM (weights[t.qN.length]!) (H.get 4 rfl).1 (H.get 0 rfl).1 (by first | assumption | exact hz qf | exact (gi qf).2 | exact G.out _ qf)) H fun w9 H=>⟨H.pick [0] [2,3,4,5],(rtp 9 (.int .i64 (jS t.qM (weights[t.qN.length]!))) (H.pick [0] [2,3,4,5]) ?_)⟩))⟩))
 refine xH qh (t_n (zcc (oF rfl (oL rfl (H.cell 0 rfl rfl) (oN rfl (sp (.int .i64 0) (zjn (xg ?_))))))))
 refine zH (fun m' ρ w11=>∃ (xU:Env) (sum:Int) (c:Nat),ρ=upd (upd (upd (upd (upd xU 1 (.slice (some ⟨b4,o5,none⟩) weights.length cweights)) 5 (.int .i64 sum)) 18 (.slice xJ t.qN.length xG)) 19 (.int .i64 t.qN.length)) 20 (.int .i64 c)∧sum=(wtTo t weights c)∧((c:Int)≤t.qN.length)∧m' =(t.qN.length - (c:Int)).toNat∧Fresh w.heap.size []∧St w w11 [.box b1 [.slice xk t.qJ.length xe,.slice xJ t.qN.length xG,.slice qY t.qM.length qX] 31] [sF false Fe7 ae7 ce7 (weights[t.qN.length]!),atF b4 (o5+(t.qN.length:Int).toNat * 1) [.slice ae7 ((weights[t.qN.length]!).length) ce7],sF false zF xk xe t.qJ,sF false vM xJ xG t.qN,sF false zf qY qX t.qM,sF false Fweights (some ⟨b4,o5,none⟩) cweights weights]) ((t.qN.length - (0:Int)).toNat) ⟨_,(jS t.qM (weights[t.qN.length]!)),0,uE5,(by exact wt_0 t weights),qf,rfl,N,H⟩ ?_
 clear H N
 rintro m' ρ w12 ⟨xU,sum,c,rfl,rfl,i0,rfl,N,H⟩
 have hb:=Z.bd c
 have hd:=fun h=>vT (Z.bags c h)
 have hz:=Z.bags c
 refine zcr (sp (.bool (decide ((c:Int) < t.qN.length))) (zjn (x8 (cD rfl (fun h13=>?_) (fun h13=>?_)))))
 ·skip
  refine xh (t_n (x8 (xg (zcr (sp (.int .i64 c) ?_)))))
  obtain ⟨b14,o15,rfl⟩:=H.addr 3 rfl qf
  obtain ⟨ae17,ce17,Fe17,H⟩:=H.vV 3 rfl c c qf qf qf
  refine oI rfl rfl (oL rfl (H.zh 1 rfl 0 rfl) (sps [.int .i64 c,.slice ae17 ((t.qN[c]!).length) ce17] (zjn (xZ (sps [.int .i64 (wtTo t weights c),.slice ae17 ((t.qN[c]!).length) ce17,.slice (some ⟨b4,o5,none⟩) weights.length cweights,.int .i64 c] ?_)))))
  obtain ⟨ae18,ce18,Fe18,H⟩:=H.vV 7 rfl c c qf qf qf
  refine oI rfl rfl (oL rfl (H.zh 1 rfl 0 rfl) (sw (oq (weigh_ok _ (t.qN[c]!) (weights[c]!) (H.get 2 rfl).1 (H.get 0 rfl).1 (by first | assumption | exact hz qf | exact (gi qf).2 | exact G.out _ qf)) H fun w20 H=>sw (zB (wtTo t weights c) (jS (t.qN[c]!) (weights[c]!)) rfl rfl (by (first | omega | (have h8:=hb qf;have h9:=hd qf;omega))) (sp (.int .i64 ((wtTo t weights c)+(jS (t.qN[c]!) (weights[c]!)))) (zi (b_n (t_n (xZ (sw (zB c 1 rfl rfl (by (first | omega | (have h8:=hb qf;have h9:=hd qf;omega))) (sp (.int .i64 (c+1)) (zi ?_)))))))))))))
  refine xq (m' :=(t.qN.length - ((c+1):Int)).toNat) qf ⟨_,(wtTo t weights c)+(jS (t.qN[c]!) (weights[c]!)),c+1,uE5,?_,?_,rfl,N,H.pick [0] [4,5,6,7,8,9]⟩
  · exact wt_succ t weights c
  · omega
 ·skip
  refine zx4 (zcr (sps [.int .i64 (wtTo t weights c),.int .i64 (wtTo t weights c)] (zjr (ret1 (.int .i64 (wtTo t weights c)) rfl rfl ⟨_,rfl,?_,H.base⟩))))
  first | rfl | (rw [weight,show t.qN.length=c by omega])

theorem areWeights11_ok (w:World) (x:Int):Calls Tryz.prog 66 #[.int .i64 x] w (Ret (fun v w' =>v=.bool (!inR x (-1000) 1000)) w):=by
 refine en Tryz.func66 Tryz.ntmps66 ?_
 have H:=St.start w
 have N:=Fresh.nil w.heap.size
 refine zcr (sp (.bool false) (zjc (sp (.int .i64 x) (sw (oq (QQ w x (-1000) 1000) H fun w1 H=>sps [.bool (!(inR x (-1000) 1000)),.bool (!(inR x (-1000) 1000))] (zjr (ret1 (.bool (!(inR x (-1000) 1000))) rfl rfl ⟨_,rfl,?_,H.base⟩)))))))
 rfl

theorem areWeights_ok (w:World) (s:qG) (weights:yLL) {qE:yOA} {qV:yLN} {qI:yOA} {xx:yLN} {aweights:yOA} {Fweights:yLN} (qP:qW.rep w qV [.slice qE s.qA.length qC] s.qA) (xm:qW.rep w xx [.slice qI s.qB.length qH] s.qB) (hweights:qW.rep w Fweights [.slice aweights weights.length cweights] weights) (p0:zX s) (p1:WtOk s weights):Calls Tryz.prog 30 #[.agg #[.int .i64 s.qQ,.slice qE s.qA.length qC,.slice qI s.qB.length qH],.slice aweights weights.length cweights] w (Ret (fun v w' =>v=.bool true) w):=by
 refine en Tryz.func30 Tryz.ntmps30 ?_
 have H:=(((St.start w).arg hweights).arg xm).arg qP
 have zt:=qU qP
 have vF:=qU xm
 have nhweights:=qU hweights
 clear qP xm hweights
 have N:=Fresh.nil w.heap.size
 have p2:=p1.len
 have p3:=p0.1.1
 have p4:=p0.1.2.1
 refine zcr (sw (vK H [.int .i64 s.qQ,.slice qE s.qA.length qC,.slice qI s.qB.length qH] fun b1 w2 H=>sp (.bool false) (zjc (sp (.slice aweights weights.length cweights) (oN rfl (oF rfl (oL rfl (H.cell 0 rfl rfl) (oN rfl (sw (zB s.qA.length 1 rfl rfl qf (sps [.bool ((weights.length:Int) == (s.qA.length+1)),.bool ((weights.length:Int) == (s.qA.length+1))] ?_)))))))))))
 cases h3:((weights.length:Int) == (s.qA.length+1))
 ·skip
  replace h3:=ne_of_beq_false h3
  refine xO [13,14,15,16] (sps [.bool false,.bool false] (zjr (ret1 (.bool false) rfl rfl ⟨_,rfl,?_,H.base⟩)))
  exfalso;first | omega | exact any_wt (rw_ qf).2 ql | (have r1:=(rw_ qf).1;omega)
 ·skip
  replace h3:=eq_of_beq h3
  refine qO 12 rfl rfl (sp (.slice aweights weights.length cweights) (qO 12 rfl rfl (sp (.func (.func 63) #[] #[.pointer (some ⟨b1,0,none⟩)]) (qO 12 rfl rfl (sw (jA #[.slice aweights weights.length cweights,.func (.func 63) #[] #[.pointer (some ⟨b1,0,none⟩)]] rfl rfl Tryz.call62 (en Tryz.func62 Tryz.ntmps62 ?_)))))))
  refine zcr (sp (.bool false) (zjc (sps [.slice aweights weights.length cweights,.func (.func 63) #[] #[.pointer (some ⟨b1,0,none⟩)]] (sw (jA #[.slice aweights weights.length cweights,.func (.func 63) #[] #[.pointer (some ⟨b1,0,none⟩)]] rfl rfl Tryz.call90 (en Tryz.func90 Tryz.ntmps90 ?_))))))
  refine zcr (sp (.int .i64 0) (zjcc (sp (.slice aweights weights.length cweights) (oN rfl (sp (.int .i64 0) (zjn (xg ?_)))))))
  refine zH (fun m' ρ w4=>∃ (xU:Env) (i:Nat),ρ=upd (upd (upd (upd xU 0 (.slice aweights weights.length cweights)) 1 (.func (.func 63) #[] #[.pointer (some ⟨b1,0,none⟩)])) 7 (.int .i64 weights.length)) 8 (.int .i64 i)∧((i:Int)≤weights.length)∧m' =(weights.length - (i:Int)).toNat∧Fresh w.heap.size []∧St w w4 [.box b1 [.int .i64 s.qQ,.slice qE s.qA.length qC,.slice qI s.qB.length qH] 27] [sF false qV qE qC s.qA,sF false xx qI qH s.qB,sF false Fweights aweights cweights weights]) ((weights.length - (0:Int)).toNat) ⟨_,0,uE4,qf,rfl,N,H⟩ ?_
  clear H N
  rintro m' ρ w5 ⟨xU,i,rfl,i0,rfl,N,H⟩
  have rw_:=fun h=>wt_in p1 (c:=i) h
  refine zcr (sp (.bool (decide ((i:Int) < weights.length))) (zjn (x8 (cD rfl (fun h6=>?_) (fun h6=>?_)))))
  ·skip
   refine xh (t_n (x8 (xg (zcr (sps [.int .i64 i,.int .i64 i] (zjc (sps [.func (.func 63) #[] #[.pointer (some ⟨b1,0,none⟩)],.slice aweights weights.length cweights,.int .i64 i] ?_)))))))
   obtain ⟨b7,o8,rfl⟩:=H.addr 2 rfl qf
   obtain ⟨ae10,ce10,Fe10,H⟩:=H.vV 2 rfl i i qf qf qf
   refine oI rfl rfl (oL rfl (H.zh 1 rfl 0 rfl) (sw (jA #[.slice ae10 ((weights[i]!).length) ce10,.pointer (some ⟨b1,0,none⟩)] rfl rfl Tryz.call63 (en Tryz.func63 Tryz.ntmps63 ?_))))
   refine zcr (sp (.bool false) (zjn (x8 ?_)))
   refine yf rfl H fun H=>rtp 0 (.slice ae10 ((weights[i]!).length) ce10) H ?_
   refine tF 2 rfl rfl H ?_
   refine tL 3 rfl rfl (fun _ h=>h.cell 0 rfl rfl) H ?_
   refine ro 1 rfl (oq (sizeI_ok _ (weights[i]!) (H.get 0 rfl).1) H fun w12 H=>⟨H,(rtp 4 (.bool ((((weights[i]!).length:Int):Int) != s.qQ)) H ?_)⟩)
   refine rtp 5 (.bool ((((weights[i]!).length:Int):Int) != s.qQ)) H ?_
   cases h14:((((weights[i]!).length:Int):Int) != s.qQ)
   ·skip
    replace h14:=vW h14
    refine rgp 6 (.slice ae10 ((weights[i]!).length) ce10) 9 H ?_
    refine jd [7] qh qm (r_opG rfl (e:=9) rfl rfl (oq (containsFuncI_ok _ (weights[i]!) 66 #[] (fun k=> !inR ((weights[i]!)[k]!) (-1000) 1000) (H.get 0 rfl).1 Tryz.call66 (fun k w' hk e=>areWeights11_ok w' _)) H fun w15 H=>⟨H,(rtp 8 (.bool (anyTo (fun k=> !inR ((weights[i]!)[k]!) (-1000) 1000) (weights[i]!).length)) H ?_)⟩) je)
    refine rtp 9 (.bool (anyTo (fun k=> !inR ((weights[i]!)[k]!) (-1000) 1000) (weights[i]!).length)) H ?_
    refine xH qh (t_n (c_ret (ret1 (.bool (anyTo (fun k=> !inR ((weights[i]!)[k]!) (-1000) 1000) (weights[i]!).length)) rfl rfl ⟨_,rfl,(zjn (xI (anyTo (fun k=> !inR ((weights[i]!)[k]!) (-1000) 1000) (weights[i]!).length) rfl (fun h17=>?_) (fun h17=>?_)))⟩)))
    ·skip
     refine zcr (sps [.int .i64 i,.int .i64 i] (zjr (zr5 (ret1 (.int .i64 i) rfl rfl ⟨_,rfl,(sw (o_pure (.bool true) (by show some (Value.bool (decide ((i:Int)≥0)))=some (Value.bool true);rw [decide_eq_true qf]) (sp (.bool true) (zjr (ret1 (.bool true) rfl rfl ⟨_,rfl,(qO 12 rfl rfl (sps [.bool false,.bool false,.bool false] (zjr (ret1 (.bool false) rfl rfl ⟨_,rfl,?_,H.base⟩))))⟩)))))⟩))))
     exfalso;first | omega | exact any_wt (rw_ qf).2 ql | (have r1:=(rw_ qf).1;omega)
    ·skip
     refine xh (b_n (t_n (xZ (sw (zB i 1 rfl rfl qf (sp (.int .i64 (i+1)) (zi (xq (m' :=(weights.length - ((i+1):Int)).toNat) qf ⟨_,i+1,uE4,?_,rfl,N,H.pick [0] [2,3,4]⟩))))))))
     · omega
   ·skip
    replace h14:=bne_iff_ne.1 h14
    refine zD [6,7] 2 (H) (rtp 8 (.bool true) H ?_)
    refine rtp 9 (.bool true) H ?_
    refine xH qh (t_n (c_ret (ret1 (.bool true) rfl rfl ⟨_,rfl,(zjn (xI true rfl (fun _=>zcr (sps [.int .i64 i,.int .i64 i] (zjr (zr5 (ret1 (.int .i64 i) rfl rfl ⟨_,rfl,(sw (o_pure (.bool true) (by show some (Value.bool (decide ((i:Int)≥0)))=some (Value.bool true);rw [decide_eq_true qf]) (sp (.bool true) (zjr (ret1 (.bool true) rfl rfl ⟨_,rfl,(qO 12 rfl rfl (sps [.bool false,.bool false,.bool false] (zjr (ret1 (.bool false) rfl rfl ⟨_,rfl,?_,H.base⟩))))⟩)))))⟩))))) (fun h=>absurd h qj)))⟩)))
    exfalso;first | omega | exact any_wt (rw_ qf).2 ql | (have r1:=(rw_ qf).1;omega)
  ·skip
   refine zx4 (zcr (sp (.int .i64 (-1)) (zjr (ret1 (.int .i64 (-1)) rfl rfl ⟨_,rfl,(sps [.bool false,.bool false] (zjr (ret1 (.bool false) rfl rfl ⟨_,rfl,(qO 12 rfl rfl (sps [.bool true,.bool true,.bool true] (zjr (ret1 (.bool true) rfl rfl ⟨_,rfl,?_,H.base⟩))))⟩)))⟩))))
   rfl

theorem implWeigh_ok (w:World) (s:qG) (t:qR) (weights:yLL) {qE:yOA} {qV:yLN} {qI:yOA} {xx:yLN} {xk:yOA} {zF:yLN} {xJ:yOA} {vM:yLN} {qY:yOA} {zf:yLN} {aweights:yOA} {Fweights:yLN} (qP:qW.rep w qV [.slice qE s.qA.length qC] s.qA) (xm:qW.rep w xx [.slice qI s.qB.length qH] s.qB) (zu:qW.rep w zF [.slice xk t.qJ.length xe] t.qJ) (zW:qW.rep w vM [.slice xJ t.qN.length xG] t.qN) (xY:qW.rep w zf [.slice qY t.qM.length qX] t.qM) (hweights:qW.rep w Fweights [.slice aweights weights.length cweights] weights) (p0:zX s∧xQ s t) (p1:WtOk s weights):Calls Tryz.prog 12 #[.agg #[.int .i64 s.qQ,.slice qE s.qA.length qC,.slice qI s.qB.length qH],.agg #[.slice xk t.qJ.length xe,.slice xJ t.qN.length xG,.slice qY t.qM.length qX],.slice aweights weights.length cweights] w (Ret (fun v w' =>v=.tuple #[.int .i64 (weight t weights),.int .i64 0]) w):=by
 refine en Tryz.func12 Tryz.ntmps12 ?_
 have H:=((((((St.start w).arg hweights).arg xY).arg zW).arg zu).arg xm).arg qP
 have zt:=qU qP
 have vF:=qU xm
 have Ql:=qU zu
 have Xq:=qU zW
 have yG:=qU xY
 have nhweights:=qU hweights
 clear qP xm zu zW xY hweights
 have N:=Fresh.nil w.heap.size
 have k1:=p0.1
 have k2:=p0.2
 have Z:=wtSt p0.1 p1 p0.2
 have z1:=Z.len
 refine zcr (sw (vK H [.int .i64 s.qQ,.slice qE s.qA.length qC,.slice qI s.qB.length qH] fun b1 w2 H=>sw (vK H [.slice xk t.qJ.length xe,.slice xJ t.qN.length xG,.slice qY t.qM.length qX] fun b3 w4 H=>sps [.int .i64 0,.int .i64 0] (zjcc (sw (xW [.int .i64 s.qQ,.slice qE s.qA.length qC,.slice qI s.qB.length qH] Tryz.isAgg27 Tryz.sizeOf27 rfl (qK (H.cells 1 rfl) 0 3) ?_))))))
 refine sw (xW [.slice xk t.qJ.length xe,.slice xJ t.qN.length xG,.slice qY t.qM.length qX] Tryz.isAgg31 Tryz.sizeOf31 rfl (qK (H.cells 0 rfl) 0 3) (sw (oq (validState_ok _ s t (H.get 0 rfl).1 (H.get 1 rfl).1 (H.get 2 rfl).1 (H.get 3 rfl).1 (H.get 4 rfl).1) H fun w6 H=>sp (.bool (!(dec (zX s∧xQ s t)))) (zjn (xI (!(dec (zX s∧xQ s t))) rfl (fun h=>absurd p0 (zo (xw h))) (fun h8=>?_))))))
 replace h8:=xf h8
 replace h8:=jJ h8
 refine xh (t_n (zcc (sw (xW [.int .i64 s.qQ,.slice qE s.qA.length qC,.slice qI s.qB.length qH] Tryz.isAgg27 Tryz.sizeOf27 rfl (qK (H.cells 1 rfl) 0 3) (sp (.slice aweights weights.length cweights) (sw (oq (areWeights_ok _ s weights (H.get 0 rfl).1 (H.get 1 rfl).1 (H.get 5 rfl).1 qg qg) H fun w10 H=>sp (.bool !true) (zjn (xI (!true) rfl (fun h=>Bool.noConfusion (xw h)) (fun h12=>?_))))))))))
 replace h12:=xf h12
 refine xh (t_n (zcr (sw (xW [.slice xk t.qJ.length xe,.slice xJ t.qN.length xG,.slice qY t.qM.length qX] Tryz.isAgg31 Tryz.sizeOf31 rfl (qK (H.cells 0 rfl) 0 3) (sp (.slice aweights weights.length cweights) (sw (oq (weighState_ok _ t weights (H.get 2 rfl).1 (H.get 3 rfl).1 (H.get 4 rfl).1 (H.get 5 rfl).1 qg) H fun w14 H=>sps [.int .i64 (weight t weights),.int .i64 0] (zjr (ret2 (.int .i64 (weight t weights)) (.int .i64 0) rfl rfl rfl ⟨_,rfl,?_,H.base⟩)))))))))
 rfl

theorem l02Weights_ok (w:World) (s:qG) (weights:yLL) {qE:yOA} {qV:yLN} {qI:yOA} {xx:yLN} {aweights:yOA} {Fweights:yLN} (hs:jy w bs os [.int .i64 s.qQ,.slice qE s.qA.length qC,.slice qI s.qB.length qH]) (qP:qW.rep w qV [.slice qE s.qA.length qC] s.qA) (xm:qW.rep w xx [.slice qI s.qB.length qH] s.qB) (hweights:qW.rep w Fweights [.slice aweights weights.length cweights] weights) (p0:zX s) (p1:WtOk s weights):Calls Tryz.prog 22 #[.pointer (some ⟨bs,os,none⟩),.slice aweights weights.length cweights] w (Ret (fun v w' =>v=.bool true) w):=by
 refine en Tryz.func22 Tryz.ntmps22 ?_
 have H:=((((St.start w).arg hweights).arg xm).arg qP).argAt hs
 have zt:=qU qP
 have vF:=qU xm
 have nhweights:=qU hweights
 clear hs qP xm hweights
 have N:=Fresh.nil w.heap.size
 have p2:=p1.len
 have p3:=p0.1.1
 have p4:=p0.1.2.1
 refine zcr (sp (.bool false) (zjcc (sp (.int .i64 0) (zjn (xg ?_)))))
 refine zH (fun m' ρ w1=>∃ (xU:Env) (c:Nat),ρ=upd (upd (upd xU 0 (.pointer (some ⟨bs,os,none⟩))) 1 (.slice aweights weights.length cweights)) 5 (.int .i64 c)∧((c:Int)≤weights.length)∧m' =(weights.length - (c:Int)).toNat∧Fresh w.heap.size []∧St w w1 [] [atF bs os [.int .i64 s.qQ,.slice qE s.qA.length qC,.slice qI s.qB.length qH],sF false qV qE qC s.qA,sF false xx qI qH s.qB,sF false Fweights aweights cweights weights]) ((weights.length - (0:Int)).toNat) ⟨_,0,uE3,qf,rfl,N,H⟩ ?_
 clear H N
 rintro m' ρ w2 ⟨xU,c,rfl,i0,rfl,N,H⟩
 have rw_:=fun h=>wt_in p1 (c:=c) h
 refine zcc (sps [.int .i64 c,.slice aweights weights.length cweights] (oN rfl (sp (.bool (decide ((c:Int) < weights.length))) (zjn (cD rfl (fun h3=>?_) (fun h3=>?_))))))
 ·skip
  refine xh (t_n (x8 (xg (x8 (x8 ?_)))))
  refine yf rfl H fun H=>rtp 0 (.slice aweights weights.length cweights) H ?_
  refine rtp 1 (.int .i64 c) H ?_
  obtain ⟨b5,o6,rfl⟩:=H.addr 3 rfl qf
  obtain ⟨ae8,ce8,Fe8,H⟩:=H.vV 3 rfl c c qf qf qf
  have S:=H.jm [] [2,3,4,5]
  refine tI 2 rfl rfl rfl S ?_
  refine rtp 5 (.pointer (some ⟨bs,os,none⟩)) S ?_
  refine rtp 6 (.pointer (some ⟨bs,os,none⟩)) S ?_
  refine tF 7 rfl rfl S ?_
  refine tL 8 rfl rfl (fun _ h=>h.zh 0 rfl 0 rfl) S ?_
  refine ro 3 rfl (xX (.slice ae8 ((weights[c]!).length) ce8) Tryz.isAgg24 rfl (H.zh 1 rfl 0 rfl) (⟨H.pick [] [2,3,4,5],?_⟩))
  have S:=H.jm [] [2,3,4,5]
  refine tN 4 rfl rfl S ?_
  refine rtp 9 (.bool (((weights[c]!).length:Int) != s.qQ)) S ?_
  refine xH qh (t_n (xI (((weights[c]!).length:Int) != s.qQ) rfl (fun h9=>?_) (fun h9=>?_)))
  ·skip
   replace h9:=bne_iff_ne.1 h9
   refine zcr (sp (.bool false) (zjr (t_r (zr5 (ret1 (.bool false) rfl rfl ⟨_,rfl,?_,H.base⟩)))))
   exfalso;first | omega | (have r1:=(rw_ qf).1;omega) | (have r1:=rk qf;omega)
  ·skip
   replace h9:=vW h9
   refine xh (t_n (zcr (sp (.int .i64 0) (zjn (xg ?_)))))
   refine zH (fun m' ρ w10=>∃ (xU:Env) (k:Nat),ρ=upd (upd (upd (upd xU 0 (.pointer (some ⟨bs,os,none⟩))) 1 (.slice (some ⟨b5,o6,none⟩) weights.length cweights)) 5 (.int .i64 c)) 6 (.int .i64 k)∧((k:Int)≤((weights[c]!).length))∧m' =(((weights[c]!).length) - (k:Int)).toNat∧Fresh w.heap.size []∧St w w10 [] [sF false Fe8 ae8 ce8 (weights[c]!),atF b5 (o6+(c:Int).toNat * 1) [.slice ae8 ((weights[c]!).length) ce8],atF bs os [.int .i64 s.qQ,.slice qE s.qA.length qC,.slice qI s.qB.length qH],sF false qV qE qC s.qA,sF false xx qI qH s.qB,sF false Fweights (some ⟨b5,o6,none⟩) cweights weights]) ((((weights[c]!).length) - (0:Int)).toNat) ⟨_,0,uE4,qf,rfl,N,H⟩ ?_
   clear H N
   rintro m' ρ w11 ⟨xU,k,rfl,i0,rfl,N,H⟩
   have rk:=(rw_ qf).2 k
   refine zcc (sps [.int .i64 k,.slice (some ⟨b5,o6,none⟩) weights.length cweights,.int .i64 c] (oI rfl rfl (oL rfl (H.zh 1 rfl 0 rfl) (oN rfl (sp (.bool (decide ((k:Int) < ((weights[c]!).length)))) (zjn (cD rfl (fun h12=>?_) (fun h12=>?_))))))))
   ·skip
    refine xh (t_n (x8 (xg (zcr (sps [.slice (some ⟨b5,o6,none⟩) weights.length cweights,.int .i64 c] (oI rfl rfl (oL rfl (H.zh 1 rfl 0 rfl) (sp (.int .i64 k) ?_))))))))
    obtain ⟨b13,o14,rfl⟩:=H.addr 0 rfl qf
    refine oI rfl rfl (oL rfl (H.ji 0 rfl k qf qf) (sw (oq (l00In_ok w11 ((weights[c]!)[k]!) (-1000) 1000) H fun w16 H=>sp (.bool (!(inR ((weights[c]!)[k]!) (-1000) 1000))) (zjn (xI (!(inR ((weights[c]!)[k]!) (-1000) 1000)) rfl (fun h18=>?_) (fun h18=>?_))))))
    ·skip
     replace h18:=xw h18
     replace h18:=Qy h18
     refine zcr (sp (.bool false) (zjr (b_r (t_r (t_r (b_r (zr5 (ret1 (.bool false) rfl rfl ⟨_,rfl,?_,H.base⟩))))))))
     exfalso;first | omega | (have r1:=(rw_ qf).1;omega) | (have r1:=rk qf;omega)
    ·skip
     replace h18:=xf h18
     replace h18:=yQ.1 h18
     refine xh (b_n (t_n (xZ (sp (.int .i64 k) (sw (zB k 1 rfl rfl qf (sp (.int .i64 (k+1)) (zi (xq (m' :=(((weights[c]!).length) - ((k+1):Int)).toNat) qf ⟨_,k+1,uE4,?_,rfl,N,H⟩)))))))))
     · omega
   ·skip
    refine c_exit (t_x (t_x (b_x (b_n (t_n (xZ (sp (.int .i64 c) (sw (zB c 1 rfl rfl qf (sp (.int .i64 (c+1)) (zi (xq (m' :=(weights.length - ((c+1):Int)).toNat) qf ⟨_,c+1,uE3,?_,rfl,N,H.pick [] [2,3,4,5]⟩))))))))))))
    · omega
 ·skip
  refine zx4 (zcr (sp (.slice aweights weights.length cweights) (oN rfl (sps [.pointer (some ⟨bs,os,none⟩),.pointer (some ⟨bs,os,none⟩)] (oF rfl (oL rfl (H.zh 0 rfl 1 rfl) (oN rfl (sw (zB s.qA.length 1 rfl rfl qf (sps [.bool ((weights.length:Int) == (s.qA.length+1)),.bool ((weights.length:Int) == (s.qA.length+1))] (zjr (ret1 (.bool ((weights.length:Int) == (s.qA.length+1))) rfl rfl ⟨_,rfl,?_,H.base⟩))))))))))))
  first | rfl | (refine congrArg Value.bool ?_;rw [beq_iff_eq];omega)

theorem specWeigh_ok (w:World) (s:qG) (t:qR) (weights:yLL) {qE:yOA} {qV:yLN} {qI:yOA} {xx:yLN} {xk:yOA} {zF:yLN} {xJ:yOA} {vM:yLN} {qY:yOA} {zf:yLN} {aweights:yOA} {Fweights:yLN} (qP:qW.rep w qV [.slice qE s.qA.length qC] s.qA) (xm:qW.rep w xx [.slice qI s.qB.length qH] s.qB) (zu:qW.rep w zF [.slice xk t.qJ.length xe] t.qJ) (zW:qW.rep w vM [.slice xJ t.qN.length xG] t.qN) (xY:qW.rep w zf [.slice qY t.qM.length qX] t.qM) (hweights:qW.rep w Fweights [.slice aweights weights.length cweights] weights) (p0:zX s∧xQ s t) (p1:WtOk s weights):Calls Tryz.prog 24 #[.agg #[.int .i64 s.qQ,.slice qE s.qA.length qC,.slice qI s.qB.length qH],.agg #[.slice xk t.qJ.length xe,.slice xJ t.qN.length xG,.slice qY t.qM.length qX],.slice aweights weights.length cweights] w (Ret (fun v w' =>v=.tuple #[.int .i64 (weight t weights),.int .i64 0]) w):=by
 refine en Tryz.func24 Tryz.ntmps24 ?_
 have H:=((((((St.start w).arg hweights).arg xY).arg zW).arg zu).arg xm).arg qP
 have zt:=qU qP
 have vF:=qU xm
 have Ql:=qU zu
 have Xq:=qU zW
 have yG:=qU xY
 have nhweights:=qU hweights
 clear qP xm zu zW xY hweights
 have N:=Fresh.nil w.heap.size
 have k1:=p0.1
 have k2:=p0.2
 have Z:=wtSt p0.1 p1 p0.2
 have z1:=Z.len
 have z2:=Z.few
 have z3:=Z.around
 have z4:=vT z3
 refine zcr (sw (vK H [.int .i64 s.qQ,.slice qE s.qA.length qC,.slice qI s.qB.length qH] fun b1 w2 H=>sw (vK H [.slice xk t.qJ.length xe,.slice xJ t.qN.length xG,.slice qY t.qM.length qX] fun b3 w4 H=>sps [.int .i64 0,.int .i64 0] (zjcc (sw (oq (l02Ok_ok _ s (qK (H.cells 1 rfl) 0 3) (H.get 0 rfl).1 (H.get 1 rfl).1) H fun w5 H=>sps [.bool (!(dec (zX s))),.bool (!(dec (zX s)))] ?_))))))
 cases h7:(!(dec (zX s)))
 ·skip
  replace h7:=xf h7
  replace h7:=jJ h7
  refine qO 12 rfl rfl (sw (oq (l02State_ok _ s t (qK (H.cells 1 rfl) 0 3) (H.get 0 rfl).1 (H.get 1 rfl).1 (qK (H.cells 0 rfl) 0 3) (H.get 2 rfl).1 (H.get 3 rfl).1 (H.get 4 rfl).1 (by first | assumption | exact (And.left (by assumption:zX _)))) H fun w8 H=>qO 12 rfl rfl (sps [.bool (!(dec (xQ s t))),.bool (!(dec (xQ s t)))] (zjn (xI (!(dec (xQ s t))) rfl (fun h=>absurd p0.2 (zo (xw h))) (fun h10=>?_))))))
  replace h10:=xf h10
  replace h10:=jJ h10
  refine xh (t_n (zcc (sp (.slice aweights weights.length cweights) (sw (oq (l02Weights_ok _ s weights (qK (H.cells 1 rfl) 0 3) (H.get 0 rfl).1 (H.get 1 rfl).1 (H.get 5 rfl).1 qg qg) H fun w12 H=>sp (.bool !true) (zjn (xI (!true) rfl (fun h14=>?_) (fun h14=>?_))))))))
  ·skip
   replace h14:=xw h14
   refine zcr (sps [.int .i64 0,.int .i64 2] (zjr (t_r (ret2 (.int .i64 0) (.int .i64 2) rfl rfl rfl ⟨_,rfl,?_,H.base⟩))))
   first | rfl | (rw [weight,show t.qN.length=c by omega]) | (exfalso;contradiction)
  ·skip
   replace h14:=xf h14
   refine xh (t_n (x8 ?_))
   refine yf rfl H fun H=>tF 0 rfl rfl H ?_
   refine tL 1 rfl rfl (fun _ h=>h.cell 0 rfl rfl) H ?_
   refine rtp 2 (.slice aweights weights.length cweights) H ?_
   refine tF 3 rfl rfl H ?_
   refine tL 4 rfl rfl (fun _ h=>h.cell 0 rfl rfl) H ?_
   refine tN 5 rfl rfl H ?_
   obtain ⟨b16,o17,rfl⟩:=H.addr 5 rfl qf
   obtain ⟨ae19,ce19,Fe19,H⟩:=H.vV 5 rfl t.qN.length t.qN.length qf qf qf
   refine tI 6 rfl rfl rfl (H.pick [0,1] [2,3,4,5,6,7]) ?_
   refine ro 7 rfl (xX (.slice ae19 ((weights[t.qN.length]!).length) ce19) Tryz.isAgg24 rfl (H.zh 1 rfl 0 rfl) (⟨H.pick [0,1] [2,3,4,5,6,7],(ro 8 rfl (oq (yR _ t.qM (weights[t.qN.length]!) (H.get 6 rfl).1 (H.get 0 rfl).1 (by first | assumption | exact hz qf | exact (gi qf).2 | exact G.out _ qf)) H fun w21 H=>⟨H.pick [0,1] [2,3,4,5,6,7],(rtp 9 (.int .i64 (jS t.qM (weights[t.qN.length]!))) (H.pick [0,1] [2,3,4,5,6,7]) ?_)⟩))⟩))
   refine xH qh (t_n (zcc (sp (.int .i64 0) (zjn (xg ?_)))))
   refine zH (fun m' ρ w23=>∃ (xU:Env) (sum:Int) (c:Nat),ρ=upd (upd (upd (upd xU 2 (.slice (some ⟨b16,o17,none⟩) weights.length cweights)) 4 (.pointer (some ⟨b3,0,none⟩))) 8 (.int .i64 sum)) 9 (.int .i64 c)∧sum=(wtTo t weights c)∧((c:Int)≤t.qN.length)∧m' =(t.qN.length - (c:Int)).toNat∧Fresh w.heap.size []∧St w w23 [.box b3 [.slice xk t.qJ.length xe,.slice xJ t.qN.length xG,.slice qY t.qM.length qX] 31,.box b1 [.int .i64 s.qQ,.slice qE s.qA.length qC,.slice qI s.qB.length qH] 27] [sF false Fe19 ae19 ce19 (weights[t.qN.length]!),atF b16 (o17+(t.qN.length:Int).toNat * 1) [.slice ae19 ((weights[t.qN.length]!).length) ce19],sF false qV qE qC s.qA,sF false xx qI qH s.qB,sF false zF xk xe t.qJ,sF false vM xJ xG t.qN,sF false zf qY qX t.qM,sF false Fweights (some ⟨b16,o17,none⟩) cweights weights]) ((t.qN.length - (0:Int)).toNat) ⟨_,(jS t.qM (weights[t.qN.length]!)),0,uE4,(by exact wt_0 t weights),qf,rfl,N,H⟩ ?_
   clear H N
   rintro m' ρ w24 ⟨xU,sum,c,rfl,rfl,i0,rfl,N,H⟩
   have hb:=Z.bd c
   have hd:=fun h=>vT (Z.bags c h)
   have hz:=Z.bags c
   refine zcc (sp (.int .i64 c) (oF rfl (oL rfl (H.cell 0 rfl rfl) (oN rfl (sp (.bool (decide ((c:Int) < t.qN.length))) (zjn (cD rfl (fun h25=>?_) (fun h25=>?_))))))))
   ·skip
    refine xh (t_n (x8 (xg ?_)))
    obtain ⟨b26,o27,rfl⟩:=H.addr 5 rfl qf
    refine c_cut (fun ρ w35=>∃ (xU:Env) (F29:yLN) (a30:yOA) (c31:Nat) (F32:yLN) (a33:yOA) (c34:Nat),ρ=upd (upd (upd (upd xU 2 (.slice (some ⟨b16,o17,none⟩) weights.length cweights)) 4 (.pointer (some ⟨b3,0,none⟩))) 8 (.int .i64 ((wtTo t weights c)+(jS (t.qN[c]!) (weights[c]!))))) 9 (.int .i64 c)∧Fresh w.heap.size []∧St w w35 [.box b3 [.slice xk t.qJ.length xe,.slice (some ⟨b26,o27,none⟩) t.qN.length xG,.slice qY t.qM.length qX] 31,.box b1 [.int .i64 s.qQ,.slice qE s.qA.length qC,.slice qI s.qB.length qH] 27] [sF false F29 a30 c31 (weights[c]!),atF b16 (o17+(c:Int).toNat * 1) [.slice a30 ((weights[c]!).length) c31],sF false F32 a33 c34 (t.qN[c]!),atF b26 (o27+(c:Int).toNat * 1) [.slice a33 ((t.qN[c]!).length) c34],sF false Fe19 ae19 ce19 (weights[t.qN.length]!),atF b16 (o17+(t.qN.length:Int).toNat * 1) [.slice ae19 ((weights[t.qN.length]!).length) ce19],sF false qV qE qC s.qA,sF false xx qI qH s.qB,sF false zF xk xe t.qJ,sF false vM (some ⟨b26,o27,none⟩) xG t.qN,sF false zf qY qX t.qM,sF false Fweights (some ⟨b16,o17,none⟩) cweights weights]) ?_ ?_
    ·skip
     refine yf rfl H fun H=>rtp 0 (.int .i64 (wtTo t weights c)) H ?_
     refine tF 1 rfl rfl H ?_
     refine tL 2 rfl rfl (fun _ h=>h.cell 0 rfl rfl) H ?_
     refine rtp 3 (.int .i64 c) H ?_
     obtain ⟨ae37,ce37,Fe37,H⟩:=H.vV 5 rfl c c qf qf qf
     have S:=H.jm [0,1] [2,3,4,5,6,7,8,9]
     refine tI 4 rfl rfl rfl S ?_
     refine rtp 6 (.slice (some ⟨b16,o17,none⟩) weights.length cweights) S ?_
     refine rtp 7 (.int .i64 c) S ?_
     obtain ⟨ae38,ce38,Fe38,H⟩:=H.vV 9 rfl c c qf qf qf
     refine tI 8 rfl rfl rfl (H.pick [0,1] [4,5,6,7,8,9,10,11]) ?_
     refine jd [5,9] qh qm (jI rfl ?_ (jI rfl ?_ je))
     ·skip
      refine xX (.slice ae37 ((t.qN[c]!).length) ce37) Tryz.isAgg24 rfl (H.zh 3 rfl 0 rfl) (⟨H.pick [0,1] [4,5,6,7,8,9,10,11],(ro 9 rfl (xX (.slice ae38 ((weights[c]!).length) ce38) Tryz.isAgg24 rfl (H.zh 1 rfl 0 rfl) (⟨H.pick [0,1] [4,5,6,7,8,9,10,11],(ro 10 rfl (oq (yR _ (t.qN[c]!) (weights[c]!) (H.get 2 rfl).1 (H.get 0 rfl).1 (by first | assumption | exact hz qf | exact (gi qf).2 | exact G.out _ qf)) H fun w40 H=>⟨H.pick [0,1] [4,5,6,7,8,9,10,11],?_⟩))⟩)))⟩)
      have S:=H.jm [0,1] [4,5,6,7,8,9,10,11]
      refine rt 11 (.int .i64 ((wtTo t weights c)+(jS (t.qN[c]!) (weights[c]!)))) (y_add (wtTo t weights c) (jS (t.qN[c]!) (weights[c]!)) rfl rfl (by (first | omega | (have h8:=hb qf;have h9:=hd qf;omega)))) S ?_
      refine rtp 12 (.int .i64 ((wtTo t weights c)+(jS (t.qN[c]!) (weights[c]!)))) S ?_
      refine xH qh ((meet ⟨_,Fe38,ae38,ce38,Fe37,ae37,ce37,uE4,N,H⟩))
     ·skip
      refine xX (.slice ae38 ((weights[c]!).length) ce38) Tryz.isAgg24 rfl (H.zh 1 rfl 0 rfl) (⟨H.pick [0,1] [4,5,6,7,8,9,10,11],(ro 5 rfl (xX (.slice ae37 ((t.qN[c]!).length) ce37) Tryz.isAgg24 rfl (H.zh 3 rfl 0 rfl) (⟨H.pick [0,1] [4,5,6,7,8,9,10,11],(ro 10 rfl (oq (yR _ (t.qN[c]!) (weights[c]!) (H.get 2 rfl).1 (H.get 0 rfl).1 (by first | assumption | exact hz qf | exact (gi qf).2 | exact G.out _ qf)) H fun w43 H=>⟨H.pick [0,1] [4,5,6,7,8,9,10,11],?_⟩))⟩)))⟩)
      have S:=H.jm [0,1] [4,5,6,7,8,9,10,11]
      refine rt 11 (.int .i64 ((wtTo t weights c)+(jS (t.qN[c]!) (weights[c]!)))) (y_add (wtTo t weights c) (jS (t.qN[c]!) (weights[c]!)) rfl rfl (by (first | omega | (have h8:=hb qf;have h9:=hd qf;omega)))) S ?_
      refine rtp 12 (.int .i64 ((wtTo t weights c)+(jS (t.qN[c]!) (weights[c]!)))) S ?_
      refine xH qh ((meet ⟨_,Fe38,ae38,ce38,Fe37,ae37,ce37,uE4,N,H⟩))
    ·skip
     clear H N
     rintro ρ w45 ⟨xU,F29,a30,c31,F32,a33,c34,rfl,N,H⟩
     refine b_n (t_n (xZ (sp (.int .i64 c) (sw (zB c 1 rfl rfl (by (first | omega | (have h8:=hb qf;have h9:=hd qf;omega))) (sp (.int .i64 (c+1)) (zi (xq (m' :=(t.qN.length - ((c+1):Int)).toNat) qf ⟨_,(wtTo t weights c)+(jS (t.qN[c]!) (weights[c]!)),c+1,uE4,?_,?_,rfl,N,H.pick [0,1] [4,5,6,7,8,9,10,11]⟩))))))))
     · exact wt_succ t weights c
     · omega
   ·skip
    refine zx4 (zcr (sps [.int .i64 (wtTo t weights c),.int .i64 (wtTo t weights c),.int .i64 0] (zjr (ret2 (.int .i64 (wtTo t weights c)) (.int .i64 0) rfl rfl rfl ⟨_,rfl,?_,H.base⟩))))
    first | rfl | (rw [weight,show t.qN.length=c by omega]) | (exfalso;contradiction)
 · exact absurd p0.1 (zo (xw h7))

theorem l04Melts_ok (w:World) (s:qG) (c:Int) {qE:yOA} {qV:yLN} {qI:yOA} {xx:yLN} (hs:jy w bs os [.int .i64 s.qQ,.slice qE s.qA.length qC,.slice qI s.qB.length qH]) (qP:qW.rep w qV [.slice qE s.qA.length qC] s.qA) (xm:qW.rep w xx [.slice qI s.qB.length qH] s.qB):Calls Tryz.prog 48 #[.pointer (some ⟨bs,os,none⟩),.int .i64 c] w (Ret (fun v w' =>v=.bool (dec (jT s c))) w):=by
 refine en Tryz.func48 Tryz.ntmps48 ?_
 have H:=(((St.start w).arg xm).arg qP).argAt hs
 have zt:=qU qP
 have vF:=qU xm
 clear hs qP xm
 have N:=Fresh.nil w.heap.size
 refine zcr (sp (.bool false) (zjcc (sp (.int .i64 0) (zjn (xg ?_)))))
 refine zH (fun m' ρ w1=>∃ (xU:Env) (i:Nat),ρ=upd (upd (upd xU 0 (.pointer (some ⟨bs,os,none⟩))) 1 (.int .i64 c)) 5 (.int .i64 i)∧((i:Int)≤s.qB.length)∧(∀ j,j < i→¬ ((s.qB[j]!).xR=true∧(s.qB[j]!).qF=c))∧m' =(s.qB.length - (i:Int)).toNat∧Fresh w.heap.size []∧St w w1 [] [atF bs os [.int .i64 s.qQ,.slice qE s.qA.length qC,.slice qI s.qB.length qH],sF false qV qE qC s.qA,sF false xx qI qH s.qB]) ((s.qB.length - (0:Int)).toNat) ⟨_,0,uE3,qf,qx,rfl,N,H⟩ ?_
 clear H N
 rintro m' ρ w2 ⟨xU,i,rfl,i0,i1,rfl,N,H⟩
 refine zcc (sps [.int .i64 i,.pointer (some ⟨bs,os,none⟩),.pointer (some ⟨bs,os,none⟩)] (oF rfl (oL rfl (H.zh 0 rfl 2 rfl) (oN rfl (sp (.bool (decide ((i:Int) < s.qB.length))) (zjn (cD rfl (fun h3=>?_) (fun h3=>?_))))))))
 ·skip
  refine xh (t_n (x8 (xg (zcr (sps [.pointer (some ⟨bs,os,none⟩),.pointer (some ⟨bs,os,none⟩)] (oF rfl (oL rfl (H.zh 0 rfl 2 rfl) (sp (.int .i64 i) ?_))))))))
  obtain ⟨b4,o5,rfl⟩:=H.addr 2 rfl qf
  obtain ⟨ae7Need,ce7Need,Fe7Need,ae7Have,ce7Have,Fe7Have,ae7Lack,ce7Lack,Fe7Lack,ae7Here,ce7Here,Fe7Here,ae7Out,ce7Out,Fe7Out,ae7Into,ce7Into,Fe7Into,H⟩:=H.Qv 2 rfl i i qf qf qf
  refine oI rfl rfl (oF rfl (oL rfl (H.zh 6 rfl 0 rfl) (sps [.int .i64 c,.bool (((s.qB[i]!).qF:Int) == c),.bool (((s.qB[i]!).qF:Int) == c)] ?_)))
  cases h8:(((s.qB[i]!).qF:Int) == c)
  ·skip
   replace h8:=ne_of_beq_false h8
   refine xO [26,27,28,29,30,31,32,33] (sp (.bool false) (zjn (xI false rfl (fun h=>absurd h qj) (fun _=>xh (b_n (t_n (xZ (sp (.int .i64 i) (sw (zB i 1 rfl rfl qf (sp (.int .i64 (i+1)) (zi (xq (m' :=(s.qB.length - ((i+1):Int)).toNat) qf ⟨_,i+1,uE3,?_,?_,rfl,N,H.pick [] [7,8,9]⟩)))))))))))))
   · omega
   · first | exact jP i1 (fun h=>‹¬ _› h.2) | exact jP i1 (fun h=>Bool.noConfusion (‹(s.qB[i]!).xR=false›.symm.trans h.1)) | exact jP i1 (fun h=>by simp_all)
  ·skip
   replace h8:=eq_of_beq h8
   refine qO 25 rfl rfl (sp (.pointer (some ⟨bs,os,none⟩)) (qO 25 rfl rfl (sp (.pointer (some ⟨bs,os,none⟩)) (qO 25 rfl rfl (oF rfl (qO 25 rfl rfl (oL rfl (H.zh 7 rfl 2 rfl) (qO 25 rfl rfl (sp (.int .i64 i) (qO 25 rfl rfl (oI rfl rfl (qO 25 rfl rfl (oF rfl (qO 25 rfl rfl (oL rfl (H.zh 6 rfl 8 rfl) (sp (.bool ((s.qB[i]!).xR)) (zjn (xI ((s.qB[i]!).xR) rfl (fun h9=>?_) (fun h9=>?_)))))))))))))))))))
   ·skip
    refine zcr (sp (.bool true) (zjr (zr5 (ret1 (.bool true) rfl rfl ⟨_,rfl,?_,H.base⟩))))
    rw [jL (show jT s c from ⟨i,by omega,by assumption,by assumption⟩)]
   ·skip
    refine xh (b_n (t_n (xZ (sp (.int .i64 i) (sw (zB i 1 rfl rfl qf (sp (.int .i64 (i+1)) (zi (xq (m' :=(s.qB.length - ((i+1):Int)).toNat) qf ⟨_,i+1,uE3,?_,?_,rfl,N,H.pick [] [7,8,9]⟩)))))))))
    · omega
    · first | exact jP i1 (fun h=>‹¬ _› h.2) | exact jP i1 (fun h=>Bool.noConfusion (‹(s.qB[i]!).xR=false›.symm.trans h.1)) | exact jP i1 (fun h=>by simp_all)
 ·skip
  refine zx4 (zcr (sp (.bool false) (zjr (ret1 (.bool false) rfl rfl ⟨_,rfl,?_,H.base⟩))))
  rw [qZ (fun h=>by obtain ⟨j,h1,h2⟩:=h;exact i1 j qf h2)]

theorem l00Put_ok (w:World) (l:yLI) (n:Int) {al:yOA} {cl:Nat} {Fl:yLN} (hl:qW.rep w Fl [.slice al l.length cl] l) (p0:l.length≤1000000):Calls Tryz.prog 81 #[.slice al l.length cl,.int .i64 n] w (Ret (fun v w' =>∃ (ra:yOA) (rn:Nat) (rc:Nat),v=.slice ra rn rc∧Fresh w.heap.size []∧St w w' [rr ra rn rc 2 1 ((putL n l).map (Value.int .i64))] []) w):=by
 refine en Tryz.func81 Tryz.ntmps81 ?_
 have H:=(St.start w).arg hl
 have nhl:=qU hl
 clear hl
 have N:=Fresh.nil w.heap.size
 refine zcr (sp (.slice none 0 0) (zjc (sw (yJ H Tryz.underlying24 ti2 fun b1 w2 H=>sp (.slice (some ⟨b1,0,none⟩) 0 0) (zjc (sp (.bool false) (zjcc (sp (.int .i64 0) (zjn (xg ?_))))))))))
 replace H:=H.boxRowI 0 [] 0
 refine zH (fun m' ρ w3=>∃ (xU:Env) (vZ:yOA) (zG:Nat) (vX:Nat) (out:yLI) (done:Bool) (i:Nat),ρ=upd (upd (upd (upd (upd xU 0 (.slice al l.length cl)) 1 (.int .i64 n)) 5 (.slice vZ zG vX)) 6 (.bool done)) 7 (.int .i64 i)∧((i:Int)≤l.length)∧(PutTo n l out done i)∧m' =(l.length - (i:Int)).toNat∧Fresh w.heap.size []∧St w w3 [rr vZ zG vX 2 1 (out.map (Value.int .i64))] [sF false Fl al cl l]) ((l.length - (0:Int)).toNat) ⟨_,(some ⟨b1,0,none⟩),0,0,([]:yLI),false,0,uE5,qf,(by exact PutTo.zero n l),rfl,N,H⟩ ?_
 clear H N
 rintro m' ρ w4 ⟨xU,vZ,zG,vX,out,done,i,rfl,i0,i1,rfl,N,H⟩
 have hn_out:=H.jb 0 rfl
 have ob:=i1.bd
 refine zcc (sps [.int .i64 i,.slice al l.length cl] (oN rfl (sp (.bool (decide ((i:Int) < l.length))) (zjn (cD rfl (fun h5=>?_) (fun h5=>?_))))))
 ·skip
  refine xh (t_n (x8 (xg (zcc (sps [.bool done,.bool !done,.bool !done] ?_)))))
  cases h6:(!done)
  ·skip
   replace h6:=xf h6
   refine xO [18,19,20,21,22,23] (sp (.bool false) (zjn (xI false rfl (fun h=>absurd h qj) (fun _=>xh (t_n (xZ (sps [.slice vZ zG vX,.slice al l.length cl,.int .i64 i] ?_)))))))
   obtain ⟨b7,o8,rfl⟩:=H.addr 0 rfl qf
   refine oI rfl rfl (oL rfl (H.ji 0 rfl i qf qf) (sw (zA H Tryz.underlying24 ti2 [.int .i64 (l[i]!)] fun b10 w11 H=>sw (zL H 1 rfl 0 rfl Tryz.underlying24 ti2 rfl qj rfl rfl rfl qw qp qf fun a12 c13 w14 H=>?_))))
   rw [snocI] at H
   refine sp (.slice a12 (zG+1) c13) (zi (b_n (t_n (xZ (sp (.int .i64 i) (sw (zB i 1 rfl rfl qf (sp (.int .i64 (i+1)) (zi (xq (m' :=(l.length - ((i+1):Int)).toNat) qf ⟨_,a12,zG+1,c13,(out++[l[i]!]),done,i+1,uE5,?_,?_,rfl,N,H.pick [1] [0]⟩))))))))))
   · omega
   · first | exact i1.on ql qf | exact i1.less ql qf ql | exact i1.same ql qf ql ql | exact i1.more ql qf ql
  ·skip
   replace h6:=xw h6
   refine qO 17 rfl rfl (sp (.slice al l.length cl) (qO 17 rfl rfl (sp (.int .i64 i) (qO 17 rfl rfl ?_))))
   obtain ⟨b15,o16,rfl⟩:=H.addr 0 rfl qf
   refine oI rfl rfl (qO 17 rfl rfl (oL rfl (H.ji 0 rfl i qf qf) (qO 17 rfl rfl (sp (.int .i64 n) (qO 17 rfl rfl (sps [.bool (decide ((l[i]! :Int)≥n)),.bool (decide ((l[i]! :Int)≥n))] (zjn (cD rfl (fun h18=>?_) (fun h18=>?_)))))))))
   ·skip
    refine zcr (sp (.bool true) (zjc (sps [.slice (some ⟨b15,o16,none⟩) l.length cl,.int .i64 i] (oI rfl rfl (oL rfl (H.ji 0 rfl i qf qf) (sps [.int .i64 n,.bool (decide ((l[i]! :Int) > n))] (zjn (cD rfl (fun h19=>?_) (fun h19=>?_)))))))))
    ·skip
     refine xZ (sps [.slice vZ zG vX,.int .i64 n] (sw (zA H Tryz.underlying24 ti2 [.int .i64 n] fun b20 w21 H=>sw (zL H 1 rfl 0 rfl Tryz.underlying24 ti2 rfl qj rfl rfl rfl qw qp qf fun a22 c23 w24 H=>?_))))
     rw [snocI] at H
     refine sp (.slice a22 (zG+1) c23) (zjn (xZ (sps [.slice a22 (zG+1) c23,.slice (some ⟨b15,o16,none⟩) l.length cl,.int .i64 i] (oI rfl rfl (oL rfl (H.ji 0 rfl i qf qf) (sw (zA H Tryz.underlying24 ti2 [.int .i64 (l[i]!)] fun b25 w26 H=>sw (zL H 2 rfl 0 rfl Tryz.underlying24 ti2 rfl qj rfl rfl rfl qw qp qf fun a27 c28 w29 H=>?_))))))))
     rw [snocI] at H
     refine sp (.slice a27 ((zG+1)+1) c28) (zi (b_n (t_n (xZ (sp (.int .i64 i) (sw (zB i 1 rfl rfl qf (sp (.int .i64 (i+1)) (zi (xq (m' :=(l.length - ((i+1):Int)).toNat) qf ⟨_,a27,(zG+1)+1,c28,((out++[n])++[l[i]!]),true,i+1,uE5,?_,?_,rfl,N,H.pick [2] [0]⟩))))))))))
     · omega
     · first | exact i1.on ql qf | exact i1.less ql qf ql | exact i1.same ql qf ql ql | exact i1.more ql qf ql
    ·skip
     refine xh (t_n (xZ (sps [.slice vZ zG vX,.slice (some ⟨b15,o16,none⟩) l.length cl,.int .i64 i] (oI rfl rfl (oL rfl (H.ji 0 rfl i qf qf) (sw (zA H Tryz.underlying24 ti2 [.int .i64 (l[i]!)] fun b30 w31 H=>sw (zL H 1 rfl 0 rfl Tryz.underlying24 ti2 rfl qj rfl rfl rfl qw qp qf fun a32 c33 w34 H=>?_))))))))
     rw [snocI] at H
     refine sp (.slice a32 (zG+1) c33) (zi (b_n (t_n (xZ (sp (.int .i64 i) (sw (zB i 1 rfl rfl qf (sp (.int .i64 (i+1)) (zi (xq (m' :=(l.length - ((i+1):Int)).toNat) qf ⟨_,a32,zG+1,c33,(out++[l[i]!]),true,i+1,uE5,?_,?_,rfl,N,H.pick [1] [0]⟩))))))))))
     · omega
     · first | exact i1.on ql qf | exact i1.less ql qf ql | exact i1.same ql qf ql ql | exact i1.more ql qf ql
   ·skip
    refine xh (t_n (xZ (sps [.slice vZ zG vX,.slice (some ⟨b15,o16,none⟩) l.length cl,.int .i64 i] (oI rfl rfl (oL rfl (H.ji 0 rfl i qf qf) (sw (zA H Tryz.underlying24 ti2 [.int .i64 (l[i]!)] fun b35 w36 H=>sw (zL H 1 rfl 0 rfl Tryz.underlying24 ti2 rfl qj rfl rfl rfl qw qp qf fun a37 c38 w39 H=>?_))))))))
    rw [snocI] at H
    refine sp (.slice a37 (zG+1) c38) (zi (b_n (t_n (xZ (sp (.int .i64 i) (sw (zB i 1 rfl rfl qf (sp (.int .i64 (i+1)) (zi (xq (m' :=(l.length - ((i+1):Int)).toNat) qf ⟨_,a37,zG+1,c38,(out++[l[i]!]),done,i+1,uE5,?_,?_,rfl,N,H.pick [1] [0]⟩))))))))))
    · omega
    · first | exact i1.on ql qf | exact i1.less ql qf ql | exact i1.same ql qf ql ql | exact i1.more ql qf ql
 ·skip
  refine zx4 (zcc (sps [.bool done,.bool !done] (zjn (xI (!done) rfl (fun h40=>?_) (fun h40=>?_)))))
  ·skip
   replace h40:=xw h40
   refine xZ (sps [.slice vZ zG vX,.int .i64 n] (sw (zA H Tryz.underlying24 ti2 [.int .i64 n] fun b41 w42 H=>sw (zL H 1 rfl 0 rfl Tryz.underlying24 ti2 rfl qj rfl rfl rfl qw qp qf fun a43 c44 w45 H=>?_))))
   rw [snocI] at H
   refine sp (.slice a43 (zG+1) c44) (zjc (sps [.slice a43 (zG+1) c44,.slice a43 (zG+1) c44] (zjr (ret1 (.slice a43 (zG+1) c44) rfl rfl ⟨_,rfl,?_,H.base⟩))))
   first | rw [← i1.yes ql qf] | rw [← i1.no ql qf]
   exact ⟨a43,zG+1,c44,rfl,N,H.pick [1] []⟩
  ·skip
   replace h40:=xf h40
   refine xh (t_n (zcr (sps [.slice vZ zG vX,.slice vZ zG vX] (zjr (ret1 (.slice vZ zG vX) rfl rfl ⟨_,rfl,?_,H.base⟩)))))
   first | rw [← i1.yes ql qf] | rw [← i1.no ql qf]
   exact ⟨vZ,zG,vX,rfl,N,H.pick [0] []⟩

theorem l04Parents_ok (w:World) (s:qG) (c:Int) {qE:yOA} {qV:yLN} {qI:yOA} {xx:yLN} (hs:jy w bs os [.int .i64 s.qQ,.slice qE s.qA.length qC,.slice qI s.qB.length qH]) (qP:qW.rep w qV [.slice qE s.qA.length qC] s.qA) (xm:qW.rep w xx [.slice qI s.qB.length qH] s.qB) (p0:zN s) (p1:y8 s c):Calls Tryz.prog 47 #[.pointer (some ⟨bs,os,none⟩),.int .i64 c] w (Ret (fun v w' =>∃ (ra:yOA) (rn:Nat) (rc:Nat),v=.slice ra rn rc∧Fresh w.heap.size []∧St w w' [rr ra rn rc 2 1 ((parS s c).map (Value.int .i64))] []) w):=by
 refine en Tryz.func47 Tryz.ntmps47 ?_
 have H:=(((St.start w).arg xm).arg qP).argAt hs
 have zt:=qU qP
 have vF:=qU xm
 clear hs qP xm
 have N:=Fresh.nil w.heap.size
 have p3:=p0.step p1.1 p1.2
 have p4:=p0.2.1
 have p5:=p1.1
 have p6:=p1.2
 have p7:=fun h=>p0.up (c:=c) h p6
 have p8:=putL_len (s.qA[c.toNat]!) []
 rw [List.length_nil] at p8
 refine zcr (sp (.slice none 0 0) (zjc (sw (yJ H Tryz.underlying24 ti2 fun b1 w2 H=>sp (.slice (some ⟨b1,0,none⟩) 0 0) (zjcc (sps [.int .i64 c,.bool ((c:Int) == 0)] (zjn (cE rfl (fun h3=>?_) (fun h3=>?_)))))))))
 ·skip
  refine zcr (sps [.slice (some ⟨b1,0,none⟩) 0 0,.slice (some ⟨b1,0,none⟩) 0 0] (zjr (t_r ?_)))
  replace H:=H.boxRowI 0 [] 0
  refine ret1 (.slice (some ⟨b1,0,none⟩) 0 0) rfl rfl ⟨_,rfl,?_,H.base⟩
  first | rw [parS_z ql] | rw [i3,parGo_end (fun h=>by first | omega | exact absurd h.2 ql)]
  exact ⟨(some ⟨b1,0,none⟩),0,0,rfl,N,H.pick [0] []⟩
 ·skip
  refine xh (t_n (zcr (sps [.pointer (some ⟨bs,os,none⟩),.pointer (some ⟨bs,os,none⟩)] (oF rfl (oL rfl (H.zh 0 rfl 1 rfl) (sp (.int .i64 c) ?_))))))
  obtain ⟨b4,o5,rfl⟩:=H.addr 1 rfl qf
  refine oI rfl rfl (oL rfl (H.ji 1 rfl c qf qf) (sp (.int .i64 (s.qA[c.toNat]!)) (zjc (sps [.slice (some ⟨b1,0,none⟩) 0 0,.int .i64 (s.qA[c.toNat]!)] ?_))))
  replace H:=H.boxRowI 0 [] 0
  obtain ⟨G7,hn8,h9⟩:=H.Qs 0 rfl
  have sz13:=H.base.size
  refine sw (oc (args_eq (by rw [← hn8]) (l00Put_ok _ ([]:yLI) (s.qA[c.toNat]!) (hn8▸h9) qg)) ?_)
  rintro _ w11 ⟨ra10,rn10,rc10,rfl,M,K⟩ _
  replace H:=H.merge K M
  obtain rfl:=H.jb 0 rfl
  refine sp (.slice ra10 ((putL (s.qA[c.toNat]!) ([]:yLI)).length) rc10) (zjn (x8 (xg ?_)))
  refine zH (fun m' ρ w16=>∃ (xU:Env) (vZ:yOA) (zG:Nat) (vX:Nat) (out:yLI) (p:Int) (n:Nat),ρ=upd (upd (upd xU 0 (.pointer (some ⟨bs,os,none⟩))) 5 (.slice vZ zG vX)) 6 (.int .i64 p)∧(0≤p∧p≤(s.qA.length:Int) - 1)∧(p < n)∧((out.length:Int)+p≤(s.qA.length:Int))∧(parS s c=parGo s n p out)∧m' =(p+1).toNat∧Fresh w.heap.size []∧St w w16 [rr vZ zG vX 2 1 (out.map (Value.int .i64)),rr (some ⟨b1,0,none⟩) 0 0 2 1 (([]:yLI).map (Value.int .i64))] [atF bs os [.int .i64 s.qQ,.slice (some ⟨b4,o5,none⟩) s.qA.length qC,.slice qI s.qB.length qH],sF false qV (some ⟨b4,o5,none⟩) qC s.qA,sF false xx qI qH s.qB]) (((s.qA[c.toNat]!)+1).toNat) ⟨_,ra10,(putL (s.qA[c.toNat]!) ([]:yLI)).length,rc10,putL (s.qA[c.toNat]!) ([]:yLI),s.qA[c.toNat]!,s.qA.length,uE3,(by have:=p7 qf;omega),(by have:=p7 qf;omega),(by have:=p7 qf;omega),(by exact parS_1 qf),rfl,N,H⟩ ?_
  clear H N
  rintro m' ρ w17 ⟨xU,vZ,zG,vX,out,p,n,rfl,i0,i1,i2,i3,rfl,N,H⟩
  have hn_out:=H.jb 0 rfl
  have up:=fun h=>p0.up (c:=p) h i0.2
  refine zcc (sps [.int .i64 p,.bool (decide ((p:Int) > 0)),.bool (decide ((p:Int) > 0))] ?_)
  cases h18:(decide ((p:Int) > 0))
  ·skip
   replace h18:=of_decide_eq_false h18
   refine xO [24,25,26] (sp (.bool false) (zjn (xI false rfl (fun h=>absurd h qj) (fun _=>zx4 (zcr (sps [.slice vZ zG vX,.slice vZ zG vX] (zjr (ret1 (.slice vZ zG vX) rfl rfl ⟨_,rfl,?_,H.base⟩))))))))
   first | rw [parS_z ql] | rw [i3,parGo_end (fun h=>by first | omega | exact absurd h.2 ql)]
   exact ⟨vZ,zG,vX,rfl,N,H.pick [0] []⟩
  ·skip
   replace h18:=of_decide_eq_true h18
   refine qO 23 rfl rfl (sp (.pointer (some ⟨bs,os,none⟩)) (qO 23 rfl rfl (sp (.int .i64 p) (qO 23 rfl rfl (sw (oq (l04Melts_ok _ s p (qK (H.get 0 rfl) 0 3) (H.get 1 rfl).1 (H.get 2 rfl).1) H fun w20 H=>sp (.bool (dec (jT s p))) (zjn (cP rfl (fun h22=>?_) (fun h22=>?_)))))))))
   ·skip
    refine xh (t_n (xg (zcr (sps [.pointer (some ⟨bs,os,none⟩),.pointer (some ⟨bs,os,none⟩)] (oF rfl (oL rfl (H.zh 0 rfl 1 rfl) (sp (.int .i64 p) (oI rfl rfl (oL rfl (H.ji 1 rfl p qf qf) (sp (.int .i64 (s.qA[p.toNat]!)) (zjn (xZ (sps [.slice vZ zG vX,.int .i64 (s.qA[p.toNat]!)] ?_)))))))))))))
    obtain ⟨G23,hn24,h25⟩:=H.Qs 0 rfl
    have sz29:=H.base.size
    refine sw (oc (args_eq (by rw [← hn24]) (l00Put_ok _ out (s.qA[p.toNat]!) (hn24▸h25) qg)) ?_)
    rintro _ w27 ⟨ra26,rn26,rc26,rfl,M,K⟩ _
    replace H:=H.merge K M
    obtain rfl:=H.jb 0 rfl
    refine sp (.slice ra26 ((putL (s.qA[p.toNat]!) out).length) rc26) (zi (b_n ?_))
    have up1:=up qf
    refine xq (m' :=((s.qA[p.toNat]!)+1).toNat) qf ⟨_,ra26,(putL (s.qA[p.toNat]!) out).length,rc26,putL (s.qA[p.toNat]!) out,s.qA[p.toNat]!,n - 1,uE3,?_,?_,?_,?_,rfl,N,H.pick [0,2] [0,1,2]⟩
    · omega
    · omega
    · have:=putL_len (s.qA[p.toNat]!) out;omega
    · exact i3.trans (parGo_go qf qf ql)
   ·skip
    refine zx4 (zcr (sps [.slice vZ zG vX,.slice vZ zG vX] (zjr (ret1 (.slice vZ zG vX) rfl rfl ⟨_,rfl,?_,H.base⟩))))
    first | rw [parS_z ql] | rw [i3,parGo_end (fun h=>by first | omega | exact absurd h.2 ql)]
    exact ⟨vZ,zG,vX,rfl,N,H.pick [0] []⟩

theorem l04Gains_ok (w:World) (s:qG) (r:zK) (weights:yLL) {qE:yOA} {qV:yLN} {qI:yOA} {xx:yLN} {br or:Nat} {vk:yOA} {yL:yLN} {vC:yOA} {yP:yLN} {vw:yOA} {yM:yLN} {vz:yOA} {yO:yLN} {jO:yOA} {Xz:yLN} {zV:yOA} {Qh:yLN} {aweights:yOA} {Fweights:yLN} (hs:jy w bs os [.int .i64 s.qQ,.slice qE s.qA.length qC,.slice qI s.qB.length qH]) (qP:qW.rep w qV [.slice qE s.qA.length qC] s.qA) (xm:qW.rep w xx [.slice qI s.qB.length qH] s.qB) (hr:jy w br or [.int .i64 r.qF,.int .i64 r.zM,.slice vk r.xu.length zY,.slice vC r.xM.length vg,.slice vw r.xK.length zZ,.slice vz r.xF.length ve,.slice jO r.zI.length jM,.slice zV r.qL.length zT,.bool r.xR]) (hrNeed:qW.rep w yL [.slice vk r.xu.length zY] r.xu) (hrHave:qW.rep w yP [.slice vC r.xM.length vg] r.xM) (hrLack:qW.rep w yM [.slice vw r.xK.length zZ] r.xK) (hrHere:qW.rep w yO [.slice vz r.xF.length ve] r.xF) (hrOut:qW.rep w Xz [.slice jO r.zI.length jM] r.zI) (hrInto:qW.rep w Qh [.slice zV r.qL.length zT] r.qL) (hweights:qW.rep w Fweights [.slice aweights weights.length cweights] weights) (p0:zX s) (p1:RuleOk s r) (p2:WtOk s weights):Calls Tryz.prog 46 #[.pointer (some ⟨bs,os,none⟩),.pointer (some ⟨br,or,none⟩),.slice aweights weights.length cweights] w (Ret (fun v w' =>∃ (ra:yOA) (rn:Nat) (rc:Nat),v=.slice ra rn rc∧Fresh w.heap.size []∧St w w' [rr ra rn rc 2 1 ((vU r weights (zS s r.qF)).map (Value.int .i64))] []) w):=by
 refine en Tryz.func46 Tryz.ntmps46 ?_
 have H:=(((((((((((St.start w).arg hweights).arg hrInto).arg hrOut).arg hrHere).arg hrLack).arg hrHave).arg hrNeed).argAt hr).arg xm).arg qP).argAt hs
 have zt:=qU qP
 have vF:=qU xm
 have nhrNeed:=qU hrNeed
 have nhrHave:=qU hrHave
 have nhrLack:=qU hrLack
 have nhrHere:=qU hrHere
 have nhrOut:=qU hrOut
 have nhrInto:=qU hrInto
 have nhweights:=qU hweights
 clear hs qP xm hr hrNeed hrHave hrLack hrHere hrOut hrInto hweights
 have N:=Fresh.nil w.heap.size
 have G:=gainAt p0 p2 p1
 have g0:=G.cell
 have g1:=G.few
 have g2:=G.here
 have g3:=G.need
 have g4:=vT g2
 have g5:=vT g3
 have p3:=p2.len
 have p4:=p0.1.2.1
 have g6:y8 s r.qF:=p1.1
 have p5:=p0.1
 refine zcr (sp (.slice none 0 0) (zjn (x8 ?_)))
 obtain ⟨b1,o2,rfl⟩:=H.addr 10 rfl qf
 refine c_cut (fun ρ w7=>∃ (xU:Env) (F4:yLN) (a5:yOA) (c6:Nat),ρ=upd (upd (upd (upd xU 0 (.pointer (some ⟨bs,os,none⟩))) 1 (.pointer (some ⟨br,or,none⟩))) 2 (.slice (some ⟨b1,o2,none⟩) weights.length cweights)) 7 (.int .i64 ((jS r.xF (weights[r.qF.toNat]!)) - (jS r.xu (weights[r.qF.toNat]!))))∧Fresh w.heap.size []∧St w w7 [] [sF false F4 a5 c6 (weights[r.qF.toNat]!),atF b1 (o2+(r.qF:Int).toNat * 1) [.slice a5 ((weights[r.qF.toNat]!).length) c6],atF bs os [.int .i64 s.qQ,.slice qE s.qA.length qC,.slice qI s.qB.length qH],sF false qV qE qC s.qA,sF false xx qI qH s.qB,atF br or [.int .i64 r.qF,.int .i64 r.zM,.slice vk r.xu.length zY,.slice vC r.xM.length vg,.slice vw r.xK.length zZ,.slice vz r.xF.length ve,.slice jO r.zI.length jM,.slice zV r.qL.length zT,.bool r.xR],sF false yL vk zY r.xu,sF false yP vC vg r.xM,sF false yM vw zZ r.xK,sF false yO vz ve r.xF,sF false Xz jO jM r.zI,sF false Qh zV zT r.qL,sF false Fweights (some ⟨b1,o2,none⟩) cweights weights]) ?_ ?_
 ·skip
  refine yf rfl H fun H=>rtp 0 (.pointer (some ⟨br,or,none⟩)) H ?_
  refine rtp 1 (.pointer (some ⟨br,or,none⟩)) H ?_
  refine tF 2 rfl rfl H ?_
  refine tL 3 rfl rfl (fun _ h=>h.zh 3 rfl 5 rfl) H ?_
  refine rtp 4 (.slice (some ⟨b1,o2,none⟩) weights.length cweights) H ?_
  refine rtp 5 (.pointer (some ⟨br,or,none⟩)) H ?_
  refine rtp 6 (.pointer (some ⟨br,or,none⟩)) H ?_
  refine tF 7 rfl rfl H ?_
  refine tL 8 rfl rfl (fun _ h=>h.zh 3 rfl 0 rfl) H ?_
  obtain ⟨ae9,ce9,Fe9,H⟩:=H.vV 10 rfl r.qF r.qF.toNat qf qf qf
  have S:=H.jm [] [2,3,4,5,6,7,8,9,10,11,12]
  refine tI 9 rfl rfl rfl S ?_
  refine rtp 12 (.pointer (some ⟨br,or,none⟩)) S ?_
  refine rtp 13 (.pointer (some ⟨br,or,none⟩)) S ?_
  refine tF 14 rfl rfl S ?_
  refine tL 15 rfl rfl (fun _ h=>h.zh 3 rfl 2 rfl) S ?_
  refine rtp 16 (.slice (some ⟨b1,o2,none⟩) weights.length cweights) S ?_
  refine rtp 17 (.pointer (some ⟨br,or,none⟩)) S ?_
  refine rtp 18 (.pointer (some ⟨br,or,none⟩)) S ?_
  refine tF 19 rfl rfl S ?_
  refine tL 20 rfl rfl (fun _ h=>h.zh 3 rfl 0 rfl) S ?_
  refine tI 21 rfl rfl rfl S ?_
  refine jd [10,22] qh qm (jI rfl ?_ (jI rfl ?_ je))
  ·skip
   refine xX (.slice ae9 ((weights[r.qF.toNat]!).length) ce9) Tryz.isAgg24 rfl (H.zh 1 rfl 0 rfl) (⟨H.pick [] [2,3,4,5,6,7,8,9,10,11,12],(jd [11,22] qh qm (jI rfl ?_ (jI rfl ?_ je)))⟩)
   ·skip
    refine oq (yR _ r.xF (weights[r.qF.toNat]!) (H.get 9 rfl).1 (H.get 0 rfl).1 (by first | assumption | exact hz qf | exact (gi qf).2 | exact G.out _ qf)) H fun w11 H=>⟨H.pick [] [2,3,4,5,6,7,8,9,10,11,12],(ro 22 rfl (xX (.slice ae9 ((weights[r.qF.toNat]!).length) ce9) Tryz.isAgg24 rfl (H.zh 1 rfl 0 rfl) (⟨H.pick [] [2,3,4,5,6,7,8,9,10,11,12],(ro 23 rfl (oq (yR _ r.xu (weights[r.qF.toNat]!) (H.get 6 rfl).1 (H.get 0 rfl).1 (by first | assumption | exact hz qf | exact (gi qf).2 | exact G.out _ qf)) H fun w14 H=>⟨H.pick [] [2,3,4,5,6,7,8,9,10,11,12],?_⟩))⟩)))⟩
    have S:=H.jm [] [2,3,4,5,6,7,8,9,10,11,12]
    refine rt 24 (.int .i64 ((jS r.xF (weights[r.qF.toNat]!)) - (jS r.xu (weights[r.qF.toNat]!)))) (y_sub (jS r.xF (weights[r.qF.toNat]!)) (jS r.xu (weights[r.qF.toNat]!)) rfl rfl (by (first | omega | (have h8:=gb qf;have h9:=vT (gi qf).2;omega) | (have h8:=gb qf;have h9:=po qf;omega) | (have h8:=G.bd r.qL.length (Nat.le_refl _);have h9:=vT (G.out _ qf);omega)))) S ?_
    refine rtp 25 (.int .i64 ((jS r.xF (weights[r.qF.toNat]!)) - (jS r.xu (weights[r.qF.toNat]!)))) S ?_
    refine xH qh ((meet ⟨_,Fe9,ae9,ce9,uE4,N,H⟩))
   ·skip
    refine xX (.slice ae9 ((weights[r.qF.toNat]!).length) ce9) Tryz.isAgg24 rfl (H.zh 1 rfl 0 rfl) (⟨H.pick [] [2,3,4,5,6,7,8,9,10,11,12],(ro 11 rfl (oq (yR _ r.xF (weights[r.qF.toNat]!) (H.get 9 rfl).1 (H.get 0 rfl).1 (by first | assumption | exact hz qf | exact (gi qf).2 | exact G.out _ qf)) H fun w17 H=>⟨H.pick [] [2,3,4,5,6,7,8,9,10,11,12],(ro 23 rfl (oq (yR _ r.xu (weights[r.qF.toNat]!) (H.get 6 rfl).1 (H.get 0 rfl).1 (by first | assumption | exact hz qf | exact (gi qf).2 | exact G.out _ qf)) H fun w20 H=>⟨H.pick [] [2,3,4,5,6,7,8,9,10,11,12],?_⟩))⟩))⟩)
    have S:=H.jm [] [2,3,4,5,6,7,8,9,10,11,12]
    refine rt 24 (.int .i64 ((jS r.xF (weights[r.qF.toNat]!)) - (jS r.xu (weights[r.qF.toNat]!)))) (y_sub (jS r.xF (weights[r.qF.toNat]!)) (jS r.xu (weights[r.qF.toNat]!)) rfl rfl (by (first | omega | (have h8:=gb qf;have h9:=vT (gi qf).2;omega) | (have h8:=gb qf;have h9:=po qf;omega) | (have h8:=G.bd r.qL.length (Nat.le_refl _);have h9:=vT (G.out _ qf);omega)))) S ?_
    refine rtp 25 (.int .i64 ((jS r.xF (weights[r.qF.toNat]!)) - (jS r.xu (weights[r.qF.toNat]!)))) S ?_
    refine xH qh ((meet ⟨_,Fe9,ae9,ce9,uE4,N,H⟩))
  ·skip
   refine xX (.slice ae9 ((weights[r.qF.toNat]!).length) ce9) Tryz.isAgg24 rfl (H.zh 1 rfl 0 rfl) (⟨H.pick [] [2,3,4,5,6,7,8,9,10,11,12],(ro 10 rfl (xX (.slice ae9 ((weights[r.qF.toNat]!).length) ce9) Tryz.isAgg24 rfl (H.zh 1 rfl 0 rfl) (⟨H.pick [] [2,3,4,5,6,7,8,9,10,11,12],(ro 11 rfl (oq (yR _ r.xF (weights[r.qF.toNat]!) (H.get 9 rfl).1 (H.get 0 rfl).1 (by first | assumption | exact hz qf | exact (gi qf).2 | exact G.out _ qf)) H fun w23 H=>⟨H.pick [] [2,3,4,5,6,7,8,9,10,11,12],(ro 23 rfl ?_)⟩))⟩)))⟩)
   refine oq (yR _ r.xu (weights[r.qF.toNat]!) (H.get 6 rfl).1 (H.get 0 rfl).1 (by first | assumption | exact hz qf | exact (gi qf).2 | exact G.out _ qf)) H fun w26 H=>⟨H.pick [] [2,3,4,5,6,7,8,9,10,11,12],?_⟩
   have S:=H.jm [] [2,3,4,5,6,7,8,9,10,11,12]
   refine rt 24 (.int .i64 ((jS r.xF (weights[r.qF.toNat]!)) - (jS r.xu (weights[r.qF.toNat]!)))) (y_sub (jS r.xF (weights[r.qF.toNat]!)) (jS r.xu (weights[r.qF.toNat]!)) rfl rfl (by (first | omega | (have h8:=gb qf;have h9:=vT (gi qf).2;omega) | (have h8:=gb qf;have h9:=po qf;omega) | (have h8:=G.bd r.qL.length (Nat.le_refl _);have h9:=vT (G.out _ qf);omega)))) S ?_
   refine rtp 25 (.int .i64 ((jS r.xF (weights[r.qF.toNat]!)) - (jS r.xu (weights[r.qF.toNat]!)))) S ?_
   refine xH qh ((meet ⟨_,Fe9,ae9,ce9,uE4,N,H⟩))
 ·skip
  clear H N
  rintro ρ w28 ⟨xU,F4,a5,c6,rfl,N,H⟩
  refine t_n (zcc (sp (.int .i64 0) (zjn (xg ?_))))
  refine zH (fun m' ρ w29=>∃ (xU:Env) (plain:Int) (k:Nat),ρ=upd (upd (upd (upd (upd xU 0 (.pointer (some ⟨bs,os,none⟩))) 1 (.pointer (some ⟨br,or,none⟩))) 2 (.slice (some ⟨b1,o2,none⟩) weights.length cweights)) 7 (.int .i64 plain)) 8 (.int .i64 k)∧plain=(yj r weights k)∧((k:Int)≤r.qL.length)∧m' =(r.qL.length - (k:Int)).toNat∧Fresh w.heap.size []∧St w w29 [] [sF false F4 a5 c6 (weights[r.qF.toNat]!),atF b1 (o2+(r.qF:Int).toNat * 1) [.slice a5 ((weights[r.qF.toNat]!).length) c6],atF bs os [.int .i64 s.qQ,.slice qE s.qA.length qC,.slice qI s.qB.length qH],sF false qV qE qC s.qA,sF false xx qI qH s.qB,atF br or [.int .i64 r.qF,.int .i64 r.zM,.slice vk r.xu.length zY,.slice vC r.xM.length vg,.slice vw r.xK.length zZ,.slice vz r.xF.length ve,.slice jO r.zI.length jM,.slice zV r.qL.length zT,.bool r.xR],sF false yL vk zY r.xu,sF false yP vC vg r.xM,sF false yM vw zZ r.xK,sF false yO vz ve r.xF,sF false Xz jO jM r.zI,sF false Qh zV zT r.qL,sF false Fweights (some ⟨b1,o2,none⟩) cweights weights]) ((r.qL.length - (0:Int)).toNat) ⟨_,(jS r.xF (weights[r.qF.toNat]!)) - (jS r.xu (weights[r.qF.toNat]!)),0,uE5,(by exact ownTo_0 r weights),qf,rfl,N,H⟩ ?_
  clear H N
  rintro m' ρ w30 ⟨xU,plain,k,rfl,rfl,i0,rfl,N,H⟩
  have gb:=G.bd k
  have gi:=G.into k
  refine zcc (sps [.int .i64 k,.pointer (some ⟨br,or,none⟩),.pointer (some ⟨br,or,none⟩)] (oF rfl (oL rfl (H.zh 5 rfl 7 rfl) (oN rfl (sp (.bool (decide ((k:Int) < r.qL.length))) (zjn (cD rfl (fun h31=>?_) (fun h31=>?_))))))))
  ·skip
   refine xh (t_n (x8 (xg ?_)))
   obtain ⟨b32,o33,rfl⟩:=H.addr 11 rfl qf
   refine c_cut (fun ρ w41=>∃ (xU:Env) (F35:yLN) (a36:yOA) (c37:Nat) (F38:yLN) (a39:yOA) (c40:Nat),ρ=upd (upd (upd (upd (upd xU 0 (.pointer (some ⟨bs,os,none⟩))) 1 (.pointer (some ⟨br,or,none⟩))) 2 (.slice (some ⟨b1,o2,none⟩) weights.length cweights)) 7 (.int .i64 ((yj r weights k)+(jS ((r.qL[k]!).jR) (weights[((r.qL[k]!).qF).toNat]!))))) 8 (.int .i64 k)∧Fresh w.heap.size []∧St w w41 [] [sF false F35 a36 c37 (weights[((r.qL[k]!).qF).toNat]!),atF b1 (o2+((r.qL[k]!).qF:Int).toNat * 1) [.slice a36 ((weights[((r.qL[k]!).qF).toNat]!).length) c37],sF false F38 a39 c40 ((r.qL[k]!).jR),atF b32 (o33+(k:Int).toNat * 2) [.int .i64 ((r.qL[k]!).qF),.slice a39 (((r.qL[k]!).jR).length) c40],sF false F4 a5 c6 (weights[r.qF.toNat]!),atF b1 (o2+(r.qF:Int).toNat * 1) [.slice a5 ((weights[r.qF.toNat]!).length) c6],atF bs os [.int .i64 s.qQ,.slice qE s.qA.length qC,.slice qI s.qB.length qH],sF false qV qE qC s.qA,sF false xx qI qH s.qB,atF br or [.int .i64 r.qF,.int .i64 r.zM,.slice vk r.xu.length zY,.slice vC r.xM.length vg,.slice vw r.xK.length zZ,.slice vz r.xF.length ve,.slice jO r.zI.length jM,.slice (some ⟨b32,o33,none⟩) r.qL.length zT,.bool r.xR],sF false yL vk zY r.xu,sF false yP vC vg r.xM,sF false yM vw zZ r.xK,sF false yO vz ve r.xF,sF false Xz jO jM r.zI,sF false Qh (some ⟨b32,o33,none⟩) zT r.qL,sF false Fweights (some ⟨b1,o2,none⟩) cweights weights]) ?_ ?_
   ·skip
    refine yf rfl H fun H=>rtp 0 (.int .i64 (yj r weights k)) H ?_
    refine rtp 1 (.pointer (some ⟨br,or,none⟩)) H ?_
    refine rtp 2 (.pointer (some ⟨br,or,none⟩)) H ?_
    refine tF 3 rfl rfl H ?_
    refine tL 4 rfl rfl (fun _ h=>h.zh 5 rfl 7 rfl) H ?_
    refine rtp 5 (.int .i64 k) H ?_
    obtain ⟨ae43Bag,ce43Bag,Fe43Bag,H⟩:=H.yt 11 rfl k k qf qf qf
    have S:=H.jm [] [2,3,4,5,6,7,8,9,10,11,12,13,14]
    refine tI 6 rfl rfl rfl S ?_
    refine tF 7 rfl rfl S ?_
    refine rtp 9 (.slice (some ⟨b1,o2,none⟩) weights.length cweights) S ?_
    refine rtp 10 (.pointer (some ⟨br,or,none⟩)) S ?_
    refine rtp 11 (.pointer (some ⟨br,or,none⟩)) S ?_
    refine tF 12 rfl rfl S ?_
    refine tL 13 rfl rfl (fun _ h=>h.zh 5 rfl 7 rfl) S ?_
    refine rtp 14 (.int .i64 k) S ?_
    refine tI 15 rfl rfl rfl S ?_
    refine tF 16 rfl rfl S ?_
    refine jd [8,17] qh qm (jI rfl ?_ (jI rfl ?_ je))
    ·skip
     refine xX (.slice ae43Bag (((r.qL[k]!).jR).length) ce43Bag) Tryz.isAgg24 rfl (H.zh 1 rfl 1 rfl) (⟨H.pick [] [2,3,4,5,6,7,8,9,10,11,12,13,14],(ro 17 rfl (xX (.int .i64 ((r.qL[k]!).qF)) Tryz.isAgg2 rfl (H.zh 1 rfl 0 rfl) (⟨H.pick [] [2,3,4,5,6,7,8,9,10,11,12,13,14],?_⟩)))⟩)
     obtain ⟨ae44,ce44,Fe44,H⟩:=H.vV 14 rfl ((r.qL[k]!).qF) (((r.qL[k]!).qF).toNat) qf qf qf
     refine tI 18 rfl rfl rfl (H.pick [] [4,5,6,7,8,9,10,11,12,13,14,15,16]) ?_
     refine ro 19 rfl (xX (.slice ae44 ((weights[((r.qL[k]!).qF).toNat]!).length) ce44) Tryz.isAgg24 rfl (H.zh 1 rfl 0 rfl) (⟨H.pick [] [4,5,6,7,8,9,10,11,12,13,14,15,16],(ro 20 rfl (oq (yR _ ((r.qL[k]!).jR) (weights[((r.qL[k]!).qF).toNat]!) (H.get 2 rfl).1 (H.get 0 rfl).1 (by first | assumption | exact hz qf | exact (gi qf).2 | exact G.out _ qf)) H fun w46 H=>⟨H.pick [] [4,5,6,7,8,9,10,11,12,13,14,15,16],?_⟩))⟩))
     have S:=H.jm [] [4,5,6,7,8,9,10,11,12,13,14,15,16]
     refine rt 21 (.int .i64 ((yj r weights k)+(jS ((r.qL[k]!).jR) (weights[((r.qL[k]!).qF).toNat]!)))) (y_add (yj r weights k) (jS ((r.qL[k]!).jR) (weights[((r.qL[k]!).qF).toNat]!)) rfl rfl (by (first | omega | (have h8:=gb qf;have h9:=vT (gi qf).2;omega) | (have h8:=gb qf;have h9:=po qf;omega) | (have h8:=G.bd r.qL.length (Nat.le_refl _);have h9:=vT (G.out _ qf);omega)))) S ?_
     refine rtp 22 (.int .i64 ((yj r weights k)+(jS ((r.qL[k]!).jR) (weights[((r.qL[k]!).qF).toNat]!)))) S ?_
     refine xH qh ((meet ⟨_,Fe44,ae44,ce44,Fe43Bag,ae43Bag,ce43Bag,uE5,N,H⟩))
    ·skip
     refine xX (.int .i64 ((r.qL[k]!).qF)) Tryz.isAgg2 rfl (H.zh 1 rfl 0 rfl) (⟨H.pick [] [2,3,4,5,6,7,8,9,10,11,12,13,14],?_⟩)
     obtain ⟨ae48,ce48,Fe48,H⟩:=H.vV 14 rfl ((r.qL[k]!).qF) (((r.qL[k]!).qF).toNat) qf qf qf
     refine tI 18 rfl rfl rfl (H.pick [] [4,5,6,7,8,9,10,11,12,13,14,15,16]) ?_
     refine jd [8,19] qh qm (jI rfl ?_ (jI rfl ?_ je))
     ·skip
      refine xX (.slice ae43Bag (((r.qL[k]!).jR).length) ce43Bag) Tryz.isAgg24 rfl (H.zh 3 rfl 1 rfl) (⟨H.pick [] [4,5,6,7,8,9,10,11,12,13,14,15,16],(ro 19 rfl (xX (.slice ae48 ((weights[((r.qL[k]!).qF).toNat]!).length) ce48) Tryz.isAgg24 rfl (H.zh 1 rfl 0 rfl) (⟨H.pick [] [4,5,6,7,8,9,10,11,12,13,14,15,16],(ro 20 rfl (oq (yR _ ((r.qL[k]!).jR) (weights[((r.qL[k]!).qF).toNat]!) (H.get 2 rfl).1 (H.get 0 rfl).1 (by first | assumption | exact hz qf | exact (gi qf).2 | exact G.out _ qf)) H fun w50 H=>⟨H.pick [] [4,5,6,7,8,9,10,11,12,13,14,15,16],?_⟩))⟩)))⟩)
      have S:=H.jm [] [4,5,6,7,8,9,10,11,12,13,14,15,16]
      refine rt 21 (.int .i64 ((yj r weights k)+(jS ((r.qL[k]!).jR) (weights[((r.qL[k]!).qF).toNat]!)))) (y_add (yj r weights k) (jS ((r.qL[k]!).jR) (weights[((r.qL[k]!).qF).toNat]!)) rfl rfl (by (first | omega | (have h8:=gb qf;have h9:=vT (gi qf).2;omega) | (have h8:=gb qf;have h9:=po qf;omega) | (have h8:=G.bd r.qL.length (Nat.le_refl _);have h9:=vT (G.out _ qf);omega)))) S ?_
      refine rtp 22 (.int .i64 ((yj r weights k)+(jS ((r.qL[k]!).jR) (weights[((r.qL[k]!).qF).toNat]!)))) S ?_
      refine xH qh ((meet ⟨_,Fe48,ae48,ce48,Fe43Bag,ae43Bag,ce43Bag,uE5,N,H⟩))
     ·skip
      refine xX (.slice ae48 ((weights[((r.qL[k]!).qF).toNat]!).length) ce48) Tryz.isAgg24 rfl (H.zh 1 rfl 0 rfl) (⟨H.pick [] [4,5,6,7,8,9,10,11,12,13,14,15,16],(ro 8 rfl (xX (.slice ae43Bag (((r.qL[k]!).jR).length) ce43Bag) Tryz.isAgg24 rfl (H.zh 3 rfl 1 rfl) (⟨H.pick [] [4,5,6,7,8,9,10,11,12,13,14,15,16],(ro 20 rfl (oq (yR _ ((r.qL[k]!).jR) (weights[((r.qL[k]!).qF).toNat]!) (H.get 2 rfl).1 (H.get 0 rfl).1 (by first | assumption | exact hz qf | exact (gi qf).2 | exact G.out _ qf)) H fun w53 H=>⟨H.pick [] [4,5,6,7,8,9,10,11,12,13,14,15,16],?_⟩))⟩)))⟩)
      have S:=H.jm [] [4,5,6,7,8,9,10,11,12,13,14,15,16]
      refine rt 21 (.int .i64 ((yj r weights k)+(jS ((r.qL[k]!).jR) (weights[((r.qL[k]!).qF).toNat]!)))) (y_add (yj r weights k) (jS ((r.qL[k]!).jR) (weights[((r.qL[k]!).qF).toNat]!)) rfl rfl (by (first | omega | (have h8:=gb qf;have h9:=vT (gi qf).2;omega) | (have h8:=gb qf;have h9:=po qf;omega) | (have h8:=G.bd r.qL.length (Nat.le_refl _);have h9:=vT (G.out _ qf);omega)))) S ?_
      refine rtp 22 (.int .i64 ((yj r weights k)+(jS ((r.qL[k]!).jR) (weights[((r.qL[k]!).qF).toNat]!)))) S ?_
      refine xH qh ((meet ⟨_,Fe48,ae48,ce48,Fe43Bag,ae43Bag,ce43Bag,uE5,N,H⟩))
   ·skip
    clear H N
    rintro ρ w55 ⟨xU,F35,a36,c37,F38,a39,c40,rfl,N,H⟩
    refine b_n (t_n (xZ (sp (.int .i64 k) (sw (zB k 1 rfl rfl (by (first | omega | (have h8:=gb qf;have h9:=vT (gi qf).2;omega) | (have h8:=gb qf;have h9:=po qf;omega) | (have h8:=G.bd r.qL.length (Nat.le_refl _);have h9:=vT (G.out _ qf);omega))) (sp (.int .i64 (k+1)) (zi (xq (m' :=(r.qL.length - ((k+1):Int)).toNat) qf ⟨_,(yj r weights k)+(jS ((r.qL[k]!).jR) (weights[((r.qL[k]!).qF).toNat]!)),k+1,uE5,?_,?_,rfl,N,H.pick [] [4,5,6,7,8,9,10,11,12,13,14,15,16]⟩))))))))
    · exact ownTo_succ r weights k
    · omega
  ·skip
   refine zx4 (zcr (sps [.pointer (some ⟨bs,os,none⟩),.pointer (some ⟨br,or,none⟩),.pointer (some ⟨br,or,none⟩)] (oF rfl (oL rfl (H.zh 5 rfl 0 rfl) ?_))))
   have sz59:=H.base.size
   refine sw (oc (l04Parents_ok _ s r.qF (qK (H.get 2 rfl) 0 3) (H.get 3 rfl).1 (H.get 4 rfl).1 qg qg) ?_)
   rintro _ w57 ⟨ra56,rn56,rc56,rfl,M,K⟩ _
   replace H:=H.merge K M
   obtain rfl:=H.jb 0 rfl
   refine sp (.slice ra56 ((parS s r.qF).length) rc56) (zjcc (sps [.pointer (some ⟨br,or,none⟩),.pointer (some ⟨br,or,none⟩)] (oF rfl (oL rfl (H.zh 5 rfl 0 rfl) (sp (.bool ((r.qF:Int) == 0)) (zjn (cE rfl (fun h62=>?_) (fun h62=>?_))))))))
   ·skip
    refine xZ (sps [.pointer (some ⟨bs,os,none⟩),.pointer (some ⟨bs,os,none⟩)] (oF rfl (oL rfl (H.zh 2 rfl 1 rfl) (oN rfl (sw (zA H Tryz.underlying24 ti2 [.int .i64 s.qA.length] fun b63 w64 H=>sp (.slice (some ⟨b63,0,none⟩) 1 1) (zjc (sw (yJ H Tryz.underlying24 ti2 fun b65 w66 H=>sp (.slice (some ⟨b65,0,none⟩) 0 0) (zjcc (sp (.int .i64 0) (zjn (xg ?_)))))))))))))
    replace H:=H.boxRowI 1 [s.qA.length] 1
    obtain ⟨G67,N,hn68,H⟩:=H.vG 1 rfl N (H.yg [])
    have pe:=placeS_0 (s:=s) (c:=r.qF) ql
    rw [← pe] at H
    have pl:=congrArg List.length pe
    try simp only [List.length_cons,List.length_nil] at pl
    have pa:=fun k h=>placeS_at p5 g6 (k:=k) h
    replace H:=H.boxRowI 0 [] 0
    refine zH (fun m' ρ w69=>∃ (xU:Env) (vZ:yOA) (zG:Nat) (vX:Nat) (out:yLI) (i:Nat),ρ=upd (upd (upd (upd (upd (upd xU 1 (.pointer (some ⟨br,or,none⟩))) 2 (.slice (some ⟨b1,o2,none⟩) weights.length cweights)) 7 (.int .i64 (yj r weights k))) 9 (.slice (some ⟨b63,0,none⟩) 1 1)) 10 (.slice vZ zG vX)) 11 (.int .i64 i)∧out=(vU r weights ((zS s r.qF).take i))∧((i:Int)≤1)∧m' =(1 - (i:Int)).toNat∧Fresh w.heap.size [G67]∧St w w69 [rr vZ zG vX 2 1 (out.map (Value.int .i64)),rr ra56 ((parS s r.qF).length) rc56 2 1 ((parS s r.qF).map (Value.int .i64))] [isF true G67 (.slice (some ⟨b63,0,none⟩) 1 1) (zS s r.qF),sF false F4 a5 c6 (weights[r.qF.toNat]!),atF b1 (o2+(r.qF:Int).toNat * 1) [.slice a5 ((weights[r.qF.toNat]!).length) c6],atF br or [.int .i64 r.qF,.int .i64 r.zM,.slice vk r.xu.length zY,.slice vC r.xM.length vg,.slice vw r.xK.length zZ,.slice vz r.xF.length ve,.slice jO r.zI.length jM,.slice zV r.qL.length zT,.bool r.xR],sF false yL vk zY r.xu,sF false yP vC vg r.xM,sF false yM vw zZ r.xK,sF false yO vz ve r.xF,sF false Xz jO jM r.zI,sF false Qh zV zT r.qL,sF false Fweights (some ⟨b1,o2,none⟩) cweights weights]) ((1 - (0:Int)).toNat) ⟨_,(some ⟨b65,0,none⟩),0,0,([]:yLI),0,uE6,(by rfl),qf,rfl,N,H.pick [0,2] [0,1,2,6,7,8,9,10,11,12,13]⟩ ?_
    clear H N
    rintro m' ρ w70 ⟨xU,vZ,zG,vX,out,i,rfl,rfl,i0,rfl,N,H⟩
    have hn_out:=H.jb 0 rfl
    have pk:=pa i
    have po:=fun h=>vT (G.out (((zS s r.qF)[i]!).toNat) (by have:=pk h;omega))
    have gl:=gains_len r weights ((zS s r.qF).take i)
    have tl:=List.length_take_le i (zS s r.qF)
    have pq:=placeS_len p5 r.qF
    refine zcc (sps [.int .i64 i,.slice (some ⟨b63,0,none⟩) 1 1] (oN rfl (sp (.bool (decide ((i:Int) < 1))) (zjn (cD rfl (fun h71=>?_) (fun h71=>?_))))))
    ·skip
     refine xh (t_n (x8 (xg ?_)))
     refine Qo rfl H [1] fun H=>?_
     have S:=H.jm [1] [0,1,2,3,4,5,6,7,8,9,10]
     refine rtp 0 (.slice vZ zG vX) S ?_
     refine rtp 1 (.int .i64 (yj r weights k)) S ?_
     refine rtp 2 (.pointer (some ⟨br,or,none⟩)) S ?_
     refine rtp 3 (.pointer (some ⟨br,or,none⟩)) S ?_
     refine tF 4 rfl rfl S ?_
     refine tL 5 rfl rfl (fun _ h=>h.zh 3 rfl 6 rfl) S ?_
     refine rtp 6 (.slice (some ⟨b1,o2,none⟩) weights.length cweights) S ?_
     refine rtp 7 (.slice (some ⟨b63,0,none⟩) 1 1) S ?_
     refine rtp 8 (.int .i64 i) S ?_
     refine tI 9 rfl rfl rfl S ?_
     refine tL 10 rfl rfl (fun _ h=>h.elemIntN 0 rfl i qf) S ?_
     obtain ⟨ae73,ce73,Fe73,H⟩:=H.vV 10 rfl ((zS s r.qF)[i]!) (((zS s r.qF)[i]!).toNat) qf qf qf
     refine tI 11 rfl rfl rfl (H.pick [1] [2,3,4,5,6,7,8,9,10,11,12]) ?_
     refine ro 12 rfl (xX (.slice ae73 ((weights[((zS s r.qF)[i]!).toNat]!).length) ce73) Tryz.isAgg24 rfl (H.zh 1 rfl 0 rfl) (⟨H.pick [1] [2,3,4,5,6,7,8,9,10,11,12],(ro 13 rfl (oq (yR _ r.zI (weights[((zS s r.qF)[i]!).toNat]!) (H.get 10 rfl).1 (H.get 0 rfl).1 (by first | assumption | exact hz qf | exact (gi qf).2 | exact G.out _ qf)) H fun w75 H=>⟨H.pick [1] [2,3,4,5,6,7,8,9,10,11,12],?_⟩))⟩))
     refine rt 14 (.int .i64 ((yj r weights k)+(jS r.zI (weights[((zS s r.qF)[i]!).toNat]!)))) (y_add (yj r weights k) (jS r.zI (weights[((zS s r.qF)[i]!).toNat]!)) rfl rfl (by (first | omega | (have h8:=gb qf;have h9:=vT (gi qf).2;omega) | (have h8:=gb qf;have h9:=po qf;omega) | (have h8:=G.bd r.qL.length (Nat.le_refl _);have h9:=vT (G.out _ qf);omega)))) (H.pick [1] [2,3,4,5,6,7,8,9,10,11,12]) ?_
     refine ro 15 rfl (zA H Tryz.underlying24 ti2 [.int .i64 ((yj r weights k)+(jS r.zI (weights[((zS s r.qF)[i]!).toNat]!)))] fun b77 w78 H=>⟨H.pick [2] [2,3,4,5,6,7,8,9,10,11,12],(ro 16 rfl (zL H 1 rfl 0 rfl Tryz.underlying24 ti2 rfl qj rfl rfl rfl qw qp qf fun a79 c80 w81 H=>?_))⟩)
     rw [snocI] at H
     refine ⟨H.pick [2] [2,3,4,5,6,7,8,9,10,11,12],(rtp 17 (.slice a79 (zG+1) c80) (H.pick [2] [2,3,4,5,6,7,8,9,10,11,12]) ?_)⟩
     refine xH qh (b_n (t_n (xZ (sp (.int .i64 i) (sw (zB i 1 rfl rfl (by (first | omega | (have h8:=gb qf;have h9:=vT (gi qf).2;omega) | (have h8:=gb qf;have h9:=po qf;omega) | (have h8:=G.bd r.qL.length (Nat.le_refl _);have h9:=vT (G.out _ qf);omega))) (sp (.int .i64 (i+1)) (zi (xq (m' :=(1 - ((i+1):Int)).toNat) qf ⟨_,a79,zG+1,c80,((vU r weights ((zS s r.qF).take i))++[(yj r weights k)+(jS r.zI (weights[((zS s r.qF)[i]!).toNat]!))]),i+1,uE6,?_,?_,rfl,N,H.pick [1,2] [2,3,4,5,6,7,8,9,10,11,12]⟩)))))))))
     · exact gains_snoc qf (by rw [show k=r.qL.length by omega])
     · omega
    ·skip
     refine zx4 (zcr (sps [.slice vZ zG vX,.slice vZ zG vX] (zjr (ret1 (.slice vZ zG vX) rfl rfl ⟨_,rfl,?_,H.base⟩))))
     rw [← take_all (l:=zS s r.qF) (k:=i) qf]
     exact ⟨vZ,zG,vX,rfl,(N.pick []),H.pick [0] []⟩
   ·skip
    refine xh (t_n (zcr (sw (yJ H Tryz.underlying24 ti2 fun b82 w83 H=>sp (.slice (some ⟨b82,0,none⟩) 0 0) (zjcc (sp (.int .i64 0) (zjn (xg ?_))))))))
    have pe:=placeS_1 (s:=s) (c:=r.qF) ql
    rw [← pe] at H ⊢
    have pl:=congrArg List.length pe
    try simp only [List.length_cons,List.length_nil] at pl
    have pa:=fun k h=>placeS_at p5 g6 (k:=k) h
    replace H:=H.boxRowI 0 [] 0
    refine zH (fun m' ρ w84=>∃ (xU:Env) (vZ:yOA) (zG:Nat) (vX:Nat) (out:yLI) (i:Nat),ρ=upd (upd (upd (upd (upd (upd xU 1 (.pointer (some ⟨br,or,none⟩))) 2 (.slice (some ⟨b1,o2,none⟩) weights.length cweights)) 7 (.int .i64 (yj r weights k))) 9 (.slice ra56 ((zS s r.qF).length) rc56)) 10 (.slice vZ zG vX)) 11 (.int .i64 i)∧out=(vU r weights ((zS s r.qF).take i))∧((i:Int)≤((zS s r.qF).length))∧m' =(((zS s r.qF).length) - (i:Int)).toNat∧Fresh w.heap.size []∧St w w84 [rr vZ zG vX 2 1 (out.map (Value.int .i64)),rr ra56 ((zS s r.qF).length) rc56 2 1 ((zS s r.qF).map (Value.int .i64))] [sF false F4 a5 c6 (weights[r.qF.toNat]!),atF b1 (o2+(r.qF:Int).toNat * 1) [.slice a5 ((weights[r.qF.toNat]!).length) c6],atF br or [.int .i64 r.qF,.int .i64 r.zM,.slice vk r.xu.length zY,.slice vC r.xM.length vg,.slice vw r.xK.length zZ,.slice vz r.xF.length ve,.slice jO r.zI.length jM,.slice zV r.qL.length zT,.bool r.xR],sF false yL vk zY r.xu,sF false yP vC vg r.xM,sF false yM vw zZ r.xK,sF false yO vz ve r.xF,sF false Xz jO jM r.zI,sF false Qh zV zT r.qL,sF false Fweights (some ⟨b1,o2,none⟩) cweights weights]) ((((zS s r.qF).length) - (0:Int)).toNat) ⟨_,(some ⟨b82,0,none⟩),0,0,([]:yLI),0,uE6,(by rfl),qf,rfl,N,H.pick [0,1] [0,1,5,6,7,8,9,10,11,12]⟩ ?_
    clear H N
    rintro m' ρ w85 ⟨xU,vZ,zG,vX,out,i,rfl,rfl,i0,rfl,N,H⟩
    have hn_out:=H.jb 0 rfl
    have pk:=pa i
    have po:=fun h=>vT (G.out (((zS s r.qF)[i]!).toNat) (by have:=pk h;omega))
    have gl:=gains_len r weights ((zS s r.qF).take i)
    have tl:=List.length_take_le i (zS s r.qF)
    have pq:=placeS_len p5 r.qF
    refine zcc (sps [.int .i64 i,.slice ra56 ((zS s r.qF).length) rc56] (oN rfl (sp (.bool (decide ((i:Int) < ((zS s r.qF).length)))) (zjn (cD rfl (fun h86=>?_) (fun h86=>?_))))))
    ·skip
     refine xh (t_n (x8 (xg ?_)))
     refine Qo rfl H [1] fun H=>?_
     have S:=H.jm [1] [0,1,2,3,4,5,6,7,8,9]
     refine rtp 0 (.slice vZ zG vX) S ?_
     refine rtp 1 (.int .i64 (yj r weights k)) S ?_
     refine rtp 2 (.pointer (some ⟨br,or,none⟩)) S ?_
     refine rtp 3 (.pointer (some ⟨br,or,none⟩)) S ?_
     refine tF 4 rfl rfl S ?_
     refine tL 5 rfl rfl (fun _ h=>h.zh 2 rfl 6 rfl) S ?_
     refine rtp 6 (.slice (some ⟨b1,o2,none⟩) weights.length cweights) S ?_
     refine rtp 7 (.slice ra56 ((zS s r.qF).length) rc56) S ?_
     refine rtp 8 (.int .i64 i) S ?_
     obtain ⟨b88,rfl⟩:=H.Xo 1 rfl qf
     have S:=H.jm [1] [0,1,2,3,4,5,6,7,8,9]
     refine tI 9 rfl rfl rfl S ?_
     refine tL 10 rfl rfl (fun _ h=>h.rowInt 0 rfl (iv:=i) (i:=i) qf qf) S ?_
     obtain ⟨ae89,ce89,Fe89,H⟩:=H.vV 9 rfl ((zS s r.qF)[i]!) (((zS s r.qF)[i]!).toNat) qf qf qf
     refine tI 11 rfl rfl rfl (H.pick [1] [2,3,4,5,6,7,8,9,10,11]) ?_
     refine ro 12 rfl (xX (.slice ae89 ((weights[((zS s r.qF)[i]!).toNat]!).length) ce89) Tryz.isAgg24 rfl (H.zh 1 rfl 0 rfl) (⟨H.pick [1] [2,3,4,5,6,7,8,9,10,11],(ro 13 rfl (oq (yR _ r.zI (weights[((zS s r.qF)[i]!).toNat]!) (H.get 9 rfl).1 (H.get 0 rfl).1 (by first | assumption | exact hz qf | exact (gi qf).2 | exact G.out _ qf)) H fun w91 H=>⟨H.pick [1] [2,3,4,5,6,7,8,9,10,11],?_⟩))⟩))
     refine rt 14 (.int .i64 ((yj r weights k)+(jS r.zI (weights[((zS s r.qF)[i]!).toNat]!)))) (y_add (yj r weights k) (jS r.zI (weights[((zS s r.qF)[i]!).toNat]!)) rfl rfl (by (first | omega | (have h8:=gb qf;have h9:=vT (gi qf).2;omega) | (have h8:=gb qf;have h9:=po qf;omega) | (have h8:=G.bd r.qL.length (Nat.le_refl _);have h9:=vT (G.out _ qf);omega)))) (H.pick [1] [2,3,4,5,6,7,8,9,10,11]) ?_
     refine ro 15 rfl (zA H Tryz.underlying24 ti2 [.int .i64 ((yj r weights k)+(jS r.zI (weights[((zS s r.qF)[i]!).toNat]!)))] fun b93 w94 H=>⟨H.pick [2] [2,3,4,5,6,7,8,9,10,11],(ro 16 rfl (zL H 1 rfl 0 rfl Tryz.underlying24 ti2 rfl qj rfl rfl rfl qw qp qf fun a95 c96 w97 H=>?_))⟩)
     rw [snocI] at H
     refine ⟨H.pick [2] [2,3,4,5,6,7,8,9,10,11],(rtp 17 (.slice a95 (zG+1) c96) (H.pick [2] [2,3,4,5,6,7,8,9,10,11]) ?_)⟩
     refine xH qh (b_n (t_n (xZ (sp (.int .i64 i) (sw (zB i 1 rfl rfl (by (first | omega | (have h8:=gb qf;have h9:=vT (gi qf).2;omega) | (have h8:=gb qf;have h9:=po qf;omega) | (have h8:=G.bd r.qL.length (Nat.le_refl _);have h9:=vT (G.out _ qf);omega))) (sp (.int .i64 (i+1)) (zi ?_))))))))
     refine xq (m' :=(((zS s r.qF).length) - ((i+1):Int)).toNat) qf ⟨_,a95,zG+1,c96,((vU r weights ((zS s r.qF).take i))++[(yj r weights k)+(jS r.zI (weights[((zS s r.qF)[i]!).toNat]!))]),i+1,uE6,?_,?_,rfl,N,H.pick [1,2] [2,3,4,5,6,7,8,9,10,11]⟩
     · exact gains_snoc qf (by rw [show k=r.qL.length by omega])
     · omega
    ·skip
     refine zx4 (zcr (sps [.slice vZ zG vX,.slice vZ zG vX] (zjr (ret1 (.slice vZ zG vX) rfl rfl ⟨_,rfl,?_,H.base⟩))))
     rw [← take_all (l:=zS s r.qF) (k:=i) qf]
     exact ⟨vZ,zG,vX,rfl,N,H.pick [0] []⟩

theorem l04Falls_ok (w:World) (s:qG) (weights:yLL) {qE:yOA} {qV:yLN} {qI:yOA} {xx:yLN} {aweights:yOA} {Fweights:yLN} (hs:jy w bs os [.int .i64 s.qQ,.slice qE s.qA.length qC,.slice qI s.qB.length qH]) (qP:qW.rep w qV [.slice qE s.qA.length qC] s.qA) (xm:qW.rep w xx [.slice qI s.qB.length qH] s.qB) (hweights:qW.rep w Fweights [.slice aweights weights.length cweights] weights) (p0:zX s) (p2:WtOk s weights):Calls Tryz.prog 23 #[.pointer (some ⟨bs,os,none⟩),.slice aweights weights.length cweights] w (Ret (fun v w' =>v=.bool (dec (Falls s weights))) w):=by
 refine en Tryz.func23 Tryz.ntmps23 ?_
 have H:=((((St.start w).arg hweights).arg xm).arg qP).argAt hs
 have zt:=qU qP
 have vF:=qU xm
 have nhweights:=qU hweights
 clear hs qP xm hweights
 have N:=Fresh.nil w.heap.size
 have p3:=p2.len
 have p4:=p0.1.2.1
 have p5:=p0.1
 have p6:=p0.2.1
 have p7:=p0.1.1
 refine zcr (sp (.bool false) (zjcc (sp (.int .i64 0) (zjn (xg ?_)))))
 refine zH (fun m' ρ w1=>∃ (xU:Env) (c:Nat),ρ=upd (upd (upd xU 0 (.pointer (some ⟨bs,os,none⟩))) 1 (.slice aweights weights.length cweights)) 5 (.int .i64 c)∧((c:Int)≤weights.length)∧m' =(weights.length - (c:Int)).toNat∧Fresh w.heap.size []∧St w w1 [] [atF bs os [.int .i64 s.qQ,.slice qE s.qA.length qC,.slice qI s.qB.length qH],sF false qV qE qC s.qA,sF false xx qI qH s.qB,sF false Fweights aweights cweights weights]) ((weights.length - (0:Int)).toNat) ⟨_,0,uE3,qf,rfl,N,H⟩ ?_
 clear H N
 rintro m' ρ w2 ⟨xU,c,rfl,i0,rfl,N,H⟩
 have rw_:=fun h=>wt_in p2 (c:=c) h
 refine zcc (sps [.int .i64 c,.slice aweights weights.length cweights] (oN rfl (sp (.bool (decide ((c:Int) < weights.length))) (zjn (cD rfl (fun h3=>?_) (fun h3=>?_))))))
 ·skip
  refine xh (t_n (x8 (xg (zcr (sp (.int .i64 0) (zjn (xg ?_)))))))
  refine zH (fun m' ρ w4=>∃ (xU:Env) (k:Nat),ρ=upd (upd (upd (upd xU 0 (.pointer (some ⟨bs,os,none⟩))) 1 (.slice aweights weights.length cweights)) 5 (.int .i64 c)) 6 (.int .i64 k)∧((k:Int)≤((weights[c]!).length))∧m' =(((weights[c]!).length) - (k:Int)).toNat∧Fresh w.heap.size []∧St w w4 [] [atF bs os [.int .i64 s.qQ,.slice qE s.qA.length qC,.slice qI s.qB.length qH],sF false qV qE qC s.qA,sF false xx qI qH s.qB,sF false Fweights aweights cweights weights]) ((((weights[c]!).length) - (0:Int)).toNat) ⟨_,0,uE4,qf,rfl,N,H⟩ ?_
  clear H N
  rintro m' ρ w5 ⟨xU,k,rfl,i0,rfl,N,H⟩
  have rk:=(rw_ qf).2 k
  refine zcc (sps [.int .i64 k,.slice aweights weights.length cweights,.int .i64 c] ?_)
  obtain ⟨b6,o7,rfl⟩:=H.addr 3 rfl qf
  obtain ⟨ae9,ce9,Fe9,H⟩:=H.vV 3 rfl c c qf qf qf
  refine oI rfl rfl (oL rfl (H.zh 1 rfl 0 rfl) (oN rfl (sp (.bool (decide ((k:Int) < ((weights[c]!).length)))) (zjn (cD rfl (fun h10=>?_) (fun h10=>?_))))))
  ·skip
   refine xh (t_n (x8 (xg (zcr (sps [.slice (some ⟨b6,o7,none⟩) weights.length cweights,.int .i64 c] (oI rfl rfl (oL rfl (H.zh 1 rfl 0 rfl) (sp (.int .i64 k) ?_))))))))
   obtain ⟨b11,o12,rfl⟩:=H.addr 0 rfl qf
   refine oI rfl rfl (oL rfl (H.ji 0 rfl k qf qf) (sp (.bool (decide (((weights[c]!)[k]! :Int) < 0))) (zjn (cD rfl (fun h14=>?_) (fun h14=>?_)))))
   ·skip
    refine zcr (sp (.bool false) (zjr (b_r (t_r (t_r (b_r (zr5 (ret1 (.bool false) rfl rfl ⟨_,rfl,?_,H.base⟩))))))))
    first | (exfalso;have r1:=rk qf;omega) | rw [qZ (neg_no (i:=i) (k:=k) (l:=zS s (s.qB[i]!).qF) qf (fun x=>mem_placeS p5 (p0.rule qf).1) qf qf)] | rw [qZ (ge_no (c:=c_1) (k:=k) (l:=parS s (c_1:Int)) qf (fun x=>mem_parS p5 ⟨by omega,by omega⟩) qf ql ql)]
   ·skip
    refine xh (b_n (t_n (xZ (sp (.int .i64 k) (sw (zB k 1 rfl rfl qf (sp (.int .i64 (k+1)) (zi (xq (m' :=(((weights[c]!).length) - ((k+1):Int)).toNat) qf ⟨_,k+1,uE4,?_,rfl,N,H.pick [] [2,3,4,5]⟩)))))))))
    · omega
  ·skip
   refine c_exit (t_x (t_x (b_x (b_n (t_n (xZ (sp (.int .i64 c) (sw (zB c 1 rfl rfl qf (sp (.int .i64 (c+1)) (zi (xq (m' :=(weights.length - ((c+1):Int)).toNat) qf ⟨_,c+1,uE3,?_,rfl,N,H.pick [] [2,3,4,5]⟩))))))))))))
   · omega
 ·skip
  refine zx4 (zcc (sp (.int .i64 0) (zjn (xg ?_))))
  refine zH (fun m' ρ w15=>∃ (xU:Env) (i:Nat),ρ=upd (upd (upd xU 0 (.pointer (some ⟨bs,os,none⟩))) 1 (.slice aweights weights.length cweights)) 7 (.int .i64 i)∧((i:Int)≤s.qB.length)∧(GainsTo s weights i)∧m' =(s.qB.length - (i:Int)).toNat∧Fresh w.heap.size []∧St w w15 [] [atF bs os [.int .i64 s.qQ,.slice qE s.qA.length qC,.slice qI s.qB.length qH],sF false qV qE qC s.qA,sF false xx qI qH s.qB,sF false Fweights aweights cweights weights]) ((s.qB.length - (0:Int)).toNat) ⟨_,0,uE3,qf,(by exact GainsTo.zero s weights),rfl,N,H⟩ ?_
  clear H N
  rintro m' ρ w16 ⟨xU,i,rfl,i0,i1,rfl,N,H⟩
  refine zcc (sps [.int .i64 i,.pointer (some ⟨bs,os,none⟩),.pointer (some ⟨bs,os,none⟩)] (oF rfl (oL rfl (H.zh 0 rfl 2 rfl) (oN rfl (sp (.bool (decide ((i:Int) < s.qB.length))) (zjn (cD rfl (fun h17=>?_) (fun h17=>?_))))))))
  ·skip
   refine xh (t_n (x8 (xg (zcr (sps [.pointer (some ⟨bs,os,none⟩),.pointer (some ⟨bs,os,none⟩),.pointer (some ⟨bs,os,none⟩)] (oF rfl (oL rfl (H.zh 0 rfl 2 rfl) (sp (.int .i64 i) ?_))))))))
   obtain ⟨b18,o19,rfl⟩:=H.addr 2 rfl qf
   obtain ⟨ae21Need,ce21Need,Fe21Need,ae21Have,ce21Have,Fe21Have,ae21Lack,ce21Lack,Fe21Lack,ae21Here,ce21Here,Fe21Here,ae21Out,ce21Out,Fe21Out,ae21Into,ce21Into,Fe21Into,H⟩:=H.Qv 2 rfl i i qf qf qf
   refine oI rfl rfl (sp (.slice aweights weights.length cweights) ?_)
   have q:=p0.rule (i:=i) qf
   have sz25:=H.base.size
   refine sw (oc (l04Gains_ok _ s (s.qB[i]!) weights (qK (H.get 7 rfl) 0 3) (H.get 8 rfl).1 (H.get 9 rfl).1 (qK (H.get 6 rfl) 0 9) (H.get 0 rfl).1 (H.get 1 rfl).1 (H.get 2 rfl).1 (H.get 3 rfl).1 (H.get 4 rfl).1 (H.get 5 rfl).1 (H.get 10 rfl).1 qg qg qg) ?_)
   rintro _ w23 ⟨ra22,rn22,rc22,rfl,M,K⟩ _
   replace H:=H.merge K M
   obtain rfl:=H.jb 0 rfl
   refine sp (.slice ra22 ((vU (s.qB[i]!) weights (zS s (s.qB[i]!).qF)).length) rc22) (zjc (sp (.int .i64 0) (zjn (xg ?_))))
   refine zH (fun m' ρ w28=>∃ (xU:Env) (k:Nat),ρ=upd (upd (upd (upd (upd xU 0 (.pointer (some ⟨bs,os,none⟩))) 1 (.slice aweights weights.length cweights)) 7 (.int .i64 i)) 8 (.slice ra22 ((vU (s.qB[i]!) weights (zS s (s.qB[i]!).qF)).length) rc22)) 9 (.int .i64 k)∧((k:Int)≤((vU (s.qB[i]!) weights (zS s (s.qB[i]!).qF)).length))∧(NegTo (vU (s.qB[i]!) weights (zS s (s.qB[i]!).qF)) k)∧m' =(((vU (s.qB[i]!) weights (zS s (s.qB[i]!).qF)).length) - (k:Int)).toNat∧Fresh w.heap.size []∧St w w28 [rr ra22 ((vU (s.qB[i]!) weights (zS s (s.qB[i]!).qF)).length) rc22 2 1 ((vU (s.qB[i]!) weights (zS s (s.qB[i]!).qF)).map (Value.int .i64))] [sF false Fe21Need ae21Need ce21Need ((s.qB[i]!).xu),sF false Fe21Have ae21Have ce21Have ((s.qB[i]!).xM),sF false Fe21Lack ae21Lack ce21Lack ((s.qB[i]!).xK),sF false Fe21Here ae21Here ce21Here ((s.qB[i]!).xF),sF false Fe21Out ae21Out ce21Out ((s.qB[i]!).zI),sF false Fe21Into ae21Into ce21Into ((s.qB[i]!).qL),atF b18 (o19+(i:Int).toNat * 9) [.int .i64 ((s.qB[i]!).qF),.int .i64 ((s.qB[i]!).zM),.slice ae21Need (((s.qB[i]!).xu).length) ce21Need,.slice ae21Have (((s.qB[i]!).xM).length) ce21Have,.slice ae21Lack (((s.qB[i]!).xK).length) ce21Lack,.slice ae21Here (((s.qB[i]!).xF).length) ce21Here,.slice ae21Out (((s.qB[i]!).zI).length) ce21Out,.slice ae21Into (((s.qB[i]!).qL).length) ce21Into,.bool ((s.qB[i]!).xR)],atF bs os [.int .i64 s.qQ,.slice qE s.qA.length qC,.slice (some ⟨b18,o19,none⟩) s.qB.length qH],sF false qV qE qC s.qA,sF false xx (some ⟨b18,o19,none⟩) qH s.qB,sF false Fweights aweights cweights weights]) ((((vU (s.qB[i]!) weights (zS s (s.qB[i]!).qF)).length) - (0:Int)).toNat) ⟨_,0,uE5,qf,qx,rfl,N,H⟩ ?_
   clear H N
   rintro m' ρ w29 ⟨xU,k,rfl,i0,i2,rfl,N,H⟩
   have gl:=gains_len (s.qB[i]!) weights (zS s (s.qB[i]!).qF)
   have pq:=placeS_len p5 (s.qB[i]!).qF
   refine zcc (sps [.int .i64 k,.slice ra22 ((vU (s.qB[i]!) weights (zS s (s.qB[i]!).qF)).length) rc22] (oN rfl (sp (.bool (decide ((k:Int) < ((vU (s.qB[i]!) weights (zS s (s.qB[i]!).qF)).length)))) (zjn (cD rfl (fun h30=>?_) (fun h30=>?_))))))
   ·skip
    refine xh (t_n (x8 (xg (zcr (sps [.slice ra22 ((vU (s.qB[i]!) weights (zS s (s.qB[i]!).qF)).length) rc22,.int .i64 k] ?_)))))
    obtain ⟨b31,rfl⟩:=H.Xo 0 rfl qf
    refine oI rfl rfl (oL rfl (H.rowInt 0 rfl (iv:=k) (i:=k) qf qf) (sp (.bool (decide (((vU (s.qB[i]!) weights (zS s (s.qB[i]!).qF))[k]! :Int)≥0))) (zjn (cD rfl (fun h32=>?_) (fun h32=>?_)))))
    ·skip
     refine zcr (sp (.bool false) (zjr (b_r (t_r (t_r (b_r (zr5 (ret1 (.bool false) rfl rfl ⟨_,rfl,?_,H.base⟩))))))))
     first | (exfalso;have r1:=rk qf;omega) | rw [qZ (neg_no (i:=i) (k:=k) (l:=zS s (s.qB[i]!).qF) qf (fun x=>mem_placeS p5 (p0.rule qf).1) qf qf)] | rw [qZ (ge_no (c:=c_1) (k:=k) (l:=parS s (c_1:Int)) qf (fun x=>mem_parS p5 ⟨by omega,by omega⟩) qf ql ql)]
    ·skip
     refine xh (b_n (t_n (xZ (sp (.int .i64 k) (sw (zB k 1 rfl rfl qf (sp (.int .i64 (k+1)) (zi (xq (m' :=(((vU (s.qB[i]!) weights (zS s (s.qB[i]!).qF)).length) - ((k+1):Int)).toNat) qf ⟨_,k+1,uE5,?_,?_,rfl,N,H⟩)))))))))
     · omega
     · exact i2.succ qf
   ·skip
    refine c_exit (t_x (t_x (b_x (b_n (t_n (xZ (sp (.int .i64 i) (sw (zB i 1 rfl rfl qf (sp (.int .i64 (i+1)) (zi (xq (m' :=(s.qB.length - ((i+1):Int)).toNat) qf ⟨_,i+1,uE3,?_,?_,rfl,N,H.pick [] [7,8,9,10]⟩))))))))))))
    · omega
    · exact i1.succ ((neg_iff (fun x=>mem_placeS p5 (p0.rule qf).1)).1 (fun j hj=>i2 j qf))
  ·skip
   refine zx4 (zcc (sp (.int .i64 1) (zjn (xg ?_))))
   refine zH (fun m' ρ w33=>∃ (xU:Env) (c_1:Nat),ρ=upd (upd (upd xU 0 (.pointer (some ⟨bs,os,none⟩))) 1 (.slice aweights weights.length cweights)) 10 (.int .i64 c_1)∧((c_1:Int)≤s.qA.length)∧(MeltsGe s weights c_1)∧(1≤(c_1:Int))∧m' =(s.qA.length - (c_1:Int)).toNat∧Fresh w.heap.size []∧St w w33 [] [atF bs os [.int .i64 s.qQ,.slice qE s.qA.length qC,.slice qI s.qB.length qH],sF false qV qE qC s.qA,sF false xx qI qH s.qB,sF false Fweights aweights cweights weights]) ((s.qA.length - (1:Int)).toNat) ⟨_,1,uE3,qf,(by exact meltsGe_1 p0 weights),qf,rfl,N,H⟩ ?_
   clear H N
   rintro m' ρ w34 ⟨xU,c_1,rfl,i0,i3,i4,rfl,N,H⟩
   refine zcc (sps [.int .i64 c_1,.pointer (some ⟨bs,os,none⟩),.pointer (some ⟨bs,os,none⟩)] (oF rfl (oL rfl (H.zh 0 rfl 1 rfl) (oN rfl (sp (.bool (decide ((c_1:Int) < s.qA.length))) (zjn (cD rfl (fun h35=>?_) (fun h35=>?_))))))))
   ·skip
    refine xh (t_n (x8 (xg (zcr (sps [.pointer (some ⟨bs,os,none⟩),.int .i64 c_1] ?_)))))
    have sz39:=H.base.size
    refine sw (oc (l04Parents_ok _ s c_1 (qK (H.get 0 rfl) 0 3) (H.get 1 rfl).1 (H.get 2 rfl).1 qg qg) ?_)
    rintro _ w37 ⟨ra36,rn36,rc36,rfl,M,K⟩ _
    replace H:=H.merge K M
    obtain rfl:=H.jb 0 rfl
    refine sp (.slice ra36 ((parS s c_1).length) rc36) (zjc (sp (.int .i64 0) (zjn (xg ?_))))
    refine zH (fun m' ρ w42=>∃ (xU:Env) (k:Nat),ρ=upd (upd (upd (upd (upd xU 0 (.pointer (some ⟨bs,os,none⟩))) 1 (.slice aweights weights.length cweights)) 10 (.int .i64 c_1)) 11 (.slice ra36 ((parS s c_1).length) rc36)) 12 (.int .i64 k)∧(GeTo weights (parS s (c_1:Int)) (c_1:Int) k)∧(k≤(parS s (c_1:Int)).length)∧m' =((parS s (c_1:Int)).length - k)∧Fresh w.heap.size []∧St w w42 [rr ra36 ((parS s c_1).length) rc36 2 1 ((parS s c_1).map (Value.int .i64))] [atF bs os [.int .i64 s.qQ,.slice qE s.qA.length qC,.slice qI s.qB.length qH],sF false qV qE qC s.qA,sF false xx qI qH s.qB,sF false Fweights aweights cweights weights]) (((parS s (c_1:Int)).length - 0)) ⟨_,0,uE5,qx,qf,rfl,N,H⟩ ?_
    clear H N
    rintro m' ρ w43 ⟨xU,k,rfl,i5,i6,rfl,N,H⟩
    have pk:=fun h=>parS_in p5 (c:=(c_1:Int)) ⟨by omega,by omega⟩ (k:=k) h
    have pq:=parS_len p5 (c_1:Int)
    refine zcc (sps [.int .i64 k,.slice ra36 ((parS s c_1).length) rc36] (oN rfl (sps [.bool (decide ((k:Int) < ((parS s c_1).length))),.bool (decide ((k:Int) < ((parS s c_1).length)))] ?_)))
    cases h44:(decide ((k:Int) < ((parS s c_1).length)))
    ·skip
     replace h44:=of_decide_eq_false h44
     refine xO [82,83,84] (sp (.bool false) (zjn (xI false rfl (fun h=>absurd h qj) (fun _=>c_exit (t_x (t_x (b_x (b_n (t_n (xZ (sp (.int .i64 c_1) (sw (zB c_1 1 rfl rfl qf (sp (.int .i64 (c_1+1)) (zi (xq (m' :=(s.qA.length - ((c_1+1):Int)).toNat) qf ⟨_,c_1+1,uE3,?_,?_,?_,rfl,N,H.pick [] [0,1,2,3]⟩))))))))))))))))
     · omega
     · first | exact i3.succ ((ge_iff (fun x=>mem_parS p5 ⟨by omega,by omega⟩)).1 (fun _ j hj=>i5 j qf)) | exact i3.succ (fun h=>absurd h ql)
     · omega
    ·skip
     replace h44:=of_decide_eq_true h44
     refine qO 81 rfl rfl (sp (.pointer (some ⟨bs,os,none⟩)) (qO 81 rfl rfl (sp (.int .i64 c_1) (qO 81 rfl rfl (sw (oq (l04Melts_ok _ s c_1 (qK (H.get 0 rfl) 0 3) (H.get 1 rfl).1 (H.get 2 rfl).1) H fun w46 H=>sp (.bool (dec (jT s c_1))) (zjn (cP rfl (fun h48=>?_) (fun h48=>?_)))))))))
     ·skip
      have pz:=pk qf
      have pz1:=pz.1
      have pz2:=pz.2
      have e1:=(wt_in p2 (c:=((parS s (c_1:Int))[k]!).toNat) qf).1
      have e2:=(wt_in p2 (c:=c_1) qf).1
      refine xh (t_n (x8 (xg (x8 ?_))))
      obtain ⟨b49,rfl⟩:=H.Xo 0 rfl qf
      obtain ⟨b50,o51,rfl⟩:=H.addr 3 rfl qf
      refine c_cut (fun ρ w59=>∃ (xU:Env) (F53:yLN) (a54:yOA) (c55:Nat) (F56:yLN) (a57:yOA) (c58:Nat),ρ=upd (upd (upd (upd (upd (upd (upd (upd (upd xU 0 (.pointer (some ⟨bs,os,none⟩))) 1 (.slice (some ⟨b50,o51,none⟩) weights.length cweights)) 10 (.int .i64 c_1)) 11 (.slice (some ⟨b49,0,none⟩) ((parS s c_1).length) rc36)) 12 (.int .i64 k)) 82 (.pointer (some ⟨bs,os,none⟩))) 83 (.int .i64 c_1)) 84 (.bool (dec (jT s c_1)))) 100 (.bool (!(within (weights[((parS s c_1)[k]!).toNat]!) (weights[c_1]!))))∧Fresh w.heap.size []∧St w w59 [rr (some ⟨b49,0,none⟩) ((parS s c_1).length) rc36 2 1 ((parS s c_1).map (Value.int .i64))] [sF false F53 a54 c55 (weights[c_1]!),atF b50 (o51+(c_1:Int).toNat * 1) [.slice a54 ((weights[c_1]!).length) c55],sF false F56 a57 c58 (weights[((parS s c_1)[k]!).toNat]!),atF b50 (o51+((parS s c_1)[k]! :Int).toNat * 1) [.slice a57 ((weights[((parS s c_1)[k]!).toNat]!).length) c58],atF bs os [.int .i64 s.qQ,.slice qE s.qA.length qC,.slice qI s.qB.length qH],sF false qV qE qC s.qA,sF false xx qI qH s.qB,sF false Fweights (some ⟨b50,o51,none⟩) cweights weights]) ?_ ?_
      ·skip
       refine yf rfl H fun H=>rtp 0 (.slice (some ⟨b50,o51,none⟩) weights.length cweights) H ?_
       refine rtp 1 (.slice (some ⟨b49,0,none⟩) ((parS s c_1).length) rc36) H ?_
       refine rtp 2 (.int .i64 k) H ?_
       refine tI 3 rfl rfl rfl H ?_
       refine tL 4 rfl rfl (fun _ h=>h.rowInt 0 rfl (iv:=k) (i:=k) qf qf) H ?_
       obtain ⟨ae61,ce61,Fe61,H⟩:=H.vV 3 rfl ((parS s c_1)[k]!) (((parS s c_1)[k]!).toNat) qf qf qf
       have S:=H.jm [0] [2,3,4,5]
       refine tI 5 rfl rfl rfl S ?_
       refine rtp 7 (.slice (some ⟨b50,o51,none⟩) weights.length cweights) S ?_
       refine rtp 8 (.int .i64 c_1) S ?_
       obtain ⟨ae62,ce62,Fe62,H⟩:=H.vV 5 rfl c_1 c_1 qf qf qf
       refine tI 9 rfl rfl rfl (H.pick [0] [4,5,6,7]) ?_
       refine jd [6,10] qh qm (jI rfl ?_ (jI rfl ?_ je))
       ·skip
        refine xX (.slice ae61 ((weights[((parS s c_1)[k]!).toNat]!).length) ce61) Tryz.isAgg24 rfl (H.zh 3 rfl 0 rfl) (⟨H.pick [0] [4,5,6,7],(ro 10 rfl (xX (.slice ae62 ((weights[c_1]!).length) ce62) Tryz.isAgg24 rfl (H.zh 1 rfl 0 rfl) (⟨H.pick [0] [4,5,6,7],(ro 11 rfl (oq (l01Within_ok _ (weights[((parS s c_1)[k]!).toNat]!) (weights[c_1]!) (H.get 2 rfl).1 (H.get 0 rfl).1 qg) H fun w64 H=>⟨H.pick [0] [4,5,6,7],(rtp 12 (.bool (!(within (weights[((parS s c_1)[k]!).toNat]!) (weights[c_1]!)))) (H.pick [0] [4,5,6,7]) ?_)⟩))⟩)))⟩)
        refine xH qh ((meet ⟨_,Fe62,ae62,ce62,Fe61,ae61,ce61,uE9,N,H⟩))
       ·skip
        refine xX (.slice ae62 ((weights[c_1]!).length) ce62) Tryz.isAgg24 rfl (H.zh 1 rfl 0 rfl) (⟨H.pick [0] [4,5,6,7],(ro 6 rfl (xX (.slice ae61 ((weights[((parS s c_1)[k]!).toNat]!).length) ce61) Tryz.isAgg24 rfl (H.zh 3 rfl 0 rfl) (⟨H.pick [0] [4,5,6,7],(ro 11 rfl (oq (l01Within_ok _ (weights[((parS s c_1)[k]!).toNat]!) (weights[c_1]!) (H.get 2 rfl).1 (H.get 0 rfl).1 qg) H fun w67 H=>⟨H.pick [0] [4,5,6,7],(rtp 12 (.bool (!(within (weights[((parS s c_1)[k]!).toNat]!) (weights[c_1]!)))) (H.pick [0] [4,5,6,7]) ?_)⟩))⟩)))⟩)
        refine xH qh ((meet ⟨_,Fe62,ae62,ce62,Fe61,ae61,ce61,uE9,N,H⟩))
      ·skip
       clear H N
       rintro ρ w69 ⟨xU,F53,a54,c55,F56,a57,c58,rfl,N,H⟩
       refine t_n (xI (!(within (weights[((parS s c_1)[k]!).toNat]!) (weights[c_1]!))) rfl (fun h70=>?_) (fun h70=>?_))
       ·skip
        replace h70:=xw h70
        refine zcr (sp (.bool false) (zjr (b_r (t_r (t_r (b_r (zr5 (ret1 (.bool false) rfl rfl ⟨_,rfl,?_,H.base⟩))))))))
        first | (exfalso;have r1:=rk qf;omega) | rw [qZ (neg_no (i:=i) (k:=k) (l:=zS s (s.qB[i]!).qF) qf (fun x=>mem_placeS p5 (p0.rule qf).1) qf qf)] | rw [qZ (ge_no (c:=c_1) (k:=k) (l:=parS s (c_1:Int)) qf (fun x=>mem_parS p5 ⟨by omega,by omega⟩) qf ql ql)]
       ·skip
        replace h70:=xf h70
        refine xh (b_n (t_n (xZ (sp (.int .i64 k) (sw (zB k 1 rfl rfl qf (sp (.int .i64 (k+1)) (zi (xq (m' :=((parS s (c_1:Int)).length - (k+1))) qf ⟨_,k+1,uE5,?_,?_,rfl,N,H.pick [0] [4,5,6,7]⟩)))))))))
        · exact i5.succ ql
        · omega
     ·skip
      refine c_exit (t_x (t_x (b_x (b_n (t_n (xZ (sp (.int .i64 c_1) (sw (zB c_1 1 rfl rfl qf (sp (.int .i64 (c_1+1)) (zi (xq (m' :=(s.qA.length - ((c_1+1):Int)).toNat) qf ⟨_,c_1+1,uE3,?_,?_,?_,rfl,N,H.pick [] [0,1,2,3]⟩))))))))))))
      · omega
      · first | exact i3.succ ((ge_iff (fun x=>mem_parS p5 ⟨by omega,by omega⟩)).1 (fun _ j hj=>i5 j qf)) | exact i3.succ (fun h=>absurd h ql)
      · omega
   ·skip
    refine zx4 (zcr (sp (.bool true) (zjr (ret1 (.bool true) rfl rfl ⟨_,rfl,?_,H.base⟩))))
    rw [jL ⟨fun j hj=>i1 j qf,fun j hj=>i3 j qf⟩]

theorem specBound_ok (w:World) (s:qG) (t:qR) (weights:yLL) {qE:yOA} {qV:yLN} {qI:yOA} {xx:yLN} {xk:yOA} {zF:yLN} {xJ:yOA} {vM:yLN} {qY:yOA} {zf:yLN} {aweights:yOA} {Fweights:yLN} (qP:qW.rep w qV [.slice qE s.qA.length qC] s.qA) (xm:qW.rep w xx [.slice qI s.qB.length qH] s.qB) (zu:qW.rep w zF [.slice xk t.qJ.length xe] t.qJ) (zW:qW.rep w vM [.slice xJ t.qN.length xG] t.qN) (xY:qW.rep w zf [.slice qY t.qM.length qX] t.qM) (hweights:qW.rep w Fweights [.slice aweights weights.length cweights] weights) (p0:zX s∧xQ s t) (p1:WtOk s weights):Calls Tryz.prog 7 #[.agg #[.int .i64 s.qQ,.slice qE s.qA.length qC,.slice qI s.qB.length qH],.agg #[.slice xk t.qJ.length xe,.slice xJ t.qN.length xG,.slice qY t.qM.length qX],.slice aweights weights.length cweights] w (Ret (fun v w' =>v=.tuple #[.int .i64 (bndV s t weights),.int .i64 (bndC s weights)]) w):=by
 refine en Tryz.func7 Tryz.ntmps7 ?_
 have H:=((((((St.start w).arg hweights).arg xY).arg zW).arg zu).arg xm).arg qP
 have zt:=qU qP
 have vF:=qU xm
 have Ql:=qU zu
 have Xq:=qU zW
 have yG:=qU xY
 have nhweights:=qU hweights
 clear qP xm zu zW xY hweights
 have N:=Fresh.nil w.heap.size
 have k1:=p0.1
 have k2:=p0.2
 refine zcr (sw (vK H [.int .i64 s.qQ,.slice qE s.qA.length qC,.slice qI s.qB.length qH] fun b1 w2 H=>sw (vK H [.slice xk t.qJ.length xe,.slice xJ t.qN.length xG,.slice qY t.qM.length qX] fun b3 w4 H=>sps [.int .i64 0,.int .i64 0] (zjcc (sw (oq (l03Both_ok _ s t (qK (H.cells 1 rfl) 0 3) (H.get 0 rfl).1 (H.get 1 rfl).1 (qK (H.cells 0 rfl) 0 3) (H.get 2 rfl).1 (H.get 3 rfl).1 (H.get 4 rfl).1) H fun w6 H=>sp (.bool (!(dec (zX s∧xQ s t)))) (zjn ?_)))))))
 refine xI (!(dec (zX s∧xQ s t))) rfl (fun h=>absurd p0 (zo (xw h))) (fun h8=>?_)
 replace h8:=xf h8
 replace h8:=jJ h8
 refine xh (t_n (zcc (sp (.slice aweights weights.length cweights) (sw (oq (l02Weights_ok _ s weights (qK (H.cells 1 rfl) 0 3) (H.get 0 rfl).1 (H.get 1 rfl).1 (H.get 5 rfl).1 qg qg) H fun w10 H=>sp (.bool !true) (zjn (xI (!true) rfl (fun h=>Bool.noConfusion (xw h)) (fun h12=>?_))))))))
 replace h12:=xf h12
 refine xh (t_n (zcc (sp (.slice aweights weights.length cweights) (sw (oq (l04Falls_ok _ s weights (qK (H.cells 1 rfl) 0 3) (H.get 0 rfl).1 (H.get 1 rfl).1 (H.get 5 rfl).1 qg qg) H fun w14 H=>sp (.bool (!(dec (Falls s weights)))) (zjn (cQ rfl (fun h16=>?_) (fun h16=>?_))))))))
 ·skip
  refine zcr (sps [.int .i64 0,.int .i64 8] (zjr (t_r (ret2 (.int .i64 0) (.int .i64 8) rfl rfl rfl ⟨_,rfl,?_,H.base⟩))))
  first | rw [(bnd_no (t:=t) ql).1,(bnd_no (t:=t) ql).2] | (exfalso;contradiction)
 ·skip
  refine xh (t_n (zcr (sw (xW [.int .i64 s.qQ,.slice qE s.qA.length qC,.slice qI s.qB.length qH] Tryz.isAgg27 Tryz.sizeOf27 rfl (qK (H.cells 1 rfl) 0 3) (sw (xW [.slice xk t.qJ.length xe,.slice xJ t.qN.length xG,.slice qY t.qM.length qX] Tryz.isAgg31 Tryz.sizeOf31 rfl (qK (H.cells 0 rfl) 0 3) (sp (.slice aweights weights.length cweights) (sw (oq (specWeigh_ok _ s t weights (H.get 0 rfl).1 (H.get 1 rfl).1 (H.get 2 rfl).1 (H.get 3 rfl).1 (H.get 4 rfl).1 (H.get 5 rfl).1 qg qg) H fun w18 H=>?_)))))))))
  refine sps [.tuple #[.int .i64 (weight t weights),.int .i64 0],.int .i64 (weight t weights),.int .i64 0,.int .i64 (weight t weights),.int .i64 0] (zjc (sps [.int .i64 (weight t weights),.int .i64 0,.int .i64 (weight t weights),.int .i64 0] (zjr (ret2 (.int .i64 (weight t weights)) (.int .i64 0) rfl rfl rfl ⟨_,rfl,?_,H.base⟩))))
  rw [(bnd_yes (t:=t) ql).1,(bnd_yes (t:=t) ql).2]

theorem gains_ok (w:World) (s:qG) (r:zK) (weights:yLL) {qE:yOA} {qV:yLN} {qI:yOA} {xx:yLN} {vk:yOA} {yL:yLN} {vC:yOA} {yP:yLN} {vw:yOA} {yM:yLN} {vz:yOA} {yO:yLN} {jO:yOA} {Xz:yLN} {zV:yOA} {Qh:yLN} {aweights:yOA} {Fweights:yLN} (qP:qW.rep w qV [.slice qE s.qA.length qC] s.qA) (xm:qW.rep w xx [.slice qI s.qB.length qH] s.qB) (hrNeed:qW.rep w yL [.slice vk r.xu.length zY] r.xu) (hrHave:qW.rep w yP [.slice vC r.xM.length vg] r.xM) (hrLack:qW.rep w yM [.slice vw r.xK.length zZ] r.xK) (hrHere:qW.rep w yO [.slice vz r.xF.length ve] r.xF) (hrOut:qW.rep w Xz [.slice jO r.zI.length jM] r.zI) (hrInto:qW.rep w Qh [.slice zV r.qL.length zT] r.qL) (hweights:qW.rep w Fweights [.slice aweights weights.length cweights] weights) (p0:zX s) (p1:RuleOk s r) (p2:WtOk s weights):Calls Tryz.prog 72 #[.agg #[.int .i64 s.qQ,.slice qE s.qA.length qC,.slice qI s.qB.length qH],.agg #[.int .i64 r.qF,.int .i64 r.zM,.slice vk r.xu.length zY,.slice vC r.xM.length vg,.slice vw r.xK.length zZ,.slice vz r.xF.length ve,.slice jO r.zI.length jM,.slice zV r.qL.length zT,.bool r.xR],.slice aweights weights.length cweights] w (Ret (fun v w' =>∃ (ra:yOA) (rn:Nat) (rc:Nat),v=.slice ra rn rc∧Fresh w.heap.size []∧St w w' [rr ra rn rc 2 1 ((vU r weights (zJ s r.qF)).map (Value.int .i64))] []) w):=by
 refine en Tryz.func72 Tryz.ntmps72 ?_
 have H:=(((((((((St.start w).arg hweights).arg hrInto).arg hrOut).arg hrHere).arg hrLack).arg hrHave).arg hrNeed).arg xm).arg qP
 have zt:=qU qP
 have vF:=qU xm
 have nhrNeed:=qU hrNeed
 have nhrHave:=qU hrHave
 have nhrLack:=qU hrLack
 have nhrHere:=qU hrHere
 have nhrOut:=qU hrOut
 have nhrInto:=qU hrInto
 have nhweights:=qU hweights
 clear qP xm hrNeed hrHave hrLack hrHere hrOut hrInto hweights
 have N:=Fresh.nil w.heap.size
 have G:=gainAt p0 p2 p1
 have g0:=G.cell
 have g1:=G.few
 have g2:=G.here
 have g3:=G.need
 have g4:=vT g2
 have g5:=vT g3
 have p3:=p2.len
 have p4:=p0.1.2.1
 have g6:y8 s r.qF:=p1.1
 have p5:=p0.1
 refine zcr (sw (vK H [.int .i64 s.qQ,.slice qE s.qA.length qC,.slice qI s.qB.length qH] fun b1 w2 H=>sw (vK H [.int .i64 r.qF,.int .i64 r.zM,.slice vk r.xu.length zY,.slice vC r.xM.length vg,.slice vw r.xK.length zZ,.slice vz r.xF.length ve,.slice jO r.zI.length jM,.slice zV r.qL.length zT,.bool r.xR] fun b3 w4 H=>sp (.slice none 0 0) (zjn (x8 ?_)))))
 obtain ⟨b5,o6,rfl⟩:=H.addr 8 rfl qf
 refine c_cut (fun ρ w11=>∃ (xU:Env) (F8:yLN) (a9:yOA) (c10:Nat),ρ=upd (upd (upd (upd xU 2 (.slice (some ⟨b5,o6,none⟩) weights.length cweights)) 3 (.pointer (some ⟨b1,0,none⟩))) 4 (.pointer (some ⟨b3,0,none⟩))) 7 (.int .i64 ((jS r.xF (weights[r.qF.toNat]!)) - (jS r.xu (weights[r.qF.toNat]!))))∧Fresh w.heap.size []∧St w w11 [.box b3 [.int .i64 r.qF,.int .i64 r.zM,.slice vk r.xu.length zY,.slice vC r.xM.length vg,.slice vw r.xK.length zZ,.slice vz r.xF.length ve,.slice jO r.zI.length jM,.slice zV r.qL.length zT,.bool r.xR] 49,.box b1 [.int .i64 s.qQ,.slice qE s.qA.length qC,.slice qI s.qB.length qH] 27] [sF false F8 a9 c10 (weights[r.qF.toNat]!),atF b5 (o6+(r.qF:Int).toNat * 1) [.slice a9 ((weights[r.qF.toNat]!).length) c10],sF false qV qE qC s.qA,sF false xx qI qH s.qB,sF false yL vk zY r.xu,sF false yP vC vg r.xM,sF false yM vw zZ r.xK,sF false yO vz ve r.xF,sF false Xz jO jM r.zI,sF false Qh zV zT r.qL,sF false Fweights (some ⟨b5,o6,none⟩) cweights weights]) ?_ ?_
 ·skip
  refine yf rfl H fun H=>tF 0 rfl rfl H ?_
  refine tL 1 rfl rfl (fun _ h=>h.cell 0 rfl rfl) H ?_
  refine rtp 2 (.slice (some ⟨b5,o6,none⟩) weights.length cweights) H ?_
  refine tF 3 rfl rfl H ?_
  refine tL 4 rfl rfl (fun _ h=>h.cell 0 rfl rfl) H ?_
  obtain ⟨ae13,ce13,Fe13,H⟩:=H.vV 8 rfl r.qF r.qF.toNat qf qf qf
  have S:=H.jm [0,1] [2,3,4,5,6,7,8,9,10]
  refine tI 5 rfl rfl rfl S ?_
  refine tF 8 rfl rfl S ?_
  refine tL 9 rfl rfl (fun _ h=>h.cell 0 rfl rfl) S ?_
  refine rtp 10 (.slice (some ⟨b5,o6,none⟩) weights.length cweights) S ?_
  refine tF 11 rfl rfl S ?_
  refine tL 12 rfl rfl (fun _ h=>h.cell 0 rfl rfl) S ?_
  refine tI 13 rfl rfl rfl S ?_
  refine jd [6,14] qh qm (jI rfl ?_ (jI rfl ?_ je))
  ·skip
   refine xX (.slice ae13 ((weights[r.qF.toNat]!).length) ce13) Tryz.isAgg24 rfl (H.zh 1 rfl 0 rfl) (⟨H.pick [0,1] [2,3,4,5,6,7,8,9,10],(jd [7,14] qh qm (jI rfl ?_ (jI rfl ?_ je)))⟩)
   ·skip
    refine oq (weigh_ok _ r.xF (weights[r.qF.toNat]!) (H.get 7 rfl).1 (H.get 0 rfl).1 (by first | assumption | exact hz qf | exact (gi qf).2 | exact G.out _ qf)) H fun w15 H=>⟨H.pick [0,1] [2,3,4,5,6,7,8,9,10],(ro 14 rfl (xX (.slice ae13 ((weights[r.qF.toNat]!).length) ce13) Tryz.isAgg24 rfl (H.zh 1 rfl 0 rfl) (⟨H.pick [0,1] [2,3,4,5,6,7,8,9,10],(ro 15 rfl (oq (weigh_ok _ r.xu (weights[r.qF.toNat]!) (H.get 4 rfl).1 (H.get 0 rfl).1 (by first | assumption | exact hz qf | exact (gi qf).2 | exact G.out _ qf)) H fun w18 H=>⟨H.pick [0,1] [2,3,4,5,6,7,8,9,10],?_⟩))⟩)))⟩
    have S:=H.jm [0,1] [2,3,4,5,6,7,8,9,10]
    refine rt 16 (.int .i64 ((jS r.xF (weights[r.qF.toNat]!)) - (jS r.xu (weights[r.qF.toNat]!)))) (y_sub (jS r.xF (weights[r.qF.toNat]!)) (jS r.xu (weights[r.qF.toNat]!)) rfl rfl (by (first | omega | (have h8:=gb qf;have h9:=vT (gi qf).2;omega) | (have h8:=gb qf;have h9:=po qf;omega) | (have h8:=G.bd r.qL.length (Nat.le_refl _);have h9:=vT (G.out _ qf);omega)))) S ?_
    refine rtp 17 (.int .i64 ((jS r.xF (weights[r.qF.toNat]!)) - (jS r.xu (weights[r.qF.toNat]!)))) S ?_
    refine xH qh ((meet ⟨_,Fe13,ae13,ce13,uE4,N,H⟩))
   ·skip
    refine xX (.slice ae13 ((weights[r.qF.toNat]!).length) ce13) Tryz.isAgg24 rfl (H.zh 1 rfl 0 rfl) (⟨H.pick [0,1] [2,3,4,5,6,7,8,9,10],(ro 7 rfl (oq (weigh_ok _ r.xF (weights[r.qF.toNat]!) (H.get 7 rfl).1 (H.get 0 rfl).1 (by first | assumption | exact hz qf | exact (gi qf).2 | exact G.out _ qf)) H fun w21 H=>⟨H.pick [0,1] [2,3,4,5,6,7,8,9,10],(ro 15 rfl (oq (weigh_ok _ r.xu (weights[r.qF.toNat]!) (H.get 4 rfl).1 (H.get 0 rfl).1 (by first | assumption | exact hz qf | exact (gi qf).2 | exact G.out _ qf)) H fun w24 H=>⟨H.pick [0,1] [2,3,4,5,6,7,8,9,10],?_⟩))⟩))⟩)
    have S:=H.jm [0,1] [2,3,4,5,6,7,8,9,10]
    refine rt 16 (.int .i64 ((jS r.xF (weights[r.qF.toNat]!)) - (jS r.xu (weights[r.qF.toNat]!)))) (y_sub (jS r.xF (weights[r.qF.toNat]!)) (jS r.xu (weights[r.qF.toNat]!)) rfl rfl (by (first | omega | (have h8:=gb qf;have h9:=vT (gi qf).2;omega) | (have h8:=gb qf;have h9:=po qf;omega) | (have h8:=G.bd r.qL.length (Nat.le_refl _);have h9:=vT (G.out _ qf);omega)))) S ?_
    refine rtp 17 (.int .i64 ((jS r.xF (weights[r.qF.toNat]!)) - (jS r.xu (weights[r.qF.toNat]!)))) S ?_
    refine xH qh ((meet ⟨_,Fe13,ae13,ce13,uE4,N,H⟩))
  ·skip
   refine xX (.slice ae13 ((weights[r.qF.toNat]!).length) ce13) Tryz.isAgg24 rfl (H.zh 1 rfl 0 rfl) (⟨H.pick [0,1] [2,3,4,5,6,7,8,9,10],(ro 6 rfl (xX (.slice ae13 ((weights[r.qF.toNat]!).length) ce13) Tryz.isAgg24 rfl (H.zh 1 rfl 0 rfl) (⟨H.pick [0,1] [2,3,4,5,6,7,8,9,10],(ro 7 rfl (oq (weigh_ok _ r.xF (weights[r.qF.toNat]!) (H.get 7 rfl).1 (H.get 0 rfl).1 (by first | assumption | exact hz qf | exact (gi qf).2 | exact G.out _ qf)) H fun w27 H=>⟨H.pick [0,1] [2,3,4,5,6,7,8,9,10],(ro 15 rfl ?_)⟩))⟩)))⟩)
   refine oq (weigh_ok _ r.xu (weights[r.qF.toNat]!) (H.get 4 rfl).1 (H.get 0 rfl).1 (by first | assumption | exact hz qf | exact (gi qf).2 | exact G.out _ qf)) H fun w30 H=>⟨H.pick [0,1] [2,3,4,5,6,7,8,9,10],?_⟩
   have S:=H.jm [0,1] [2,3,4,5,6,7,8,9,10]
   refine rt 16 (.int .i64 ((jS r.xF (weights[r.qF.toNat]!)) - (jS r.xu (weights[r.qF.toNat]!)))) (y_sub (jS r.xF (weights[r.qF.toNat]!)) (jS r.xu (weights[r.qF.toNat]!)) rfl rfl (by (first | omega | (have h8:=gb qf;have h9:=vT (gi qf).2;omega) | (have h8:=gb qf;have h9:=po qf;omega) | (have h8:=G.bd r.qL.length (Nat.le_refl _);have h9:=vT (G.out _ qf);omega)))) S ?_
   refine rtp 17 (.int .i64 ((jS r.xF (weights[r.qF.toNat]!)) - (jS r.xu (weights[r.qF.toNat]!)))) S ?_
   refine xH qh ((meet ⟨_,Fe13,ae13,ce13,uE4,N,H⟩))
 ·skip
  clear H N
  rintro ρ w32 ⟨xU,F8,a9,c10,rfl,N,H⟩
  refine t_n (zcc (oF rfl (oL rfl (H.cell 0 rfl rfl) (oN rfl (sp (.int .i64 0) (zjn (xg ?_)))))))
  refine zH (fun m' ρ w33=>∃ (xU:Env) (own:Int) (k:Nat),ρ=upd (upd (upd (upd (upd (upd (upd xU 2 (.slice (some ⟨b5,o6,none⟩) weights.length cweights)) 3 (.pointer (some ⟨b1,0,none⟩))) 4 (.pointer (some ⟨b3,0,none⟩))) 7 (.int .i64 own)) 32 (.slice zV r.qL.length zT)) 33 (.int .i64 r.qL.length)) 34 (.int .i64 k)∧own=(yj r weights k)∧((k:Int)≤r.qL.length)∧m' =(r.qL.length - (k:Int)).toNat∧Fresh w.heap.size []∧St w w33 [.box b3 [.int .i64 r.qF,.int .i64 r.zM,.slice vk r.xu.length zY,.slice vC r.xM.length vg,.slice vw r.xK.length zZ,.slice vz r.xF.length ve,.slice jO r.zI.length jM,.slice zV r.qL.length zT,.bool r.xR] 49,.box b1 [.int .i64 s.qQ,.slice qE s.qA.length qC,.slice qI s.qB.length qH] 27] [sF false F8 a9 c10 (weights[r.qF.toNat]!),atF b5 (o6+(r.qF:Int).toNat * 1) [.slice a9 ((weights[r.qF.toNat]!).length) c10],sF false qV qE qC s.qA,sF false xx qI qH s.qB,sF false yL vk zY r.xu,sF false yP vC vg r.xM,sF false yM vw zZ r.xK,sF false yO vz ve r.xF,sF false Xz jO jM r.zI,sF false Qh zV zT r.qL,sF false Fweights (some ⟨b5,o6,none⟩) cweights weights]) ((r.qL.length - (0:Int)).toNat) ⟨_,(jS r.xF (weights[r.qF.toNat]!)) - (jS r.xu (weights[r.qF.toNat]!)),0,uE7,(by exact ownTo_0 r weights),qf,rfl,N,H⟩ ?_
  clear H N
  rintro m' ρ w34 ⟨xU,own,k,rfl,rfl,i0,rfl,N,H⟩
  have gb:=G.bd k
  have gi:=G.into k
  refine zcr (sp (.bool (decide ((k:Int) < r.qL.length))) (zjn (x8 (cD rfl (fun h35=>?_) (fun h35=>?_)))))
  ·skip
   refine xh (t_n (x8 (xg (zcr ?_))))
   obtain ⟨b36,o37,rfl⟩:=H.addr 9 rfl qf
   obtain ⟨ae39Bag,ce39Bag,Fe39Bag,H⟩:=H.yt 9 rfl k k qf qf qf
   refine oI rfl rfl (sw (xW [.int .i64 ((r.qL[k]!).qF),.slice ae39Bag (((r.qL[k]!).jR).length) ce39Bag] Tryz.isAgg111 Tryz.sizeOf111 rfl (qK (H.get 1 rfl) 0 2) (sw (x9 H ti111 [.int .i64 0,.slice none 0 0] fun b40 w41 H=>sw (xP H 0 [.int .i64 ((r.qL[k]!).qF),.slice ae39Bag (((r.qL[k]!).jR).length) ce39Bag] Tryz.sizeOf111 fun w42 H=>zjn ?_)))))
   refine yf rfl H fun H=>rtp 0 (.int .i64 (yj r weights k)) H ?_
   refine tF 1 rfl rfl H ?_
   refine tL 2 rfl rfl (fun _ h=>h.cell 0 rfl rfl) H ?_
   refine rtp 3 (.slice (some ⟨b5,o6,none⟩) weights.length cweights) H ?_
   refine tF 4 rfl rfl H ?_
   refine tL 5 rfl rfl (fun _ h=>h.cell 0 rfl rfl) H ?_
   obtain ⟨ae44,ce44,Fe44,H⟩:=H.vV 12 rfl ((r.qL[k]!).qF) (((r.qL[k]!).qF).toNat) qf qf qf
   refine tI 6 rfl rfl rfl (H.pick [0,1,2] [2,3,4,5,6,7,8,9,10,11,12,13,14]) ?_
   refine ro 7 rfl (xX (.slice ae44 ((weights[((r.qL[k]!).qF).toNat]!).length) ce44) Tryz.isAgg24 rfl (H.zh 1 rfl 0 rfl) (⟨H.pick [0,1,2] [2,3,4,5,6,7,8,9,10,11,12,13,14],(ro 8 rfl (oq (weigh_ok _ ((r.qL[k]!).jR) (weights[((r.qL[k]!).qF).toNat]!) (H.get 2 rfl).1 (H.get 0 rfl).1 (by first | assumption | exact hz qf | exact (gi qf).2 | exact G.out _ qf)) H fun w46 H=>⟨H.pick [0,1,2] [2,3,4,5,6,7,8,9,10,11,12,13,14],?_⟩))⟩))
   have S:=H.jm [0,1,2] [2,3,4,5,6,7,8,9,10,11,12,13,14]
   refine rt 9 (.int .i64 ((yj r weights k)+(jS ((r.qL[k]!).jR) (weights[((r.qL[k]!).qF).toNat]!)))) (y_add (yj r weights k) (jS ((r.qL[k]!).jR) (weights[((r.qL[k]!).qF).toNat]!)) rfl rfl (by (first | omega | (have h8:=gb qf;have h9:=vT (gi qf).2;omega) | (have h8:=gb qf;have h9:=po qf;omega) | (have h8:=G.bd r.qL.length (Nat.le_refl _);have h9:=vT (G.out _ qf);omega)))) S ?_
   refine rtp 10 (.int .i64 ((yj r weights k)+(jS ((r.qL[k]!).jR) (weights[((r.qL[k]!).qF).toNat]!)))) S ?_
   refine xH qh (b_n (t_n (xZ (sw (zB k 1 rfl rfl (by (first | omega | (have h8:=gb qf;have h9:=vT (gi qf).2;omega) | (have h8:=gb qf;have h9:=po qf;omega) | (have h8:=G.bd r.qL.length (Nat.le_refl _);have h9:=vT (G.out _ qf);omega))) (sp (.int .i64 (k+1)) (zi (xq (m' :=(r.qL.length - ((k+1):Int)).toNat) qf ⟨_,(yj r weights k)+(jS ((r.qL[k]!).jR) (weights[((r.qL[k]!).qF).toNat]!)),k+1,uE7,?_,?_,rfl,N,H.pick [1,2] [4,5,6,7,8,9,10,11,12,13,14]⟩))))))))
   · exact ownTo_succ r weights k
   · omega
  ·skip
   refine zx4 (zcr (sw (xW [.int .i64 s.qQ,.slice qE s.qA.length qC,.slice qI s.qB.length qH] Tryz.isAgg27 Tryz.sizeOf27 rfl (qK (H.cells 1 rfl) 0 3) (oF rfl (oL rfl (H.cell 0 rfl rfl) ?_)))))
   have sz51:=H.base.size
   refine sw (oc (possParents_ok _ s r.qF (H.get 2 rfl).1 (H.get 3 rfl).1 qg qg) ?_)
   rintro _ w49 ⟨ra48,rn48,rc48,rfl,M,K⟩ _
   replace H:=H.merge K M
   obtain rfl:=H.jb 0 rfl
   refine sp (.slice ra48 ((yK s r.qF).length) rc48) (zjcc (oF rfl (oL rfl (H.cell 1 rfl rfl) (sp (.bool ((r.qF:Int) == 0)) (zjn (cE rfl (fun h54=>?_) (fun h54=>?_)))))))
   ·skip
    refine xZ (sw (xW [.int .i64 s.qQ,.slice qE s.qA.length qC,.slice qI s.qB.length qH] Tryz.isAgg27 Tryz.sizeOf27 rfl (qK (H.cells 2 rfl) 0 3) (sw (oq (around_ok _ s (H.get 2 rfl).1 (H.get 3 rfl).1) H fun w56 H=>sw (zA H Tryz.underlying24 ti2 [.int .i64 s.qA.length] fun b58 w59 H=>sp (.slice (some ⟨b58,0,none⟩) 1 1) (zjc (sw (yJ H Tryz.underlying24 ti2 fun b60 w61 H=>sp (.slice (some ⟨b60,0,none⟩) 0 0) (zjcc (sp (.slice (some ⟨b58,0,none⟩) 1 1) (oN rfl (sp (.int .i64 0) (zjn (xg ?_))))))))))))))
    replace H:=H.boxRowI 1 [s.qA.length] 1
    obtain ⟨G62,N,hn63,H⟩:=H.vG 1 rfl N (H.yg [])
    have pe:=placeI_0 (s:=s) (c:=r.qF) ql
    rw [← pe] at H
    have pl:=congrArg List.length pe
    try simp only [List.length_cons,List.length_nil] at pl
    have pa:=fun k h=>placeI_at p5 g6 (k:=k) h
    replace H:=H.boxRowI 0 [] 0
    refine zH (fun m' ρ w64=>∃ (xU:Env) (vZ:yOA) (zG:Nat) (vX:Nat) (out:yLI) (k_1:Nat),ρ=upd (upd (upd (upd (upd (upd (upd xU 2 (.slice (some ⟨b5,o6,none⟩) weights.length cweights)) 4 (.pointer (some ⟨b3,0,none⟩))) 7 (.int .i64 (yj r weights k))) 11 (.slice vZ zG vX)) 60 (.slice (some ⟨b58,0,none⟩) 1 1)) 61 (.int .i64 1)) 62 (.int .i64 k_1)∧out=(vU r weights ((zJ s r.qF).take k_1))∧((k_1:Int)≤1)∧m' =(1 - (k_1:Int)).toNat∧Fresh w.heap.size [G62]∧St w w64 [rr vZ zG vX 2 1 (out.map (Value.int .i64)),rr ra48 ((yK s r.qF).length) rc48 2 1 ((yK s r.qF).map (Value.int .i64)),.box b3 [.int .i64 r.qF,.int .i64 r.zM,.slice vk r.xu.length zY,.slice vC r.xM.length vg,.slice vw r.xK.length zZ,.slice vz r.xF.length ve,.slice jO r.zI.length jM,.slice zV r.qL.length zT,.bool r.xR] 49,.box b1 [.int .i64 s.qQ,.slice qE s.qA.length qC,.slice qI s.qB.length qH] 27] [isF true G62 (.slice (some ⟨b58,0,none⟩) 1 1) (zJ s r.qF),sF false F8 a9 c10 (weights[r.qF.toNat]!),atF b5 (o6+(r.qF:Int).toNat * 1) [.slice a9 ((weights[r.qF.toNat]!).length) c10],sF false qV qE qC s.qA,sF false xx qI qH s.qB,sF false yL vk zY r.xu,sF false yP vC vg r.xM,sF false yM vw zZ r.xK,sF false yO vz ve r.xF,sF false Xz jO jM r.zI,sF false Qh zV zT r.qL,sF false Fweights (some ⟨b5,o6,none⟩) cweights weights]) ((1 - (0:Int)).toNat) ⟨_,(some ⟨b60,0,none⟩),0,0,([]:yLI),0,uE7,(by rfl),qf,rfl,N,H.pick [0,2,3,4] [0,1,2,3,4,5,6,7,8,9,10,11]⟩ ?_
    clear H N
    rintro m' ρ w65 ⟨xU,vZ,zG,vX,out,k_1,rfl,rfl,i0,rfl,N,H⟩
    have hn_out:=H.jb 0 rfl
    have pk:=pa k_1
    have po:=fun h=>vT (G.out (((zJ s r.qF)[k_1]!).toNat) (by have:=pk h;omega))
    have gl:=gains_len r weights ((zJ s r.qF).take k_1)
    have tl:=List.length_take_le k_1 (zJ s r.qF)
    have pq:=placeI_len p5 r.qF
    refine zcr (sp (.bool (decide ((k_1:Int) < 1))) (zjn (x8 (cD rfl (fun h66=>?_) (fun h66=>?_)))))
    ·skip
     refine xh (t_n (x8 (xg (zcr (oI rfl rfl (oL rfl (H.ji 0 rfl k_1 qf qf) (sp (.int .i64 ((zJ s r.qF)[k_1]!)) (zjn ?_))))))))
     refine Qo rfl H [1,2,3] fun H=>?_
     have S:=H.jm [1,2,3] [0,1,2,3,4,5,6,7,8,9,10,11]
     refine rtp 0 (.slice vZ zG vX) S ?_
     refine rtp 1 (.int .i64 (yj r weights k)) S ?_
     refine tF 2 rfl rfl S ?_
     refine tL 3 rfl rfl (fun _ h=>h.cell 1 rfl rfl) S ?_
     refine rtp 4 (.slice (some ⟨b5,o6,none⟩) weights.length cweights) S ?_
     refine rtp 5 (.int .i64 ((zJ s r.qF)[k_1]!)) S ?_
     obtain ⟨ae68,ce68,Fe68,H⟩:=H.vV 11 rfl ((zJ s r.qF)[k_1]!) (((zJ s r.qF)[k_1]!).toNat) qf qf qf
     refine tI 6 rfl rfl rfl (H.pick [1,2,3] [2,3,4,5,6,7,8,9,10,11,12,13]) ?_
     refine ro 7 rfl (xX (.slice ae68 ((weights[((zJ s r.qF)[k_1]!).toNat]!).length) ce68) Tryz.isAgg24 rfl (H.zh 1 rfl 0 rfl) (⟨H.pick [1,2,3] [2,3,4,5,6,7,8,9,10,11,12,13],(ro 8 rfl (oq (weigh_ok _ r.zI (weights[((zJ s r.qF)[k_1]!).toNat]!) (H.get 11 rfl).1 (H.get 0 rfl).1 (by first | assumption | exact hz qf | exact (gi qf).2 | exact G.out _ qf)) H fun w70 H=>⟨H.pick [1,2,3] [2,3,4,5,6,7,8,9,10,11,12,13],?_⟩))⟩))
     refine rt 9 (.int .i64 ((yj r weights k)+(jS r.zI (weights[((zJ s r.qF)[k_1]!).toNat]!)))) (y_add (yj r weights k) (jS r.zI (weights[((zJ s r.qF)[k_1]!).toNat]!)) rfl rfl (by (first | omega | (have h8:=gb qf;have h9:=vT (gi qf).2;omega) | (have h8:=gb qf;have h9:=po qf;omega) | (have h8:=G.bd r.qL.length (Nat.le_refl _);have h9:=vT (G.out _ qf);omega)))) (H.pick [1,2,3] [2,3,4,5,6,7,8,9,10,11,12,13]) ?_
     refine ro 10 rfl (zA H Tryz.underlying24 ti2 [.int .i64 ((yj r weights k)+(jS r.zI (weights[((zJ s r.qF)[k_1]!).toNat]!)))] fun b72 w73 H=>⟨H.pick [2,3,4] [2,3,4,5,6,7,8,9,10,11,12,13],(ro 11 rfl (zL H 1 rfl 0 rfl Tryz.underlying24 ti2 rfl qj rfl rfl rfl qw qp qf fun a74 c75 w76 H=>?_))⟩)
     rw [snocI] at H
     refine ⟨H.pick [2,3,4] [2,3,4,5,6,7,8,9,10,11,12,13],(rtp 12 (.slice a74 (zG+1) c75) (H.pick [2,3,4] [2,3,4,5,6,7,8,9,10,11,12,13]) ?_)⟩
     refine xH qh (b_n (t_n (xZ (sw (zB k_1 1 rfl rfl (by (first | omega | (have h8:=gb qf;have h9:=vT (gi qf).2;omega) | (have h8:=gb qf;have h9:=po qf;omega) | (have h8:=G.bd r.qL.length (Nat.le_refl _);have h9:=vT (G.out _ qf);omega))) (sp (.int .i64 (k_1+1)) (zi (xq (m' :=(1 - ((k_1+1):Int)).toNat) qf ⟨_,a74,zG+1,c75,((vU r weights ((zJ s r.qF).take k_1))++[(yj r weights k)+(jS r.zI (weights[((zJ s r.qF)[k_1]!).toNat]!))]),k_1+1,uE7,?_,?_,rfl,N,H.pick [1,2,3,4] [2,3,4,5,6,7,8,9,10,11,12,13]⟩))))))))
     · exact gains_snoc qf (by rw [show k=r.qL.length by omega])
     · omega
    ·skip
     refine zx4 (zcr (sps [.slice vZ zG vX,.slice vZ zG vX] (zjr (ret1 (.slice vZ zG vX) rfl rfl ⟨_,rfl,?_,H.base⟩))))
     rw [← take_all (l:=zJ s r.qF) (k:=k_1) qf]
     exact ⟨vZ,zG,vX,rfl,(N.pick []),H.pick [0] []⟩
   ·skip
    refine xh (t_n (zcr (sw (yJ H Tryz.underlying24 ti2 fun b77 w78 H=>sp (.slice (some ⟨b77,0,none⟩) 0 0) (zjcc (sp (.slice ra48 ((yK s r.qF).length) rc48) (oN rfl (sp (.int .i64 0) (zjn (xg ?_))))))))))
    have pe:=placeI_1 (s:=s) (c:=r.qF) ql
    rw [← pe] at H ⊢
    have pl:=congrArg List.length pe
    try simp only [List.length_cons,List.length_nil] at pl
    have pa:=fun k h=>placeI_at p5 g6 (k:=k) h
    replace H:=H.boxRowI 0 [] 0
    refine zH (fun m' ρ w79=>∃ (xU:Env) (vZ:yOA) (zG:Nat) (vX:Nat) (out:yLI) (k_1:Nat),ρ=upd (upd (upd (upd (upd (upd (upd xU 2 (.slice (some ⟨b5,o6,none⟩) weights.length cweights)) 4 (.pointer (some ⟨b3,0,none⟩))) 7 (.int .i64 (yj r weights k))) 11 (.slice vZ zG vX)) 60 (.slice ra48 ((zJ s r.qF).length) rc48)) 61 (.int .i64 ((zJ s r.qF).length))) 62 (.int .i64 k_1)∧out=(vU r weights ((zJ s r.qF).take k_1))∧((k_1:Int)≤((zJ s r.qF).length))∧m' =(((zJ s r.qF).length) - (k_1:Int)).toNat∧Fresh w.heap.size []∧St w w79 [rr vZ zG vX 2 1 (out.map (Value.int .i64)),rr ra48 ((zJ s r.qF).length) rc48 2 1 ((zJ s r.qF).map (Value.int .i64)),.box b3 [.int .i64 r.qF,.int .i64 r.zM,.slice vk r.xu.length zY,.slice vC r.xM.length vg,.slice vw r.xK.length zZ,.slice vz r.xF.length ve,.slice jO r.zI.length jM,.slice zV r.qL.length zT,.bool r.xR] 49,.box b1 [.int .i64 s.qQ,.slice qE s.qA.length qC,.slice qI s.qB.length qH] 27] [sF false F8 a9 c10 (weights[r.qF.toNat]!),atF b5 (o6+(r.qF:Int).toNat * 1) [.slice a9 ((weights[r.qF.toNat]!).length) c10],sF false qV qE qC s.qA,sF false xx qI qH s.qB,sF false yL vk zY r.xu,sF false yP vC vg r.xM,sF false yM vw zZ r.xK,sF false yO vz ve r.xF,sF false Xz jO jM r.zI,sF false Qh zV zT r.qL,sF false Fweights (some ⟨b5,o6,none⟩) cweights weights]) ((((zJ s r.qF).length) - (0:Int)).toNat) ⟨_,(some ⟨b77,0,none⟩),0,0,([]:yLI),0,uE7,(by rfl),qf,rfl,N,H⟩ ?_
    clear H N
    rintro m' ρ w80 ⟨xU,vZ,zG,vX,out,k_1,rfl,rfl,i0,rfl,N,H⟩
    have hn_out:=H.jb 0 rfl
    have pk:=pa k_1
    have po:=fun h=>vT (G.out (((zJ s r.qF)[k_1]!).toNat) (by have:=pk h;omega))
    have gl:=gains_len r weights ((zJ s r.qF).take k_1)
    have tl:=List.length_take_le k_1 (zJ s r.qF)
    have pq:=placeI_len p5 r.qF
    refine zcr (sp (.bool (decide ((k_1:Int) < ((zJ s r.qF).length)))) (zjn (x8 (cD rfl (fun h81=>?_) (fun h81=>?_)))))
    ·skip
     refine xh (t_n (x8 (xg (zcr ?_))))
     obtain ⟨b82,rfl⟩:=H.Xo 1 rfl qf
     refine oI rfl rfl (oL rfl (H.rowInt 1 rfl (iv:=k_1) (i:=k_1) qf qf) (sp (.int .i64 ((zJ s r.qF)[k_1]!)) (zjn ?_)))
     refine Qo rfl H [1,2,3] fun H=>?_
     have S:=H.jm [1,2,3] [0,1,2,3,4,5,6,7,8,9,10]
     refine rtp 0 (.slice vZ zG vX) S ?_
     refine rtp 1 (.int .i64 (yj r weights k)) S ?_
     refine tF 2 rfl rfl S ?_
     refine tL 3 rfl rfl (fun _ h=>h.cell 1 rfl rfl) S ?_
     refine rtp 4 (.slice (some ⟨b5,o6,none⟩) weights.length cweights) S ?_
     refine rtp 5 (.int .i64 ((zJ s r.qF)[k_1]!)) S ?_
     obtain ⟨ae84,ce84,Fe84,H⟩:=H.vV 10 rfl ((zJ s r.qF)[k_1]!) (((zJ s r.qF)[k_1]!).toNat) qf qf qf
     refine tI 6 rfl rfl rfl (H.pick [1,2,3] [2,3,4,5,6,7,8,9,10,11,12]) ?_
     refine ro 7 rfl (xX (.slice ae84 ((weights[((zJ s r.qF)[k_1]!).toNat]!).length) ce84) Tryz.isAgg24 rfl (H.zh 1 rfl 0 rfl) (⟨H.pick [1,2,3] [2,3,4,5,6,7,8,9,10,11,12],(ro 8 rfl (oq (weigh_ok _ r.zI (weights[((zJ s r.qF)[k_1]!).toNat]!) (H.get 10 rfl).1 (H.get 0 rfl).1 (by first | assumption | exact hz qf | exact (gi qf).2 | exact G.out _ qf)) H fun w86 H=>⟨H.pick [1,2,3] [2,3,4,5,6,7,8,9,10,11,12],?_⟩))⟩))
     refine rt 9 (.int .i64 ((yj r weights k)+(jS r.zI (weights[((zJ s r.qF)[k_1]!).toNat]!)))) (y_add (yj r weights k) (jS r.zI (weights[((zJ s r.qF)[k_1]!).toNat]!)) rfl rfl (by (first | omega | (have h8:=gb qf;have h9:=vT (gi qf).2;omega) | (have h8:=gb qf;have h9:=po qf;omega) | (have h8:=G.bd r.qL.length (Nat.le_refl _);have h9:=vT (G.out _ qf);omega)))) (H.pick [1,2,3] [2,3,4,5,6,7,8,9,10,11,12]) ?_
     refine ro 10 rfl (zA H Tryz.underlying24 ti2 [.int .i64 ((yj r weights k)+(jS r.zI (weights[((zJ s r.qF)[k_1]!).toNat]!)))] fun b88 w89 H=>⟨H.pick [2,3,4] [2,3,4,5,6,7,8,9,10,11,12],(ro 11 rfl (zL H 1 rfl 0 rfl Tryz.underlying24 ti2 rfl qj rfl rfl rfl qw qp qf fun a90 c91 w92 H=>?_))⟩)
     rw [snocI] at H
     refine ⟨H.pick [2,3,4] [2,3,4,5,6,7,8,9,10,11,12],(rtp 12 (.slice a90 (zG+1) c91) (H.pick [2,3,4] [2,3,4,5,6,7,8,9,10,11,12]) ?_)⟩
     refine xH qh (b_n (t_n (xZ (sw (zB k_1 1 rfl rfl (by (first | omega | (have h8:=gb qf;have h9:=vT (gi qf).2;omega) | (have h8:=gb qf;have h9:=po qf;omega) | (have h8:=G.bd r.qL.length (Nat.le_refl _);have h9:=vT (G.out _ qf);omega))) (sp (.int .i64 (k_1+1)) (zi ?_)))))))
     refine xq (m' :=(((zJ s r.qF).length) - ((k_1+1):Int)).toNat) qf ⟨_,a90,zG+1,c91,((vU r weights ((zJ s r.qF).take k_1))++[(yj r weights k)+(jS r.zI (weights[((zJ s r.qF)[k_1]!).toNat]!))]),k_1+1,uE7,?_,?_,rfl,N,H.pick [1,2,3,4] [2,3,4,5,6,7,8,9,10,11,12]⟩
     · exact gains_snoc qf (by rw [show k=r.qL.length by omega])
     · omega
    ·skip
     refine zx4 (zcr (sps [.slice vZ zG vX,.slice vZ zG vX] (zjr (ret1 (.slice vZ zG vX) rfl rfl ⟨_,rfl,?_,H.base⟩))))
     rw [← take_all (l:=zJ s r.qF) (k:=k_1) qf]
     exact ⟨vZ,zG,vX,rfl,N,H.pick [0] []⟩

theorem weightsCode_ok (w:World) (s:qG) (weights:yLL) {qE:yOA} {qV:yLN} {qI:yOA} {xx:yLN} {aweights:yOA} {Fweights:yLN} (qP:qW.rep w qV [.slice qE s.qA.length qC] s.qA) (xm:qW.rep w xx [.slice qI s.qB.length qH] s.qB) (hweights:qW.rep w Fweights [.slice aweights weights.length cweights] weights) (p0:zX s) (p1:WtOk s weights):Calls Tryz.prog 37 #[.agg #[.int .i64 s.qQ,.slice qE s.qA.length qC,.slice qI s.qB.length qH],.slice aweights weights.length cweights] w (Ret (fun v w' =>v=.int .i64 0) w):=by
 refine en Tryz.func37 Tryz.ntmps37 ?_
 have H:=(((St.start w).arg hweights).arg xm).arg qP
 have zt:=qU qP
 have vF:=qU xm
 have nhweights:=qU hweights
 clear qP xm hweights
 have N:=Fresh.nil w.heap.size
 refine zcr (sw (vK H [.int .i64 s.qQ,.slice qE s.qA.length qC,.slice qI s.qB.length qH] fun b1 w2 H=>sp (.int .i64 0) (zjn (x8 (xg (zcr (sw (xW [.int .i64 s.qQ,.slice qE s.qA.length qC,.slice qI s.qB.length qH] Tryz.isAgg27 Tryz.sizeOf27 rfl (qK (H.cells 0 rfl) 0 3) (sw (oq (validSystem_ok _ s (H.get 0 rfl).1 (H.get 1 rfl).1) H fun w4 H=>sps [.bool (!(dec (zX s))),.bool (!(dec (zX s)))] (zjn (xI (!(dec (zX s))) rfl (fun h=>absurd p0 (zo (xw h))) (fun h6=>?_)))))))))))))
 replace h6:=xf h6
 replace h6:=jJ h6
 refine zcr (sw (xW [.int .i64 s.qQ,.slice qE s.qA.length qC,.slice qI s.qB.length qH] Tryz.isAgg27 Tryz.sizeOf27 rfl (qK (H.cells 0 rfl) 0 3) (sp (.slice aweights weights.length cweights) (sw (oq (areWeights_ok _ s weights (H.get 0 rfl).1 (H.get 1 rfl).1 (H.get 2 rfl).1 qg qg) H fun w8 H=>sps [.bool !true,.bool !true] (zjn (xI (!true) rfl (fun h=>Bool.noConfusion (xw h)) (fun h10=>?_))))))))
 replace h10:=xf h10
 refine xh (b_n (t_n (zcr (sp (.int .i64 0) (zjr (ret1 (.int .i64 0) rfl rfl ⟨_,rfl,?_,H.base⟩))))))
 rfl

theorem isPotential_ok (w:World) (s:qG) (weights:yLL) {qE:yOA} {qV:yLN} {qI:yOA} {xx:yLN} {aweights:yOA} {Fweights:yLN} (qP:qW.rep w qV [.slice qE s.qA.length qC] s.qA) (xm:qW.rep w xx [.slice qI s.qB.length qH] s.qB) (hweights:qW.rep w Fweights [.slice aweights weights.length cweights] weights) (p0:zX s) (p2:WtOk s weights):Calls Tryz.prog 19 #[.agg #[.int .i64 s.qQ,.slice qE s.qA.length qC,.slice qI s.qB.length qH],.slice aweights weights.length cweights] w (Ret (fun v w' =>v=.tuple #[.bool (dec (Falls s weights)),.int .i64 0]) w):=by
 refine en Tryz.func19 Tryz.ntmps19 ?_
 have H:=(((St.start w).arg hweights).arg xm).arg qP
 have zt:=qU qP
 have vF:=qU xm
 have nhweights:=qU hweights
 clear qP xm hweights
 have N:=Fresh.nil w.heap.size
 have p3:=p2.len
 have p4:=p0.1.2.1
 have p5:=p0.1
 have p6:=p0.2.1
 have p7:=p0.1.1
 refine zcr (sw (vK H [.int .i64 s.qQ,.slice qE s.qA.length qC,.slice qI s.qB.length qH] fun b1 w2 H=>sps [.bool false,.int .i64 0] (zjcc (sw (xW [.int .i64 s.qQ,.slice qE s.qA.length qC,.slice qI s.qB.length qH] Tryz.isAgg27 Tryz.sizeOf27 rfl (qK (H.cells 0 rfl) 0 3) (sp (.slice aweights weights.length cweights) (sw (oq (weightsCode_ok _ s weights (H.get 0 rfl).1 (H.get 1 rfl).1 (H.get 2 rfl).1 qg qg) H fun w4 H=>sp (.int .i64 0) (zjc ?_)))))))))
 refine sps [.int .i64 0,.bool false] (zjn (xI false rfl (fun h=>absurd h qj) (fun _=>xh (t_n (zcc (sp (.slice aweights weights.length cweights) (oN rfl (sp (.int .i64 0) (zjn (xg ?_))))))))))
 refine zH (fun m' ρ w6=>∃ (xU:Env) (k:Nat),ρ=upd (upd (upd (upd (upd xU 1 (.slice aweights weights.length cweights)) 2 (.pointer (some ⟨b1,0,none⟩))) 15 (.slice aweights weights.length cweights)) 16 (.int .i64 weights.length)) 17 (.int .i64 k)∧((k:Int)≤weights.length)∧m' =(weights.length - (k:Int)).toNat∧Fresh w.heap.size []∧St w w6 [.box b1 [.int .i64 s.qQ,.slice qE s.qA.length qC,.slice qI s.qB.length qH] 27] [sF false qV qE qC s.qA,sF false xx qI qH s.qB,sF false Fweights aweights cweights weights]) ((weights.length - (0:Int)).toNat) ⟨_,0,uE5,qf,rfl,N,H⟩ ?_
 clear H N
 rintro m' ρ w7 ⟨xU,k,rfl,i0,rfl,N,H⟩
 have rw_:=fun h=>wt_in p2 (c:=k) h
 refine zcr (sp (.bool (decide ((k:Int) < weights.length))) (zjn (x8 (cD rfl (fun h8=>?_) (fun h8=>?_)))))
 ·skip
  refine xh (t_n (x8 (xg (zcr ?_))))
  obtain ⟨b9,o10,rfl⟩:=H.addr 2 rfl qf
  obtain ⟨ae12,ce12,Fe12,H⟩:=H.vV 2 rfl k k qf qf qf
  refine oI rfl rfl (oL rfl (H.zh 1 rfl 0 rfl) (sp (.slice ae12 ((weights[k]!).length) ce12) (zjc (sp (.slice ae12 ((weights[k]!).length) ce12) ?_))))
  have r1:=(rw_ qf).1
  refine sw (oq (minI_ok _ (weights[k]!) (H.get 0 rfl).1 qg) H fun w14 H=>sp (.bool (decide ((minL (weights[k]!):Int) < 0))) (zjn (cD rfl (fun h16=>?_) (fun h16=>?_))))
  ·skip
   refine zcr (sps [.bool false,.int .i64 0] (zjr (zr5 (ret2 (.bool false) (.int .i64 0) rfl rfl rfl ⟨_,rfl,?_,H.base⟩))))
   first | (exfalso;omega) | (exfalso;exact (minL_neg qf).1 ‹minL _ < 0› (fun k hk=>((rw_ qf).2 k hk).1)) | rw [qZ (neg_no (i:=k_1) (k:=k_51) (l:=zJ s (s.qB[k_1]!).qF) qf (fun x=>mem_placeI) qf qf)] | rw [qZ (ge_no2 (c:=c) (k:=k_51) (j:=k_52) (l:=(yK s (c:Int))) qf (fun x=>mem_poss) qf ql qf qf)]
  ·skip
   refine xh (b_n (t_n (xZ (sw (zB k 1 rfl rfl qf (sp (.int .i64 (k+1)) (zi (xq (m' :=(weights.length - ((k+1):Int)).toNat) qf ⟨_,k+1,uE5,?_,rfl,N,H.pick [0] [2,3,4]⟩))))))))
   · omega
 ·skip
  refine zx4 (zcr (sw (xW [.int .i64 s.qQ,.slice qE s.qA.length qC,.slice qI s.qB.length qH] Tryz.isAgg27 Tryz.sizeOf27 rfl (qK (H.cells 0 rfl) 0 3) (sp (.slice aweights weights.length cweights) (sw (jA #[.agg #[.int .i64 s.qQ,.slice qE s.qA.length qC,.slice qI s.qB.length qH],.slice aweights weights.length cweights,.func (.func 40) #[] #[],.func (.func 41) #[] #[]] rfl rfl Tryz.call39 (en Tryz.func39 Tryz.ntmps39 ?_)))))))
  refine zcr (sw (vK H [.int .i64 s.qQ,.slice qE s.qA.length qC,.slice qI s.qB.length qH] fun b17 w18 H=>sp (.bool false) (zjcc (oF rfl (oL rfl (H.cell 0 rfl rfl) (oN rfl (sp (.int .i64 0) (zjn (xg ?_)))))))))
  refine zH (fun m' ρ w19=>∃ (xU:Env) (k_1:Nat),ρ=upd (upd (upd (upd (upd (upd (upd xU 1 (.slice aweights weights.length cweights)) 2 (.func (.func 40) #[] #[])) 3 (.func (.func 41) #[] #[])) 4 (.pointer (some ⟨b17,0,none⟩))) 19 (.slice qI s.qB.length qH)) 20 (.int .i64 s.qB.length)) 21 (.int .i64 k_1)∧((k_1:Int)≤s.qB.length)∧(GainsTo s weights k_1)∧m' =(s.qB.length - (k_1:Int)).toNat∧Fresh w.heap.size []∧St w w19 [.box b17 [.int .i64 s.qQ,.slice qE s.qA.length qC,.slice qI s.qB.length qH] 27,.box b1 [.int .i64 s.qQ,.slice qE s.qA.length qC,.slice qI s.qB.length qH] 27] [sF false qV qE qC s.qA,sF false xx qI qH s.qB,sF false Fweights aweights cweights weights]) ((s.qB.length - (0:Int)).toNat) ⟨_,0,uE7,qf,(by exact GainsTo.zero s weights),rfl,N,H⟩ ?_
  clear H N
  rintro m' ρ w20 ⟨xU,k_1,rfl,i0,i1,rfl,N,H⟩
  refine zcr (sp (.bool (decide ((k_1:Int) < s.qB.length))) (zjn (x8 (cD rfl (fun h21=>?_) (fun h21=>?_)))))
  ·skip
   refine xh (t_n (x8 (xg (zcr ?_))))
   obtain ⟨b22,o23,rfl⟩:=H.addr 1 rfl qf
   obtain ⟨ae25Need,ce25Need,Fe25Need,ae25Have,ce25Have,Fe25Have,ae25Lack,ce25Lack,Fe25Lack,ae25Here,ce25Here,Fe25Here,ae25Out,ce25Out,Fe25Out,ae25Into,ce25Into,Fe25Into,H⟩:=H.Qv 1 rfl k_1 k_1 qf qf qf
   refine oI rfl rfl (sw (xW [.int .i64 ((s.qB[k_1]!).qF),.int .i64 ((s.qB[k_1]!).zM),.slice ae25Need (((s.qB[k_1]!).xu).length) ce25Need,.slice ae25Have (((s.qB[k_1]!).xM).length) ce25Have,.slice ae25Lack (((s.qB[k_1]!).xK).length) ce25Lack,.slice ae25Here (((s.qB[k_1]!).xF).length) ce25Here,.slice ae25Out (((s.qB[k_1]!).zI).length) ce25Out,.slice ae25Into (((s.qB[k_1]!).qL).length) ce25Into,.bool ((s.qB[k_1]!).xR)] Tryz.isAgg49 Tryz.sizeOf49 rfl (qK (H.get 6 rfl) 0 9) ?_))
   refine sw (x9 H ti49 [.int .i64 0,.int .i64 0,.slice none 0 0,.slice none 0 0,.slice none 0 0,.slice none 0 0,.slice none 0 0,.slice none 0 0,.bool false] fun b26 w27 H=>?_)
   refine sw (xP H 0 [.int .i64 ((s.qB[k_1]!).qF),.int .i64 ((s.qB[k_1]!).zM),.slice ae25Need (((s.qB[k_1]!).xu).length) ce25Need,.slice ae25Have (((s.qB[k_1]!).xM).length) ce25Have,.slice ae25Lack (((s.qB[k_1]!).xK).length) ce25Lack,.slice ae25Here (((s.qB[k_1]!).xF).length) ce25Here,.slice ae25Out (((s.qB[k_1]!).zI).length) ce25Out,.slice ae25Into (((s.qB[k_1]!).qL).length) ce25Into,.bool ((s.qB[k_1]!).xR)] Tryz.sizeOf49 fun w28 H=>zjc ?_)
   refine sw (xW [.int .i64 s.qQ,.slice qE s.qA.length qC,.slice (some ⟨b22,o23,none⟩) s.qB.length qH] Tryz.isAgg27 Tryz.sizeOf27 rfl (qK (H.cells 1 rfl) 0 3) ?_)
   refine sw (xW [.int .i64 ((s.qB[k_1]!).qF),.int .i64 ((s.qB[k_1]!).zM),.slice ae25Need (((s.qB[k_1]!).xu).length) ce25Need,.slice ae25Have (((s.qB[k_1]!).xM).length) ce25Have,.slice ae25Lack (((s.qB[k_1]!).xK).length) ce25Lack,.slice ae25Here (((s.qB[k_1]!).xF).length) ce25Here,.slice ae25Out (((s.qB[k_1]!).zI).length) ce25Out,.slice ae25Into (((s.qB[k_1]!).qL).length) ce25Into,.bool ((s.qB[k_1]!).xR)] Tryz.isAgg49 Tryz.sizeOf49 rfl (qK (H.cells 0 rfl) 0 9) (sp (.slice aweights weights.length cweights) ?_))
   have q:=p0.rule (i:=k_1) qf
   have sz32:=H.base.size
   refine sw (oc (gains_ok _ s (s.qB[k_1]!) weights (H.get 7 rfl).1 (H.get 8 rfl).1 (H.get 0 rfl).1 (H.get 1 rfl).1 (H.get 2 rfl).1 (H.get 3 rfl).1 (H.get 4 rfl).1 (H.get 5 rfl).1 (H.get 9 rfl).1 qg qg qg) ?_)
   rintro _ w30 ⟨ra29,rn29,rc29,rfl,M,K⟩ _
   replace H:=H.merge K M
   obtain rfl:=H.jb 0 rfl
   refine oN rfl (sp (.int .i64 0) (zjn (xg ?_)))
   refine zH (fun m' ρ w35=>∃ (xU:Env) (k_51:Nat),ρ=upd (upd (upd (upd (upd (upd (upd (upd (upd (upd xU 1 (.slice aweights weights.length cweights)) 2 (.func (.func 40) #[] #[])) 3 (.func (.func 41) #[] #[])) 4 (.pointer (some ⟨b17,0,none⟩))) 19 (.slice (some ⟨b22,o23,none⟩) s.qB.length qH)) 20 (.int .i64 s.qB.length)) 21 (.int .i64 k_1)) 28 (.slice ra29 ((vU (s.qB[k_1]!) weights (zJ s (s.qB[k_1]!).qF)).length) rc29)) 29 (.int .i64 ((vU (s.qB[k_1]!) weights (zJ s (s.qB[k_1]!).qF)).length))) 30 (.int .i64 k_51)∧((k_51:Int)≤((vU (s.qB[k_1]!) weights (zJ s (s.qB[k_1]!).qF)).length))∧(NegTo (vU (s.qB[k_1]!) weights (zJ s (s.qB[k_1]!).qF)) k_51)∧m' =(((vU (s.qB[k_1]!) weights (zJ s (s.qB[k_1]!).qF)).length) - (k_51:Int)).toNat∧Fresh w.heap.size []∧St w w35 [rr ra29 ((vU (s.qB[k_1]!) weights (zJ s (s.qB[k_1]!).qF)).length) rc29 2 1 ((vU (s.qB[k_1]!) weights (zJ s (s.qB[k_1]!).qF)).map (Value.int .i64)),.box b26 [.int .i64 ((s.qB[k_1]!).qF),.int .i64 ((s.qB[k_1]!).zM),.slice ae25Need (((s.qB[k_1]!).xu).length) ce25Need,.slice ae25Have (((s.qB[k_1]!).xM).length) ce25Have,.slice ae25Lack (((s.qB[k_1]!).xK).length) ce25Lack,.slice ae25Here (((s.qB[k_1]!).xF).length) ce25Here,.slice ae25Out (((s.qB[k_1]!).zI).length) ce25Out,.slice ae25Into (((s.qB[k_1]!).qL).length) ce25Into,.bool ((s.qB[k_1]!).xR)] 49,.box b17 [.int .i64 s.qQ,.slice qE s.qA.length qC,.slice (some ⟨b22,o23,none⟩) s.qB.length qH] 27,.box b1 [.int .i64 s.qQ,.slice qE s.qA.length qC,.slice (some ⟨b22,o23,none⟩) s.qB.length qH] 27] [sF false Fe25Need ae25Need ce25Need ((s.qB[k_1]!).xu),sF false Fe25Have ae25Have ce25Have ((s.qB[k_1]!).xM),sF false Fe25Lack ae25Lack ce25Lack ((s.qB[k_1]!).xK),sF false Fe25Here ae25Here ce25Here ((s.qB[k_1]!).xF),sF false Fe25Out ae25Out ce25Out ((s.qB[k_1]!).zI),sF false Fe25Into ae25Into ce25Into ((s.qB[k_1]!).qL),atF b22 (o23+(k_1:Int).toNat * 9) [.int .i64 ((s.qB[k_1]!).qF),.int .i64 ((s.qB[k_1]!).zM),.slice ae25Need (((s.qB[k_1]!).xu).length) ce25Need,.slice ae25Have (((s.qB[k_1]!).xM).length) ce25Have,.slice ae25Lack (((s.qB[k_1]!).xK).length) ce25Lack,.slice ae25Here (((s.qB[k_1]!).xF).length) ce25Here,.slice ae25Out (((s.qB[k_1]!).zI).length) ce25Out,.slice ae25Into (((s.qB[k_1]!).qL).length) ce25Into,.bool ((s.qB[k_1]!).xR)],sF false qV qE qC s.qA,sF false xx (some ⟨b22,o23,none⟩) qH s.qB,sF false Fweights aweights cweights weights]) ((((vU (s.qB[k_1]!) weights (zJ s (s.qB[k_1]!).qF)).length) - (0:Int)).toNat) ⟨_,0,uE10,qf,qx,rfl,N,H⟩ ?_
   clear H N
   rintro m' ρ w36 ⟨xU,k_51,rfl,i0,i2,rfl,N,H⟩
   have gl:=gains_len (s.qB[k_1]!) weights (zJ s (s.qB[k_1]!).qF)
   have pq:=placeI_len p5 (s.qB[k_1]!).qF
   refine zcr (sp (.bool (decide ((k_51:Int) < ((vU (s.qB[k_1]!) weights (zJ s (s.qB[k_1]!).qF)).length)))) (zjn (x8 (cD rfl (fun h37=>?_) (fun h37=>?_)))))
   ·skip
    refine xh (t_n (x8 (xg (zcr ?_))))
    obtain ⟨b38,rfl⟩:=H.Xo 0 rfl qf
    refine oI rfl rfl (oL rfl (H.rowInt 0 rfl (iv:=k_51) (i:=k_51) qf qf) (sp (.int .i64 ((vU (s.qB[k_1]!) weights (zJ s (s.qB[k_1]!).qF))[k_51]!)) (zjc (sps [.func (.func 40) #[] #[],.int .i64 ((vU (s.qB[k_1]!) weights (zJ s (s.qB[k_1]!).qF))[k_51]!)] (sw (jA #[.int .i64 ((vU (s.qB[k_1]!) weights (zJ s (s.qB[k_1]!).qF))[k_51]!)] rfl rfl Tryz.call40 (en Tryz.func40 Tryz.ntmps40 ?_)))))))
    refine zcr (sp (.bool false) (zjc (sps [.int .i64 ((vU (s.qB[k_1]!) weights (zJ s (s.qB[k_1]!).qF))[k_51]!),.bool (decide (((vU (s.qB[k_1]!) weights (zJ s (s.qB[k_1]!).qF))[k_51]! :Int) < 0)),.bool (decide (((vU (s.qB[k_1]!) weights (zJ s (s.qB[k_1]!).qF))[k_51]! :Int) < 0))] (zjr (ret1 (.bool (decide (((vU (s.qB[k_1]!) weights (zJ s (s.qB[k_1]!).qF))[k_51]! :Int) < 0))) rfl rfl ⟨_,rfl,(sp (.bool (!(decide (((vU (s.qB[k_1]!) weights (zJ s (s.qB[k_1]!).qF))[k_51]! :Int) < 0)))) (zjn ?_))⟩)))))
    refine xI (!(decide (((vU (s.qB[k_1]!) weights (zJ s (s.qB[k_1]!).qF))[k_51]! :Int) < 0))) rfl (fun h39=>?_) (fun h39=>?_)
    ·skip
     replace h39:=xw h39
     replace h39:=of_decide_eq_false h39
     refine zcr (sp (.bool false) (zjr (b_r (t_r (t_r (b_r (zr5 (ret1 (.bool false) rfl rfl ⟨_,rfl,?_⟩))))))))
     replace H:=H.erases [2,1,0]
     dsimp only [jK,List.eraseIdx] at H
     refine sps [.bool false,.int .i64 0] (zjr (ret2 (.bool false) (.int .i64 0) rfl rfl rfl ⟨_,rfl,?_,H.base⟩))
     first | (exfalso;omega) | (exfalso;exact (minL_neg qf).1 ‹minL _ < 0› (fun k hk=>((rw_ qf).2 k hk).1)) | rw [qZ (neg_no (i:=k_1) (k:=k_51) (l:=zJ s (s.qB[k_1]!).qF) qf (fun x=>mem_placeI) qf qf)] | rw [qZ (ge_no2 (c:=c) (k:=k_51) (j:=k_52) (l:=(yK s (c:Int))) qf (fun x=>mem_poss) qf ql qf qf)]
    ·skip
     replace h39:=xf h39
     replace h39:=of_decide_eq_true h39
     refine xh (b_n (t_n (xZ (sw (zB k_51 1 rfl rfl qf (sp (.int .i64 (k_51+1)) (zi (xq (m' :=(((vU (s.qB[k_1]!) weights (zJ s (s.qB[k_1]!).qF)).length) - ((k_51+1):Int)).toNat) qf ⟨_,k_51+1,uE10,?_,?_,rfl,N,H⟩))))))))
     · omega
     · exact i2.succ qf
   ·skip
    refine c_exit (t_x (t_x (b_x (b_n (t_n (xZ (sw (zB k_1 1 rfl rfl qf (sp (.int .i64 (k_1+1)) (zi (xq (m' :=(s.qB.length - ((k_1+1):Int)).toNat) qf ⟨_,k_1+1,uE7,?_,?_,rfl,N,H.pick [2,3] [7,8,9]⟩)))))))))))
    · omega
    · exact i1.succ ((neg_iff (fun x=>mem_placeI)).1 (fun j hj=>i2 j qf))
  ·skip
   refine zx4 (zcc (oF rfl (oL rfl (H.cell 0 rfl rfl) (sw (oq (sizeI_ok _ s.qA (H.get 0 rfl).1) H fun w40 H=>sp (.int .i64 0) (zjn (xg ?_)))))))
   refine zH (fun m' ρ w42=>∃ (xU:Env) (c:Nat),ρ=upd (upd (upd (upd (upd xU 1 (.slice aweights weights.length cweights)) 3 (.func (.func 41) #[] #[])) 4 (.pointer (some ⟨b17,0,none⟩))) 42 (.int .i64 (s.qA.length:Int))) 43 (.int .i64 c)∧((c:Int)≤(s.qA.length:Int))∧(MeltsGe s weights c)∧m' =((s.qA.length:Int) - (c:Int)).toNat∧Fresh w.heap.size []∧St w w42 [.box b17 [.int .i64 s.qQ,.slice qE s.qA.length qC,.slice qI s.qB.length qH] 27,.box b1 [.int .i64 s.qQ,.slice qE s.qA.length qC,.slice qI s.qB.length qH] 27] [sF false qV qE qC s.qA,sF false xx qI qH s.qB,sF false Fweights aweights cweights weights]) (((s.qA.length:Int) - (0:Int)).toNat) ⟨_,0,uE5,qf,(by exact fun c hc=>by omega),rfl,N,H⟩ ?_
   clear H N
   rintro m' ρ w43 ⟨xU,c,rfl,i0,i3,rfl,N,H⟩
   refine zcr (sp (.bool (decide ((c:Int) < (s.qA.length:Int)))) (zjn (x8 (cD rfl (fun h44=>?_) (fun h44=>?_)))))
   ·skip
    refine xh (t_n (x8 (xg (zcr (sps [.int .i64 c,.int .i64 c] (zjcc (sw (xW [.int .i64 s.qQ,.slice qE s.qA.length qC,.slice qI s.qB.length qH] Tryz.isAgg27 Tryz.sizeOf27 rfl (qK (H.cells 0 rfl) 0 3) (sp (.int .i64 c) (sw (oq (canMelt_ok _ s c (H.get 0 rfl).1 (H.get 1 rfl).1) H fun w46 H=>sp (.bool (!(dec (jT s c)))) (zjn (cQ rfl (fun h48=>?_) (fun h48=>?_))))))))))))))
    ·skip
     refine c_exit (t_x (b_x (t_n (xZ (sw (zB c 1 rfl rfl qf (sp (.int .i64 (c+1)) (zi (xq (m' :=((s.qA.length:Int) - ((c+1):Int)).toNat) qf ⟨_,c+1,uE5,?_,?_,rfl,N,H⟩)))))))))
     · omega
     · first | exact i3.succ (fun h=>absurd h ql) | exact i3.succ ((ge_iff (fun x=>mem_poss)).1 (fun _ j hj=>i5 j qf))
    ·skip
     refine xh (t_n (zcr (sw (xW [.int .i64 s.qQ,.slice qE s.qA.length qC,.slice qI s.qB.length qH] Tryz.isAgg27 Tryz.sizeOf27 rfl (qK (H.cells 0 rfl) 0 3) (sp (.int .i64 c) ?_)))))
     have sz52:=H.base.size
     refine sw (oc (possParents_ok _ s c (H.get 0 rfl).1 (H.get 1 rfl).1 qg qg) ?_)
     rintro _ w50 ⟨ra49,rn49,rc49,rfl,M,K⟩ _
     replace H:=H.merge K M
     obtain rfl:=H.jb 0 rfl
     refine oN rfl (sp (.int .i64 0) (zjn (xg ?_)))
     refine zH (fun m' ρ w55=>∃ (xU:Env) (k_51:Nat),ρ=upd (upd (upd (upd (upd (upd (upd (upd (upd xU 1 (.slice aweights weights.length cweights)) 3 (.func (.func 41) #[] #[])) 4 (.pointer (some ⟨b17,0,none⟩))) 13 (.int .i64 c)) 42 (.int .i64 (s.qA.length:Int))) 43 (.int .i64 c)) 52 (.slice ra49 ((yK s c).length) rc49)) 53 (.int .i64 ((yK s c).length))) 54 (.int .i64 k_51)∧((k_51:Int)≤((yK s c).length))∧(GeTo weights (yK s (c:Int)) (c:Int) k_51)∧m' =(((yK s c).length) - (k_51:Int)).toNat∧Fresh w.heap.size []∧St w w55 [rr ra49 ((yK s c).length) rc49 2 1 ((yK s c).map (Value.int .i64)),.box b17 [.int .i64 s.qQ,.slice qE s.qA.length qC,.slice qI s.qB.length qH] 27,.box b1 [.int .i64 s.qQ,.slice qE s.qA.length qC,.slice qI s.qB.length qH] 27] [sF false qV qE qC s.qA,sF false xx qI qH s.qB,sF false Fweights aweights cweights weights]) ((((yK s c).length) - (0:Int)).toNat) ⟨_,0,uE9,qf,qx,rfl,N,H⟩ ?_
     clear H N
     rintro m' ρ w56 ⟨xU,k_51,rfl,i0,i5,rfl,N,H⟩
     have pk:=fun h=>poss_in p5 (c:=(c:Int)) ⟨by omega,by omega⟩ (k:=k_51) h
     have pq:=possL_len p5 (c:Int)
     refine zcr (sp (.bool (decide ((k_51:Int) < ((yK s c).length)))) (zjn (x8 (cD rfl (fun h57=>?_) (fun h57=>?_)))))
     ·skip
      refine xh (t_n (x8 (xg (zcr ?_))))
      obtain ⟨b58,rfl⟩:=H.Xo 0 rfl qf
      refine oI rfl rfl (oL rfl (H.rowInt 0 rfl (iv:=k_51) (i:=k_51) qf qf) (sp (.int .i64 ((yK s c)[k_51]!)) (zjc (sps [.slice aweights weights.length cweights,.int .i64 c] ?_))))
      obtain ⟨b59,o60,rfl⟩:=H.addr 2 rfl qf
      obtain ⟨ae62,ce62,Fe62,H⟩:=H.vV 2 rfl c c qf qf qf
      refine oI rfl rfl (oL rfl (H.zh 1 rfl 0 rfl) (oN rfl (sp (.int .i64 0) (zjn (xg ?_)))))
      refine zH (fun m' ρ w63=>∃ (xU:Env) (k_52:Nat),ρ=upd (upd (upd (upd (upd (upd (upd (upd (upd (upd (upd (upd (upd xU 1 (.slice (some ⟨b59,o60,none⟩) weights.length cweights)) 3 (.func (.func 41) #[] #[])) 4 (.pointer (some ⟨b17,0,none⟩))) 13 (.int .i64 c)) 15 (.int .i64 ((yK s c)[k_51]!))) 42 (.int .i64 (s.qA.length:Int))) 43 (.int .i64 c)) 52 (.slice (some ⟨b58,0,none⟩) ((yK s c).length) rc49)) 53 (.int .i64 ((yK s c).length))) 54 (.int .i64 k_51)) 61 (.slice ae62 ((weights[c]!).length) ce62)) 62 (.int .i64 ((weights[c]!).length))) 63 (.int .i64 k_52)∧((k_52:Int)≤((weights[c]!).length))∧(Xm (weights[((yK s (c:Int))[k_51]!).toNat]!) (weights[c]!) k_52)∧m' =(((weights[c]!).length) - (k_52:Int)).toNat∧Fresh w.heap.size []∧St w w63 [rr (some ⟨b58,0,none⟩) ((yK s c).length) rc49 2 1 ((yK s c).map (Value.int .i64)),.box b17 [.int .i64 s.qQ,.slice qE s.qA.length qC,.slice qI s.qB.length qH] 27,.box b1 [.int .i64 s.qQ,.slice qE s.qA.length qC,.slice qI s.qB.length qH] 27] [sF false Fe62 ae62 ce62 (weights[c]!),atF b59 (o60+(c:Int).toNat * 1) [.slice ae62 ((weights[c]!).length) ce62],sF false qV qE qC s.qA,sF false xx qI qH s.qB,sF false Fweights (some ⟨b59,o60,none⟩) cweights weights]) ((((weights[c]!).length) - (0:Int)).toNat) ⟨_,0,uE13,qf,(by exact withinTo_zero _ _),rfl,N,H⟩ ?_
      clear H N
      rintro m' ρ w64 ⟨xU,k_52,rfl,i0,i6,rfl,N,H⟩
      refine zcr (sp (.bool (decide ((k_52:Int) < ((weights[c]!).length)))) (zjn (x8 (cD rfl (fun h65=>?_) (fun h65=>?_)))))
      ·skip
       have pz:=pk qf
       have pz1:=pz.1
       have pz2:=pz.2
       have e1:=(wt_in p2 (c:=((yK s (c:Int))[k_51]!).toNat) qf).1
       have e2:=(wt_in p2 (c:=c) qf).1
       refine xh (t_n (x8 (xg (zcr (sp (.int .i64 k_52) ?_)))))
       obtain ⟨b66,o67,rfl⟩:=H.addr 0 rfl qf
       refine oI rfl rfl (oL rfl (H.ji 0 rfl k_52 qf qf) (sps [.int .i64 k_52,.int .i64 ((weights[c]!)[k_52]!)] (zjc (sps [.func (.func 41) #[] #[],.int .i64 ((weights[c]!)[k_52]!),.slice (some ⟨b59,o60,none⟩) weights.length cweights,.int .i64 ((yK s c)[k_51]!)] ?_))))
       obtain ⟨ae69,ce69,Fe69,H⟩:=H.vV 4 rfl ((yK s c)[k_51]!) (((yK s c)[k_51]!).toNat) qf qf qf
       refine oI rfl rfl (oL rfl (H.zh 1 rfl 0 rfl) (sp (.int .i64 k_52) ?_))
       obtain ⟨b70,o71,rfl⟩:=H.addr 0 rfl qf
       refine oI rfl rfl (oL rfl (H.ji 0 rfl k_52 qf qf) (sw (jA #[.int .i64 ((weights[c]!)[k_52]!),.int .i64 ((weights[((yK s c)[k_51]!).toNat]!)[k_52]!)] rfl rfl Tryz.call41 (en Tryz.func41 Tryz.ntmps41 ?_))))
       refine zcr (sp (.bool false) (zjc (sps [.int .i64 ((weights[c]!)[k_52]!),.int .i64 ((weights[((yK s c)[k_51]!).toNat]!)[k_52]!),.bool (decide (((weights[c]!)[k_52]! :Int)≥((weights[((yK s c)[k_51]!).toNat]!)[k_52]!))),.bool (decide (((weights[c]!)[k_52]! :Int)≥((weights[((yK s c)[k_51]!).toNat]!)[k_52]!)))] (zjr (ret1 (.bool (decide (((weights[c]!)[k_52]! :Int)≥((weights[((yK s c)[k_51]!).toNat]!)[k_52]!)))) rfl rfl ⟨_,rfl,(sp (.bool (!(decide (((weights[c]!)[k_52]! :Int)≥((weights[((yK s c)[k_51]!).toNat]!)[k_52]!))))) (zjn ?_))⟩)))))
       refine xI (!(decide (((weights[c]!)[k_52]! :Int)≥((weights[((yK s c)[k_51]!).toNat]!)[k_52]!)))) rfl (fun h73=>?_) (fun h73=>?_)
       ·skip
        replace h73:=xw h73
        replace h73:=of_decide_eq_false h73
        refine zcr (sp (.bool false) (zjr (b_r (t_r (t_r (b_r (b_r (t_r (t_r (b_r (zr5 (ret1 (.bool false) rfl rfl ⟨_,rfl,?_⟩))))))))))))
        replace H:=H.erases [1,0]
        dsimp only [jK,List.eraseIdx] at H
        refine sps [.bool false,.int .i64 0] (zjr (ret2 (.bool false) (.int .i64 0) rfl rfl rfl ⟨_,rfl,?_,H.base⟩))
        first | (exfalso;omega) | (exfalso;exact (minL_neg qf).1 ‹minL _ < 0› (fun k hk=>((rw_ qf).2 k hk).1)) | rw [qZ (neg_no (i:=k_1) (k:=k_51) (l:=zJ s (s.qB[k_1]!).qF) qf (fun x=>mem_placeI) qf qf)] | rw [qZ (ge_no2 (c:=c) (k:=k_51) (j:=k_52) (l:=(yK s (c:Int))) qf (fun x=>mem_poss) qf ql qf qf)]
       ·skip
        replace h73:=xf h73
        replace h73:=of_decide_eq_true h73
        refine xh (b_n (t_n (xZ (sw (zB k_52 1 rfl rfl qf (sp (.int .i64 (k_52+1)) (zi (xq (m' :=(((weights[c]!).length) - ((k_52+1):Int)).toNat) qf ⟨_,k_52+1,uE13,?_,?_,rfl,N,H.pick [0,1,2] [2,3,4,5,6]⟩))))))))
        · omega
        · exact withinTo_succ i6 qf
      ·skip
       have pz:=pk qf
       have pz1:=pz.1
       have pz2:=pz.2
       have e1:=(wt_in p2 (c:=((yK s (c:Int))[k_51]!).toNat) qf).1
       have e2:=(wt_in p2 (c:=c) qf).1
       refine c_exit (t_x (t_x (b_x (b_n (t_n (xZ (sw (zB k_51 1 rfl rfl qf (sp (.int .i64 (k_51+1)) (zi (xq (m' :=(((yK s c).length) - ((k_51+1):Int)).toNat) qf ⟨_,k_51+1,uE9,?_,?_,rfl,N,H.pick [0,1,2] [2,3,4]⟩)))))))))))
       · omega
       · exact i5.go (n:=k_52) qf i6
     ·skip
      refine c_exit (t_x (t_x (b_x (b_n (t_n (xZ (sw (zB c 1 rfl rfl qf (sp (.int .i64 (c+1)) (zi (xq (m' :=((s.qA.length:Int) - ((c+1):Int)).toNat) qf ⟨_,c+1,uE5,?_,?_,rfl,N,H.pick [1,2] [0,1,2]⟩)))))))))))
      · omega
      · first | exact i3.succ (fun h=>absurd h ql) | exact i3.succ ((ge_iff (fun x=>mem_poss)).1 (fun _ j hj=>i5 j qf))
   ·skip
    refine zx4 (zcr (sp (.bool true) (zjr (ret1 (.bool true) rfl rfl ⟨_,rfl,?_⟩))))
    replace H:=H.erases [0]
    dsimp only [jK,List.eraseIdx] at H
    refine sps [.bool true,.int .i64 0] (zjr (ret2 (.bool true) (.int .i64 0) rfl rfl rfl ⟨_,rfl,?_,H.base⟩))
    rw [jL ⟨fun j hj=>i1 j qf,fun j hj=>i3 j qf⟩]

theorem implBound_ok (w:World) (s:qG) (t:qR) (weights:yLL) {qE:yOA} {qV:yLN} {qI:yOA} {xx:yLN} {xk:yOA} {zF:yLN} {xJ:yOA} {vM:yLN} {qY:yOA} {zf:yLN} {aweights:yOA} {Fweights:yLN} (qP:qW.rep w qV [.slice qE s.qA.length qC] s.qA) (xm:qW.rep w xx [.slice qI s.qB.length qH] s.qB) (zu:qW.rep w zF [.slice xk t.qJ.length xe] t.qJ) (zW:qW.rep w vM [.slice xJ t.qN.length xG] t.qN) (xY:qW.rep w zf [.slice qY t.qM.length qX] t.qM) (hweights:qW.rep w Fweights [.slice aweights weights.length cweights] weights) (p0:zX s∧xQ s t) (p1:WtOk s weights):Calls Tryz.prog 6 #[.agg #[.int .i64 s.qQ,.slice qE s.qA.length qC,.slice qI s.qB.length qH],.agg #[.slice xk t.qJ.length xe,.slice xJ t.qN.length xG,.slice qY t.qM.length qX],.slice aweights weights.length cweights] w (Ret (fun v w' =>v=.tuple #[.int .i64 (bndV s t weights),.int .i64 (bndC s weights)]) w):=by
 refine en Tryz.func6 Tryz.ntmps6 ?_
 have H:=((((((St.start w).arg hweights).arg xY).arg zW).arg zu).arg xm).arg qP
 have zt:=qU qP
 have vF:=qU xm
 have Ql:=qU zu
 have Xq:=qU zW
 have yG:=qU xY
 have nhweights:=qU hweights
 clear qP xm zu zW xY hweights
 have N:=Fresh.nil w.heap.size
 have k1:=p0.1
 have k2:=p0.2
 have Z:=wtSt p0.1 p1 p0.2
 refine zcr (sw (vK H [.int .i64 s.qQ,.slice qE s.qA.length qC,.slice qI s.qB.length qH] fun b1 w2 H=>sw (vK H [.slice xk t.qJ.length xe,.slice xJ t.qN.length xG,.slice qY t.qM.length qX] fun b3 w4 H=>sps [.int .i64 0,.int .i64 0] (zjcc (sw (xW [.int .i64 s.qQ,.slice qE s.qA.length qC,.slice qI s.qB.length qH] Tryz.isAgg27 Tryz.sizeOf27 rfl (qK (H.cells 1 rfl) 0 3) ?_))))))
 refine sw (xW [.slice xk t.qJ.length xe,.slice xJ t.qN.length xG,.slice qY t.qM.length qX] Tryz.isAgg31 Tryz.sizeOf31 rfl (qK (H.cells 0 rfl) 0 3) (sw (oq (validState_ok _ s t (H.get 0 rfl).1 (H.get 1 rfl).1 (H.get 2 rfl).1 (H.get 3 rfl).1 (H.get 4 rfl).1) H fun w6 H=>sp (.bool (!(dec (zX s∧xQ s t)))) (zjn (xI (!(dec (zX s∧xQ s t))) rfl (fun h=>absurd p0 (zo (xw h))) (fun h8=>?_))))))
 replace h8:=xf h8
 replace h8:=jJ h8
 refine xh (t_n (zcr (sw (xW [.int .i64 s.qQ,.slice qE s.qA.length qC,.slice qI s.qB.length qH] Tryz.isAgg27 Tryz.sizeOf27 rfl (qK (H.cells 1 rfl) 0 3) (sp (.slice aweights weights.length cweights) (sw (oq (isPotential_ok _ s weights (H.get 0 rfl).1 (H.get 1 rfl).1 (H.get 5 rfl).1 qg qg) H fun w10 H=>sps [.tuple #[.bool (dec (Falls s weights)),.int .i64 0],.bool (dec (Falls s weights)),.int .i64 0,.bool (dec (Falls s weights)),.int .i64 0] (zjcc (sps [.int .i64 0,.bool true,.bool true] (qO 22 rfl rfl ?_))))))))))
 refine sp (.bool (dec (Falls s weights))) (qO 22 rfl rfl (sps [.bool (!(dec (Falls s weights))),.bool (!(dec (Falls s weights)))] (zjn (cQ rfl (fun h12=>?_) (fun h12=>?_)))))
 ·skip
  refine xZ (sp (.int .i64 8) (zjcc (sps [.int .i64 8,.bool true] (zjn (xI true rfl (fun _=>zcr (sps [.int .i64 8,.int .i64 0,.int .i64 8] (zjr (t_r (ret2 (.int .i64 0) (.int .i64 8) rfl rfl rfl ⟨_,rfl,?_,H.base⟩))))) (fun h=>absurd h qj))))))
  first | rw [(bnd_no (t:=t) ql).1,(bnd_no (t:=t) ql).2] | (exfalso;contradiction)
 ·skip
  refine xh (t_n (zcc (sps [.int .i64 0,.bool false] (zjn (xI false rfl (fun h=>absurd h qj) (fun _=>xh (t_n (zcr (sw (xW [.slice xk t.qJ.length xe,.slice xJ t.qN.length xG,.slice qY t.qM.length qX] Tryz.isAgg31 Tryz.sizeOf31 rfl (qK (H.cells 0 rfl) 0 3) (sp (.slice aweights weights.length cweights) (sw (oq (weighState_ok _ t weights (H.get 2 rfl).1 (H.get 3 rfl).1 (H.get 4 rfl).1 (H.get 5 rfl).1 qg) H fun w14 H=>sps [.int .i64 (weight t weights),.int .i64 0] (zjr ?_))))))))))))))
  refine ret2 (.int .i64 (weight t weights)) (.int .i64 0) rfl rfl rfl ⟨_,rfl,?_,H.base⟩
  rw [(bnd_yes (t:=t) ql).1,(bnd_yes (t:=t) ql).2]
theorem implAppl_ok (w:World) (s:qG) (t:qR) {qE:yOA} {qV:yLN} {qI:yOA} {xx:yLN} {xk:yOA} {zF:yLN} {xJ:yOA} {vM:yLN} {qY:yOA} {zf:yLN} (qP:qW.rep w qV [.slice qE s.qA.length qC] s.qA) (xm:qW.rep w xx [.slice qI s.qB.length qH] s.qB) (zu:qW.rep w zF [.slice xk t.qJ.length xe] t.qJ) (zW:qW.rep w vM [.slice xJ t.qN.length xG] t.qN) (xY:qW.rep w zf [.slice qY t.qM.length qX] t.qM) (p0:zX s∧xQ s t):Calls Tryz.prog 9 #[.agg #[.int .i64 s.qQ,.slice qE s.qA.length qC,.slice qI s.qB.length qH],.agg #[.slice xk t.qJ.length xe,.slice xJ t.qN.length xG,.slice qY t.qM.length qX]] w (Ret (fun v w' =>∃ (ra0:yOA) (rn0:Nat) (rc0:Nat),v=.tuple #[.slice ra0 rn0 rc0,.int .i64 0]∧Fresh w.heap.size []∧St w w' [rr ra0 rn0 rc0 2 1 ((appls s t).map (Value.int .i64))] []) w):=by
 refine en Tryz.func9 Tryz.ntmps9 ?_
 have H:=(((((St.start w).arg xY).arg zW).arg zu).arg xm).arg qP
 have zt:=qU qP
 have vF:=qU xm
 have Ql:=qU zu
 have Xq:=qU zW
 have yG:=qU xY
 clear qP xm zu zW xY
 have N:=Fresh.nil w.heap.size
 have k1:=p0.1
 have k2:=p0.2
 refine zcr (sw (vK H [.int .i64 s.qQ,.slice qE s.qA.length qC,.slice qI s.qB.length qH] fun b1 w2 H=>sw (vK H [.slice xk t.qJ.length xe,.slice xJ t.qN.length xG,.slice qY t.qM.length qX] fun b3 w4 H=>sps [.slice none 0 0,.int .i64 0] (zjcc (sw (xW [.int .i64 s.qQ,.slice qE s.qA.length qC,.slice qI s.qB.length qH] Tryz.isAgg27 Tryz.sizeOf27 rfl (qK (H.cells 1 rfl) 0 3) ?_))))))
 refine sw (xW [.slice xk t.qJ.length xe,.slice xJ t.qN.length xG,.slice qY t.qM.length qX] Tryz.isAgg31 Tryz.sizeOf31 rfl (qK (H.cells 0 rfl) 0 3) (sw (oq (validState_ok _ s t (H.get 0 rfl).1 (H.get 1 rfl).1 (H.get 2 rfl).1 (H.get 3 rfl).1 (H.get 4 rfl).1) H fun w6 H=>sp (.bool (!(dec (zX s∧xQ s t)))) (zjn (xI (!(dec (zX s∧xQ s t))) rfl (fun h=>absurd p0 (zo (xw h))) (fun h8=>?_))))))
 replace h8:=xf h8
 replace h8:=jJ h8
 refine xh (t_n (zcr (sw (xW [.int .i64 s.qQ,.slice qE s.qA.length qC,.slice qI s.qB.length qH] Tryz.isAgg27 Tryz.sizeOf27 rfl (qK (H.cells 1 rfl) 0 3) (sw (xW [.slice xk t.qJ.length xe,.slice xJ t.qN.length xG,.slice qY t.qM.length qX] Tryz.isAgg31 Tryz.sizeOf31 rfl (qK (H.cells 0 rfl) 0 3) ?_))))))
 have sz12:=H.base.size
 refine sw (oc (applicable_ok _ s t (H.get 0 rfl).1 (H.get 1 rfl).1 (H.get 2 rfl).1 (H.get 3 rfl).1 (H.get 4 rfl).1 qg qg) ?_)
 rintro _ w10 ⟨ra9,rn9,rc9,rfl,M,K⟩ _
 replace H:=H.merge K M
 obtain rfl:=H.jb 0 rfl
 refine sps [.slice ra9 ((appls s t).length) rc9,.int .i64 0] (zjr (ret2 (.slice ra9 ((appls s t).length) rc9) (.int .i64 0) rfl rfl rfl ⟨_,rfl,(⟨ra9,(appls s t).length,rc9,rfl,N,H.pick [0] []⟩),H.base⟩))

theorem a2Sound_ok (w:World) (s:qG) (t:qR) {qE:yOA} {qV:yLN} {qI:yOA} {xx:yLN} {xk:yOA} {zF:yLN} {xJ:yOA} {vM:yLN} {qY:yOA} {zf:yLN} (qP:qW.rep w qV [.slice qE s.qA.length qC] s.qA) (xm:qW.rep w xx [.slice qI s.qB.length qH] s.qB) (zu:qW.rep w zF [.slice xk t.qJ.length xe] t.qJ) (zW:qW.rep w vM [.slice xJ t.qN.length xG] t.qN) (xY:qW.rep w zf [.slice qY t.qM.length qX] t.qM) (p0:t.qJ.length=s.qA.length):Calls Tryz.prog 8 #[.agg #[.int .i64 s.qQ,.slice qE s.qA.length qC,.slice qI s.qB.length qH],.agg #[.slice xk t.qJ.length xe,.slice xJ t.qN.length xG,.slice qY t.qM.length qX]] w (Ret (fun v w' =>v=.bool (dec (DeadOk s t))) w):=by
 refine en Tryz.func8 Tryz.ntmps8 ?_
 have H:=(((((St.start w).arg xY).arg zW).arg zu).arg xm).arg qP
 have zt:=qU qP
 have vF:=qU xm
 have Ql:=qU zu
 have Xq:=qU zW
 have yG:=qU xY
 clear qP xm zu zW xY
 have N:=Fresh.nil w.heap.size
 refine zcr (sw (vK H [.int .i64 s.qQ,.slice qE s.qA.length qC,.slice qI s.qB.length qH] fun b1 w2 H=>sw (vK H [.slice xk t.qJ.length xe,.slice xJ t.qN.length xG,.slice qY t.qM.length qX] fun b3 w4 H=>sp (.bool false) (zjcc (sp (.int .i64 0) (zjn (xg ?_)))))))
 refine zH (fun m' ρ w5=>∃ (xU:Env) (c:Nat),ρ=upd (upd (upd xU 2 (.pointer (some ⟨b1,0,none⟩))) 3 (.pointer (some ⟨b3,0,none⟩))) 5 (.int .i64 c)∧((c:Int)≤t.qJ.length)∧(∀ j,j < c→yE s t j s.qB.length)∧m' =(t.qJ.length - (c:Int)).toNat∧Fresh w.heap.size []∧St w w5 [.box b3 [.slice xk t.qJ.length xe,.slice xJ t.qN.length xG,.slice qY t.qM.length qX] 31,.box b1 [.int .i64 s.qQ,.slice qE s.qA.length qC,.slice qI s.qB.length qH] 27] [sF false qV qE qC s.qA,sF false xx qI qH s.qB,sF false zF xk xe t.qJ,sF false vM xJ xG t.qN,sF false zf qY qX t.qM]) ((t.qJ.length - (0:Int)).toNat) ⟨_,0,uE3,qf,qx,rfl,N,H⟩ ?_
 clear H N
 rintro m' ρ w6 ⟨xU,c,rfl,i0,i1,rfl,N,H⟩
 refine zcc (sp (.int .i64 c) (oF rfl (oL rfl (H.cell 0 rfl rfl) (oN rfl (sp (.bool (decide ((c:Int) < t.qJ.length))) (zjn (cD rfl (fun h7=>?_) (fun h7=>?_))))))))
 ·skip
  refine xh (t_n (x8 (xg (zcr (oF rfl (oL rfl (H.cell 0 rfl rfl) (sp (.int .i64 c) ?_)))))))
  obtain ⟨b8,o9,rfl⟩:=H.addr 2 rfl qf
  refine oI rfl rfl (oL rfl (H.elemBool 2 rfl c qf qf) (sp (.bool (t.qJ[c]!)) (zjcc (sp (.int .i64 0) (zjn (xg ?_))))))
  refine zH (fun m' ρ w11=>∃ (xU:Env) (melts:Bool) (i:Nat),ρ=upd (upd (upd (upd (upd xU 2 (.pointer (some ⟨b1,0,none⟩))) 3 (.pointer (some ⟨b3,0,none⟩))) 5 (.int .i64 c)) 6 (.bool melts)) 7 (.int .i64 i)∧melts=(dec (yE s t c i))∧((i:Int)≤s.qB.length)∧m' =(s.qB.length - (i:Int)).toNat∧Fresh w.heap.size []∧St w w11 [.box b3 [.slice (some ⟨b8,o9,none⟩) t.qJ.length xe,.slice xJ t.qN.length xG,.slice qY t.qM.length qX] 31,.box b1 [.int .i64 s.qQ,.slice qE s.qA.length qC,.slice qI s.qB.length qH] 27] [sF false qV qE qC s.qA,sF false xx qI qH s.qB,sF false zF (some ⟨b8,o9,none⟩) xe t.qJ,sF false vM xJ xG t.qN,sF false zf qY qX t.qM]) ((s.qB.length - (0:Int)).toNat) ⟨_,t.qJ[c]!,0,uE5,(by exact sound_0 s t c),qf,rfl,N,H⟩ ?_
  clear H N
  rintro m' ρ w12 ⟨xU,melts,i,rfl,rfl,i0,rfl,N,H⟩
  refine zcc (sp (.int .i64 i) (oF rfl (oL rfl (H.cell 1 rfl rfl) (oN rfl (sp (.bool (decide ((i:Int) < s.qB.length))) (zjn (cD rfl (fun h13=>?_) (fun h13=>?_))))))))
  ·skip
   refine xh (t_n (x8 (xg (xZ (sps [.bool (dec (yE s t c i)),.bool (dec (yE s t c i))] ?_)))))
   cases h14:((dec (yE s t c i)))
   ·skip
    refine qO 28 rfl rfl (oF rfl (qO 28 rfl rfl (oL rfl (H.cell 1 rfl rfl) (qO 28 rfl rfl (sp (.int .i64 i) (qO 28 rfl rfl ?_))))))
    obtain ⟨b15,o16,rfl⟩:=H.addr 1 rfl qf
    obtain ⟨ae18Need,ce18Need,Fe18Need,ae18Have,ce18Have,Fe18Have,ae18Lack,ce18Lack,Fe18Lack,ae18Here,ce18Here,Fe18Here,ae18Out,ce18Out,Fe18Out,ae18Into,ce18Into,Fe18Into,H⟩:=H.Qv 1 rfl i i qf qf qf
    refine oI rfl rfl (qO 28 rfl rfl (oF rfl (qO 28 rfl rfl (oL rfl (H.zh 6 rfl 8 rfl) (qO 28 rfl rfl (sp (.bool ((s.qB[i]!).xR)) ?_))))))
    cases h19:((s.qB[i]!).xR)
    ·skip
     rw [h19] at H
     refine xO [36,37,38,39,40,41,42,43] (qO 28 rfl rfl (sps [.bool false,.bool false,.bool false] (zi (b_n (t_n (xZ (sp (.int .i64 i) (sw (zB i 1 rfl rfl qf (sp (.int .i64 (i+1)) (zi (xq (m' :=(s.qB.length - ((i+1):Int)).toNat) qf ⟨_,false,i+1,uE5,?_,?_,rfl,N,H.pick [0,1] [7,8,9,10,11]⟩))))))))))))
     · first | exact sound_on ql | exact sound_a ql ql | exact sound_b ql ql
     · omega
    ·skip
     rw [h19] at H
     refine qO 35 rfl rfl (oF rfl (qO 35 rfl rfl (oL rfl (H.cell 1 rfl rfl) (qO 35 rfl rfl (sp (.int .i64 i) (qO 35 rfl rfl (oI rfl rfl (qO 35 rfl rfl (oF rfl (qO 35 rfl rfl (oL rfl (H.zh 6 rfl 0 rfl) (qO 35 rfl rfl (sp (.int .i64 c) (qO 35 rfl rfl (sp (.bool (((s.qB[i]!).qF:Int) == c)) (qO 28 rfl rfl (sps [.bool (((s.qB[i]!).qF:Int) == c),.bool (((s.qB[i]!).qF:Int) == c),.bool (((s.qB[i]!).qF:Int) == c)] (zi (b_n (t_n (xZ (sp (.int .i64 i) (sw (zB i 1 rfl rfl qf (sp (.int .i64 (i+1)) (zi ?_))))))))))))))))))))))))))
     refine xq (m' :=(s.qB.length - ((i+1):Int)).toNat) qf ⟨_,((s.qB[i]!).qF:Int) == c,i+1,uE5,?_,?_,rfl,N,H.pick [0,1] [7,8,9,10,11]⟩
     · first | exact sound_on ql | exact sound_a ql ql | exact sound_b ql ql
     · omega
   ·skip
    refine xO [29,30,31,32,33,34,35,36,37,38,39,40,41,42,43,44] (sps [.bool true,.bool true] (zi (b_n (t_n (xZ (sp (.int .i64 i) (sw (zB i 1 rfl rfl qf (sp (.int .i64 (i+1)) (zi (xq (m' :=(s.qB.length - ((i+1):Int)).toNat) qf ⟨_,true,i+1,uE5,?_,?_,rfl,N,H⟩)))))))))))
    · first | exact sound_on ql | exact sound_a ql ql | exact sound_b ql ql
    · omega
  ·skip
   refine zx4 (zcr (sps [.bool (dec (yE s t c i)),.bool (!(dec (yE s t c i)))] (zjn (xI (!(dec (yE s t c i))) rfl (fun h20=>?_) (fun h20=>?_)))))
   ·skip
    replace h20:=xw h20
    refine zcr (sp (.bool false) (zjr (zr5 (ret1 (.bool false) rfl rfl ⟨_,rfl,?_,H.base⟩))))
    rw [qZ (dead_no (c:=c) (i:=i) qf qf ql)]
   ·skip
    replace h20:=xf h20
    refine xh (b_n (t_n (xZ (sp (.int .i64 c) (sw (zB c 1 rfl rfl qf (sp (.int .i64 (c+1)) (zi (xq (m' :=(t.qJ.length - ((c+1):Int)).toNat) qf ⟨_,c+1,uE3,?_,?_,rfl,N,H⟩)))))))))
    · omega
    · exact fun j hj=>if e:j=c then by rw [e,show s.qB.length=i by omega];exact jJ ql else i1 j qf
 ·skip
  refine zx4 (zcr (sp (.bool true) (zjr (ret1 (.bool true) rfl rfl ⟨_,rfl,?_,H.base⟩))))
  rw [jL (dead_of (n:=c) qf (fun j hj=>i1 j hj))]

theorem law_FnFalling (w:World) (code:List UInt8) (more:List UInt8) (acode:yOA) (ccode:Nat) (Fcode:yLN) (amore:yOA) (cmore:Nat) (Fmore:yLN) (hcode:qW.rep w Fcode [.slice acode code.length ccode] code) (hmore:qW.rep w Fmore [.slice amore more.length cmore] more):Calls Tryz.prog 3 #[.slice acode code.length ccode,.slice amore more.length cmore] w (Ret (fun v w' =>v=.bool true) w):=by
 refine en Tryz.func3 Tryz.ntmps3 ?_
 have H:=((St.start w).arg hmore).arg hcode
 have nhcode:=qU hcode
 have nhmore:=qU hmore
 clear hcode hmore
 have N:=Fresh.nil w.heap.size
 refine zcr (sp (.bool false) (zjcc (sps [.slice acode code.length ccode,.slice amore more.length cmore] (sw (jA #[.slice acode code.length ccode,.slice amore more.length cmore] rfl rfl Tryz.call4 (en Tryz.func4 Tryz.ntmps4 ?_))))))
 refine zcr (sp (.bool false) (zjc (sp (.slice acode code.length ccode) (oN rfl (sps [.bool (decide ((code.length:Int) > 3000)),.bool (decide ((code.length:Int) > 3000))] ?_)))))
 cases h1:(decide ((code.length:Int) > 3000))
 ·skip
  replace h1:=of_decide_eq_false h1
  refine qO 8 rfl rfl (sp (.slice amore more.length cmore) (qO 8 rfl rfl (oN rfl (qO 8 rfl rfl (sps [.bool (decide ((more.length:Int) > 3000)),.bool (decide ((more.length:Int) > 3000)),.bool (decide ((more.length:Int) > 3000))] (zjr (ret1 (.bool (decide ((more.length:Int) > 3000))) rfl rfl ⟨_,rfl,(zjn (cD rfl (fun h2=>?_) (fun h2=>?_)))⟩)))))))
  ·skip
   refine zcr (sp (.bool true) (zjr (t_r (ret1 (.bool true) rfl rfl ⟨_,rfl,?_,H.base⟩))))
   rfl
  ·skip
   refine xh (t_n (zcr (sp (.slice acode code.length ccode) ?_)))
   have H1:St w w [] [sF false Fcode acode ccode code,sF false Fmore amore cmore more]:=H.pick [] [0,1]
   have N1:Fresh _ []:=N
   have K1:Kept [] [sF false Fmore amore cmore more]:=Kept.nil _
   refine sw (zg #[.slice acode code.length ccode] rfl rfl Tryz.call5 (a2Weighed_ok code acode ccode Fcode H1 N1 K1 ) ?_)
   clear H H1 N1 K1
   rintro _ w3 ⟨zi8,zl9,zR10,zm11,zL12,zl13,zL14,ra15,rn16,rc17,ra18,rn19,rc20,rx21,rF22,ra23,rn24,rc25,ra26,rn27,rc28,rx29,rF30,ra31,rn32,rc33,ra34,rn35,rc36,rx37,rF38,hx5,hx6,hx7,rfl,N,H⟩
   obtain rfl:=H.jb 0 rfl
   obtain rfl:=H.zO (α:=zK) 1 rfl 1 rfl qj
   obtain rfl:=H.rowNB 2 rfl
   obtain rfl:=H.zO (α:=yLI) 3 rfl 2 rfl qj
   obtain rfl:=H.jb 4 rfl
   obtain rfl:=H.zO (α:=yLI) 5 rfl 3 rfl qj
   refine sps [.tuple #[.agg #[.int .i64 zi8,.slice ra15 zl9.length rc17,.slice ra18 zR10.length rc20],.agg #[.slice ra23 zm11.length rc25,.slice ra26 zL12.length rc28,.slice ra31 zl13.length rc33],.slice ra34 zL14.length rc36],.agg #[.int .i64 zi8,.slice ra15 zl9.length rc17,.slice ra18 zR10.length rc20],.agg #[.slice ra23 zm11.length rc25,.slice ra26 zL12.length rc28,.slice ra31 zl13.length rc33],.slice ra34 zL14.length rc36] (sw (x9 H ti27 [.int .i64 0,.slice none 0 0,.slice none 0 0] fun b39 w40 H=>sw (x9 H ti31 [.slice none 0 0,.slice none 0 0,.slice none 0 0] fun b41 w42 H=>?_)))
   refine sw (xP H 1 [.int .i64 zi8,.slice ra15 zl9.length rc17,.slice ra18 zR10.length rc20] Tryz.sizeOf27 fun w43 H=>sw (xP H 0 [.slice ra23 zm11.length rc25,.slice ra26 zL12.length rc28,.slice ra31 zl13.length rc33] Tryz.sizeOf31 fun w44 H=>sp (.slice ra34 zL14.length rc36) (zjn (x8 ?_))))
   obtain ⟨s,e1,e2,e3⟩:∃ z:qG,zi8=z.qQ∧zl9=z.qA∧zR10=z.qB:=⟨⟨zi8,zl9,zR10⟩,rfl,rfl,rfl⟩
   subst e1 e2 e3
   obtain ⟨t,e1,e2,e3⟩:∃ z:qR,zm11=z.qJ∧zL12=z.qN∧zl13=z.qM:=⟨⟨zm11,zL12,zl13⟩,rfl,rfl,rfl⟩
   subst e1 e2 e3
   have sd:=(‹SysDr _ _ _›)
   have td:=(‹StDr _ _ _ _ _ _›)
   have wk:WtOk s zL14:=(‹WtDr _ _ _›)
   have k0:zX s∧xQ s t:=⟨sd.ok,td.ok sd qf⟩
   have k1:=k0.1
   have k2:=k0.2
   have hD:PutsD 2 s:=putsD_of sd
   have tl:t.qJ.length=s.qA.length:=k2.1
   have wl:=wk.len
   have fr:=sd.few
   have sc:=sd.cells
   have wb:=weight_bd wk k2
   refine xZ (sw (xW [.int .i64 s.qQ,.slice ra15 s.qA.length rc17,.slice ra18 s.qB.length rc20] Tryz.isAgg27 Tryz.sizeOf27 rfl (qK (H.cells 1 rfl) 0 3) (sw (xW [.slice ra23 t.qJ.length rc25,.slice ra26 t.qN.length rc28,.slice ra31 t.qM.length rc33] Tryz.isAgg31 Tryz.sizeOf31 rfl (qK (H.cells 0 rfl) 0 3) (sp (.slice ra34 zL14.length rc36) ?_)))))
   obtain ⟨G45,hn46,h47⟩:=H.Qs 2 rfl
   obtain ⟨G48,hn49,h50⟩:=H.Xd (α:=zK) 3 rfl 1 rfl qj
   obtain ⟨G51,hn52,h53⟩:=H.rowIsB 4 rfl
   obtain ⟨G54,hn55,h56⟩:=H.Xd (α:=yLI) 5 rfl 2 rfl qj
   obtain ⟨G57,hn58,h59⟩:=H.Qs 6 rfl
   obtain ⟨G60,hn61,h62⟩:=H.Xd (α:=yLI) 7 rfl 3 rfl qj
   refine sw (oq (implBound_ok _ s t zL14 h47 h50 h53 h56 h59 h62 qg qg) H fun w64 H=>sps [.tuple #[.int .i64 (bndV s t zL14),.int .i64 (bndC s zL14)],.int .i64 (bndV s t zL14),.int .i64 (bndC s zL14),.int .i64 (bndV s t zL14),.int .i64 (bndC s zL14)] (zjc (sw (xW [.int .i64 s.qQ,.slice ra15 s.qA.length rc17,.slice ra18 s.qB.length rc20] Tryz.isAgg27 Tryz.sizeOf27 rfl (qK (H.cells 1 rfl) 0 3) ?_))))
   refine sw (xW [.slice ra23 t.qJ.length rc25,.slice ra26 t.qN.length rc28,.slice ra31 t.qM.length rc33] Tryz.isAgg31 Tryz.sizeOf31 rfl (qK (H.cells 0 rfl) 0 3) (sp (.slice ra34 zL14.length rc36) ?_))
   obtain ⟨G66,hn67,h68⟩:=H.Qs 2 rfl
   obtain ⟨G69,hn70,h71⟩:=H.Xd (α:=zK) 3 rfl 1 rfl qj
   obtain ⟨G72,hn73,h74⟩:=H.rowIsB 4 rfl
   obtain ⟨G75,hn76,h77⟩:=H.Xd (α:=yLI) 5 rfl 2 rfl qj
   obtain ⟨G78,hn79,h80⟩:=H.Qs 6 rfl
   obtain ⟨G81,hn82,h83⟩:=H.Xd (α:=yLI) 7 rfl 3 rfl qj
   refine sw (oq (specBound_ok _ s t zL14 h68 h71 h74 h77 h80 h83 qg qg) H fun w85 H=>sps [.tuple #[.int .i64 (bndV s t zL14),.int .i64 (bndC s zL14)],.int .i64 (bndV s t zL14),.int .i64 (bndC s zL14),.int .i64 (bndV s t zL14),.int .i64 (bndC s zL14)] (zjcc (sps [.int .i64 (bndC s zL14),.int .i64 (bndC s zL14),.bool (((bndC s zL14):Int) != (bndC s zL14))] (zjn (xI (((bndC s zL14):Int) != (bndC s zL14)) rfl (fun h=>absurd rfl (bne_iff_ne.1 h)) (fun h87=>?_))))))
   replace h87:=vW h87
   refine xh (t_n (zcc (sps [.int .i64 (bndC s zL14),.bool (((bndC s zL14):Int) != 0),.bool (((bndC s zL14):Int) != 0)] ?_)))
   cases h88:(((bndC s zL14):Int) != 0)
   ·skip
    replace h88:=vW h88
    refine qO 49 rfl rfl (sw (xW [.int .i64 s.qQ,.slice ra15 s.qA.length rc17,.slice ra18 s.qB.length rc20] Tryz.isAgg27 Tryz.sizeOf27 rfl (qK (H.cells 1 rfl) 0 3) (qO 49 rfl rfl (sw (xW [.slice ra23 t.qJ.length rc25,.slice ra26 t.qN.length rc28,.slice ra31 t.qM.length rc33] Tryz.isAgg31 Tryz.sizeOf31 rfl (qK (H.cells 0 rfl) 0 3) (qO 49 rfl rfl ?_))))))
    obtain ⟨G89,hn90,h91⟩:=H.Qs 2 rfl
    obtain ⟨G92,hn93,h94⟩:=H.Xd (α:=zK) 3 rfl 1 rfl qj
    obtain ⟨G95,hn96,h97⟩:=H.rowIsB 4 rfl
    obtain ⟨G98,hn99,h100⟩:=H.Xd (α:=yLI) 5 rfl 2 rfl qj
    obtain ⟨G101,hn102,h103⟩:=H.Qs 6 rfl
    refine sw (oq (a2Sound_ok _ s t h91 h94 h97 h100 h103 qg) H fun w105 H=>qO 49 rfl rfl (sps [.bool (!(dec (DeadOk s t))),.bool (!(dec (DeadOk s t)))] (zjn (cQ rfl (fun h107=>?_) (fun h107=>?_)))))
    ·skip
     refine zcr (sp (.bool true) (zjr (t_r (ret1 (.bool true) rfl rfl ⟨_,rfl,?_,H.base⟩))))
     rfl
    ·skip
     have hF:=bnd_iff (s:=s) (w:=zL14) qf
     have bv:=(bnd_yes (t:=t) hF).1
     have F0:=fallAt_0 sd td wk (‹DeadOk s t›)
     have al:=fun u=>applL_le s u s.qB.length
     refine xh (t_n (zcr (sw (xW [.slice ra23 t.qJ.length rc25,.slice ra26 t.qN.length rc28,.slice ra31 t.qM.length rc33] Tryz.isAgg31 Tryz.sizeOf31 rfl (qK (H.cells 0 rfl) 0 3) (sw (x9 H ti31 [.slice none 0 0,.slice none 0 0,.slice none 0 0] fun b108 w109 H=>sw (xP H 0 [.slice ra23 t.qJ.length rc25,.slice ra26 t.qN.length rc28,.slice ra31 t.qM.length rc33] Tryz.sizeOf31 fun w110 H=>zjc (sps [.int .i64 (bndV s t zL14),.int .i64 (bndV s t zL14)] (zjcc (sp (.int .i64 0) (zjn (xg ?_))))))))))))
     refine zH (fun m' ρ w111=>∃ (xU:Env) (last:Int) (n:Nat) (QM:yOA) (QF:Nat) (QJ:Nat) (now_Alive:List Bool) (Xw:yOA) (Xt:Nat) (Xv:Nat) (now_Bags:yLL) (x_now_Bags:List Value) (Xx:yLN) (Qg:yOA) (Qd:Nat) (Qe:Nat) (now_Around:yLI) (u:qR),ρ=upd (upd (upd (upd (upd (upd (upd xU 1 (.slice amore more.length cmore)) 5 (.pointer (some ⟨b39,0,none⟩))) 7 (.slice ra34 zL14.length rc36)) 8 (.int .i64 (bndV s t zL14))) 12 (.pointer (some ⟨b108,0,none⟩))) 13 (.int .i64 last)) 14 (.int .i64 n)∧last=(weight u zL14)∧now_Alive=u.qJ∧now_Bags=u.qN∧now_Around=u.qM∧(FallAt s zL14 (bndV s t zL14) n u)∧((n:Int)≤bndV s t zL14+1)∧m' =(bndV s t zL14+1 - (n:Int)).toNat∧Fresh w.heap.size [rF38,Xx]∧St w w111 [.box b108 [.slice QM QF QJ,.slice Xw Xt Xv,.slice Qg Qd Qe] 31,.box b41 [.slice ra23 t.qJ.length rc25,.slice ra26 t.qN.length rc28,.slice ra31 t.qM.length rc33] 31,.box b39 [.int .i64 s.qQ,.slice ra15 s.qA.length rc17,.slice ra18 s.qB.length rc20] 27,rr ra15 s.qA.length rc17 2 1 (s.qA.map (Value.int .i64)),rr ra18 s.qB.length rc20 49 9 rx21,rr QM QF QJ 4 1 (now_Alive.map (Value.bool)),rr Xw Xt Xv 24 1 x_now_Bags,rr Qg Qd Qe 2 1 (now_Around.map (Value.int .i64)),rr ra34 zL14.length rc36 24 1 rx37] [xB false rF22 rx21 s.qB,xB true Xx x_now_Bags now_Bags,xB true rF38 rx37 zL14,sF false Fmore amore cmore more]) ((bndV s t zL14+1 - (0:Int)).toNat) ⟨_,(bndV s t zL14),0,ra23,t.qJ.length,rc25,t.qJ,ra26,t.qN.length,rc28,t.qN,rx29,rF30,ra31,t.qM.length,rc33,t.qM,t,uE7,(by exact bv),(by rfl),(by rfl),(by rfl),(by rw [bv];exact F0),qf,rfl,(N.pick [1,0]),H.pick [0,1,2,3,4,5,6,7,8] [1,2,3,4]⟩ ?_
     clear H N
     rintro m' ρ w112 ⟨xU,last,n,QM,QF,QJ,now_Alive,Xw,Xt,Xv,now_Bags,x_now_Bags,Xx,Qg,Qd,Qe,now_Around,u,rfl,rfl,rfl,rfl,rfl,fa,fn,rfl,N,H⟩
     have hn_now_Alive:=H.rowNB 5 rfl
     have hn_now_Bags:=H.zO (α:=yLI) 6 rfl 1 rfl qj
     have hn_now_Around:=H.jb 7 rfl
     have k3:=And.intro k1 fa.st
     have ft:=fa.top
     refine zcc (sps [.int .i64 n,.int .i64 (bndV s t zL14),.bool (decide ((n:Int)≤(bndV s t zL14)))] (zjn (cD rfl (fun h113=>?_) (fun h113=>?_))))
     ·skip
      refine xh (t_n (x8 (xg (zcr (sw (xW [.int .i64 s.qQ,.slice ra15 s.qA.length rc17,.slice ra18 s.qB.length rc20] Tryz.isAgg27 Tryz.sizeOf27 rfl (qK (H.cells 2 rfl) 0 3) (sw (xW [.slice QM QF QJ,.slice Xw Xt Xv,.slice Qg Qd Qe] Tryz.isAgg31 Tryz.sizeOf31 rfl (qK (H.cells 0 rfl) 0 3) ?_))))))))
      obtain ⟨G114,hn115,h116⟩:=H.Qs 3 rfl
      obtain ⟨G117,hn118,h119⟩:=H.Xd (α:=zK) 4 rfl 0 rfl qj
      obtain ⟨G120,hn121,h122⟩:=H.rowIsB 5 rfl
      obtain ⟨G123,hn124,h125⟩:=H.Xd (α:=yLI) 6 rfl 1 rfl qj
      obtain ⟨G126,hn127,h128⟩:=H.Qs 7 rfl
      have sz132:=H.base.size
      refine sw (oc (args_eq (by rw [← hn121,← hn124,← hn127]) (implAppl_ok _ s u h116 h119 (hn121▸h122) (hn124▸h125) (hn127▸h128) qg)) ?_)
      rintro _ w130 ⟨ra129a,rn129a,rc129a,rfl,M,K⟩ _
      replace H:=H.merge K M
      obtain rfl:=H.jb 0 rfl
      refine sps [.tuple #[.slice ra129a ((appls s u).length) rc129a,.int .i64 0],.slice ra129a ((appls s u).length) rc129a,.int .i64 0,.slice ra129a ((appls s u).length) rc129a,.int .i64 0] (zjcc (sps [.int .i64 0,.bool false] (zjn (xI false rfl (fun h=>absurd h qj) (fun _=>xh (t_n (zcc (sp (.slice ra129a ((appls s u).length) rc129a) (oN rfl (sp (.bool (((appls s u).length:Int) == 0)) (zjn (cE rfl (fun h135=>?_) (fun h135=>?_)))))))))))))
      ·skip
       refine zcr (sp (.bool true) (zjr (t_r (zr5 (ret1 (.bool true) rfl rfl ⟨_,rfl,?_,H.base⟩)))))
       rfl
      ·skip
       have ba:=atV_bd more n (n:=((appls s u).length:Int)) qf
       obtain ⟨g1,g2,g3⟩:=fa.go k1 wk hF hD (k:=(atV more n ((appls s u).length:Int)).toNat) qf
       have k4:=And.intro k1 g2.st
       have ap:=appls_single (s:=s) (t:=u) (k:=(atV more n ((appls s u).length:Int)).toNat) qf
       refine xh (t_n (x8 ?_))
       obtain ⟨b136,rfl⟩:=H.Xo 0 rfl qf
       refine c_cut (fun ρ w146=>∃ (xU:Env) (b137:Nat) (ra138:yOA) (rc139:Nat) (ra140:yOA) (rc141:Nat) (ra142:yOA) (rc143:Nat) (rx144:List Value) (rF145:yLN),ρ=upd (upd (upd (upd (upd (upd (upd (upd (upd xU 1 (.slice amore more.length cmore)) 5 (.pointer (some ⟨b39,0,none⟩))) 7 (.slice ra34 zL14.length rc36)) 8 (.int .i64 (bndV s t zL14))) 12 (.pointer (some ⟨b108,0,none⟩))) 13 (.int .i64 (weight u zL14))) 14 (.int .i64 n)) 17 (.pointer (some ⟨b137,0,none⟩))) 18 (.int .i64 ((zk s u ((appls s u)[(atV more n ((appls s u).length)).toNat]!)).2))∧Fresh w.heap.size [rF145,rF38,Xx]∧St w w146 [.box b137 [.slice ra138 ((((zk s u ((appls s u)[(atV more n ((appls s u).length)).toNat]!)).1).qJ).length) rc139,.slice ra140 ((((zk s u ((appls s u)[(atV more n ((appls s u).length)).toNat]!)).1).qN).length) rc141,.slice ra142 ((((zk s u ((appls s u)[(atV more n ((appls s u).length)).toNat]!)).1).qM).length) rc143] 31,rr ra138 ((((zk s u ((appls s u)[(atV more n ((appls s u).length)).toNat]!)).1).qJ).length) rc139 4 1 ((((zk s u ((appls s u)[(atV more n ((appls s u).length)).toNat]!)).1).qJ).map (Value.bool)),rr ra140 ((((zk s u ((appls s u)[(atV more n ((appls s u).length)).toNat]!)).1).qN).length) rc141 24 1 rx144,rr ra142 ((((zk s u ((appls s u)[(atV more n ((appls s u).length)).toNat]!)).1).qM).length) rc143 2 1 ((((zk s u ((appls s u)[(atV more n ((appls s u).length)).toNat]!)).1).qM).map (Value.int .i64)),rr (some ⟨b136,0,none⟩) ((appls s u).length) rc129a 2 1 ((appls s u).map (Value.int .i64)),.box b108 [.slice QM QF QJ,.slice Xw Xt Xv,.slice Qg Qd Qe] 31,.box b41 [.slice ra23 t.qJ.length rc25,.slice ra26 t.qN.length rc28,.slice ra31 t.qM.length rc33] 31,.box b39 [.int .i64 s.qQ,.slice ra15 s.qA.length rc17,.slice ra18 s.qB.length rc20] 27,rr ra15 s.qA.length rc17 2 1 (s.qA.map (Value.int .i64)),rr ra18 s.qB.length rc20 49 9 rx21,rr QM QF QJ 4 1 (u.qJ.map (Value.bool)),rr Xw Xt Xv 24 1 x_now_Bags,rr Qg Qd Qe 2 1 (u.qM.map (Value.int .i64)),rr ra34 zL14.length rc36 24 1 rx37] [xB true rF145 rx144 (((zk s u ((appls s u)[(atV more n ((appls s u).length)).toNat]!)).1).qN),xB false rF22 rx21 s.qB,xB true Xx x_now_Bags u.qN,xB true rF38 rx37 zL14,sF false Fmore amore cmore more]) ?_ ?_
       ·skip
        refine yf rfl H fun H=>rt 0 (.agg #[.int .i64 s.qQ,.slice ra15 s.qA.length rc17,.slice ra18 s.qB.length rc20]) (yh (cs:=[.int .i64 s.qQ,.slice ra15 s.qA.length rc17,.slice ra18 s.qB.length rc20]) Tryz.isAgg27 Tryz.sizeOf27 rfl (fun _ h=>qK (h.cells 3 rfl) 0 3)) H ?_
        refine rt 1 (.agg #[.slice QM QF QJ,.slice Xw Xt Xv,.slice Qg Qd Qe]) (yh (cs:=[.slice QM QF QJ,.slice Xw Xt Xv,.slice Qg Qd Qe]) Tryz.isAgg31 Tryz.sizeOf31 rfl (fun _ h=>qK (h.cells 1 rfl) 0 3)) H ?_
        refine rtp 2 (.slice (some ⟨b136,0,none⟩) ((appls s u).length) rc129a) H ?_
        refine rtp 3 (.slice amore more.length cmore) H ?_
        refine rtp 4 (.int .i64 n) H ?_
        refine rtp 5 (.slice (some ⟨b136,0,none⟩) ((appls s u).length) rc129a) H ?_
        refine tN 6 rfl rfl H ?_
        refine jd [7,14] qh qm (jI rfl ?_ (jI rfl ?_ je))
        ·skip
         refine oq (a2At_ok _ more n ((appls s u).length) (H.get 3 rfl).1 qg) H fun w149 H=>⟨H,(tI 8 rfl rfl rfl H ?_)⟩
         refine tL 9 rfl rfl (fun _ h=>h.rowInt 0 rfl (iv:=(atV more n ((appls s u).length))) (i:=((atV more n ((appls s u).length)).toNat)) qf qf) H ?_
         refine jd [10,14] qh qm (jI rfl ?_ (jI rfl ?_ je))
         ·skip
          obtain ⟨G151,hn152,h153⟩:=H.Qs 4 rfl
          obtain ⟨G154,hn155,h156⟩:=H.Xd (α:=zK) 5 rfl 0 rfl qj
          obtain ⟨G157,hn158,h159⟩:=H.rowIsB 6 rfl
          obtain ⟨G160,hn161,h162⟩:=H.Xd (α:=yLI) 7 rfl 1 rfl qj
          obtain ⟨G163,hn164,h165⟩:=H.Qs 8 rfl
          have sz169:=H.base.size
          have lt170:=H.ltN (L:=[rF38,Xx]) [2,1]
          refine oc (args_eq (by rw [← hn158,← hn161,← hn164]) (implOne_ok _ s u ((appls s u)[(atV more n ((appls s u).length)).toNat]!) h153 h156 (hn158▸h159) (hn161▸h162) (hn164▸h165))) ?_
          rintro _ w167 ⟨ra166aAlive,rn166aAlive,rc166aAlive,ra166aBags,rn166aBags,rc166aBags,rx166aBags,rF166aBags,ra166aAround,rn166aAround,rc166aAround,rfl,M,K⟩ _
          replace N:=N.merge sz169 lt170 M
          replace H:=H.merge K M
          obtain rfl:=H.rowNB 0 rfl
          obtain rfl:=H.zO (α:=yLI) 1 rfl 0 rfl qj
          obtain rfl:=H.jb 2 rfl
          refine ⟨H.pick [3,4,5,6,7,8,9,10,11,12] [1,2,3,4],?_⟩
          have S:=H.jm [3,4,5,6,7,8,9,10,11,12] [1,2,3,4]
          refine rtp 11 (.tuple #[.agg #[.slice ra166aAlive ((((zk s u ((appls s u)[(atV more n ((appls s u).length)).toNat]!)).1).qJ).length) rc166aAlive,.slice ra166aBags ((((zk s u ((appls s u)[(atV more n ((appls s u).length)).toNat]!)).1).qN).length) rc166aBags,.slice ra166aAround ((((zk s u ((appls s u)[(atV more n ((appls s u).length)).toNat]!)).1).qM).length) rc166aAround],.int .i64 ((zk s u ((appls s u)[(atV more n ((appls s u).length)).toNat]!)).2)]) S ?_
          refine rtp 12 (.agg #[.slice ra166aAlive ((((zk s u ((appls s u)[(atV more n ((appls s u).length)).toNat]!)).1).qJ).length) rc166aAlive,.slice ra166aBags ((((zk s u ((appls s u)[(atV more n ((appls s u).length)).toNat]!)).1).qN).length) rc166aBags,.slice ra166aAround ((((zk s u ((appls s u)[(atV more n ((appls s u).length)).toNat]!)).1).qM).length) rc166aAround]) S ?_
          refine rtp 13 (.int .i64 ((zk s u ((appls s u)[(atV more n ((appls s u).length)).toNat]!)).2)) S ?_
          refine ro 14 rfl (x9 H ti31 [.slice none 0 0,.slice none 0 0,.slice none 0 0] fun b174 w175 H=>⟨H.pick [4,5,6,7,8,9,10,11,12,13] [1,2,3,4],(ro 15 rfl (xP H 0 [.slice ra166aAlive ((((zk s u ((appls s u)[(atV more n ((appls s u).length)).toNat]!)).1).qJ).length) rc166aAlive,.slice ra166aBags ((((zk s u ((appls s u)[(atV more n ((appls s u).length)).toNat]!)).1).qN).length) rc166aBags,.slice ra166aAround ((((zk s u ((appls s u)[(atV more n ((appls s u).length)).toNat]!)).1).qM).length) rc166aAround] Tryz.sizeOf31 fun w176 H=>⟨H.pick [4,5,6,7,8,9,10,11,12,13] [1,2,3,4],?_⟩))⟩)
          refine rtp 16 (.int .i64 ((zk s u ((appls s u)[(atV more n ((appls s u).length)).toNat]!)).2)) (H.pick [4,5,6,7,8,9,10,11,12,13] [1,2,3,4]) ?_
          refine xH qh ((meet ⟨_,b174,ra166aAlive,rc166aAlive,ra166aBags,rc166aBags,ra166aAround,rc166aAround,rx166aBags,rF166aBags,uE9,N,H⟩))
         ·skip
          refine x9 H ti31 [.slice none 0 0,.slice none 0 0,.slice none 0 0] fun b177 w178 H=>⟨H.pick [1,2,3,4,5,6,7,8,9,10] [0,1,2,3],(ro 10 rfl ?_)⟩
          obtain ⟨G179,hn180,h181⟩:=H.Qs 5 rfl
          obtain ⟨G182,hn183,h184⟩:=H.Xd (α:=zK) 6 rfl 0 rfl qj
          obtain ⟨G185,hn186,h187⟩:=H.rowIsB 7 rfl
          obtain ⟨G188,hn189,h190⟩:=H.Xd (α:=yLI) 8 rfl 1 rfl qj
          obtain ⟨G191,hn192,h193⟩:=H.Qs 9 rfl
          have sz197:=H.base.size
          have lt198:=H.ltN (L:=[rF38,Xx]) [2,1]
          refine oc (args_eq (by rw [← hn186,← hn189,← hn192]) (implOne_ok _ s u ((appls s u)[(atV more n ((appls s u).length)).toNat]!) h181 h184 (hn186▸h187) (hn189▸h190) (hn192▸h193))) ?_
          rintro _ w195 ⟨ra194aAlive,rn194aAlive,rc194aAlive,ra194aBags,rn194aBags,rc194aBags,rx194aBags,rF194aBags,ra194aAround,rn194aAround,rc194aAround,rfl,M,K⟩ _
          replace N:=N.merge sz197 lt198 M
          replace H:=H.merge K M
          obtain rfl:=H.rowNB 0 rfl
          obtain rfl:=H.zO (α:=yLI) 1 rfl 0 rfl qj
          obtain rfl:=H.jb 2 rfl
          refine ⟨H.pick [4,5,6,7,8,9,10,11,12,13] [1,2,3,4],?_⟩
          have S:=H.jm [4,5,6,7,8,9,10,11,12,13] [1,2,3,4]
          refine rtp 11 (.tuple #[.agg #[.slice ra194aAlive ((((zk s u ((appls s u)[(atV more n ((appls s u).length)).toNat]!)).1).qJ).length) rc194aAlive,.slice ra194aBags ((((zk s u ((appls s u)[(atV more n ((appls s u).length)).toNat]!)).1).qN).length) rc194aBags,.slice ra194aAround ((((zk s u ((appls s u)[(atV more n ((appls s u).length)).toNat]!)).1).qM).length) rc194aAround],.int .i64 ((zk s u ((appls s u)[(atV more n ((appls s u).length)).toNat]!)).2)]) S ?_
          refine rtp 12 (.agg #[.slice ra194aAlive ((((zk s u ((appls s u)[(atV more n ((appls s u).length)).toNat]!)).1).qJ).length) rc194aAlive,.slice ra194aBags ((((zk s u ((appls s u)[(atV more n ((appls s u).length)).toNat]!)).1).qN).length) rc194aBags,.slice ra194aAround ((((zk s u ((appls s u)[(atV more n ((appls s u).length)).toNat]!)).1).qM).length) rc194aAround]) S ?_
          refine rtp 13 (.int .i64 ((zk s u ((appls s u)[(atV more n ((appls s u).length)).toNat]!)).2)) S ?_
          refine ro 15 rfl (xP H 3 [.slice ra194aAlive ((((zk s u ((appls s u)[(atV more n ((appls s u).length)).toNat]!)).1).qJ).length) rc194aAlive,.slice ra194aBags ((((zk s u ((appls s u)[(atV more n ((appls s u).length)).toNat]!)).1).qN).length) rc194aBags,.slice ra194aAround ((((zk s u ((appls s u)[(atV more n ((appls s u).length)).toNat]!)).1).qM).length) rc194aAround] Tryz.sizeOf31 fun w202 H=>⟨H.pick [4,5,6,7,8,9,10,11,12,13] [1,2,3,4],(rtp 16 (.int .i64 ((zk s u ((appls s u)[(atV more n ((appls s u).length)).toNat]!)).2)) (H.pick [4,5,6,7,8,9,10,11,12,13] [1,2,3,4]) ?_)⟩)
          refine xH qh ((meet ⟨_,b177,ra194aAlive,rc194aAlive,ra194aBags,rc194aBags,ra194aAround,rc194aAround,rx194aBags,rF194aBags,uE9,N,H.pick [3,0,1,2,4,5,6,7,8,9,10,11,12,13] [0,1,2,3,4]⟩))
        ·skip
         refine x9 H ti31 [.slice none 0 0,.slice none 0 0,.slice none 0 0] fun b203 w204 H=>⟨H.pick [1,2,3,4,5,6,7,8,9,10] [0,1,2,3],(ro 7 rfl (oq (a2At_ok _ more n ((appls s u).length) (H.get 3 rfl).1 qg) H fun w206 H=>⟨H.pick [1,2,3,4,5,6,7,8,9,10] [0,1,2,3],?_⟩))⟩
         have S:=H.jm [1,2,3,4,5,6,7,8,9,10] [0,1,2,3]
         refine tI 8 rfl rfl rfl S ?_
         refine tL 9 rfl rfl (fun _ h=>h.rowInt 0 rfl (iv:=(atV more n ((appls s u).length))) (i:=((atV more n ((appls s u).length)).toNat)) qf qf) S ?_
         refine ro 10 rfl ?_
         obtain ⟨G208,hn209,h210⟩:=H.Qs 5 rfl
         obtain ⟨G211,hn212,h213⟩:=H.Xd (α:=zK) 6 rfl 0 rfl qj
         obtain ⟨G214,hn215,h216⟩:=H.rowIsB 7 rfl
         obtain ⟨G217,hn218,h219⟩:=H.Xd (α:=yLI) 8 rfl 1 rfl qj
         obtain ⟨G220,hn221,h222⟩:=H.Qs 9 rfl
         have sz226:=H.base.size
         have lt227:=H.ltN (L:=[rF38,Xx]) [2,1]
         refine oc (args_eq (by rw [← hn215,← hn218,← hn221]) (implOne_ok _ s u ((appls s u)[(atV more n ((appls s u).length)).toNat]!) h210 h213 (hn215▸h216) (hn218▸h219) (hn221▸h222))) ?_
         rintro _ w224 ⟨ra223aAlive,rn223aAlive,rc223aAlive,ra223aBags,rn223aBags,rc223aBags,rx223aBags,rF223aBags,ra223aAround,rn223aAround,rc223aAround,rfl,M,K⟩ _
         replace N:=N.merge sz226 lt227 M
         replace H:=H.merge K M
         obtain rfl:=H.rowNB 0 rfl
         obtain rfl:=H.zO (α:=yLI) 1 rfl 0 rfl qj
         obtain rfl:=H.jb 2 rfl
         refine ⟨H.pick [4,5,6,7,8,9,10,11,12,13] [1,2,3,4],?_⟩
         have S:=H.jm [4,5,6,7,8,9,10,11,12,13] [1,2,3,4]
         refine rtp 11 (.tuple #[.agg #[.slice ra223aAlive ((((zk s u ((appls s u)[(atV more n ((appls s u).length)).toNat]!)).1).qJ).length) rc223aAlive,.slice ra223aBags ((((zk s u ((appls s u)[(atV more n ((appls s u).length)).toNat]!)).1).qN).length) rc223aBags,.slice ra223aAround ((((zk s u ((appls s u)[(atV more n ((appls s u).length)).toNat]!)).1).qM).length) rc223aAround],.int .i64 ((zk s u ((appls s u)[(atV more n ((appls s u).length)).toNat]!)).2)]) S ?_
         refine rtp 12 (.agg #[.slice ra223aAlive ((((zk s u ((appls s u)[(atV more n ((appls s u).length)).toNat]!)).1).qJ).length) rc223aAlive,.slice ra223aBags ((((zk s u ((appls s u)[(atV more n ((appls s u).length)).toNat]!)).1).qN).length) rc223aBags,.slice ra223aAround ((((zk s u ((appls s u)[(atV more n ((appls s u).length)).toNat]!)).1).qM).length) rc223aAround]) S ?_
         refine rtp 13 (.int .i64 ((zk s u ((appls s u)[(atV more n ((appls s u).length)).toNat]!)).2)) S ?_
         refine ro 15 rfl (xP H 3 [.slice ra223aAlive ((((zk s u ((appls s u)[(atV more n ((appls s u).length)).toNat]!)).1).qJ).length) rc223aAlive,.slice ra223aBags ((((zk s u ((appls s u)[(atV more n ((appls s u).length)).toNat]!)).1).qN).length) rc223aBags,.slice ra223aAround ((((zk s u ((appls s u)[(atV more n ((appls s u).length)).toNat]!)).1).qM).length) rc223aAround] Tryz.sizeOf31 fun w231 H=>⟨H.pick [4,5,6,7,8,9,10,11,12,13] [1,2,3,4],(rtp 16 (.int .i64 ((zk s u ((appls s u)[(atV more n ((appls s u).length)).toNat]!)).2)) (H.pick [4,5,6,7,8,9,10,11,12,13] [1,2,3,4]) ?_)⟩)
         refine xH qh ((meet ⟨_,b203,ra223aAlive,rc223aAlive,ra223aBags,rc223aBags,ra223aAround,rc223aAround,rx223aBags,rF223aBags,uE9,N,H.pick [3,0,1,2,4,5,6,7,8,9,10,11,12,13] [0,1,2,3,4]⟩))
       ·skip
        clear H N
        rintro ρ w232 ⟨xU,b137,ra138,rc139,ra140,rc141,ra142,rc143,rx144,rF145,rfl,N,H⟩
        refine t_n (zcr (sw (xW [.int .i64 s.qQ,.slice ra15 s.qA.length rc17,.slice ra18 s.qB.length rc20] Tryz.isAgg27 Tryz.sizeOf27 rfl (qK (H.cells 7 rfl) 0 3) (sw (xW [.slice ra138 ((((zk s u ((appls s u)[(atV more n ((appls s u).length)).toNat]!)).1).qJ).length) rc139,.slice ra140 ((((zk s u ((appls s u)[(atV more n ((appls s u).length)).toNat]!)).1).qN).length) rc141,.slice ra142 ((((zk s u ((appls s u)[(atV more n ((appls s u).length)).toNat]!)).1).qM).length) rc143] Tryz.isAgg31 Tryz.sizeOf31 rfl (qK (H.cells 0 rfl) 0 3) (sp (.slice ra34 zL14.length rc36) ?_))))))
        obtain ⟨G233,hn234,h235⟩:=H.Qs 8 rfl
        obtain ⟨G236,hn237,h238⟩:=H.Xd (α:=zK) 9 rfl 1 rfl qj
        obtain ⟨G239,hn240,h241⟩:=H.rowIsB 1 rfl
        obtain ⟨G242,hn243,h244⟩:=H.Xd (α:=yLI) 2 rfl 0 rfl qj
        obtain ⟨G245,hn246,h247⟩:=H.Qs 3 rfl
        obtain ⟨G248,hn249,h250⟩:=H.Xd (α:=yLI) 13 rfl 3 rfl qj
        refine sw (oq (implWeigh_ok _ s ((zk s u ((appls s u)[(atV more n ((appls s u).length)).toNat]!)).1) zL14 h235 h238 h241 h244 h247 h250 qg qg) H fun w252 H=>sps [.tuple #[.int .i64 (weight ((zk s u ((appls s u)[(atV more n ((appls s u).length)).toNat]!)).1) zL14),.int .i64 0],.int .i64 (weight ((zk s u ((appls s u)[(atV more n ((appls s u).length)).toNat]!)).1) zL14),.int .i64 0,.int .i64 (weight ((zk s u ((appls s u)[(atV more n ((appls s u).length)).toNat]!)).1) zL14),.int .i64 0] (zjcc ?_))
        refine sps [.int .i64 ((zk s u ((appls s u)[(atV more n ((appls s u).length)).toNat]!)).2),.bool (((zk s u ((appls s u)[(atV more n ((appls s u).length)).toNat]!)).2:Int) != 0),.bool (((zk s u ((appls s u)[(atV more n ((appls s u).length)).toNat]!)).2:Int) != 0)] ?_
        cases h254:(((zk s u ((appls s u)[(atV more n ((appls s u).length)).toNat]!)).2:Int) != 0)
        ·skip
         replace h254:=vW h254
         refine qO 96 rfl rfl (sp (.int .i64 0) (qO 96 rfl rfl (sps [.bool false,.bool false,.bool false] (qO 100 rfl rfl (sp (.int .i64 (weight ((zk s u ((appls s u)[(atV more n ((appls s u).length)).toNat]!)).1) zL14)) (qO 100 rfl rfl (sp (.int .i64 (weight u zL14)) (qO 100 rfl rfl (sps [.bool (decide (((weight ((zk s u ((appls s u)[(atV more n ((appls s u).length)).toNat]!)).1) zL14):Int)≥(weight u zL14))),.bool (decide (((weight ((zk s u ((appls s u)[(atV more n ((appls s u).length)).toNat]!)).1) zL14):Int)≥(weight u zL14)))] (zjn (cD rfl (fun h255=>?_) (fun h255=>?_))))))))))))
         ·skip
          refine zcr (sp (.bool false) (zjr (t_r (zr5 (ret1 (.bool false) rfl rfl ⟨_,rfl,?_,H.base⟩)))))
          exfalso;first | omega | contradiction | (have:=fa.le wk;omega)
         ·skip
          refine xh (t_n (zcr (sw (xW [.slice ra138 ((((zk s u ((appls s u)[(atV more n ((appls s u).length)).toNat]!)).1).qJ).length) rc139,.slice ra140 ((((zk s u ((appls s u)[(atV more n ((appls s u).length)).toNat]!)).1).qN).length) rc141,.slice ra142 ((((zk s u ((appls s u)[(atV more n ((appls s u).length)).toNat]!)).1).qM).length) rc143] Tryz.isAgg31 Tryz.sizeOf31 rfl (qK (H.cells 0 rfl) 0 3) ?_))))
          refine sw (xP H 5 [.slice ra138 ((((zk s u ((appls s u)[(atV more n ((appls s u).length)).toNat]!)).1).qJ).length) rc139,.slice ra140 ((((zk s u ((appls s u)[(atV more n ((appls s u).length)).toNat]!)).1).qN).length) rc141,.slice ra142 ((((zk s u ((appls s u)[(atV more n ((appls s u).length)).toNat]!)).1).qM).length) rc143] Tryz.sizeOf31 fun w256 H=>zjn (xZ (sps [.int .i64 (weight ((zk s u ((appls s u)[(atV more n ((appls s u).length)).toNat]!)).1) zL14),.int .i64 (weight ((zk s u ((appls s u)[(atV more n ((appls s u).length)).toNat]!)).1) zL14)] (zi (b_n (t_n (xZ (sp (.int .i64 n) ?_))))))))
          refine sw (zB n 1 rfl rfl qf (sp (.int .i64 (n+1)) (zi ?_)))
          refine xq (m' :=(bndV s t zL14+1 - ((n+1):Int)).toNat) qf ⟨_,(weight ((zk s u ((appls s u)[(atV more n ((appls s u).length)).toNat]!)).1) zL14),n+1,ra138,(((zk s u ((appls s u)[(atV more n ((appls s u).length)).toNat]!)).1).qJ).length,rc139,((zk s u ((appls s u)[(atV more n ((appls s u).length)).toNat]!)).1).qJ,ra140,(((zk s u ((appls s u)[(atV more n ((appls s u).length)).toNat]!)).1).qN).length,rc141,((zk s u ((appls s u)[(atV more n ((appls s u).length)).toNat]!)).1).qN,rx144,rF145,ra142,(((zk s u ((appls s u)[(atV more n ((appls s u).length)).toNat]!)).1).qM).length,rc143,((zk s u ((appls s u)[(atV more n ((appls s u).length)).toNat]!)).1).qM,(zk s u ((appls s u)[(atV more n ((appls s u).length:Int)).toNat]!)).1,uE7,?_,?_,?_,?_,?_,?_,rfl,(N.pick [1,0]),H.pick [5,6,7,8,9,1,2,3,13] [1,0,3,4]⟩
          · rfl
          · rfl
          · rfl
          · rfl
          · exact g2
          · omega
        ·skip
         replace h254:=bne_iff_ne.1 h254
         refine xO [97,98] (sps [.bool true,.bool true] (xO [101,102,103] (sp (.bool true) (zjn (xI true rfl (fun _=>zcr (sp (.bool false) (zjr (t_r (zr5 (ret1 (.bool false) rfl rfl ⟨_,rfl,?_,H.base⟩)))))) (fun h=>absurd h qj))))))
         exfalso;first | omega | contradiction | (have:=fa.le wk;omega)
     ·skip
      refine zx4 (zcr (sp (.bool false) (zjr (ret1 (.bool false) rfl rfl ⟨_,rfl,?_,H.base⟩))))
      exfalso;first | omega | contradiction | (have:=fa.le wk;omega)
   ·skip
    replace h88:=bne_iff_ne.1 h88
    refine xO [50,51,52,53] (sp (.bool true) (zjn (xI true rfl (fun _=>zcr (sp (.bool true) (zjr (t_r (ret1 (.bool true) rfl rfl ⟨_,rfl,?_,H.base⟩))))) (fun h=>absurd h qj))))
    rfl
 ·skip
  replace h1:=of_decide_eq_true h1
  refine xO [9,10,11] (sps [.bool true,.bool true] (zjr (ret1 (.bool true) rfl rfl ⟨_,rfl,(zjn (xI true rfl (fun _=>zcr (sp (.bool true) (zjr (t_r (ret1 (.bool true) rfl rfl ⟨_,rfl,?_,H.base⟩))))) (fun h=>absurd h qj)))⟩)))
  rfl
end
section
open Go.ChangeShapes Go.WideShapes Go.ChangeAt Go.RowKit Go.Joins
set_option linter.unusedVariables false
set_option linter.unusedSimpArgs false
def Reads (P:Program) (t:TypeId) (α:Type) [qW α]:Prop:=
  ∀ {H:Type} {enc:TypeId×Value→H} {w:World} {spare:Nat→Bool} {held:Bool} {fuel:Nat} {cs:List Value} {x:DataW H×List MemPlace},
    DataW.trod enc P w 0 spare held fuel t cs=some x→∃ F,∃ y:α,qW.rep w F cs y

theorem cell_spot {w:World} {a:Addr} {v:Value} (h:w.cell? a=some v):a.spot=none:=by
  unfold World.cell? at h
  split at h
  · split at h
    · cases h
    · rename_i hs;simpa using hs
  · cases h

theorem reads_slice {α:Type} [qW α] {P:Program} {t e:TypeId} (hu:P.underlying t=some (.slice e)) (hc:P.cellsOf e=qW.size α) (hz:0 < qW.size α) (he:Reads P e α):Reads P t (List α):=by
  intro H enc w spare held fuel cs x h
  rcases DataW.trod_slice hu h with ⟨rfl,_⟩ | ⟨a,len,cap,elems,rest,n,_,rfl,_,_,hlc,hcm,hel,hget,_⟩
  · exact ⟨[],[],none,0,rfl,by simp,Or.inl ⟨rfl,rfl⟩⟩
  · have hm:cap≤9223372036854775807:=by unfold maxLen at hcm;omega
    rcases Nat.eq_zero_or_pos len with h0 | h0
    · subst h0
      exact ⟨[],[],some a,cap,rfl,by simp,Or.inl ⟨rfl,rfl⟩⟩
    · have hone:∀ i,i < len→∃ ci Fi,∃ y:α,w.cells? 0 (a.add (i * qW.size α)) (qW.size α)=some ci∧qW.rep w Fi ci y:=by
        intro i hi
        have hg:=hget i hi
        rw [hc] at hg
        have hs:elems[i]? =some (elems[i]'(by omega)):=List.getElem?_eq_getElem qf
        rw [hs] at hg
        obtain ⟨ci,h1,h2⟩:=Option.bind_eq_some_iff.1 hg
        obtain ⟨Fi,y,hr⟩:=he h2
        exact ⟨ci,Fi,y,h1,hr⟩
      have hsp:a.spot=none:=by
        obtain ⟨ci,Fi,y,h1,_⟩:=hone 0 h0
        obtain ⟨_,hl,hcell⟩:=World.cells?_some h1
        have:=hcell 0 hz
        rw [List.getElem?_eq_getElem (show 0 < ci.length by omega)] at this
        have:=cell_spot this
        simpa [Addr.add] using this
      obtain ⟨b,off,sp⟩:=a
      simp only at hsp
      subst hsp
      have hadd:∀ i j:Nat,((⟨b,off,none⟩:Addr).add (i * qW.size α)).add j=⟨b,off+i * qW.size α+j,none⟩:=fun i j=>by simp [Addr.add_mid]
      have hall:∀ m,m≤len→∃ F vs,∃ l:List α,l.length=m∧reps w F vs l∧jy w b off vs:=by
        intro m
        induction m with
        | zero=>exact fun _=>⟨[],[],[],rfl,⟨rfl,rfl⟩,fun i v hv=>by simp at hv⟩
        | succ m ih=>
          intro hm'
          obtain ⟨F,vs,l,hl,hr,hcl⟩:=ih qf
          obtain ⟨ci,Fi,y,h1,h2⟩:=hone m qf
          obtain ⟨_,hcl2,hcell⟩:=World.cells?_some h1
          refine ⟨F++Fi,vs++ci,l++[y],by simp [hl],jZ hr (reps_one h2),fun i v hv=>?_⟩
          have hvl:=reps_len hr
          rw [hl] at hvl
          rcases Nat.lt_or_ge i vs.length with hi | hi
          · rw [List.getElem?_append_left hi] at hv
            exact hcl i v hv
          · rw [List.getElem?_append_right hi] at hv
            have hi2:i - vs.length < ci.length:=by
              rcases Nat.lt_or_ge (i - vs.length) ci.length with h | h
              · exact h
              · simp [h] at hv
            have:=hcell (i - vs.length) qf
            rw [hadd,hv] at this
            rw [← this]
            congr 1
            rw [show off+i=off+m * qW.size α+(i - vs.length) by omega]
      obtain ⟨F,vs,l,hl,hr,hcl⟩:=hall len (Nat.le_refl _)
      have hb:b < w.heap.size:=by
        have h1:0 < vs.length:=by rw [reps_len hr,hl];exact Nat.mul_pos h0 hz
        exact World.block_lt_of_cell? w _ (hcl 0 _ (List.getElem?_eq_getElem h1))
      subst hl
      exact ⟨b :: F,l,some ⟨b,off,none⟩,cap,rfl,⟨by omega,hlc⟩,Or.inr ⟨b,off,F,vs,rfl,rfl,hb,hr,hcl⟩⟩

theorem arg_slice {P:Program} {α:Type} [qW α] {H:Type} {enc:TypeId×Value→H} {w:World} {spare:Nat→Bool} {held:Bool} {b0:Nat} {t e:TypeId} {v:Value} {d:DataW H} {p:List MemPlace} (hu:P.underlying t=some (.slice e)) (hr:Reads P t (List α))
    (hv:Value.okWide P w .any b0 t v) (h:DataW.Trod enc P w 0 spare held t v d p):∃ (a:yOA) (c:Nat) (F:yLN) (l:List α),v=.slice a l.length c∧qW.rep w F [.slice a l.length c] l:=by
  obtain ⟨a,m,c,rfl⟩:=okWide_slice hu hv
  obtain ⟨fuel,hf⟩:=h
  obtain ⟨F,l,hl⟩:=hr hf
  have hcs:(Value.slice a m c).cells.toList=[.slice a m c]:=rfl
  rw [hcs] at hl
  obtain ⟨a',c',hc,hx⟩:=id hl
  simp only [List.cons.injEq,Value.slice.injEq,and_true] at hc
  obtain ⟨rfl,rfl,rfl⟩:=hc
  exact ⟨a,c,F,l,rfl,hl⟩
section
variable {H : Type} {enc : TypeId × Value → H} {P : Program}

theorem trodAll_below (hl:laidOutB P=true) {W W' :World} (hb:Below W.heap.size W W'):
    ∀ (ts:List TypeId) (vs:List Value) (ds:List (DataW H)) (ps:List MemPlace),(∀ t∈ts,P.readableRec t=true∧t < P.types.size)→
      DataW.TrodAll enc P W 0 (fun _=>true) true ts vs ds ps→(∀ x∈ps,x.block < W.heap.size)→
      DataW.TrodAll enc P W' 0 (fun b=>decide (b < W.heap.size)) true ts vs ds ps
  | [],vs,ds,ps,_,h,_=>by
    obtain ⟨rfl,rfl,rfl⟩:=trodAll_nil h
    exact trodAll_mk0
  | t :: ts,vs,ds,ps,hr,h,hp=>by
    obtain ⟨v,vs',d,ds',p,q,rfl,rfl,rfl,h0,h1⟩:=trodAll_cons h
    have ht:=hr t (List.mem_cons_self ..)
    exact trodAll_cons_mk (Below.trod hl ht.1 ht.2 h0 hb (fun x hx=>hp x (List.mem_append_left _ hx)))
      (trodAll_below hl hb ts vs' ds' q (fun t' ht' =>hr t' (List.mem_cons_of_mem _ ht')) h1 (fun x hx=>hp x (List.mem_append_right _ hx)))

theorem post_law {f:Func} {s:ChangeSpec} {W W' :World} {args:Array Value} {tb:TypeId} {ds gs:List (DataW H)} {before:List MemPlace}
    (hW:DataW.Whole enc P f.params.toList s.vars false W args.toList ds gs before) (hv:s.vars=[])
    (hs:s.fn H (ds++[])={ results:=[.lit (.bool true)],args:=ds }) (hr:f.resultTypes=#[tb]) (hu:P.underlying tb=some .bool)
    (hl:laidOutB P=true) (hts:∀ t∈f.params.toList,P.readableRec t=true∧t < P.types.size) (hb:Below W.heap.size W W'):
    s.post enc P f false true false false W args (.bool true) W' :=by
  have hW' :=hW
  obtain ⟨p,q,hA,hV,rfl,hz,hn⟩:=hW
  rw [hv] at hV
  obtain ⟨rfl,rfl⟩:=trodVars_none hV
  have hlt:∀ x∈p++[],x.block < W.heap.size:=fun x hx=>hW'.lt x hx
  refine ⟨ds,[],p++[],[],p,[],hW',?_,?_,?_,World.keptBut_mono (fun x hx=>⟨hx,Or.inr (Or.inl (by simpa using hx))⟩) (hb.frame (·∈p++[])),fun h=>by cases h⟩
  · rw [hs,hr]
    simp only [Value.resultList]
    exact trodAll_mk1 (shut_bool hu true)
  · rw [hs]
    exact trodAll_below hl hb _ _ _ _ hts hA (fun x hx=>hlt x (by simpa using hx))
  · rw [hv,hs]
    exact rfl
end
theorem reads_byte {P:Program} {t:TypeId} (hu:P.underlying t=some (.int .u8)):Reads P t UInt8:=fun h=>by
  obtain ⟨n,rfl,_,hw⟩:=DataW.trod_int hu h
  have hb:0≤n∧n≤255:=by
    simp [Lit.wf,IntKind.min,IntKind.max,IntKind.signed,IntKind.bits] at hw
    omega
  refine ⟨[],UInt8.ofNat n.toNat,rfl,?_⟩
  have e:(UInt8.ofNat n.toNat).toNat=n.toNat:=by
    simp
    omega
  rw [e,Int.toNat_of_nonneg hb.1]
end
end Go.Proofs.YtfekhnffbngoaabGreat
