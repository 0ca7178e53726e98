/- Walks and laws, printed by program and by hand: what each function comes to, for all arguments, part 7. -/
import Derived.Test.YtdhklgjmiamiaaaGreatA6
import Derived.Test.YtdhklgjmiamiaaaGreatRows
import Derived.ProofKit
import Derived.OpenShut
import Derived.Carry
import Derived.BigQuiet
import Derived.Lib.SmallJoins
namespace Go.Proofs.YtdhklgjmiamiaaaGreat
open Go.Proofs.Tryz
set_option linter.unusedVariables false
set_option linter.unusedSimpArgs false
set_option maxRecDepth 100000
set_option maxHeartbeats 4000000
open Go.RowKit
open Go.Proofs.Tryz
open Go.Proofs.YtdhklgjmiamiaaaGreat.Tot (tot)
open Go.Proofs.YtdhklgjmiamiaaaGreat.Mark (cnt mrk mkd mkd_mark cnt_mark)
variable {F x:yLI} {P:Program} {R cs w:yLL} {S:List qH} {alive:List Bool} {e:TypeId} {i j k lo n q:Nat} {kk:Int} {rules:List vS} {s:qC} {t u:qH} {v:Value}
section
theorem wt_put {v:Int} {m:Nat} {w:List (OwnI e)} (h:WtTo kk m (w.map OwnI.l)) (e:m=n+1) (hk:0 < ((w[0]!).l).length) (hv:0<=v/\v<=5):WtDr kk n ((w.set 0 ⟨(w[0]!).l.set 0 v⟩).map OwnI.l):=by
 have hn:=h.len
 rw [List.length_map] at hn
 have e0:(w.map OwnI.l)[0]! =(w[0]!).l:=by cases w <;> rfl
 have h1:=(h.put (by rw [List.length_map];omega) (by rw [e0];exact hk) hv).dr e
 rw [List.map_set]
 rwa [e0] at h1
theorem a2Weighed_ok {W0 w:World} {ps:List Prv} {Γ:List Fact} {Ns:List yLN} (ak:List UInt8) (ac:yOA) (cc:Nat) (Fc:yLN) (H:St W0 w (ps) ((sF false Fc ac cc ak)::Γ)) (N:Fresh W0.heap.size (Ns)) (K0:Kept Ns Γ):Calls Tryz.prog 7 #[Sv ac ak.length cc] w (fun e w' =>∃ v,e=.returned v/\∃ (Gi:Int) (se:yLI) (iP:List vS) (i7:List Bool) (oA:yLL) (fx:yLI) (w_:yLL) (MI:yOA) (LU:Nat) (L4:Nat) (KQ:yOA) (Kk:Nat) (LE:Nat) (LD:List Value) (Qf:yLN) (Mw:yOA) (LP:Nat) (KD:Nat) (MF:yOA) (KC:Nat) (KF:Nat) (Lr:List Value) (Kv:yLN) (MO:yOA) (KZ:Nat) (Lo:Nat) (raW:yOA) (rnW:Nat) (rcW:Nat) (rxW:List Value) (rFW:yLN),(SysDr Gi se iP)/\(StDr Gi se.length 4 i7 oA fx)/\(WtDr Gi se.length w_)/\v=.tuple #[.agg #[yI Gi,Sv MI LU L4,Sv KQ Kk LE],.agg #[Sv Mw LP KD,Sv MF KC KF,Sv MO KZ Lo],Sv raW rnW rcW]/\Fresh W0.heap.size (Kv::rFW::Ns)/\St W0 w' ((rr MI LU L4 2 1 (se.map (Value.int .i64)))::(rr KQ Kk LE 70 9 LD)::(rr Mw LP KD 4 1 (i7.map (Value.bool)))::(rr MF KC KF 24 1 Lr)::(rr MO KZ Lo 2 1 (fx.map (Value.int .i64)))::(rr raW rnW rcW 24 1 rxW)::ps) ((sF false Fc ac cc ak)::(xy false Qf LD iP)::(xy true Kv Lr oA)::(xy true rFW rxW w_)::Γ)):=by
 refine en func7 ntmps7 ?_
 refine zcr (sw (xq H ti27 [yI 0,yN,yN] fun b1 w2 H=>sw (xq H ti31 [yN,yN,yN] fun b3 w4 H=>sq 1 (zjc (sq 1 (sw (zQ #[Sv ac ak.length cc] rfl rfl call39 (en func39 ntmps39 ?_))))))))
 refine zcr (sq 1 (zjc (sq 1 (sw (vU [Sv ac ak.length cc,yI 0,.int .u64 0] [(0,Sv ac ak.length cc)] (sw (zZ H [Sv ac ak.length cc,yI 0,.int .u64 0] fun b5 w6 H=>sq 1 (zjr (ret1 (pp b5 0) rfl rfl ⟨_,rfl,(sq 1 (zjc (sq 1 ?_)))⟩)))))))))
 have H1:=H.yl 3 1 [0,1,2] [0] qo qo
 have N1:Fresh _ (Ns):=N
 have K1:Kept (Ns) (Γ):=K0.behind 0 rfl
 refine sw (zL #[pp b5 0] rfl rfl call40 (dShrink_ok ak (0:Int) 0 b5 ac cc Fc H1 N1 K1 qg) ?_)
 clear H H1 N1 K1
 rintro _ w7 ⟨FZ,ahl,aM,eE,fh,ik,dI,iq,nT,awr,k9,ed,aj8,dt,M9,M8,lg,Wc,lk,dA,ah6,dD,kK,aW,lh,arY,kI,hx9,axk,axu,rfl,N,H⟩
 obtain rfl:=H.jC 1 rfl
 obtain rfl:=H.zg (α:=vS) 2 rfl 1 rfl qj
 obtain rfl:=H.VM 3 rfl
 obtain rfl:=H.zg (α:=yLI) 4 rfl 2 rfl qj
 obtain rfl:=H.jC 5 rfl
 have sd:=(‹SysDr _ _ _›)
 have s1:=sd.kinds
 have s2:=sd.cells
 have s3:=sd.few
 have s4:=sd.rules
 refine sq 3 (sw (xq H ti27 [yI 0,yN,yN] fun Dl w40 H=>sw (xq H ti31 [yN,yN,yN] fun Bd wR H=>sw (xY H 1 [yI aM,Sv nT eE.length k9,Sv ed fh.length dt] sizeOf27 fun Df H=>?_))))
 dsimp only [List.set] at H
 refine sw (xY H 0 [Sv lg ik.length lk,Sv dA dI.length dD,Sv lh iq.length kI] sizeOf31 fun Dy H=>?_)
 dsimp only [List.set] at H
 refine zjc (sw (vW H underlying29 ti24 fun JI C1 H=>sq 1 (zjcc (sp (yI 0) (zjn (qR ?_))))))
 replace H:=H.boxRow 0 rfl 1 0 rfl qj
 dsimp only [List.set] at H
 replace H:=H.jo (α:=OwnI 2)
 refine zl ((fun Z0 Z1 Z2 Z3 Z4 Z5 Z6 Z7 Z8 Z9 bx bG dy=>fun m' ρ Ng=>∃ (xE:Env) (J9:yOA) (C0:Nat) (B0:Nat) (sf:List (OwnI 2)) (wh:List Value) (dS:yLN) (c:Nat),ρ=upd (upd (upd (upd (upd (upd (upd xE 2 (pp b1 0)) 3 (pp b3 0)) 5 (pp b5 0)) 6 (pp Dl 0)) 7 (pp Bd 0)) 8 (Sv J9 C0 B0)) 9 (yI c)/\(WtTo aM c (sf.map OwnI.l))/\(c<=eE.length+1)/\(∀ x∈dS,x∉M8)/\(∀ x∈dS,x∉Fc)/\(∀ f∈Γ,∀ x∈dS,x∉f.F)/\m' =(eE.length+1 - c)/\Fresh W0.heap.size (aW::dS::Ns)/\St W0 Ng ((rr J9 C0 B0 24 1 wh)::Z0::Z1::Z2::Z3::Z4::Z5::Z6::Z7::Z8::Z9::ps) ((xy true dS wh sf)::bx::bG::dy::Γ)) _ _ _ _ _ _ _ _ _ _ _ _ _) ((eE.length+1 - 0)) ⟨_,(aa JI 0),0,0,([]:List (OwnI 2)),[],[],0,uE7,(by exact WtTo.nil _),qf,qm,qm,qm,rfl,(N.emp.zU 2 [1,0] qo),H⟩ ?_
 clear H N
 rintro m' ρ Pc ⟨xE,J9,C0,B0,sf,wh,dS,c,rfl,w1,w9,JD,JC,JG,rfl,N,H⟩
 have aup:=H.zg (α:=OwnI 2) 0 rfl 0 rfl qj
 have w0:_=c:=w1.len
 rw [List.length_map] at w0
 refine zcc (sp (yI c) (oF rfl (oL rfl (H.cell 2 rfl rfl) (oN rfl (sq 1 (zjn (cD rfl (fun O2=>?_) (fun O2=>?_))))))))
 ·refine qV (t_n (xQ (qR (zcr (sw (vW H underlying24 ti2 fun Cy w51 H=>sq 1 (zjcc (sp (yI 0) (zjn (qR ?_))))))))))
  replace H:=H.Xv 0 [] 0
  dsimp only [List.set] at H
  refine zl ((fun Z0 Z1 Z2 Z3 Z4 Z5 Z6 Z7 Z8 Z9 bx bG dy fj ix=>fun m' ρ P5=>∃ (xE:Env) (j0:yOA) (iX:Nat) (iJ:Nat) (Bi:yLI) (k:Nat),ρ=upd (upd (upd (upd (upd (upd (upd (upd (upd xE 2 (pp b1 0)) 3 (pp b3 0)) 5 (pp b5 0)) 6 (pp Dl 0)) 7 (pp Bd 0)) 8 (Sv J9 C0 B0)) 9 (yI c)) 10 (Sv j0 iX iJ)) 11 (yI k)/\((k:Int)<=aM)/\(RowTo Bi)/\(Bi.length=k)/\m' =(aM - (k:Int)).toNat/\Fresh W0.heap.size (aW::dS::Ns)/\St W0 P5 ((rr j0 iX iJ 2 1 (Bi.map (Value.int .i64)))::Z0::Z1::Z2::Z3::Z4::Z5::Z6::Z7::Z8::Z9::bx::ps) (bG::dy::fj::ix::Γ)) _ _ _ _ _ _ _ _ _ _ _ _ _ _ _) ((aM - (0:Int)).toNat) ⟨_,(aa Cy 0),0,0,([]:yLI),0,uE9,qf,(by exact RowTo.nil),(by rfl),rfl,N,H⟩ ?_
  clear H N
  rintro m' ρ Hi ⟨xE,j0,iX,iJ,Bi,k,rfl,i0,w2,w3,rfl,N,H⟩
  have OG:=H.jC 0 rfl
  refine zcc (sp (yI k) (oF rfl (oL rfl (H.cell 3 rfl rfl) (sq 1 (zjn (cD rfl (fun DJ=>?_) (fun DJ=>?_)))))))
  ·refine qV (t_n (xQ (qR (xJ (sq 1 (sp (yI k) (sw (o_mul 2 k rfl rfl qf (sw (zn 1 (2 * k) rfl rfl qf (sw (zf H underlying24 ti2 [yI (1+(2 * k))] fun RK L8 H=>sw (zo H 1 rfl 0 rfl underlying24 ti2 rfl qj rfl rfl rfl qw qp qf fun RO Ru Hj H=>?_)))))))))))))
   rw [snocI] at H
   dsimp only [List.set] at H
   refine sq 1 (xO (b_n (t_n (xJ (sp (yI k) (sw (zn k 1 rfl rfl qf (sq 1 (xO (qX (m' :=(aM - ((k+1):Int)).toNat) qf ⟨_,_,_,_,_,k+1,uE9,?_,?_,?_,rfl,N,H.zU 13 4 (zR 1 12) (zR 0 4) qo qo⟩))))))))))
   ·omega
   ·exact w2.snoc qf
   ·simp;omega
  refine zx4 (xJ (sq 2 (sw (zf H underlying29 ti24 [Sv j0 iX iJ] fun C4 KY H=>sw (zo H 2 rfl 0 rfl underlying29 ti24 rfl qj rfl rfl rfl qw qp qf fun a62 c63 RU H=>?_)))))
  dsimp only [List.set] at H
  replace N:Fresh W0.heap.size (dS::aW::Ns):=(N.zU 2 [1,0] qo)
  have HA:=H
  obtain ⟨Wr,hA,N,H⟩:=H.snocA 1 rfl 0 rfl N (fun F hF b hb=>(List.mem_append.1 (show F∈[aW]++Ns from hF)).elim (fun h=>(H.jA (L:=[aW]) [3]) F h b hb) fun h=>H.QG (K0.behind 4 rfl) F h b hb)
  replace JD:∀ x∈Wr,x∉M8:=fun x hx h=>(hA x hx).elim (fun a=>JD x a h) fun b=>((HA.facts _ (List.mem_of_getElem? (i:=2) rfl)).2 x h).2 _ b
  replace JC:∀ x∈Wr,x∉Fc:=fun x hx h=>(hA x hx).elim (fun a=>JC x a h) fun b=>((HA.facts _ (List.mem_of_getElem? (i:=1) rfl)).2 x h).2 _ b
  replace JG:∀ f∈Γ,∀ x∈Wr,x∉f.F:=fun f hf x hx h=>(hA x hx).elim (fun a=>JG f hf x a h) fun b=>((HA.facts f (mem_behind 4 rfl hf)).2 x h).2 _ b
  clear HA hA
  dsimp only [List.set] at H
  refine sq 1 (xO (b_n (t_n (xJ (sp (yI c) (sw (zn c 1 rfl rfl qf (sq 1 (xO (qX (m' :=(eE.length+1 - (c+1))) qf ⟨_,_,_,_,_,_,_,c+1,uE7,?_,?_,?_,?_,?_,rfl,(N.zU 2 [1,0] qo),H.zU 13 5 (zR 2 11) [0,2,3,4] qo qo⟩))))))))))
  ·simpa using w1.snoc qf w2
  ·omega
  ·exact JD
  ·exact JC
  ·exact JG
 refine zx4 (zcc (sp (yI 0) (zjn (qR (zl ((fun Z0 Z1 Z2 Z3 Z4 Z5 Z6 Z7 Z8 Z9 bx bG=>fun m' ρ E1=>∃ (xE:Env) (i:Nat) (bw:Int) (aJ:Int) (ag:List vS) (zy:List Value) (x8:yLN),ρ=upd (upd (upd (upd (upd (upd (upd xE 2 (pp b1 0)) 3 (pp b3 0)) 5 (pp b5 0)) 6 (pp Dl 0)) 7 (pp Bd 0)) 8 (Sv J9 C0 B0)) 12 (yI i)/\((i:Int)<=fh.length)/\(0<=bw/\bw<=6000+4 * i)/\(ag.length<=5/\jq aM eE ag)/\(∀ x∈dS,x∉x8)/\(∀ x∈dS,x∉Fc)/\(∀ f∈Γ,∀ x∈dS,x∉f.F)/\m' =(fh.length - (i:Int)).toNat/\Fresh W0.heap.size (aW::dS::Ns)/\St W0 E1 (Z0::Z1::Z2::(.box b5 [Sv ac ak.length cc,yI bw,.int .u64 aJ] 115)::Z3::(rr ed fh.length dt 70 9 zy)::Z4::Z5::Z6::Z7::Z8::ps) (Z9::bx::(xy false x8 zy ag)::bG::Γ)) _ _ _ _ _ _ _ _ _ _ _ _) ((fh.length - (0:Int)).toNat) ⟨_,0,FZ,ahl,fh,M9,M8,uE7,qf,qf,(by exact ⟨by omega,s4⟩),(by exact JD),(by exact JC),(by exact JG),rfl,N,H⟩ ?_)))))
 clear H N
 rintro m' ρ P0 ⟨xE,i,bw,aJ,ag,zy,x8,rfl,i0,j1,j2,JD,JC,JG,rfl,N,H⟩
 have sa:=H.zg (α:=vS) 5 rfl 2 rfl qj
 have w4:((sf[0]!).l).length=aM.toNat:=by have:=(w1.row 0 (by rw [w1.len];omega)).1;rwa [show (sf.map OwnI.l)[0]! =(sf[0]!).l from by cases sf <;> rfl] at this
 refine zcc (sp (yI i) (oF rfl (oL rfl (H.cell 2 rfl rfl) (oN rfl (sq 1 (zjn (cD rfl (fun Ez=>?_) (fun Ez=>?_))))))))
 ·refine qV (t_n (xQ (qR (zcr (oF rfl (oL rfl (H.cell 2 rfl rfl) (sp (yI i) ?_)))))))
  obtain ⟨V0,rfl⟩:=H.jK 5 rfl qf
  obtain ⟨X6,X0,iU,X8,X4,jz,X7,X3,iy,bW,bX,j5,fu,fw,mN,cy,cC,kd,sn,H⟩:=H.rowel_RuleD 5 rfl 2 rfl (iv:=i) i qf qf
  refine oI rfl rfl (sq 1 (zjcc (sq 1 ?_)))
  have H1:=H.yl 11 10 [3,0,1,2,4,5,6,7,8,9,10] [7,0,1,2,3,4,5,6,8,9] qo qo
  have N1:Fresh _ (aW::dS::Ns):=N
  have K1:Kept (Ns) ((sF false iU X6 X0 ((ag[i]!).zk))::(sF false jz X8 X4 ((ag[i]!).vk))::(sF false iy X7 X3 ((ag[i]!).vw))::(sF false j5 bW bX ((ag[i]!).zS))::(sF false mN fu fw ((ag[i]!).jX))::(sF false kd cy cC ((ag[i]!).xe))::(xy true dS wh sf)::(xy false x8 zy ag)::(xy true aW kK dI)::Γ):=K0.behind 9 rfl
  replace K1:=K1.cons (F:=dS) 6 rfl rfl
  replace K1:=K1.cons (F:=aW) 8 rfl rfl
  refine sw (zL #[pp b5 0,yI 2] rfl rfl call41 (Vg ak bw aJ b5 ac cc Fc (2:Int) H1 N1 K1 qg) ?_)
  clear H H1 N1 K1
  rintro _ HE ⟨B6,UY,ayQ,ats,rfl,N,H⟩
  refine zjn (zT _ rfl (fun h78=>?_) (fun h78=>?_))
  ·refine zcr (sq 1 (oF rfl (oL rfl (H.cell 3 rfl rfl) (sw (zV H underlying24 ti2 aM.toNat rfl rfl qf qf qf fun kF MS H=>sq 1 (oF rfl (sw (XJ H 6 rfl (Sv (aa kF 0) aM.toNat aM.toNat) sizeOf24 rfl rfl rfl (part_lt (sn 6 _ rfl)) fun SR H=>?_))))))))
   have Cr:=part_get (cells:=[yI ((ag[i]!).qI),yI ((ag[i]!).jG),Sv X6 (((ag[i]!).zk).length) X0,Sv X8 (((ag[i]!).vk).length) X4,Sv X7 (((ag[i]!).vw).length) X3,Sv bW (((ag[i]!).zS).length) bX,Sv fu (((ag[i]!).jX).length) fw,Sv cy (((ag[i]!).xe).length) cC,Bv ((ag[i]!).vg)]) sn 6 (Sv (aa kF 0) aM.toNat aM.toNat) (Nat.le_of_ble_eq_true rfl)
   replace Cr:∀ (q:Nat) (v:Value),([yI ((ag[i]!).qI),yI ((ag[i]!).jG),Sv X6 (((ag[i]!).zk).length) X0,Sv X8 (((ag[i]!).vk).length) X4,Sv X7 (((ag[i]!).vw).length) X3,Sv bW (((ag[i]!).zS).length) bX,Sv (aa kF 0) aM.toNat aM.toNat,Sv cy (((ag[i]!).xe).length) cC,Bv ((ag[i]!).vg)]:List Value)[q]? =some v->(zy.set (0+(i:Int).toNat * 9+6) (Sv (aa kF 0) aM.toNat aM.toNat))[0+(i:Int).toNat * 9+q]? =some v:=Cr
   dsimp only [List.set] at H
   refine zjn (xJ (sq 1 (sw (vW H underlying68 ti128 fun ns HG H=>sq 1 (oF rfl ?_)))))
   obtain ⟨CQ,N,arj,H⟩:=H.zN 1 rfl N (fun F hF b hb=>(List.mem_append.1 (show F∈[aW,dS]++Ns from hF)).elim (fun h=>(H.jA (L:=[aW,dS]) [9,7]) F h b hb) fun h=>H.QG (K0.behind 10 rfl) F h b hb)
   dsimp only [List.set] at H
   obtain ⟨F87,hA,H⟩:=H.partA_6 9 rfl 0 rfl (iv:=i) i qf (by omega)
   replace JD:∀ x∈dS,x∉F87:=fun x hx h=>(hA x h).elim (JD x hx) fun h=>absurd h (Fresh.apart2 (N.zU 3 [2,0,1] qo) x hx)
   clear hA
   dsimp only [List.set] at H
   refine sw (XJ H 7 rfl (Sv (aa ns 0) 0 0) sizeOf68 rfl rfl rfl (part_lt (Cr 7 _ rfl)) fun Mn H=>?_)
   have G0:=part_get (cells:=[yI ((ag[i]!).qI),yI ((ag[i]!).jG),Sv X6 (((ag[i]!).zk).length) X0,Sv X8 (((ag[i]!).vk).length) X4,Sv X7 (((ag[i]!).vw).length) X3,Sv bW (((ag[i]!).zS).length) bX,Sv (aa kF 0) aM.toNat aM.toNat,Sv cy (((ag[i]!).xe).length) cC,Bv ((ag[i]!).vg)]) Cr 7 (Sv (aa ns 0) 0 0) (Nat.le_of_ble_eq_true rfl)
   replace G0:∀ (q:Nat) (v:Value),([yI ((ag[i]!).qI),yI ((ag[i]!).jG),Sv X6 (((ag[i]!).zk).length) X0,Sv X8 (((ag[i]!).vk).length) X4,Sv X7 (((ag[i]!).vw).length) X3,Sv bW (((ag[i]!).zS).length) bX,Sv (aa kF 0) aM.toNat aM.toNat,Sv (aa ns 0) 0 0,Bv ((ag[i]!).vg)]:List Value)[q]? =some v->((zy.set (0+(i:Int).toNat * 9+6) (Sv (aa kF 0) aM.toNat aM.toNat)).set (0+(i:Int).toNat * 9+7) (Sv (aa ns 0) 0 0))[0+(i:Int).toNat * 9+q]? =some v:=G0
   dsimp only [List.set] at H
   refine zjc (sq 1 ?_)
   have H1:=H.yl 13 12 [2,0,1,3,4,5,6,7,8,9,10,11,12] [2,0,1,3,4,5,6,7,8,9,10,11] qo qo
   have N1:Fresh _ (CQ::aW::dS::Ns):=N
   have K1:Kept (Ns) ((xy false F87 (zy.set (0+(i:Int).toNat * 9+6) (Sv (aa kF 0) aM.toNat aM.toNat)) (ag.set i { ag[i]! with jX:=(List.replicate aM.toNat (0:Int))}))::(isF true CQ (Sv (aa kF 0) aM.toNat aM.toNat) (List.replicate aM.toNat (0:Int)))::(sF false iU X6 X0 ((ag[i]!).zk))::(sF false jz X8 X4 ((ag[i]!).vk))::(sF false iy X7 X3 ((ag[i]!).vw))::(sF false j5 bW bX ((ag[i]!).zS))::(sF false mN fu fw ((ag[i]!).jX))::(sF false kd cy cC ((ag[i]!).xe))::(xy true dS wh sf)::(xy false x8 zy ag)::(xy true aW kK dI)::Γ):=K0.behind 11 rfl
   replace K1:=K1.cons (F:=dS) 8 rfl rfl
   replace K1:=K1.cons (F:=aW) 10 rfl rfl
   replace K1:=K1.cons (F:=CQ) 1 rfl rfl
   refine sw (zL #[pp b5 0,yI 3] rfl rfl call41 (Vg ak B6 UY b5 ac cc Fc (3:Int) H1 N1 K1 qg) ?_)
   clear H H1 N1 K1
   rintro _ I4 ⟨X2,Wh,avZ,Jz,rfl,N,H⟩
   refine zjn (zT _ rfl (fun PR=>?_) (fun PR=>?_))
   ·refine xJ (sq 3 (oF rfl (oL rfl (H.Vk 7 rfl (G0 2 _ rfl)) ?_)))
    have nl:=(j2.2 i qf).need.1.1
    refine sw (oc (QZ _ ((ag[i]!).zk) (H.get 3 rfl).1 qg) ?_)
    rintro axI IOz agD ahg
    replace H:=H.zH ahg agD
    obtain ⟨Dz,Gx,rfl,anZ,aqN⟩:=H.jL 0 rfl
    refine sq 1 (oF rfl ?_)
    replace H:=H.boxRow 2 rfl 2 0 rfl qj
    dsimp only [List.set] at H
    replace H:=H.jo (α:=Xj)
    replace H:St _ _ ((rr Dz (((ag[i]!).zk).length) Gx 2 1 (((ag[i]!).zk).map (Value.int .i64)))::(.box b5 [Sv ac ak.length cc,yI X2,.int .u64 Wh] 115)::(rr (aa ns 0) 0 0 128 2 [])::(rr none 0 0 0 1 [])::(rr J9 C0 B0 24 1 wh)::(.box Bd [Sv lg ik.length lk,Sv dA dI.length dD,Sv lh iq.length kI] 31)::(.box Dl [yI aM,Sv nT eE.length k9,Sv (aa V0 0) fh.length dt] 27)::(rr nT eE.length k9 2 1 (eE.map (Value.int .i64)))::(rr (aa V0 0) fh.length dt 70 9 ((zy.set (0+(i:Int).toNat * 9+6) (Sv (aa kF 0) aM.toNat aM.toNat)).set (0+(i:Int).toNat * 9+7) (Sv (aa ns 0) 0 0)))::(rr lg ik.length lk 4 1 (ik.map (Value.bool)))::(rr dA dI.length dD 24 1 kK)::(rr lh iq.length kI 2 1 (iq.map (Value.int .i64)))::(.box b3 [yN,yN,yN] 31)::(.box b1 [yI 0,yN,yN] 27)::ps) ((xy true [] [] ([]:List Xj))::(sF false Fc ac cc ak)::(xy false F87 (zy.set (0+(i:Int).toNat * 9+6) (Sv (aa kF 0) aM.toNat aM.toNat)) (ag.set i { ag[i]! with jX:=(List.replicate aM.toNat (0:Int))}))::(isF true CQ (Sv (aa kF 0) aM.toNat aM.toNat) (List.replicate aM.toNat (0:Int)))::(sF false iU X6 X0 ((ag[i]!).zk))::(sF false jz X8 X4 ((ag[i]!).vk))::(sF false iy X7 X3 ((ag[i]!).vw))::(sF false j5 bW bX ((ag[i]!).zS))::(sF false mN fu fw ((ag[i]!).jX))::(sF false kd cy cC ((ag[i]!).xe))::(xy true dS wh sf)::(xy false x8 zy ag)::(xy true aW kK dI)::Γ):=H
    have H0:=H
    obtain ⟨NX,Lk,aqB,H⟩:=H.Ql (α:=Xj) 2 rfl 0 rfl qj
    replace N:Fresh W0.heap.size (NX::CQ::aW::dS::Ns):=Fresh.ice N.emp H0 2 Lk.1 Lk.2 (fun F hF b hb=>(List.mem_append.1 (show F∈[CQ,aW,dS]++Ns from hF)).elim (fun h=>(H0.jA (L:=[CQ,aW,dS]) [3,12,10]) F h b hb) fun h=>H0.QG (K0.behind 13 rfl) F h b hb)
    clear H0
    dsimp only [List.set] at H
    obtain ⟨afX,hA,H⟩:=H.partA_7 3 rfl 0 rfl (iv:=i) i qf (by (simp only [List.length_set];omega))
    replace JD:∀ x∈dS,x∉afX:=fun x hx h=>(hA x h).elim (JD x hx) fun h=>absurd h (Fresh.apart2 (N.zU 4 [3,0,1,2] qo) x hx)
    clear hA
    dsimp only [List.set] at H
    refine sw (XJ H 8 rfl (Sv Dz (((ag[i]!).zk).length) Gx) sizeOf24 rfl rfl rfl (part_lt (G0 5 _ rfl)) fun aax H=>?_)
    have MG:=part_get (cells:=[yI ((ag[i]!).qI),yI ((ag[i]!).jG),Sv X6 (((ag[i]!).zk).length) X0,Sv X8 (((ag[i]!).vk).length) X4,Sv X7 (((ag[i]!).vw).length) X3,Sv bW (((ag[i]!).zS).length) bX,Sv (aa kF 0) aM.toNat aM.toNat,Sv (aa ns 0) 0 0,Bv ((ag[i]!).vg)]) G0 5 (Sv Dz (((ag[i]!).zk).length) Gx) (Nat.le_of_ble_eq_true rfl)
    replace MG:∀ (q:Nat) (v:Value),([yI ((ag[i]!).qI),yI ((ag[i]!).jG),Sv X6 (((ag[i]!).zk).length) X0,Sv X8 (((ag[i]!).vk).length) X4,Sv X7 (((ag[i]!).vw).length) X3,Sv Dz (((ag[i]!).zk).length) Gx,Sv (aa kF 0) aM.toNat aM.toNat,Sv (aa ns 0) 0 0,Bv ((ag[i]!).vg)]:List Value)[q]? =some v->(((zy.set (0+(i:Int).toNat * 9+6) (Sv (aa kF 0) aM.toNat aM.toNat)).set (0+(i:Int).toNat * 9+7) (Sv (aa ns 0) 0 0)).set (0+(i:Int).toNat * 9+5) (Sv Dz (((ag[i]!).zk).length) Gx))[0+(i:Int).toNat * 9+q]? =some v:=MG
    dsimp only [List.set] at H
    refine xO (b_n (t_n (xJ (sp (yI i) (sw (zn i 1 rfl rfl qf (sq 1 (xO ?_))))))))
    obtain ⟨auu,N,aon,H⟩:=H.zN 0 rfl N (fun F hF b hb=>(List.mem_append.1 (show F∈[NX,CQ,aW,dS]++Ns from hF)).elim (fun h=>(H.jA (L:=[NX,CQ,aW,dS]) [1,5,14,12]) F h b hb) fun h=>H.QG (K0.behind 15 rfl) F h b hb)
    dsimp only [List.set] at H
    obtain ⟨afO,hA,H⟩:=H.partA_5 1 rfl 0 rfl (iv:=i) i qf (by (simp only [List.length_set];omega))
    replace JD:∀ x∈dS,x∉afO:=fun x hx h=>(hA x h).elim (JD x hx) fun h=>absurd h (Fresh.apart2 (N.zU 5 [4,0,1,2,3] qo) x hx)
    clear hA
    dsimp only [List.set] at H
    refine qX (m' :=(fh.length - ((i+1):Int)).toNat) qf ⟨_,i+1,_,_,_,_,_,uE7,?_,?_,?_,?_,?_,?_,rfl,(N.zU 5 [3,4] qo),H.zU 14 17 (4::5::6::1::zR 7 7) [14,5,0,16] qo qo⟩
    ·omega
    ·omega
    ·exact ⟨by (simp only [List.length_set]);omega,by (repeat' (first | exact j2.2 | exact vT.zero qf qf | (simp only [List.length_set];omega) | omega | exact (j2.2 i qf).need.1 | apply jq.here | apply jq.out | apply jq.into))⟩
    ·exact JD
    ·exact JC
    ·exact JG
   refine qV (b_n (t_n (xJ (sp (yI i) (sw (zn i 1 rfl rfl qf (sq 1 (xO ?_))))))))
   replace H:=H.boxRow 1 rfl 2 0 rfl qj
   dsimp only [List.set] at H
   replace H:=H.jo (α:=Xj)
   replace H:St _ _ ((.box b5 [Sv ac ak.length cc,yI X2,.int .u64 Wh] 115)::(rr (aa ns 0) 0 0 128 2 [])::(rr none 0 0 0 1 [])::(rr J9 C0 B0 24 1 wh)::(.box Bd [Sv lg ik.length lk,Sv dA dI.length dD,Sv lh iq.length kI] 31)::(.box Dl [yI aM,Sv nT eE.length k9,Sv (aa V0 0) fh.length dt] 27)::(rr nT eE.length k9 2 1 (eE.map (Value.int .i64)))::(rr (aa V0 0) fh.length dt 70 9 ((zy.set (0+(i:Int).toNat * 9+6) (Sv (aa kF 0) aM.toNat aM.toNat)).set (0+(i:Int).toNat * 9+7) (Sv (aa ns 0) 0 0)))::(rr lg ik.length lk 4 1 (ik.map (Value.bool)))::(rr dA dI.length dD 24 1 kK)::(rr lh iq.length kI 2 1 (iq.map (Value.int .i64)))::(.box b3 [yN,yN,yN] 31)::(.box b1 [yI 0,yN,yN] 27)::ps) ((xy true [] [] ([]:List Xj))::(sF false Fc ac cc ak)::(xy false F87 (zy.set (0+(i:Int).toNat * 9+6) (Sv (aa kF 0) aM.toNat aM.toNat)) (ag.set i { ag[i]! with jX:=(List.replicate aM.toNat (0:Int))}))::(isF true CQ (Sv (aa kF 0) aM.toNat aM.toNat) (List.replicate aM.toNat (0:Int)))::(sF false iU X6 X0 ((ag[i]!).zk))::(sF false jz X8 X4 ((ag[i]!).vk))::(sF false iy X7 X3 ((ag[i]!).vw))::(sF false j5 bW bX ((ag[i]!).zS))::(sF false mN fu fw ((ag[i]!).jX))::(sF false kd cy cC ((ag[i]!).xe))::(xy true dS wh sf)::(xy false x8 zy ag)::(xy true aW kK dI)::Γ):=H
   have H0:=H
   obtain ⟨Cx,KR,aqY,H⟩:=H.Ql (α:=Xj) 1 rfl 0 rfl qj
   replace N:Fresh W0.heap.size (Cx::CQ::aW::dS::Ns):=Fresh.ice N.emp H0 1 KR.1 KR.2 (fun F hF b hb=>(List.mem_append.1 (show F∈[CQ,aW,dS]++Ns from hF)).elim (fun h=>(H0.jA (L:=[CQ,aW,dS]) [3,12,10]) F h b hb) fun h=>H0.QG (K0.behind 13 rfl) F h b hb)
   clear H0
   dsimp only [List.set] at H
   obtain ⟨ajm,hA,H⟩:=H.partA_7 3 rfl 0 rfl (iv:=i) i qf (by (simp only [List.length_set];omega))
   replace JD:∀ x∈dS,x∉ajm:=fun x hx h=>(hA x h).elim (JD x hx) fun h=>absurd h (Fresh.apart2 (N.zU 4 [3,0,1,2] qo) x hx)
   clear hA
   dsimp only [List.set] at H
   refine qX (m' :=(fh.length - ((i+1):Int)).toNat) qf ⟨_,i+1,_,_,_,_,_,uE7,?_,?_,?_,?_,?_,?_,rfl,(N.zU 4 [2,3] qo),H.zU 13 15 (3::4::5::0::zR 6 7) [12,3,0,14] qo qo⟩
   ·omega
   ·omega
   ·exact ⟨by (simp only [List.length_set]);omega,by (repeat' (first | exact j2.2 | exact vT.zero qf qf | (simp only [List.length_set];omega) | omega | apply jq.out | apply jq.into))⟩
   ·exact JD
   ·exact JC
   ·exact JG
  refine qV (t_n (zcr (sq 1 ?_)))
  have H1:=H.yl 11 10 [0,1,2,3,4,5,6,7,8,9,10] [0,1,2,3,4,5,6,7,8,9] qo qo
  have N1:Fresh _ (aW::dS::Ns):=N
  have K1:Kept (Ns) ((sF false iU X6 X0 ((ag[i]!).zk))::(sF false jz X8 X4 ((ag[i]!).vk))::(sF false iy X7 X3 ((ag[i]!).vw))::(sF false j5 bW bX ((ag[i]!).zS))::(sF false mN fu fw ((ag[i]!).jX))::(sF false kd cy cC ((ag[i]!).xe))::(xy true dS wh sf)::(xy false x8 zy ag)::(xy true aW kK dI)::Γ):=K0.behind 9 rfl
  replace K1:=K1.cons (F:=dS) 6 rfl rfl
  replace K1:=K1.cons (F:=aW) 8 rfl rfl
  refine sw (zL #[pp b5 0,yI 3] rfl rfl call41 (Vg ak B6 UY b5 ac cc Fc (3:Int) H1 N1 K1 qg) ?_)
  clear H H1 N1 K1
  rintro _ Y7 ⟨aoh,aqh,anC,anj,rfl,N,H⟩
  refine zjn (zT _ rfl (fun agd=>?_) (fun agd=>?_))
  ·refine xJ (sq 3 (oF rfl (oL rfl (H.Vk 5 rfl (sn 2 _ rfl)) ?_)))
   have nl:=(j2.2 i qf).need.1.1
   refine sw (oc (QZ _ ((ag[i]!).zk) (H.get 1 rfl).1 qg) ?_)
   rintro awH H8 aix agB
   replace H:=H.zH agB aix
   obtain ⟨IE,JE,rfl,anL,apN⟩:=H.jL 0 rfl
   refine sq 1 (oF rfl (sw (XJ H 6 rfl (Sv IE (((ag[i]!).zk).length) JE) sizeOf24 rfl rfl rfl (part_lt (sn 5 _ rfl)) fun EI H=>?_)))
   have Lm:=part_get (cells:=[yI ((ag[i]!).qI),yI ((ag[i]!).jG),Sv X6 (((ag[i]!).zk).length) X0,Sv X8 (((ag[i]!).vk).length) X4,Sv X7 (((ag[i]!).vw).length) X3,Sv bW (((ag[i]!).zS).length) bX,Sv fu (((ag[i]!).jX).length) fw,Sv cy (((ag[i]!).xe).length) cC,Bv ((ag[i]!).vg)]) sn 5 (Sv IE (((ag[i]!).zk).length) JE) (Nat.le_of_ble_eq_true rfl)
   replace Lm:∀ (q:Nat) (v:Value),([yI ((ag[i]!).qI),yI ((ag[i]!).jG),Sv X6 (((ag[i]!).zk).length) X0,Sv X8 (((ag[i]!).vk).length) X4,Sv X7 (((ag[i]!).vw).length) X3,Sv IE (((ag[i]!).zk).length) JE,Sv fu (((ag[i]!).jX).length) fw,Sv cy (((ag[i]!).xe).length) cC,Bv ((ag[i]!).vg)]:List Value)[q]? =some v->(zy.set (0+(i:Int).toNat * 9+5) (Sv IE (((ag[i]!).zk).length) JE))[0+(i:Int).toNat * 9+q]? =some v:=Lm
   dsimp only [List.set] at H
   refine xO (b_n (t_n (xJ (sp (yI i) (sw (zn i 1 rfl rfl qf (sq 1 (xO ?_))))))))
   obtain ⟨amn,N,aa8,H⟩:=H.zN 0 rfl N (fun F hF b hb=>(List.mem_append.1 (show F∈[aW,dS]++Ns from hF)).elim (fun h=>(H.jA (L:=[aW,dS]) [9,7]) F h b hb) fun h=>H.QG (K0.behind 10 rfl) F h b hb)
   dsimp only [List.set] at H
   obtain ⟨aip,hA,H⟩:=H.partA_5 9 rfl 0 rfl (iv:=i) i qf (by omega)
   replace JD:∀ x∈dS,x∉aip:=fun x hx h=>(hA x h).elim (JD x hx) fun h=>absurd h (Fresh.apart2 (N.zU 3 [2,0,1] qo) x hx)
   clear hA
   dsimp only [List.set] at H
   refine qX (m' :=(fh.length - ((i+1):Int)).toNat) qf ⟨_,i+1,_,_,_,_,_,uE7,?_,?_,?_,?_,?_,?_,rfl,(N.zU 3 [1,2] qo),H.zU 12 12 (2::3::4::1::zR 5 7) [9,2,0,11] qo qo⟩
   ·omega
   ·omega
   ·exact ⟨by (simp only [List.length_set]);omega,by (repeat' (first | exact j2.2 | omega | exact (j2.2 i qf).need.1 | apply jq.here))⟩
   ·exact JD
   ·exact JC
   ·exact JG
  refine qV (b_n (t_n (xJ (sp (yI i) (sw (zn i 1 rfl rfl qf (sq 1 (xO (qX (m' :=(fh.length - ((i+1):Int)).toNat) qf ⟨_,i+1,_,_,_,_,_,uE7,?_,?_,?_,?_,?_,?_,rfl,N,H.zU 11 10 (1::2::3::0::zR 4 7) [7,0,8,9] qo qo⟩)))))))))
  ·omega
  ·omega
  ·exact ⟨by (skip);omega,by (repeat' (exact j2.2))⟩
  ·exact JD
  ·exact JC
  ·exact JG
 refine zx4 (zcc (sq 1 ?_))
 have H1:=H.yl 11 4 [3,0,1,2,4,5,6,7,8,9,10] [1,0,2,3] qo qo
 have N1:Fresh _ (aW::dS::Ns):=N
 have K1:Kept (Ns) ((xy true dS wh sf)::(xy false x8 zy ag)::(xy true aW kK dI)::Γ):=K0.behind 3 rfl
 replace K1:=K1.cons (F:=dS) 0 rfl rfl
 replace K1:=K1.cons (F:=aW) 2 rfl rfl
 refine sw (zL #[pp b5 0,yI 4] rfl rfl call41 (Vg ak bw aJ b5 ac cc Fc (4:Int) H1 N1 K1 qg) ?_)
 clear H H1 N1 K1
 rintro _ Pa ⟨AL,Mf,aoP,amL,rfl,N,H⟩
 refine zjn (zT _ rfl (fun ak1=>?_) (fun ak1=>?_))
 ·obtain ⟨Cp,rfl⟩:=H.jK 1 rfl qf
  refine VP (fun ρ Iy=>∃ (xE:Env) (zj:Int) (sU:Int) (KU:Int) (JA:yLN),ρ=upd (upd (upd (upd (upd xE 2 (pp b1 0)) 3 (pp b3 0)) 6 (pp Dl 0)) 7 (pp Bd 0)) 8 (Sv (aa Cp 0) C0 B0)/\(AL<=zj/\zj<=AL+2)/\(0<=sU/\(sU < (4:Int)\/sU=0))/\Fresh W0.heap.size (JA::aW::Ns)/\St W0 Iy ((.box b5 [Sv ac ak.length cc,yI zj,.int .u64 KU] 115)::(rr (aa Cp 0) C0 B0 24 1 wh)::(.box Bd [Sv lg ik.length lk,Sv dA dI.length dD,Sv lh iq.length kI] 31)::(.box Dl [yI aM,Sv nT eE.length k9,Sv ed fh.length dt] 27)::(rr nT eE.length k9 2 1 (eE.map (Value.int .i64)))::(rr ed fh.length dt 70 9 zy)::(rr lg ik.length lk 4 1 (ik.map (Value.bool)))::(rr dA dI.length dD 24 1 kK)::(rr lh iq.length kI 2 1 (iq.map (Value.int .i64)))::(.box b3 [yN,yN,yN] 31)::(.box b1 [yI 0,yN,yN] 27)::ps) ((xy true JA wh (sf.set 0 ⟨(sf[0]!).l.set 0 sU⟩))::(sF false Fc ac cc ak)::(xy false x8 zy ag)::(xy true aW kK dI)::Γ)) ?_ ?_
  ·refine QT rfl H [2,3,4,5,6,7,8,9,10] [0,2,3] fun H=>?_
   have S:=H.jm (zR 2 9) [0,2,3]
   refine rtl 0 S ?_
   refine tI 1 rfl rfl rfl S ?_
   refine rtl 3 S ?_
   refine vK [2,4] qh qm (jb rfl ?_ (jb rfl ?_ vM))
   ·obtain ⟨ahV,ahq,FP⟩:=H.innerHead 1 rfl 0 qf
    refine x9 (Sv ahV ((sf[0]!).l.length) ahq) isAgg24 rfl (H.Vk 1 rfl (by rw [show 0+(0:Int).toNat * 1=0 by omega];exact FP)) (⟨H.pick (zR 2 9) [0,2,3],(ro 4 rfl ?_)⟩)
    have H1:=H.yl 11 4 [0,1,2,3,4,5,6,7,8,9,10] [0,1,2,3] qo qo
    have N1:Fresh _ (aW::dS::Ns):=N
    have K1:Kept (Ns) ((xy true dS wh sf)::(xy false x8 zy ag)::(xy true aW kK dI)::Γ):=K0.behind 3 rfl
    replace K1:=K1.cons (F:=dS) 0 rfl rfl
    replace K1:=K1.cons (F:=aW) 2 rfl rfl
    refine zL #[pp b5 0,yI 4] rfl rfl call43 (yM ak AL Mf b5 ac cc Fc (4:Int) H1 N1 K1 qg) ?_
    clear H H1 N1 K1
    rintro _ M1 ⟨aav,YF,Kz,Ss,Ur,rfl,N,H⟩
    refine ⟨H.pick (zR 2 9) [0,2,3],?_⟩
    obtain ⟨asi,rfl⟩:=H.innerAddr 1 rfl 0 qf FP qf
    refine tI 5 rfl rfl rfl (H.pick (zR 2 9) [0,2,3]) (ro 6 rfl ?_)
    replace N:Fresh W0.heap.size (dS::aW::Ns):=(N.zU 2 [1,0] qo)
    have N0:=N
    refine o_storeII H 1 rfl 1 rfl N0 (fun F hF b hb=>(List.mem_append.1 (show F∈[aW]++Ns from hF)).elim (fun h=>(H.jA (L:=[aW]) [3]) F h b hb) fun h=>H.QG (K0.behind 4 rfl) F h b hb) ((sF false Fc ac cc ak)::(xy false x8 zy ag)::(xy true aW kK dI)::Γ) (keeps_cons (kept 0 rfl (fun x hx h=>JC x h hx)) (keeps_cons (kept 2 rfl (fun x hx h=>JD x h hx)) (keeps_cons (kept 3 rfl (away_new N0 0 rfl)) (keeps_behind 4 rfl JG)))) 0 qf FP Kz sizeOf2 rfl rfl (q:=0) qf qf fun ND ajo N H=>(⟨H.pick (zR 2 9) [1,2,3],(xw qh ((meet ⟨_,aav,Kz,YF,ajo,uE5,Ss,Ur,N,H⟩)))⟩)
   have H1:=H.yl 11 4 [0,1,2,3,4,5,6,7,8,9,10] [0,1,2,3] qo qo
   have N1:Fresh _ (aW::dS::Ns):=N
   have K1:Kept (Ns) ((xy true dS wh sf)::(xy false x8 zy ag)::(xy true aW kK dI)::Γ):=K0.behind 3 rfl
   replace K1:=K1.cons (F:=dS) 0 rfl rfl
   replace K1:=K1.cons (F:=aW) 2 rfl rfl
   refine zL #[pp b5 0,yI 4] rfl rfl call43 (yM ak AL Mf b5 ac cc Fc (4:Int) H1 N1 K1 qg) ?_
   clear H H1 N1 K1
   rintro _ axT ⟨Ze,acQ,jp,T9,YC,rfl,N,H⟩
   refine ⟨H.pick (zR 2 9) [0,2,3],(ro 2 rfl ?_)⟩
   obtain ⟨ajU,aeP,DH⟩:=H.innerHead 1 rfl 0 qf
   refine x9 (Sv ajU ((sf[0]!).l.length) aeP) isAgg24 rfl (H.Vk 1 rfl (by rw [show 0+(0:Int).toNat * 1=0 by omega];exact DH)) (⟨H.pick (zR 2 9) [0,2,3],?_⟩)
   obtain ⟨asr,rfl⟩:=H.innerAddr 1 rfl 0 qf DH qf
   refine tI 5 rfl rfl rfl (H.pick (zR 2 9) [0,2,3]) (ro 6 rfl ?_)
   replace N:Fresh W0.heap.size (dS::aW::Ns):=(N.zU 2 [1,0] qo)
   have N0:=N
   refine o_storeII H 1 rfl 1 rfl N0 (fun F hF b hb=>(List.mem_append.1 (show F∈[aW]++Ns from hF)).elim (fun h=>(H.jA (L:=[aW]) [3]) F h b hb) fun h=>H.QG (K0.behind 4 rfl) F h b hb) ((sF false Fc ac cc ak)::(xy false x8 zy ag)::(xy true aW kK dI)::Γ) (keeps_cons (kept 0 rfl (fun x hx h=>JC x h hx)) (keeps_cons (kept 2 rfl (fun x hx h=>JD x h hx)) (keeps_cons (kept 3 rfl (away_new N0 0 rfl)) (keeps_behind 4 rfl JG)))) 0 qf DH jp sizeOf2 rfl rfl (q:=0) qf qf fun ard afG N H=>(⟨H.pick (zR 2 9) [1,2,3],(xw qh ((meet ⟨_,Ze,jp,acQ,afG,uE5,T9,YC,N,H⟩)))⟩)
  clear H N
  rintro ρ W1 ⟨xE,zj,sU,KU,JA,rfl,DP,DY,N,H⟩
  refine t_n (xQ (QT rfl H [0,1,2,3,4,5,6,7,8] [0,1,2,3] fun H=>?_))
  have S:=H.jm (zR 0 9) (zR 0 4)
  refine rt 0 _ (y8 (cs:=[yI aM,Sv nT eE.length k9,Sv ed fh.length dt]) isAgg27 sizeOf27 rfl (fun _ h=>qF (h.cells 3 rfl) 0 3)) S ?_
  refine rt 1 _ (y8 (cs:=[Sv lg ik.length lk,Sv dA dI.length dD,Sv lh iq.length kI]) isAgg31 sizeOf31 rfl (fun _ h=>qF (h.cells 2 rfl) 0 3)) S ?_
  refine rtl 2 S ?_
  refine ro 3 rfl (xY H 10 [yI aM,Sv nT eE.length k9,Sv ed fh.length dt] sizeOf27 fun O1 H=>?_)
  dsimp only [List.set] at H
  refine ⟨H.pick (zR 0 9) (zR 0 4),(ro 4 rfl (xY H 9 [Sv lg ik.length lk,Sv dA dI.length dD,Sv lh iq.length kI] sizeOf31 fun YG H=>?_))⟩
  dsimp only [List.set] at H
  refine ⟨H.pick (zR 0 9) (zR 0 4),(rtl 5 (H.pick (zR 0 9) (zR 0 4)) ?_)⟩
  refine xw qh (t_n (c_ret (retCCT H 10 rfl 9 rfl (Sv (aa Cp 0) C0 B0) rfl isAgg27 sizeOf27 isAgg31 sizeOf31 rfl rfl rfl ⟨_,rfl,?_⟩)))
  replace H:=H.ofOwn 0 rfl
  exact ⟨aM,eE,ag,ik,dI,iq,((sf.set 0 ⟨(sf[0]!).l.set 0 sU⟩).map OwnI.l),nT,eE.length,k9,ed,fh.length,dt,zy,x8,lg,ik.length,lk,dA,dI.length,dD,kK,aW,lh,iq.length,kI,(aa Cp 0),C0,B0,wh,JA,(by exact sd.with j2.1 j2.2),ql,(by exact wt_put w1 qf qf ⟨by omega,by omega⟩),rfl,(N.zU 2 [1,0] qo),H.zU 11 5 [4,5,6,7,8,1] [2,3,4,0] qo qo⟩
 refine qV (t_n (xQ (QT rfl H [0,1,2,3,4,5,6,7,8] [0,1,2,3] fun H=>?_)))
 have S:=H.jm (zR 0 9) (zR 0 4)
 refine rt 0 _ (y8 (cs:=[yI aM,Sv nT eE.length k9,Sv ed fh.length dt]) isAgg27 sizeOf27 rfl (fun _ h=>qF (h.cells 3 rfl) 0 3)) S ?_
 refine rt 1 _ (y8 (cs:=[Sv lg ik.length lk,Sv dA dI.length dD,Sv lh iq.length kI]) isAgg31 sizeOf31 rfl (fun _ h=>qF (h.cells 2 rfl) 0 3)) S ?_
 refine rtl 2 S ?_
 refine ro 3 rfl (xY H 10 [yI aM,Sv nT eE.length k9,Sv ed fh.length dt] sizeOf27 fun I3 H=>?_)
 dsimp only [List.set] at H
 refine ⟨H.pick (zR 0 9) (zR 0 4),(ro 4 rfl (xY H 9 [Sv lg ik.length lk,Sv dA dI.length dD,Sv lh iq.length kI] sizeOf31 fun act H=>?_))⟩
 dsimp only [List.set] at H
 refine ⟨H.pick (zR 0 9) (zR 0 4),(rtl 5 (H.pick (zR 0 9) (zR 0 4)) ?_)⟩
 refine xw qh (t_n (c_ret (retCCT H 10 rfl 9 rfl (Sv J9 C0 B0) rfl isAgg27 sizeOf27 isAgg31 sizeOf31 rfl rfl rfl ⟨_,rfl,?_⟩)))
 replace H:=H.ofOwn 1 rfl
 exact ⟨aM,eE,ag,ik,dI,iq,(sf.map OwnI.l),nT,eE.length,k9,ed,fh.length,dt,zy,x8,lg,ik.length,lk,dA,dI.length,dD,kK,aW,lh,iq.length,kI,J9,C0,B0,wh,dS,(by exact sd.with j2.1 j2.2),ql,(by exact w1.dr qf),rfl,N,H.zU 11 5 [4,5,6,7,8,1] [1,3,4,0] qo qo⟩
theorem a2Sound_ok (w:World) (s:qC) (t:qH) {qG:yOA} {qE:Nat} {xk:yLN} {qO:yOA} {qN:Nat} {xW:yLN} {xg:yOA} {xf:Nat} {zD:yLN} {xI:yOA} {xG:Nat} {vF:yLN} {qZ:yOA} {qY:Nat} {zh:yLN} (qP:zP w xk qG qE s.qA) (xm:zP w xW qO qN s.qB) (zi:zP w zD xg xf t.qK) (zI:zP w vF xI xG t.qQ) (xM:zP w zh qZ qY t.qL) (p0:t.qK.length=s.qA.length):Calls Tryz.prog 16 #[.agg #[yI s.xK,Sv qG s.qA.length qE,Sv qO s.qB.length qN],.agg #[Sv xg t.qK.length xf,Sv xI t.qQ.length xG,Sv qZ t.qL.length qY]] w (Ret (fun v w' =>v=Bv (dec (Vt s t))) w):=by
 refine en func16 ntmps16 ?_
 have H:=(((((St.start w).arg xM).arg zI).arg zi).arg xm).arg qP
 have zB:=qM qP
 have vP:=qM xm
 clear qP xm zi zI xM
 have N:=Fresh.nil w.heap.size
 refine zcr (sw (zZ H (yS s qG qE qO qN) fun b1 w2 H=>sw (zZ H (yT t xg xf xI xG qZ qY) fun b3 w4 H=>sp (Bv false) (zjcc (sp (yI 0) (zjn (qR (zl ((fun Z0 Z1 Z2 Z3 Z4 Z5 Z6=>fun m' ρ w5=>∃ (xE:Env) (c:Nat),ρ=upd (upd (upd xE 2 (pp b1 0)) 3 (pp b3 0)) 5 (yI c)/\((c:Int)<=t.qK.length)/\(∀ j,j < c->QR s t j s.qB.length)/\m' =(t.qK.length - (c:Int)).toNat/\Fresh w.heap.size []/\St w w5 [Z0,Z1] [Z2,Z3,Z4,Z5,Z6]) _ _ _ _ _ _ _) ((t.qK.length - (0:Int)).toNat) ⟨_,0,uE3,qf,qx,rfl,N,H⟩ ?_))))))))
 clear H N
 rintro m' ρ w6 ⟨xE,c,rfl,i0,i1,rfl,N,H⟩
 refine zcc (sp (yI c) (oF rfl (oL rfl (H.cell 0 rfl rfl) (oN rfl (sq 1 (zjn (cD rfl (fun h7=>?_) (fun h7=>?_))))))))
 ·refine qV (t_n (xQ (qR (zcr (oF rfl (oL rfl (H.cell 0 rfl rfl) (sp (yI c) ?_)))))))
  obtain ⟨b8,o9,rfl⟩:=H.addr 2 rfl qf
  refine oI rfl rfl (oL rfl (H.elemBoolN 2 rfl c qf) (sq 1 (zjcc (sp (yI 0) (zjn (qR (zl ((fun Z0 Z1 Z2 Z3 Z4 Z5 Z6=>fun m' ρ nr=>∃ (xE:Env) (melts:Bool) (i:Nat),ρ=upd (upd (upd (upd (upd xE 2 (pp b1 0)) 3 (pp b3 0)) 5 (yI c)) 6 (Bv melts)) 7 (yI i)/\melts=(dec (QR s t c i))/\((i:Int)<=s.qB.length)/\m' =(s.qB.length - (i:Int)).toNat/\Fresh w.heap.size []/\St w nr [Z0,Z1] [Z2,Z3,Z4,Z5,Z6]) _ _ _ _ _ _ _) ((s.qB.length - (0:Int)).toNat) ⟨_,t.qK[c]!,0,uE5,(by exact sound_0 s t c),qf,rfl,N,H⟩ ?_)))))))
  clear H N
  rintro m' ρ uE ⟨xE,melts,i,rfl,rfl,i0,rfl,N,H⟩
  refine zcc (sp (yI i) (oF rfl (oL rfl (H.cell 1 rfl rfl) (oN rfl (sq 1 (zjn (cD rfl (fun ir=>?_) (fun ir=>?_))))))))
  ·refine qV (t_n (xQ (qR (xJ (sp (Bv (dec (QR s t c i))) (sp (Bv (dec (QR s t c i))) ?_))))))
   cases dO:((dec (QR s t c i)))
   ·refine qJ 28 rfl rfl (oF rfl (qJ 28 rfl rfl (oL rfl (H.cell 1 rfl rfl) (qJ 28 rfl rfl (sp (yI i) (qJ 28 rfl rfl ?_))))))
    obtain ⟨wm,o16,rfl⟩:=H.addr 1 rfl qf
    obtain ⟨mc,lO,Gr,m3,mP,EU,mU,lM,FW,nj,mC,EJ,pw,pi,It,mG,lW,Fq,H⟩:=H.jZ 1 rfl i i qf qf qf
    refine oI rfl rfl (qJ 28 rfl rfl (oF rfl (qJ 28 rfl rfl (oL rfl (H.xP 6 rfl 8 rfl) (qJ 28 rfl rfl (sp (Bv ((s.qB[i]!).vg)) ?_))))))
    cases zE:((s.qB[i]!).vg)
    ·rw [zE] at H
     refine xR (zR 36 8) (qJ 28 rfl rfl (sp (Bv false) (sp (Bv false) (sp (Bv false) (xO (b_n (t_n (xJ (sp (yI i) (sw (zn i 1 rfl rfl qf (sq 1 (xO (qX (m' :=(s.qB.length - ((i+1):Int)).toNat) qf ⟨_,_,i+1,uE5,?_,?_,rfl,N,H.pick [0,1] (zR 7 5)⟩))))))))))))))
     ·exact sound_a ql ql
     ·omega
    rw [zE] at H
    refine qJ 35 rfl rfl (oF rfl (qJ 35 rfl rfl (oL rfl (H.cell 1 rfl rfl) (qJ 35 rfl rfl (sp (yI i) (qJ 35 rfl rfl (oI rfl rfl (qJ 35 rfl rfl (oF rfl (qJ 35 rfl rfl (oL rfl (H.xP 6 rfl 0 rfl) (qJ 35 rfl rfl (sp (yI c) (qJ 35 rfl rfl (sq 1 (qJ 28 rfl rfl (sq 3 (xO (b_n (t_n (xJ (sp (yI i) (sw (zn i 1 rfl rfl qf (sq 1 (xO (qX (m' :=(s.qB.length - ((i+1):Int)).toNat) qf ⟨_,_,i+1,uE5,?_,?_,rfl,N,H.pick [0,1] (zR 7 5)⟩)))))))))))))))))))))))))))
    ·exact sound_b ql ql
    ·omega
   refine xR (zR 29 16) (sp (Bv true) (sp (Bv true) (xO (b_n (t_n (xJ (sp (yI i) (sw (zn i 1 rfl rfl qf (sq 1 (xO (qX (m' :=(s.qB.length - ((i+1):Int)).toNat) qf ⟨_,_,i+1,uE5,?_,?_,rfl,N,H⟩))))))))))))
   ·exact sound_on ql
   ·omega
  refine zx4 (zcr (sp (Bv (dec (QR s t c i))) (sp (Bv (!(dec (QR s t c i)))) (zjn (zT _ rfl (fun oV=>?_) (fun oV=>?_))))))
  ·replace oV:=xB oV
   refine zcr (sp (Bv false) (zjr (zr5 (rH1 (Bv false) H ?_))))
   rw [xh (dead_no (c:=c) (i:=i) qf qf ql)]
  replace oV:=xn oV
  refine qV (b_n (t_n (xJ (sp (yI c) (sw (zn c 1 rfl rfl qf (sq 1 (xO (qX (m' :=(t.qK.length - ((c+1):Int)).toNat) qf ⟨_,c+1,uE3,?_,?_,rfl,N,H⟩)))))))))
  ·omega
  ·exact fun j hj=>if e:j=c then by rw [e,show s.qB.length=i by omega];exact yG ql else i1 j qf
 refine zx4 (zcr (sp (Bv true) (zjr (rH1 (Bv true) H ?_))))
 rw [jH (dead_of (n:=c) qf (fun j hj=>i1 j hj))]
end
section
theorem packs_rest {K:Nat} {ae:yLL} (hP:PartsOk K ae):∀ (f k:Nat) (ai y:yLI),k+f=ae.length->RestOk K ai->y∈packs ae f k ai→
 ∃ r,r.length=K/\FullOk ae r/\∀ q,q < K->r[q]! =ai[q]! - dotP y (ae.drop k) q
 | 0,k,ai,y,hk,hR,h=>by
  rw [packs] at h
  split at h
  ·next hf=>
   obtain rfl:=List.mem_singleton.1 h
   exact ⟨ai,hR.1,hf,fun q hq=>by simp only [dotP];omega⟩
  ·simp at h
 | f+1,k,ai,y,hk,hR,h=>by
  rw [packs,List.mem_flatMap] at h
  obtain ⟨n,hn,h⟩:=h
  obtain ⟨y',hy,rfl⟩:=List.mem_map.1 h
  have hb:=times_bd hP hR (k:=k) qf
  rw [List.mem_range] at hn
  obtain ⟨r,h1,h2,h3⟩:=packs_rest hP f (k+1) _ y' qf (hR.take hP qf (n:=(n:Int)) qf qf) hy
  refine ⟨r,h1,h2,fun q hq=>?_⟩
  have hd:ae.drop k=ae[k]! :: ae.drop (k+1):=by rw [getElem!_pos ae k qf];exact (List.drop_eq_getElem_cons qf)
  rw [h3 q hq,Vz (by have:=hR.1;omega),Int.neg_mul,hd,dotP]
  omega
theorem says_most (hs:ve s) (ht:xZ s t) (h:Says s t s.qA.length (xN s t s.qA.length).length x):IsMost s t x:=by
 obtain ⟨hc,uS⟩:=says_choice hs ht h
 obtain ⟨h1,h2,h3⟩:=h
 have hB:=ht.2.1
 refine ⟨uS,fun i hi ha=>?_⟩
 have uM:=(hs.rule (i:=i) hi).1
 obtain ⟨c,ec⟩:∃ c:Nat,(s.qB[i]!).qI=(c:Int):=⟨(s.qB[i]!).qI.toNat,by have:=uM.1;omega⟩
 have hcp:c < s.qA.length:=by have:=uM;have:=ec;omega
 have hm:=cellT_mem hi ha ec
 obtain ⟨j,hj,ej⟩:=List.mem_iff_getElem.1 hm
 have hr:¬ (je s t c).length=0:=by omega
 obtain ⟨i',gw,e1,e2⟩:=cell_live (s:=s) (t:=t) hcp hr
 obtain ⟨y,hy,h4⟩:=h2 i' gw
 rw [e1] at h4
 rw [e2] at hy
 unfold cellP at hy
 rcases all_cases (b:=t.qQ[c]!) (ae:=jd s (je s t c)) with h5 | ⟨_,h5,_⟩
 ·rw [h5] at hy;simp at hy
 ·rw [h5] at hy
  obtain ⟨r,r1,r2,r3⟩:=packs_rest (cell_parts (t:=t) hs c) _ 0 _ y (Nat.zero_add _) (cell_rest ht qf) hy
  have he:=restR_ent hs ht hc s.qB.length (Nat.le_refl _)
  have hl:((Qb s t x s.qB.length)[c]!).length=zt s:=(he.sh.2 c (by unfold xX;omega)).1
  have dX:(Qb s t x s.qB.length)[c]! =r:=by
   refine ext_get qf fun q hq=>?_
   have hq:q < zt s:=by omega
   have heq:=he.eq c q (by unfold xX;omega) qf
   have hn:=needS_cell (t:=t) (x:=x) (c:=c) (q:=q) hs s.qB.length (Nat.le_refl _) fun k hk _ hak=>by
    by_cases h0:x[k]! =0
    ·exact h0
    ·refine absurd ?_ hak
     refine Classical.byContradiction fun hx=>h0 ?_
     have:=uS.1 k qf
     have hv:=(hc.2 k qf).1
     by_cases hz:0 < x[k]!
     ·exact absurd ⟨hz,hx⟩ this
     ·omega
   have h6:=sumOver_dot (s:=s) (x:=x) (q:=q) (l:=je s t c) (y:=y) ((packs_len hy).trans (Xp _ _)) h4
   rw [heq,r3 q hq,hn]
   show (t.qQ[c]!)[q]! + -(Ve s x q (je s t c))=_
   rw [h6,List.drop_zero]
   omega
  have hjn:j < (jd s (je s t c)).length:=by rw [Xp];exact hj
  have hx:=r2 j hjn
  have en:(jd s (je s t c))[j]! =(s.qB[i]!).zk:=by
   rw [needs_get hj,getElem!_pos _ j hj,ej,Int.toNat_natCast]
  rw [en] at hx
  rw [h1,ec,Int.toNat_natCast,dX]
  exact hx
theorem cho_most (hs:ve s) (ht:xZ s t) (hk:k < (jf s t).1.length):IsMost s t ((jf s t).1[k]!):=by
 have hm:(jf s t).1[k]! ∈(jf s t).1:=mem_at_L hk
 generalize (jf s t).1[k]! =x at hm
 unfold jf at hm
 split at hm
 ·simp at hm
 ·split at hm
  ·simp at hm
  ·have hx:x∈inOrder (y7 s.qB.length (xN s t s.qA.length) (zu s t s.qA.length) (zu s t s.qA.length).length):=hm
   unfold inOrder at hx
   have IX:=packsL_le s t s.qA.length
   split at hx
   ·next h=>exact says_most hs ht (by rw [← IX];exact prodG_says _ qf x ((Classical.choose_spec h).1.symm.subset hx))
   ·exact says_most hs ht (by rw [← IX];exact prodG_says _ qf x hx)
end
section
structure GraphD where
 fStates:List qH
 fNext:yLL
 deriving DecidableEq
instance:Inhabited GraphD:=⟨⟨[],[]⟩⟩
instance:Tot GraphD:=⟨fun x=>tot x.fStates+tot x.fNext⟩
instance:qW GraphD where
 size:=2
 rep:=fun w F cs x=>∃ (kg ti:Value) (ky s8:yLN),cs=[kg,ti]/\F=ky++s8/\qW.rep w ky [kg] x.fStates/\qW.rep w s8 [ti] x.fNext
 len:=by rintro w F cs x ⟨kg,ti,ky,s8,rfl,_,mD,u9⟩;rfl
 one:=by
  rintro w F cs x ⟨kg,ti,ky,s8,rfl,rfl,mD,u9⟩ u hu
  simp only [List.mem_cons,List.not_mem_nil,or_false] at hu
  rcases hu with rfl | rfl <;> exact one_of ql
 stay:=by
  rintro w w' F cs x ⟨kg,ti,ky,s8,rfl,rfl,mD,u9⟩ hs
  exact ⟨_,_,_,_,rfl,rfl,qW.stay mD fun b hb=>hs b (by simp [hb]),qW.stay u9 fun b hb=>hs b (by simp [hb])⟩
 lt:=by
  rintro w F cs x ⟨kg,ti,ky,s8,rfl,rfl,mD,u9⟩ b hb
  simp only [List.mem_append] at hb
  rcases hb with (hb | hb)
  ·exact qW.lt mD b hb
  ·exact qW.lt u9 b hb
end
section
theorem nextTo_pos:∀ {k:Nat},0 < k->0 < (yC s t cs k).length
 | 0,h=>by omega
 | k+1,_=>by
  rw [yC]
  split
  ·next h=>exact List.length_pos_of_mem h
  ·simp
open Classical in
theorem next_pos (h0:0 < cs.length) (hc:(Q8 s t cs).2=0):0 < (Q8 s t cs).1.length:=by
 by_cases h:NoBad s t cs cs.length
 ·rw [next_ok h];exact nextTo_pos h0
 ·exfalso
  obtain ⟨k,hk,hb⟩:∃ k,k < cs.length/\CodeBad s t cs k:=Classical.byContradiction fun hx=>h fun k hk hb=>hx ⟨k,hk,hb⟩
  obtain ⟨m,h1,h2,h3⟩:=least_of (g:=fun k=>decide (CodeBad s t cs k)) k (decide_eq_true hb)
  have h2:CodeBad s t cs m:=of_decide_eq_true h2
  rw [next_bad (fun j hj=>of_decide_eq_false (h3 j hj)) qf h2] at hc
  exact h2 hc
theorem cho_pos (hs:ve s) (ht:xZ s t) (h:(jf s t).2=0):0 < (jf s t).1.length:=by
 by_cases h1:GoodP s t s.qA.length
 ·by_cases h2:Xt (zu s t s.qA.length) (zu s t s.qA.length).length > 300
  ·rw [cho_3 (.inr h2)] at h;exact absurd h qj
  ·have hp:0 < Xt (zu s t s.qA.length) (zu s t s.qA.length).length:=
    Nat.lt_of_lt_of_le Nat.one_pos (prod_mono (packsL_ne hs ht (by have:=ht.2.1;omega) h1) (Nat.zero_le _) (Nat.le_refl _))
   unfold jf
   rw [if_neg (fun h' =>h' h1),if_neg h2]
   show 0 < (inOrder _).length
   unfold inOrder
   split
   ·next h=>rw [← (Classical.choose_spec h).1.length_eq,Xo];exact hp
   ·rw [Xo];exact hp
 ·rw [cho_3 (.inl h1)] at h;exact absurd h qj
theorem succ_halt (hs:ve s) (ht:xZ s t) (h:(xu s t).2=0):(xu s t).1.length=0<->Halted s t:=by
 constructor
 ·intro h1
  refine Classical.byContradiction fun hh=>?_
  by_cases h2:(jf s t).2=0
  ·rw [succ_0 hh h2] at h h1
   have:=next_pos (cho_pos hs ht h2) h
   omega
  ·rw [succ_c h2] at h;exact h2 h
 ·intro hh;rw [succ_h hh];rfl
theorem addSt_get {S nx:List qH} {j:Nat} (hj:j < S.length):∀ k,(ja S nx k).1[j]! =S[j]!
 | 0=>rfl
 | k+1=>by
  have ih:=addSt_get (nx:=nx) hj k
  have hl:=(XU (S:=S) (nx:=nx) k).1
  rw [ja]
  split
  ·show ((ja S nx k).1++[_])[j]! =_
   rw [getElem!_pos _ j qy,List.getElem_append_left qf,← getElem!_pos _ j qf];exact ih
  ·exact ih
structure GrAll (s:qC) (S:List qH) (R:yLL):Prop where
 ok:GrOk S R
 len:R.length=S.length
 pos:0 < S.length
 le:S.length<=300
 st:∀ u∈S,xZ s u
 ht:∀ j,j < R.length->((R[j]!).length=0<->Halted s (S[j]!))
theorem grGo_all {s:qC} (hs:ve s):∀ (f i:Nat) (S:List qH) (R:yLL),f+i=302->R.length=i->i<=S.length->0 < S.length->S.length<=300->(∀ u∈S,xZ s u)->GrOk S R→
 (∀ j,j < R.length->((R[j]!).length=0<->Halted s (S[j]!)))->(grGo s f i S R).2=0->GrAll s (grGo s f i S R).1.1 (grGo s f i S R).1.2
 | f,i,S,R,hf,hR,hi,hp,hl,ha,hk,hh,h=>by
  by_cases hx:S.length<=i
  ·rw [gr_end hx];show GrAll s S R;exact ⟨hk,by omega,hp,hl,ha,hh⟩
  ·by_cases hc:(xu s (S[i]!)).2=0
   ·by_cases hm:(ja S (xu s (S[i]!)).1 (xu s (S[i]!)).1.length).1.length > 300
    ·rw [gr_many qf qf hc rfl hm] at h;exact absurd h qj
    ·obtain ⟨f,rfl⟩:∃ g,f=g+1:=⟨f - 1,by omega⟩
     have e:=gr_go (R:=R) (show 0 < f+1 by omega) (show i < S.length by omega) hc rfl hm
     rw [show f+1 - 1=f from rfl] at e
     rw [e] at h ⊢
     obtain ⟨l1,l2,l3⟩:=XU (S:=S) (nx:=(xu s (S[i]!)).1) (xu s (S[i]!)).1.length
     have hsi:xZ s (S[i]!):=ha _ (by rw [getElem!_pos S i qf];exact List.getElem_mem _)
     refine grGo_all hs f (i+1) _ _ qf qy qf qf qf (addSt_mem ha succ_ok _ (Nat.le_refl _)) (hk.next qf (succ_len s _)) (fun j hj=>?_) h
     rw [List.length_append,List.length_singleton] at hj
     rw [addSt_get qf]
     by_cases ej:j=i
     ·subst ej
      rw [getElem!_pos _ j qy,List.getElem_append_right qf]
      simp only [hR,Nat.sub_self,List.getElem_cons_zero,l3]
      exact succ_halt hs hsi hc
     ·rw [getElem!_pos _ j qy,List.getElem_append_left qf,← getElem!_pos R j qf]
      exact hh j qf
   ·rw [gr_code qf qf hc] at h;exact absurd h hc
theorem gr_all (hs:ve s) (ht:xZ s t) (h:(grRes s t).2=0):GrAll s (grRes s t).1.1 (grRes s t).1.2:=
 grGo_all hs 302 0 [t] [] rfl rfl (Nat.zero_le _) qm qm (fun u hu=>by obtain rfl:=List.mem_singleton.1 hu;exact ht) (GrOk.start t) (fun j hj=>by simp at hj) h
theorem map_snoc! {α β:Type} [Inhabited α] {f:α->β} {l:List α} (h:q < l.length):(l.take q).map f++[f (l[q]!)]=(l.take (q+1)).map f:=by
 rw [← take_snoc h,List.map_append];rfl
theorem firstIdx_get {g:Nat->Bool} (h:0<=firstIdx g n):g (firstIdx g n).toNat=true:=by
 by_cases hx:∃ k,k < n/\g k=true
 ·obtain ⟨k,hk,h1⟩:=hx
  obtain ⟨m,a,b,c⟩:=least_of k h1
  rw [firstIdx_some (show m < n by omega) c b];exact b
 ·rw [firstIdx_none (fun j hj=>by
   cases e:g j with
   | false=>rfl
   | true=>exact absurd ⟨j,hj,e⟩ hx)] at h
  omega
theorem snoc_lt {α:Type} [Inhabited α] {l:List α} {x:α} (h:q < l.length):(l++[x])[q]! =l[q]! :=by
 rw [getElem!_pos _ q qy,getElem!_pos _ q h,List.getElem_append_left]
theorem snoc_eq {α:Type} [Inhabited α] {l:List α} {x:α}:(l++[x])[l.length]! =x:=by
 rw [getElem!_pos _ l.length qm];simp
theorem addSt_nx {S nx:List qH}:∀ k,∀ q,q < k->(ja S nx k).1[((ja S nx k).2[q]!).toNat]! =nx[q]!
 | 0,q,hq=>by omega
 | k+1,q,hq=>by
  have ih:=addSt_nx (S:=S) (nx:=nx) k
  obtain ⟨h1,h2⟩:=addSt_rows (S:=S) (nx:=nx) k
  obtain ⟨l1,l2,l3⟩:=XU (S:=S) (nx:=nx) k
  rw [ja]
  split
  ·show ((ja S nx k).1++[_])[(((ja S nx k).2++[_])[q]!).toNat]! =_
   by_cases e:q=k
   ·subst e
    rw [show ((ja S nx q).2++[((ja S nx q).1.length:Int)])[q]! =((ja S nx q).1.length:Int) from by have:=snoc_eq (l:=(ja S nx q).2) (x:=((ja S nx q).1.length:Int));rwa [l3] at this]
    rw [Int.toNat_natCast];exact snoc_eq
   ·rw [show ((ja S nx k).2++[((ja S nx k).1.length:Int)])[q]! =(ja S nx k).2[q]! from snoc_lt qf,snoc_lt (h1 q qf).2];exact ih q qf
  ·next hn=>
   show (ja S nx k).1[(((ja S nx k).2++[_])[q]!).toNat]! =_
   by_cases e:q=k
   ·subst e
    have hx:=snoc_eq (l:=(ja S nx q).2) (x:=firstIdx (fun j=>decide ((ja S nx q).1[j]! =nx[q]!)) (ja S nx q).1.length)
    rw [l3] at hx
    rw [hx]
    exact of_decide_eq_true (firstIdx_get (g:=fun j=>decide ((ja S nx q).1[j]! =nx[q]!)) qf)
   ·rw [snoc_lt qf];exact ih q qf
theorem grGo_ind {s:qC} {p:List qH->yLL->Prop}
 (hs:∀ S R,R.length < S.length->p S R->(xu s (S[R.length]!)).2=0->p (ja S (xu s (S[R.length]!)).1 (xu s (S[R.length]!)).1.length).1 (R++[(ja S (xu s (S[R.length]!)).1 (xu s (S[R.length]!)).1.length).2])):
 ∀ (f:Nat) (S:List qH) (R:yLL),p S R->(grGo s f R.length S R).2=0->p (grGo s f R.length S R).1.1 (grGo s f R.length S R).1.2
 | 0,S,R,hp,_=>hp
 | f+1,S,R,hp,h=>by
  rw [grGo] at h ⊢
  split
  ·exact hp
  ·next hx=>
   rw [if_neg hx] at h
   split
   ·next hy=>rw [if_pos hy] at h;exact absurd h hy
   ·next hy=>
    rw [if_neg hy] at h
    split
    ·next hz=>rw [if_pos hz] at h;exact absurd h qj
    ·next hz=>
     rw [if_neg hz] at h
     have e:R.length+1=(R++[(ja S (xu s (S[R.length]!)).1 (xu s (S[R.length]!)).1.length).2]).length:=by simp
     rw [e] at h ⊢
     exact grGo_ind hs f _ _ (hs S R qf hp (Classical.byContradiction hy)) h
def GrNx (s:qC) (S:List qH) (R:yLL):Prop:=∀ i,i < R.length->(xu s (S[i]!)).2=0/\∀ k,k < (R[i]!).length->k < (xu s (S[i]!)).1.length/\S[((R[i]!)[k]!).toNat]! =(xu s (S[i]!)).1[k]!
theorem gr_nx (h:(grRes s t).2=0):GrNx s (grRes s t).1.1 (grRes s t).1.2:=by
 refine (grGo_ind (s:=s) (p:=fun S R=>GrOk S R/\R.length<=S.length/\GrNx s S R) ?_ 302 [t] [] ⟨GrOk.start t,by simp,fun i hi=>by simp at hi⟩ h).2.2
 intro S R hl ⟨h1,h2,h3⟩ hc
 obtain ⟨l1,l2,l3⟩:=XU (S:=S) (nx:=(xu s (S[R.length]!)).1) (xu s (S[R.length]!)).1.length
 refine ⟨h1.next hl (succ_len s _),by rw [List.length_append,List.length_singleton];omega,fun i hi=>?_⟩
 rw [List.length_append,List.length_singleton] at hi
 rw [addSt_get qf]
 by_cases e:i=R.length
 ·subst e
  rw [snoc_eq]
  exact ⟨hc,fun k hk=>⟨by omega,addSt_nx _ k qf⟩⟩
 ·rw [snoc_lt qf]
  obtain ⟨a,b⟩:=h3 i qf
  exact ⟨a,fun k hk=>⟨(b k hk).1,by rw [addSt_get (h1.rows i qf k hk).2];exact (b k hk).2⟩⟩
def InTo (R:yLL) (i j q:Nat):Prop:=∃ k,k < q/\((R[i]!)[k]!).toNat=j
def InRow (R:yLL) (i j:Nat):Prop:=InTo R i j (R[i]!).length
def FromGe (R:yLL) (lo j i:Nat):Prop:=lo<=i/\i < R.length/\InRow R i j/\∀ i',lo<=i' ->i' < i->¬ InRow R i' j
open Classical in
noncomputable def frm (R:yLL) (j:Nat):Nat:=if h:∃ i,FromGe R 0 j i then h.choose else 0
theorem FromGe.same {i':Nat} (h:FromGe R lo j i) (h' :FromGe R lo j i'):i=i' :=by
 rcases Nat.lt_trichotomy i i' with h1 | h1 | h1
 ·exact absurd h.2.2.1 (h'.2.2.2 i h.1 h1)
 ·exact h1
 ·exact absurd h'.2.2.1 (h.2.2.2 i' h'.1 h1)
theorem frm_of (h:FromGe R 0 j i):frm R j=i:=by
 have hx:∃ i,FromGe R 0 j i:=⟨i,h⟩
 rw [frm,dif_pos hx];exact hx.choose_spec.same h
open Classical in
theorem frm_ok (h:GrOk S R) (h0:0 < j) (hj:j < S.length):FromGe R 0 j (frm R j)/\frm R j < j:=by
 obtain ⟨i,h1,h2,k,hk,he⟩:=h.from' j h0 hj
 obtain ⟨m,a,b,c⟩:=least_of (g:=fun i=>decide (InRow R i j)) i (decide_eq_true ⟨k,hk,by omega⟩)
 have hf:FromGe R 0 j m:=⟨Nat.zero_le _,by omega,of_decide_eq_true b,fun i' _ gw =>of_decide_eq_false (c i' gw)⟩
 rw [frm_of hf];exact ⟨hf,by omega⟩
def FGe (R:yLL) (F:yLI) (lo:Nat):Prop:=∀ j,j < F.length->∀ i,FromGe R lo j i->F[j]! =(i:Int)
def FMid (R:yLL) (F:yLI) (i q:Nat):Prop:=∀ j,j < F.length->(InTo R i j q->F[j]! =(i:Int))/\(¬ InTo R i j q->∀ i',FromGe R (i+1) j i' ->F[j]! =(i' :Int))
theorem FGe.start (h:R.length<=lo):FGe R F lo:=fun j _ i hi=>by have:=hi.1;have:=hi.2.1;omega
theorem FMid.start (h:FGe R F (i+1)):FMid R F i 0:=fun j hj=>⟨fun ⟨k,hk,_⟩=>by omega,fun _=>h j hj⟩
theorem FMid.step (h:FMid R F i q) {c:Nat} (hc:((R[i]!)[q]!).toNat=c):FMid R (F.set c (i:Int)) i (q+1):=fun j hj=>by
 subst hc
 rw [List.length_set] at hj
 obtain ⟨a,b⟩:=h j hj
 have hg:(F.set ((R[i]!)[q]!).toNat (i:Int))[j]! =if ((R[i]!)[q]!).toNat=j/\j < F.length then (i:Int) else F[j]! :=setAt0
 rw [hg]
 by_cases e:((R[i]!)[q]!).toNat=j
 ·rw [if_pos ⟨e,hj⟩];exact ⟨fun _=>rfl,fun hn=>absurd ⟨q,by omega,e⟩ hn⟩
 ·rw [if_neg (fun hx=>e hx.1)]
  have hi:InTo R i j (q+1)<->InTo R i j q:=⟨fun ⟨k,hk,he⟩=>⟨k,by
   by_cases ek:k=q
   ·subst ek;exact absurd he e
   ·omega,he⟩,fun ⟨k,hk,he⟩=>⟨k,by omega,he⟩⟩
  rw [hi];exact ⟨a,b⟩
theorem FMid.fin (h:FMid R F i q) (hq:q=(R[i]!).length) (hi:i < R.length):FGe R F i:=fun j hj i' hf=>by
 subst hq
 obtain ⟨a,b⟩:=h j hj
 by_cases e:InRow R i j
 ·rw [a e,hf.same ⟨Nat.le_refl _,hi,e,fun i'' h1 h2=>by omega⟩]
 ·refine b e i' ⟨?_,hf.2.1,hf.2.2.1,fun i'' h1 h2=>hf.2.2.2 i'' qf h2⟩
  rcases Nat.lt_or_ge i i' with h1 | h1
  ·omega
  ·have:i=i' :=by have:=hf.1;omega
   subst this;exact absurd hf.2.2.1 e
theorem FGe.at' (h:FGe R F 0) (g:GrOk S R) (h0:0 < j) (hj:j < S.length) (hl:F.length=S.length):F[j]! =(frm R j:Int):=h j qf _ (frm_ok g h0 hj).1
structure FromOk (S:List qH) (R:yLL) (F:yLI):Prop where
 len:F.length=S.length
 fst:F[0]! = -1
 all:∀ j,0 < j->j < S.length->0<=F[j]! /\FromGe R 0 j (F[j]!).toNat
theorem FromOk.start (t:qH):FromOk [t] [] [-1]:=⟨rfl,rfl,fun j h1 h2=>by simp at h2;omega⟩
theorem FromOk.next (h:FromOk S R F) (g:GrOk S R) {nx:List qH} (hp:0 < S.length) (hi:i=R.length):FromOk (ja S nx k).1 (R++[(ja S nx k).2]) (F++List.replicate ((ja S nx k).1.length - S.length) (i:Int)):=by
 subst hi
 obtain ⟨h1,h2⟩:=addSt_rows (S:=S) (nx:=nx) k
 obtain ⟨l1,l2,l3⟩:=XU (S:=S) (nx:=nx) k
 have hl:=h.len
 have Y1:∀ j,j < S.length->(F++List.replicate ((ja S nx k).1.length - S.length) (R.length:Int))[j]! =F[j]! :=fun j hj=>by
  rw [getElem!_pos _ j qy,getElem!_pos _ j qf,List.getElem_append_left]
 have dX:∀ i j,i < R.length->(InRow (R++[(ja S nx k).2]) i j<->InRow R i j):=fun i j hi=>by
  unfold InRow InTo;rw [snoc_lt hi]
 refine ⟨by simp;omega,by rw [Y1 0 hp];exact h.fst,fun j hj0 hj=>?_⟩
 by_cases e:j < S.length
 ·rw [Y1 j e]
  obtain ⟨a,b,c,d,f⟩:=h.all j hj0 e
  exact ⟨a,b,by rw [List.length_append,List.length_singleton];omega,(dX _ _ c).2 d,fun i' h3 h4 hx=>f i' h3 h4 ((dX _ _ qf).1 hx)⟩
 ·have hv:(F++List.replicate ((ja S nx k).1.length - S.length) (R.length:Int))[j]! =(R.length:Int):=by
   rw [getElem!_pos _ j qy,List.getElem_append_right qf,List.getElem_replicate]
  rw [hv,Int.toNat_natCast]
  refine ⟨by omega,Nat.zero_le _,by simp,?_,fun i' _ h4 hx=>?_⟩
  ·obtain ⟨q,hq,he⟩:=h2 j qf hj
   unfold InRow;rw [snoc_eq];exact ⟨q,by omega,by rw [snoc_eq,he];omega⟩
  ·obtain ⟨q,hq,he⟩:=(dX _ _ h4).1 hx
   have:=(g.rows i' h4 q hq).2
   omega
theorem FromOk.at' (h:FromOk S R F) (hj:j < S.length):(0<=F[j]! <->0 < j)/\(0 < j->F[j]! =(frm R j:Int)):=by
 by_cases e:j=0
 ·subst e;rw [h.fst];exact ⟨by omega,by omega⟩
 ·obtain ⟨a,b⟩:=h.all j qf hj
  rw [frm_of b];exact ⟨by omega,by omega⟩
theorem nextTo_by {s:qC} {t:qH} {cs:yLL}:∀ {k:Nat} {u:qH},u∈yC s t cs k->∃ q,q < k/\(vV s t (cs[q]!)).1=u
 | 0,u,h=>by simp [yC] at h
 | k+1,u,h=>by
  rw [yC] at h
  split at h
  ·obtain ⟨q,hq,e⟩:=nextTo_by h;exact ⟨q,by omega,e⟩
  ·rcases List.mem_append.1 h with h | h
   ·obtain ⟨q,hq,e⟩:=nextTo_by h;exact ⟨q,by omega,e⟩
   ·exact ⟨k,by omega,(List.mem_singleton.1 h).symm⟩
theorem succ_by (hc:(xu s t).2=0) (hk:k < (xu s t).1.length):(jf s t).2=0/\∃ q,q < (jf s t).1.length/\vV s t ((jf s t).1[q]!)=((xu s t).1[k]!,0):=by
 have hm:(xu s t).1[k]! ∈(xu s t).1:=by rw [getElem!_pos _ k hk];exact List.getElem_mem hk
 generalize (xu s t).1[k]! =u at hm ⊢
 by_cases hh:Halted s t
 ·rw [succ_h hh] at hm;simp at hm
 ·by_cases h2:(jf s t).2=0
  ·refine ⟨h2,?_⟩
   rw [succ_0 hh h2] at hc hm
   by_cases hb:NoBad s t (jf s t).1 (jf s t).1.length
   ·rw [next_ok hb] at hm
    obtain ⟨q,hq,e⟩:=nextTo_by hm
    exact ⟨q,hq,Prod.ext e (Classical.byContradiction fun hx=>hb q hq hx)⟩
   ·rw [Q8,if_neg hb] at hm;simp at hm
  ·rw [succ_c h2] at hc;exact absurd hc h2
theorem most_of {P:Nat->Prop} (h:∀ q,q < (appls s t).length->P ((appls s t)[q]!).toNat):∀ i,i < s.qB.length->Appl s t i->P i:=by
 intro i hi ha
 obtain ⟨q,hq,e⟩:=List.mem_iff_getElem.1 ((mem_appls hi).2 ha)
 have:=h q hq
 rwa [getElem!_pos _ q hq,e] at this
theorem appls_in (hq:q < (appls s t).length):0<=(appls s t)[q]! /\((appls s t)[q]!).toNat < s.qB.length/\Appl s t ((appls s t)[q]!).toNat:=by
 have h:(appls s t)[q]! ∈appls s t:=by rw [getElem!_pos _ q hq];exact List.getElem_mem hq
 exact mem_applL.1 h
def MostTo (s:qC) (t:qH) (counts:yLI) (k:Nat):Prop:=∀ i,i < k->Appl s t i->within (s.qB[i]!).zk ((Qb s t counts counts.length)[(s.qB[i]!).qI.toNat]!)=false
theorem MostTo.succ {counts:yLI} (h:MostTo s t counts k) (h1:Appl s t k->within (s.qB[k]!).zk ((Qb s t counts counts.length)[(s.qB[k]!).qI.toNat]!)=false):MostTo s t counts (k+1):=fun j hj=>by
 by_cases e:j=k
 ·subst e;exact h1
 ·exact h j qf
def MostL (s:qC) (t:qH) (counts:yLI) (k:Nat):Prop:=∀ q,q < k->within (s.qB[((appls s t)[q]!).toNat]!).zk ((Qb s t counts counts.length)[(s.qB[((appls s t)[q]!).toNat]!).qI.toNat]!)=false
theorem MostL.succ {counts:yLI} (h:MostL s t counts k) (h1:within (s.qB[((appls s t)[k]!).toNat]!).zk ((Qb s t counts counts.length)[(s.qB[((appls s t)[k]!).toNat]!).qI.toNat]!)=false):MostL s t counts (k+1):=fun j hj=>by
 by_cases e:j=k
 ·subst e;exact h1
 ·exact h j qf
theorem MostL.most {counts:yLI} (h:MostL s t counts (appls s t).length) (hc:IsCh s t counts):IsMost s t counts:=
 ⟨hc,most_of (P:=fun i=>within (s.qB[i]!).zk ((Qb s t counts counts.length)[(s.qB[i]!).qI.toNat]!)=false) h⟩
def AllCnt (s:qC) (ch:yLL) (k:Nat):Prop:=∀ j,j < k->Vu s (ch[j]!)
theorem AllCnt.succ {ch:yLL} (h:AllCnt s ch k) (h1:Vu s (ch[k]!)):AllCnt s ch (k+1):=fun j hj=>by
 by_cases e:j=k
 ·subst e;exact h1
 ·exact h j qf
def gsum (x:yLI) (g:Nat->Int):Nat->Int
 | 0=>0
 | i+1=>gsum x g i+x[i]! * g i
theorem sumN_mul (a:Int) (f:Nat->Int):∀ n,yB (fun c=>a * f c) n=a * yB f n
 | 0=>by simp [yB]
 | n+1=>by rw [yB,yB,sumN_mul a f n,Int.mul_add]
theorem wF_by (s:qC) (t:qH) (x:yLI) (v:Nat->Nat->Int):wF s (xA s t x) v=wF s t v+gsum x (fun i=>gnF s t i v) s.qB.length:=by
 have C8:∀ k,yB (fun p=>yB (fun q=>chgS s t x k p q * v p q) (zt s)) (xX s+1)=gsum x (fun i=>gnF s t i v) k:=fun k=>by
  induction k with
  | zero=>
   have e:(fun p=>yB (fun q=>chgS s t x 0 p q * v p q) (zt s))=fun _=>0:=funext fun p=>by
    have e2:(fun q=>chgS s t x 0 p q * v p q)=fun _=>0:=funext fun q=>by simp [chgS]
    rw [e2,sumN_zero]
   rw [e,sumN_zero];rfl
  | succ k ih=>
   rw [gsum,← ih]
   have e:yB (fun p=>yB (fun q=>chgS s t x (k+1) p q * v p q) (zt s)) (xX s+1)=yB (fun p=>yB (fun q=>chgS s t x k p q * v p q) (zt s)+x[k]! * yB (fun q=>chgF s t k p q * v p q) (zt s)) (xX s+1):=jI fun p _=>by
    rw [← sumN_mul,← yY]
    exact jI fun q _=>by rw [chgS,Int.add_mul,Int.mul_assoc]
   rw [e,yY,sumN_mul]
   rfl
 unfold wF
 rw [← C8,← yY]
 refine jI fun p hp=>?_
 rw [← yY]
 exact jI fun q hq=>by rw [base_stepped qf hq,step_due,Int.add_mul]
theorem wF_neg (s:qC) (t:qH) (v:Nat->Nat->Int):wF s t (fun p q=> -(v p q))= -(wF s t v):=by
 have h:∀ (f:Nat->Int) n,yB (fun c=> -(f c)) n= -(yB f n):=fun f n=>by
  have:=sumN_mul (-1) f n
  have e:(fun c=> -1 * f c)=fun c=> -(f c):=funext fun c=>by omega
  rw [e] at this;omega
 unfold wF
 rw [← h]
 exact jI fun p _=>by rw [← h];exact jI fun q _=>by rw [Int.mul_neg]
theorem gsum_zero {x:yLI} {g:Nat->Int}:∀ {n:Nat},(∀ i,i < n->g i=0)->gsum x g n=0
 | 0,_=>rfl
 | n+1,h=>by rw [gsum,gsum_zero fun i hi=>h i qf,h n qf];omega
theorem gsum_le {x:yLI} {g:Nat->Int} {a:Int}:∀ {n:Nat},(∀ i,i < n->0<=x[i]! /\g i<=a)->gsum x g n<=a * gsum x (fun _=>1) n
 | 0,_=>by simp [gsum]
 | n+1,h=>by
  have ih:=gsum_le (n:=n) fun i hi=>h i qf
  have hn:=h n qf
  have:=Int.mul_le_mul_of_nonneg_left hn.2 hn.1
  rw [gsum,gsum,Int.mul_add,Int.mul_one,Int.mul_comm a (x[n]!)]
  omega
theorem gsum_one {x:yLI}:∀ {n:Nat},(∀ i,i < n->0<=x[i]!)->0<=gsum x (fun _=>1) n/\∀ i,i < n->x[i]! <=gsum x (fun _=>1) n
 | 0,_=>⟨Int.le_refl _,fun i hi=>by omega⟩
 | n+1,h=>by
  obtain ⟨h1,h2⟩:=gsum_one (n:=n) fun i hi=>h i qf
  have hn:=h n qf
  rw [gsum,Int.mul_one]
  refine ⟨by omega,fun i hi=>?_⟩
  by_cases e:i=n
  ·subst e;omega
  ·have:=h2 i qf;omega
theorem v1_melt (hs:ve s) (hw:WtOk s w) (hf:MeltsGe s w s.qA.length):∀ c,yP s c->∀ p∈chain s s.qA.length (s.qA[c.toNat]!),∀ q,q < zt s->v1 w p.toNat q<=v1 w c.toNat q:=fun c hm p hp q hq=>by
 obtain ⟨k,hk,h1,h2⟩:=hm
 have sB:=(hs.rule hk).1
 rw [h2] at sB
 have sk:=hf c.toNat (by have:=sB.2;omega) (by rw [show ((c.toNat:Nat):Int)=c by omega];exact ⟨k,hk,h1,h2⟩) p (by rw [show ((c.toNat:Nat):Int)=c by omega];exact hp)
 rw [show (((c.toNat:Nat):Int)).toNat=c.toNat by omega] at sk
 by_cases oT:p.toNat < w.length
 ·exact sk q (by rw [(hw.row _ oT).1];exact hq)
 ·have e0:v1 w p.toNat q=0:=by unfold v1;rw [getElem!_neg w _ oT];rfl
  rw [e0]
  have dX:=hw.row c.toNat (by rw [hw.len];have:=sB.2;omega)
  exact (dX.2 q (by rw [dX.1];exact hq)).1.1
theorem fall_by (hs:ve s) (hw:WtOk s w) (hf:Falls s w) (hD:PutsD 2 s) (ht:xZ s t) (hd:Vt s t) (hc:Vu s x) (uS:IsCh s t x) (hx:∃ i,i < s.qB.length/\0 < x[i]!)
 (hb:wF s t (v2 w)+3 * weight t w<=990):
 (vV s t x).2=0/\xZ s (vV s t x).1/\Vt s (vV s t x).1/\weight (vV s t x).1 w < weight t w/\wF s (vV s t x).1 (v2 w)+3 * weight (vV s t x).1 w<=wF s t (v2 w)+3 * weight t w:=by
 have hn:=hs.1.2.1
 have Dm:xX s=s.qA.length:=rfl
 have DQ:∀ i,i < s.qB.length->0<=x[i]! :=fun i hi=>(hc.bd hi).1
 have g1:∀ i,i < s.qB.length->gnF s t i (v1 w)<= -1:=fun i hi=>by
  have:gnF s t i (v1 w) < 0:=by rw [rule_gain hs ht hi];exact hf.1 i hi _ (out_place hs ht hd hi)
  omega
 have g2:∀ i,i < s.qB.length->gnF s t i (v2 w)<=3:=fun i hi=>by
  have:=gnF_v2 (t:=t) hs hw hD hi
  have:=g1 i hi
  omega
 have s1:=gsum_le (x:=x) (g:=fun i=>gnF s t i (v1 w)) (a:= -1) (n:=s.qB.length) fun i hi=>⟨DQ i hi,g1 i hi⟩
 have s2:=gsum_le (x:=x) (g:=fun i=>gnF s t i (v2 w)) (a:=3) (n:=s.qB.length) fun i hi=>⟨DQ i hi,g2 i hi⟩
 obtain ⟨x0,x1⟩:=gsum_one (x:=x) (n:=s.qB.length) DQ
 have x2:0 < gsum x (fun _=>1) s.qB.length:=by
  obtain ⟨i,hi,h1⟩:=hx
  have:=x1 i hi
  omega
 have e1:=wF_by s t x (v1 w)
 have e2:=wF_by s t x (v2 w)
 have nn:∀ p q,p<=xX s->q < zt s->0<=XG s t x p q:=fun p q hp hq=>step_nonneg hs ht hc uS hD hp hq
 have Fj:yB (fun p=>yB (fun q=>XG s t x p q * v2 w p q) (zt s)) (xX s+1)=wF s (xA s t x) (v2 w):=by
  unfold wF
  exact jI fun p hp=>jI fun q hq=>by rw [base_stepped qf hq]
 have w0:0<=wF s (xA s t x) (v1 w):=by
  unfold wF
  refine (sumN_ge fun p hp=>(sumN_ge fun q hq=>?_).1).1
  rw [base_stepped qf hq]
  have dX:=hw.row p (by rw [hw.len];omega)
  exact Int.mul_nonneg (nn p q qf hq) (dX.2 q (by rw [dX.1];exact hq)).1.1
 have ew:wF s t (v1 w)=weight t w:=wF_weight ht
 have hv:=heavy (s:=s) (w:=w) nn
 have so:xZ s (xA s t x):=stepped_ok' hs ht hc uS fun p q hp hq=>by
  obtain ⟨a1,a2,a3⟩:=hv p q hp hq
  have:=nn p q hp hq
  rw [Fj] at a3
  omega
 have Oy:∀ q,q < zt s->colTo (xA s t x) q (xX s)<=1000:=fun q hq=>by
  rw [colTo_sum]
  have c1:yB (fun p=>((xA s t x).qQ[p]!)[q]!) (xX s)<=yB (fun p=>yB (fun q=>XG s t x p q * v2 w p q) (zt s)) (xX s):=sumN_le fun p hp=>by
   rw [stepped_row hp,QC hq]
   obtain ⟨a1,a2,_⟩:=hv p q qf hq
   omega
  have c2:yB (fun p=>yB (fun q=>XG s t x p q * v2 w p q) (zt s)) (xX s)<=yB (fun p=>yB (fun q=>XG s t x p q * v2 w p q) (zt s)) (xX s+1):=by
   rw [yB]
   obtain ⟨a1,a2,_⟩:=hv (xX s) q (Nat.le_refl _) hq
   have:=nn (xX s) q (Nat.le_refl _) hq
   omega
  omega
 obtain ⟨f1,f2,_,_,f5⟩:=down_falls hs hc uS hd so Oy (xX s - 1) qf
 have er:vV s t x=(xC s x (xA s t x) (xX s - 1),0):=by
  rw [XX uS]
  unfold stepRes
  rw [told_yes f1]
 rw [er]
 have m1:=v1_melt hs hw hf.2
 have w1:=f5 _ m1
 have w2:=f5 (v2 w) fun c hm p hp q hq=>by
  have:=m1 c hm p hp q hq
  unfold v1 at this
  unfold v2
  omega
 have ew2:wF s (xC s x (xA s t x) (xX s - 1)) (v1 w)=weight (xC s x (xA s t x) (xX s - 1)) w:=wF_weight f1
 refine ⟨rfl,f1,f2,?_,?_⟩
 ·show weight (xC s x (xA s t x) (xX s - 1)) w < _
  omega
 ·show wF s (xC s x (xA s t x) (xX s - 1)) (v2 w)+3 * weight (xC s x (xA s t x) (xX s - 1)) w<=_
  omega
theorem keep_by (hs:ve s) (hw:WtOk s w) (hk:Keeps s w) (hM:FewM 6 s t) (hD:PutsD 2 s) (ht:xZ s t) (hd:Vt s t) (hc:Vu s x) (uS:IsCh s t x):
 weight (vV s t x).1 w=weight t w:=by
 have hn:=hs.1.2.1
 have Dm:xX s=s.qA.length:=rfl
 obtain ⟨f1,_,_,_,f5⟩:=down_falls hs hc uS hd (stepped_ok hs ht hc uS hM hD) (fun q hq=>by have:=stepped_col hs ht hc uS hM hD hq;omega) (xX s - 1) qf
 have er:vV s t x=(xC s x (xA s t x) (xX s - 1),0):=by
  rw [XX uS]
  unfold stepRes
  rw [told_yes f1]
 have e1:=wF_by s t x (v1 w)
 rw [gsum_zero fun i hi=>by rw [rule_gain hs ht hi];exact hk.1 i hi _ (out_place hs ht hd hi)] at e1
 have me:∀ c,yP s c->∀ p∈chain s s.qA.length (s.qA[c.toNat]!),∀ q,v1 w p.toNat q=v1 w c.toNat q:=fun c hm p hp q=>by
  obtain ⟨k,uG,h1,h2⟩:=hm
  have sB:=(hs.rule uG).1
  rw [h2] at sB
  have sk:=hk.2 c.toNat (by have:=sB.2;omega) (by rw [show ((c.toNat:Nat):Int)=c by omega];exact ⟨k,uG,h1,h2⟩) p (by rw [show ((c.toNat:Nat):Int)=c by omega];exact hp)
  rw [show (((c.toNat:Nat):Int)).toNat=c.toNat by omega] at sk
  unfold v1;rw [sk]
 have w1:=f5 (v1 w) fun c hm p hp q _=>by have:=me c hm p hp q;omega
 have w2:=f5 (fun p q=> -(v1 w p q)) fun c hm p hp q _=>by have:=me c hm p hp q;omega
 rw [wF_neg,wF_neg] at w2
 rw [er]
 show weight (xC s x (xA s t x) (xX s - 1)) w=_
 rw [← wF_weight f1,← wF_weight ht]
 omega
theorem most_some (hs:ve s) (ht:xZ s t) (hc:Vu s x) (hm:IsMost s t x) (hh:¬ Halted s t):∃ i,i < s.qB.length/\0 < x[i]! :=Classical.byContradiction fun hx=>by
 have h0:∀ i,i < s.qB.length->x[i]! =0:=fun i hi=>by
  have h1:=(hc.bd hi).1
  refine Classical.byContradiction fun h2=>hx ⟨i,hi,by omega⟩
 refine hh (appls_halt.1 (Classical.byContradiction fun hl=>?_))
 obtain ⟨q0,q1,q2⟩:=appls_in (s:=s) (t:=t) (q:=0) qf
 generalize ((appls s t)[0]!).toNat=i at q1 q2
 have hw:=hm.2 i q1 q2
 have he:=restR_ent hs ht hc s.qB.length (Nat.le_refl _)
 have hr:=(hs.rule q1)
 have i9:=hr.1.1
 have hcp:=hr.1.2
 have Dm:xX s=s.qA.length:=rfl
 have oT:(s.qB[i]!).qI.toNat < xX s:=by omega
 have dX:(Qb s t x s.qB.length)[(s.qB[i]!).qI.toNat]! =t.qQ[(s.qB[i]!).qI.toNat]! :=by
  have mK:=(he.sh.2 _ oT).1
  have hb:=ht.bagLen (k:=(s.qB[i]!).qI.toNat) (by rw [ht.2.1];exact oT)
  refine ext_get (by rw [mK,hb.len]) fun q hq=>?_
  rw [he.eq _ q oT qf]
  have hn:∀ k,k<=s.qB.length->Vl s x k (s.qB[i]!).qI.toNat q=0:=fun k hk=>by
   induction k with
   | zero=>rfl
   | succ k ih=>
    rw [Vl,ih qf,needF,h0 k qf]
    unfold at'
    split <;> simp
  show (t.qQ[_]!)[q]! +Vl s x s.qB.length _ q=_
  rw [hn _ (Nat.le_refl _)];omega
 rw [hc.1,dX] at hw
 have hen:=q2.1
 have:=hen.2.1
 rw [hw] at this
 cases this
theorem stepBy_code (h:IsCh s t x):(vV s t x).2=0\/(vV s t x).2=3:=by
 rw [XX h]
 unfold stepRes told
 split
 ·exact .inl rfl
 ·exact .inr rfl
theorem cho_c03 (s:qC) (t:qH):(jf s t).2=0\/(jf s t).2=3:=by
 unfold jf
 split
 ·exact .inr rfl
 ·split
  ·exact .inr rfl
  ·exact .inl rfl
open Classical in
theorem succ_code (hs:ve s) (ht:xZ s t):(xu s t).2=0\/(xu s t).2=3:=by
 by_cases hh:Halted s t
 ·rw [succ_h hh];exact .inl rfl
 ·by_cases h2:(jf s t).2=0
  ·rw [succ_0 hh h2]
   by_cases hb:NoBad s t (jf s t).1 (jf s t).1.length
   ·rw [next_ok hb];exact .inl rfl
   ·obtain ⟨k,hk,hc⟩:∃ k,k < (jf s t).1.length/\CodeBad s t (jf s t).1 k:=Classical.byContradiction fun hx=>hb fun k hk hb=>hx ⟨k,hk,hb⟩
    obtain ⟨m,h1,h3,h4⟩:=least_of (g:=fun k=>decide (CodeBad s t (jf s t).1 k)) k (decide_eq_true hc)
    have h3:CodeBad s t (jf s t).1 m:=of_decide_eq_true h3
    rw [next_bad (fun j hj=>of_decide_eq_false (h4 j hj)) qf h3]
    exact stepBy_code (cho_ok hs ht qf).2
  ·rw [succ_c h2];exact cho_c03 s t
theorem grGo_code {s:qC} (hs:ve s):∀ (f i:Nat) (S:List qH) (R:yLL),(∀ u∈S,xZ s u)->(grGo s f i S R).2=0\/(grGo s f i S R).2=3
 | 0,i,S,R,_=>.inl rfl
 | f+1,i,S,R,h=>by
  rw [grGo]
  split
  ·exact .inl rfl
  ·next hi=>
   have hsi:xZ s (S[i]!):=h _ (by rw [getElem!_pos S i qf];exact List.getElem_mem _)
   split
   ·exact succ_code hs hsi
   ·split
    ·exact .inr rfl
    ·exact grGo_code hs f (i+1) _ _ (addSt_mem h succ_ok _ (Nat.le_refl _))
theorem gr_p0 (h:(grRes s t).2=0):(grRes s t).1.1[0]! =t:=by
 refine (grGo_ind (s:=s) (p:=fun S _=>0 < S.length/\S[0]! =t) ?_ 302 [t] [] ⟨by simp,rfl⟩ h).2
 intro S R hl ⟨h1,h2⟩ hc
 have:=(XU (S:=S) (nx:=(xu s (S[R.length]!)).1) (xu s (S[R.length]!)).1.length).1
 exact ⟨by omega,by rw [addSt_get h1];exact h2⟩
def FallOk (s:qC) (w:yLL) (u:qH):Prop:=xZ s u/\Vt s u/\wF s u (v2 w)+3 * weight u w<=990
theorem by_choice (hs:ve s) (hu:xZ s u) (hc:(xu s u).2=0) (hk:k < (xu s u).1.length):∃ x,Vu s x/\IsMost s u x/\(∃ i,i < s.qB.length/\0 < x[i]!)/\vV s u x=((xu s u).1[k]!,0):=by
 have hh:¬ Halted s u:=fun hh=>by rw [succ_h hh] at hk;exact absurd hk (Nat.not_lt_zero _)
 obtain ⟨_,q,hq,e⟩:=succ_by hc hk
 have h1:=cho_ok hs hu hq
 have h2:=cho_most hs hu hq
 exact ⟨_,h1.1,h2,most_some hs hu h1.1 h2 hh,e⟩
theorem fall_next (hs:ve s) (hw:WtOk s w) (hf:Falls s w) (hD:PutsD 2 s) (hu:FallOk s w u) (hc:(xu s u).2=0) (hk:k < (xu s u).1.length):
 FallOk s w ((xu s u).1[k]!)/\weight ((xu s u).1[k]!) w < weight u w:=by
 obtain ⟨x,h1,h2,h3,e⟩:=by_choice hs hu.1 hc hk
 obtain ⟨_,a1,a2,a3,a4⟩:=fall_by hs hw hf hD hu.1 hu.2.1 h1 h2.1 h3 hu.2.2
 rw [e] at a1 a2 a3 a4
 exact ⟨⟨a1,a2,Int.le_trans a4 hu.2.2⟩,a3⟩
theorem fall_all (hs:ve s) (hw:WtOk s w) (hf:Falls s w) (hD:PutsD 2 s) (g:GrOk S R) (n:GrNx s S R) (h0:FallOk s w (S[0]!)):∀ j,j < S.length->FallOk s w (S[j]!):=fun j=>Nat.strongRecOn j fun j ih hj=>by
 by_cases e:j=0
 ·subst e;exact h0
 ·obtain ⟨i,h1,h2,k,hk,ek⟩:=g.from' j qf hj
  obtain ⟨hc,hx⟩:=n i h1
  obtain ⟨a,b⟩:=hx k hk
  rw [ek] at b
  have:=(fall_next hs hw hf hD (ih i h2 qf) hc a).1
  rw [← b] at this
  exact this
open Classical in
noncomputable def fiD (R:yLL) (z:Nat):Int:=if h:∃ d,Fi R z d then h.choose else 0
theorem fiD_of {z:Nat} {d:Int} (h:Fi R z d):fiD R z=d:=by
 have hx:∃ d,Fi R z d:=⟨d,h⟩
 rw [fiD,dif_pos hx];exact hx.choose_spec.same h
theorem fall_fi {s:qC} {w:yLL} {S:List qH} {R:yLL} (hs:ve s) (hw:WtOk s w) (hf:Falls s w) (hD:PutsD 2 s) (g:GrOk S R) (n:GrNx s S R) (hl:R.length=S.length) (ha:∀ j,j < S.length->FallOk s w (S[j]!)):
 ∀ (m j:Nat),j < S.length->weight (S[j]!) w < m->∃ d,Fi R j d/\0<=d/\d<=weight (S[j]!) w
 | 0,j,hj,h=>by
  have:=(weight_bd hw (ha j hj).1).1
  omega
 | m+1,j,hj,h=>by
  have hw0:=(weight_bd hw (ha j hj).1).1
  obtain ⟨hc,hx⟩:=n j qf
  have C8:∀ q,q < (R[j]!).length->∃ d,Fi R (((R[j]!)[q]!).toNat) d/\0<=d/\d+1<=weight (S[j]!) w:=fun q hq=>by
   obtain ⟨a,b⟩:=hx q hq
   have h2:=(fall_next hs hw hf hD (ha j hj) hc a).2
   rw [← b] at h2
   obtain ⟨d,d1,d2,d3⟩:=fall_fi hs hw hf hD g n hl ha m _ (g.rows j qf q hq).2 qf
   exact ⟨d,d1,d2,by omega⟩
  have hg:∀ q,q < (R[j]!).length->Fi R (((R[j]!)[q]!).toNat) (fiD R (((R[j]!)[q]!).toNat))/\fiD R (((R[j]!)[q]!).toNat)+1<=weight (S[j]!) w:=fun q hq=>by
   obtain ⟨d,d1,d2,d3⟩:=C8 q hq
   rw [fiD_of d1];exact ⟨d1,d3⟩
  have hb:=mxF_le (g:=fiD R) (r:=R[j]!) hw0 (R[j]!).length fun q hq=>(hg q hq).2
  exact ⟨_,fi_step fun q hq=>(hg q hq).1,hb.1,hb.2⟩
theorem fall_run (hs:ve s) (hw:WtOk s w) (hf:Falls s w) (hD:PutsD 2 s) (ht:FallOk s w t):(Qw s t).2≠4/\((Qw s t).2=0->(Qw s t).1<=weight t w):=by
 have hv:ve s/\xZ s t:=⟨hs,ht.1⟩
 by_cases hc:(grRes s t).2=0
 ·have ga:=gr_all hs ht.1 hc
  have gn:=gr_nx hc
  have gp:=gr_p0 hc
  have h0:FallOk s w ((grRes s t).1.1[0]!):=by rw [gp];exact ht
  have ha:=fall_all hs hw hf hD ga.ok gn h0
  obtain ⟨d,d1,d2,d3⟩:=fall_fi hs hw hf hD ga.ok gn ga.len ha ((weight ((grRes s t).1.1[0]!) w).toNat+1) 0 ga.pos (by have:=(weight_bd hw h0.1).1;omega)
  rw [gp] at d3
  have e:Qw s t=(lonD (grRes s t).1.2,0):=by rw [Qw,if_pos hv,if_pos hc,if_pos d1.halts]
  rw [e,lonD_of d1]
  exact ⟨(by show (0:Int)≠4;decide),fun _=>d3⟩
 ·have e:Qw s t=(0,(grRes s t).2):=by rw [Qw,if_pos hv,if_neg hc]
  rw [e]
  have:=grGo_code hs 302 0 [t] [] (fun u hu=>by obtain rfl:=List.mem_singleton.1 hu;exact ht.1)
  have e2:(grRes s t).2=(grGo s 302 0 [t] []).2:=rfl
  refine ⟨?_,fun h=>absurd h hc⟩
  show (grRes s t).2≠4
  omega
theorem bnd_q (s:qC) (w:yLL):((bndC s w:Int) == 0)=dec (Falls s w):=by
 by_cases h:Falls s w
 ·rw [jH h,(bnd_yes (t:=default) h).2];rfl
 ·rw [xh h,(bnd_no (t:=default) h).2];rfl
structure WeighAt (s:qC) (t:qH) (w:yLL):Prop where
 next:∀ k,k < (Qr s t).1.length->(Qr s t).2=0->xZ s ((Qr s t).1[k]!)/\(Keeps s w->weight ((Qr s t).1[k]!) w=weight t w)/\(Falls s w->weight ((Qr s t).1[k]!) w < weight t w)
 run:Falls s w->(Qw s t).2≠4/\((Qw s t).2=0->(Qw s t).1<=weight t w)
theorem few_of {M:Int} {par:yLI} {bags:yLL} {around:yLI} (ht:StDr kk par.length M alive bags around) (hM:M<=6):FewM 6 ⟨kk,par,rules⟩ ⟨alive,bags,around⟩:=fun p q hp hq=>by
 have Hh :q < kk.toNat:=hq
 unfold base0
 by_cases h1:p < xX ⟨kk,par,rules⟩
 ·rw [if_pos h1]
  have hb:=(ht.bags p (by rw [ht.lb];omega)).1
  have:=(hb.2 q (by rw [hb.1];exact Hh)).2
  show (bags[p]!)[q]! <=6
  omega
 ·rw [if_neg h1]
  have hb:=ht.around
  have:=(hb.2 q (by rw [hb.1];exact Hh)).2
  show around[q]! <=6
  omega
theorem weighAt_of {par:yLI} {bags:yLL} {around:yLI} (hs:SysDr kk par rules) (ht:StDr kk par.length 4 alive bags around) (hw:WtDr kk par.length w)
 (hd:Vt ⟨kk,par,rules⟩ ⟨alive,bags,around⟩):WeighAt ⟨kk,par,rules⟩ ⟨alive,bags,around⟩ w:=by
 have k1:=hs.ok
 have k2:=ht.ok hs qf
 have f0:=fallAt_0 hs ht hw hd
 have hD:=putsD_of hs
 have hM:=few_of (rules:=rules) ht qf
 have hu:FallOk ⟨kk,par,rules⟩ w ⟨alive,bags,around⟩:=⟨k2,hd,by have:=f0.much;have:=f0.top;omega⟩
 refine ⟨fun k hk hc=>?_,fun hf=>fall_run k1 hw hf hD hu⟩
 rw [nx_0 ⟨k1,k2⟩] at hk hc ⊢
 refine ⟨succ_ok _ (by rw [getElem!_pos _ k hk];exact List.getElem_mem hk),fun h=>?_,fun h=>(fall_next k1 hw h hD hu hc hk).2⟩
 obtain ⟨x,h1,h2,_,e⟩:=by_choice k1 k2 hc hk
 have:=keep_by k1 hw h hM hD k2 hd h1 h2.1
 rwa [e] at this
end
section
theorem law_FnWeighed (w:World) (ak:List UInt8) (more:List UInt8) (tq:yOA) (sQ:Nat) (GO:yLN) (wg:yOA) (u5:Nat) (Fs:yLN) (Mk:zP w GO tq sQ ak) (MP:zP w Fs wg u5 more):Calls Tryz.prog 3 #[Sv tq ak.length sQ,Sv wg more.length u5] w (Ret (fun v w' =>v=Bv true) w):=by
 refine en func3 ntmps3 ?_
 have H:=((St.start w).arg MP).arg Mk
 clear Mk MP
 have N:=Fresh.nil w.heap.size
 refine zcr (sp (Bv false) (zjcc (sq 2 (sw (zQ #[Sv tq ak.length sQ,Sv wg more.length u5] rfl rfl call6 (en func6 ntmps6 ?_))))))
 refine zcr (sp (Bv false) (zjc (sq 1 (oN rfl (sp (Bv (decide ((ak.length:Int) > 3000))) (sp (Bv (decide ((ak.length:Int) > 3000))) ?_))))))
 cases h1:(decide ((ak.length:Int) > 3000))
 ·replace h1:=of_decide_eq_false h1
  refine qJ 8 rfl rfl (sq 1 (qJ 8 rfl rfl (oN rfl (qJ 8 rfl rfl (sp (Bv (decide ((more.length:Int) > 3000))) (sp (Bv (decide ((more.length:Int) > 3000))) (sp (Bv (decide ((more.length:Int) > 3000))) (zjr (ret1 (Bv (decide ((more.length:Int) > 3000))) rfl rfl ⟨_,rfl,(zjn (cD rfl (fun h2=>?_) (fun h2=>?_)))⟩)))))))))
  ·refine zcr (sp (Bv true) (zjr (t_r (rH1 (Bv true) H ?_))))
   rfl
  refine qV (t_n (zcr (sq 1 ?_)))
  have H1:St w w [] [sF false GO tq sQ ak,sF false Fs wg u5 more]:=H.pick [] [0,1]
  have N1:Fresh _ []:=N
  have K1:Kept [] [sF false Fs wg u5 more]:=Kept.nil _
  refine sw (zL #[Sv tq ak.length sQ] rfl rfl call7 (a2Weighed_ok ak tq sQ GO H1 N1 K1 ) ?_)
  clear H H1 N1 K1
  rintro _ w3 ⟨wn,zl9,Pf,PH,NA,PC,av,gG,arF,fo,fE,auO,cW,atv,atO,ed,aj8,dt,li,alZ,nF,asv,BV,dA,ah6,dD,aaE,aww,CP,avL,CU,hx5,hx6,hx7,rfl,N,H⟩
  obtain rfl:=H.jC 0 rfl
  obtain rfl:=H.zg (α:=vS) 1 rfl 1 rfl qj
  obtain rfl:=H.VM 2 rfl
  obtain rfl:=H.zg (α:=yLI) 3 rfl 2 rfl qj
  obtain rfl:=H.jC 4 rfl
  obtain rfl:=H.zg (α:=yLI) 5 rfl 3 rfl qj
  refine sq 4 (sw (xq H ti27 [yI 0,yN,yN] fun Dl w40 H=>sw (xq H ti31 [yN,yN,yN] fun Bd wR H=>(sw (xY H 1 [yI wn,Sv gG zl9.length fo,Sv fE Pf.length cW] sizeOf27 fun Df H=>sw (xY H 0 [Sv ed PH.length dt,Sv li NA.length nF,Sv dA PC.length dD] sizeOf31 fun Dy H=>sq 1 (zjn (xQ ?_))))))))
  obtain ⟨s,e1,e2,e3⟩:∃ z:qC,wn=z.xK/\zl9=z.qA/\Pf=z.qB:=⟨⟨wn,zl9,Pf⟩,rfl,rfl,rfl⟩
  subst e1 e2 e3
  obtain ⟨t,e1,e2,e3⟩:∃ z:qH,PH=z.qK/\NA=z.qQ/\PC=z.qL:=⟨⟨PH,NA,PC⟩,rfl,rfl,rfl⟩
  subst e1 e2 e3
  have sd:=(‹SysDr _ _ _›)
  have td:=(‹StDr _ _ _ _ _ _›)
  have k0:ve s/\xZ s t:=⟨sd.ok,td.ok sd qf⟩
  have k1:=k0.1
  have k2:=k0.2
  have wk:WtOk s av:=(‹WtDr _ _ _›)
  have tl:t.qK.length=s.qA.length:=k2.1
  have bi:=bnd_q s av
  have bv:=fun h=>(bnd_yes (s:=s) (t:=t) (w:=av) h).1
  refine xJ (sw (xU (yS s gG fo fE cW) isAgg27 sizeOf27 rfl (qF (H.cells 1 rfl) 0 3) (sq 1 ?_)))
  obtain ⟨G45,ag9,h47⟩:=H.yH 2 rfl
  obtain ⟨G48,asu,Pq⟩:=H.jY (α:=vS) 3 rfl 1 rfl qj
  obtain ⟨G51,axM,h53⟩:=H.jY (α:=yLI) 7 rfl 3 rfl qj
  refine sw (oq (implInv_ok _ s av h47 Pq h53 qg qg) H fun Hz H=>sp (.tuple #[Bv (dec (Keeps s av)),yI 0]) (sp (Bv (dec (Keeps s av))) (sp (yI 0) (sp (Bv (dec (Keeps s av))) (sp (yI 0) (zjc (sw (xU (yS s gG fo fE cW) isAgg27 sizeOf27 rfl (qF (H.cells 1 rfl) 0 3) (sq 1 ?_)))))))))
  obtain ⟨G57,afB,h59⟩:=H.yH 2 rfl
  obtain ⟨G60,M5,wD⟩:=H.jY (α:=vS) 3 rfl 1 rfl qj
  obtain ⟨G63,au2,h65⟩:=H.jY (α:=yLI) 7 rfl 3 rfl qj
  refine sw (oq (isPotential_ok _ s av h59 wD h65 qg qg) H fun P0 H=>sp (.tuple #[Bv (dec (Falls s av)),yI 0]) (sp (Bv (dec (Falls s av))) (sp (yI 0) (sp (Bv (dec (Falls s av))) (sp (yI 0) (zjc (sw (xU (yS s gG fo fE cW) isAgg27 sizeOf27 rfl (qF (H.cells 1 rfl) 0 3) (sw (xU (yT t ed dt li nF dA dD) isAgg31 sizeOf31 rfl (qF (H.cells 0 rfl) 0 3) (sq 1 ?_)))))))))))
  obtain ⟨G69,afC,h71⟩:=H.yH 2 rfl
  obtain ⟨G72,axY,VQ⟩:=H.jY (α:=vS) 3 rfl 1 rfl qj
  obtain ⟨G75,axW,h77⟩:=H.rowIsB 4 rfl
  obtain ⟨SV,aq8,Ht⟩:=H.jY (α:=yLI) 5 rfl 2 rfl qj
  obtain ⟨G81,Oj,C7⟩:=H.yH 6 rfl
  obtain ⟨G84,axy,lB⟩:=H.jY (α:=yLI) 7 rfl 3 rfl qj
  refine sw (oq (implBound_ok _ s t av h71 VQ h77 Ht C7 lB qg qg) H fun Mn H=>sq 5 (zjc (sw (xU (yS s gG fo fE cW) isAgg27 sizeOf27 rfl (qF (H.cells 1 rfl) 0 3) (sw (xU (yT t ed dt li nF dA dD) isAgg31 sizeOf31 rfl (qF (H.cells 0 rfl) 0 3) (sq 1 ?_)))))))
  obtain ⟨G90,ark,h92⟩:=H.yH 2 rfl
  obtain ⟨G93,avx,h95⟩:=H.jY (α:=vS) 3 rfl 1 rfl qj
  obtain ⟨Di,UZ,h98⟩:=H.rowIsB 4 rfl
  obtain ⟨G99,ab5,aio⟩:=H.jY (α:=yLI) 5 rfl 2 rfl qj
  obtain ⟨Jb,Lz,ah9⟩:=H.yH 6 rfl
  obtain ⟨Nj,abi,NI⟩:=H.jY (α:=yLI) 7 rfl 3 rfl qj
  refine sw (oq (implWeigh_ok _ s t av h92 h95 h98 aio ah9 NI qg qg) H fun N8 H=>sq 2 (sp (yI 0) (sq 1 (sp (yI 0) (zjc (sw (xU (yS s gG fo fE cW) isAgg27 sizeOf27 rfl (qF (H.cells 1 rfl) 0 3) (sq 1 ?_))))))))
  obtain ⟨auN,anI,aiG⟩:=H.yH 2 rfl
  obtain ⟨Pr,Tt,OE⟩:=H.jY (α:=vS) 3 rfl 1 rfl qj
  obtain ⟨EH,apd,akc⟩:=H.jY (α:=yLI) 7 rfl 3 rfl qj
  refine sw (oq (specInv_ok _ s av aiG OE akc qg qg) H fun Cl H=>sp (.tuple #[Bv (dec (Keeps s av)),yI 0]) (sp (Bv (dec (Keeps s av))) (sp (yI 0) (sp (Bv (dec (Keeps s av))) (sp (yI 0) (zjc (sw (xU (yS s gG fo fE cW) isAgg27 sizeOf27 rfl (qF (H.cells 1 rfl) 0 3) (sq 1 ?_)))))))))
  obtain ⟨ay5,aqf,aeX⟩:=H.yH 2 rfl
  obtain ⟨avs,aqi,PB⟩:=H.jY (α:=vS) 3 rfl 1 rfl qj
  obtain ⟨NV,LN,Nv⟩:=H.jY (α:=yLI) 7 rfl 3 rfl qj
  refine sw (oq (specPot_ok _ s av aeX PB Nv qg qg) H fun aaf H=>sp (.tuple #[Bv (dec (Falls s av)),yI 0]) (sp (Bv (dec (Falls s av))) (sp (yI 0) (sp (Bv (dec (Falls s av))) (sp (yI 0) (zjcc (sp (yI 0) (sp (Bv false) (sp (Bv false) (qJ 80 rfl rfl (sp (yI 0) (qJ 80 rfl rfl (sp (Bv false) (sp (Bv false) (sp (Bv false) (qJ 84 rfl rfl (sp (yI 0) (qJ 84 rfl rfl (sp (Bv false) (sp (Bv false) (sp (Bv false) (qJ 88 rfl rfl (sp (Bv (dec (Keeps s av))) (qJ 88 rfl rfl (sp (Bv (dec (Keeps s av))) (qJ 88 rfl rfl (sw (o_neB underlying4 (dec (Keeps s av)) (dec (Keeps s av)) rfl rfl (sp (Bv ((dec (Keeps s av)) != (dec (Keeps s av)))) (sp (Bv ((dec (Keeps s av)) != (dec (Keeps s av)))) ?_))))))))))))))))))))))))))))))
  cases HX:((dec (Keeps s av)) != (dec (Keeps s av)))
  ·replace HX:=xx HX
   refine qJ 93 rfl rfl (sp (Bv (dec (Falls s av))) (qJ 93 rfl rfl (sp (Bv (dec (Falls s av))) (qJ 93 rfl rfl (sw (o_neB underlying4 (dec (Falls s av)) (dec (Falls s av)) rfl rfl (sp (Bv ((dec (Falls s av)) != (dec (Falls s av)))) (sp (Bv ((dec (Falls s av)) != (dec (Falls s av)))) ?_))))))))
   cases CT:((dec (Falls s av)) != (dec (Falls s av)))
   ·replace CT:=xx CT
    refine qJ 98 rfl rfl (sq 1 (qJ 98 rfl rfl (sp (Bv (((bndC s av):Int) == 0)) (qJ 98 rfl rfl (sp (Bv (dec (Falls s av))) (qJ 98 rfl rfl (sw (o_neB underlying4 (((bndC s av):Int) == 0) (dec (Falls s av)) rfl rfl (sp (Bv ((((bndC s av):Int) == 0) != (dec (Falls s av)))) (sp (Bv ((((bndC s av):Int) == 0) != (dec (Falls s av)))) ?_))))))))))
    cases CA:((((bndC s av):Int) == 0) != (dec (Falls s av)))
    ·replace CA:=xx CA
     refine qJ 104 rfl rfl (sp (Bv (dec (Falls s av))) (qJ 104 rfl rfl (sp (Bv (dec (Falls s av))) ?_)))
     cases II:(dec (Falls s av))
     ·replace II:=zM II
      refine xR [107,108,109] (qJ 104 rfl rfl (sp (Bv false) (sp (Bv false) (zjn (cFr rfl (qV (t_n (zcr (sw (xU (yS s gG fo fE cW) isAgg27 sizeOf27 rfl (qF (H.cells 1 rfl) 0 3) (sw (xU (yT t ed dt li nF dA dD) isAgg31 sizeOf31 rfl (qF (H.cells 0 rfl) 0 3) ?_))))))))))))
      obtain ⟨amn,aa8,amw⟩:=H.yH 2 rfl
      obtain ⟨awl,amT,NP⟩:=H.jY (α:=vS) 3 rfl 1 rfl qj
      obtain ⟨arB,anz,akK⟩:=H.rowIsB 4 rfl
      obtain ⟨age,apg,Nc⟩:=H.jY (α:=yLI) 5 rfl 2 rfl qj
      obtain ⟨aws,aqc,aiD⟩:=H.yH 6 rfl
      have Uh:=H.base.size
      have ac1:=H.ltN (L:=[BV,CU]) [2,3]
      refine sw (oc (specNx_ok _ s t amw NP akK Nc aiD) ?_)
      rintro _ acT ⟨agc,aff,aiL,agA,Fo,rfl,M,K⟩ _
      replace N:=N.merge Uh ac1 M
      replace H:=H.merge K M
      obtain rfl:=H.zg (α:=qH) 0 rfl 0 rfl qj
      refine sq 5 (zjc (sw (xU (yS s gG fo fE cW) isAgg27 sizeOf27 rfl (qF (H.cells 2 rfl) 0 3) (sw (xU (yT t ed dt li nF dA dD) isAgg31 sizeOf31 rfl (qF (H.cells 1 rfl) 0 3) ?_)))))
      obtain ⟨ayK,aqE,PJ⟩:=H.yH 3 rfl
      obtain ⟨mF,abQ,N5⟩:=H.jY (α:=vS) 4 rfl 2 rfl qj
      obtain ⟨aux,aoa,Ny⟩:=H.rowIsB 5 rfl
      obtain ⟨vu,TG,aib⟩:=H.jY (α:=yLI) 6 rfl 3 rfl qj
      obtain ⟨azt,aoy,af0⟩:=H.yH 7 rfl
      have R6:=H.base.size
      have YV:=H.ltN (L:=[Fo,BV,CU]) [0,3,4]
      refine sw (oc (implNx_ok _ s t PJ N5 Ny aib af0) ?_)
      rintro _ O6 ⟨Oz,ak4,Pl,alE,NU,rfl,M,K⟩ _
      replace N:=N.merge R6 YV M
      replace H:=H.merge K M
      obtain rfl:=H.zg (α:=qH) 0 rfl 0 rfl qj
      refine sq 5 (zjcc (sq 3 (zjn (zT _ rfl (fun h=>absurd rfl (bne_iff_ne.1 h)) (fun WM=>?_)))))
      replace WM:=xx WM
      refine qV (t_n (zcc (sq 1 (sp (Bv (((Qr s t).2:Int) != 0)) (sp (Bv (((Qr s t).2:Int) != 0)) ?_)))))
      cases CN:(((Qr s t).2:Int) != 0)
      ·replace CN:=xx CN
       refine qJ 129 rfl rfl (sw (xU (yS s gG fo fE cW) isAgg27 sizeOf27 rfl (qF (H.cells 3 rfl) 0 3) (qJ 129 rfl rfl (sw (xU (yT t ed dt li nF dA dD) isAgg31 sizeOf31 rfl (qF (H.cells 2 rfl) 0 3) (qJ 129 rfl rfl ?_))))))
       obtain ⟨ahn,Gj,Oh⟩:=H.yH 4 rfl
       obtain ⟨avt,apv,afY⟩:=H.jY (α:=vS) 5 rfl 3 rfl qj
       obtain ⟨arE,apy,OO⟩:=H.rowIsB 6 rfl
       obtain ⟨avP,aqX,als⟩:=H.jY (α:=yLI) 7 rfl 4 rfl qj
       obtain ⟨UO,abx,NC⟩:=H.yH 8 rfl
       refine sw (oq (a2Sound_ok _ s t Oh afY OO als NC qg) H fun PG H=>qJ 129 rfl rfl (sq 2 (zjn (cQ rfl (fun Ws=>?_) (fun Ws=>?_)))))
       ·refine zcr (sp (Bv true) (zjr (t_r (rH1 (Bv true) H ?_))))
        rfl
       have Z:WeighAt s t av:=weighAt_of sd td wk (‹Vt s t›)
       have n0:(Qr s t).1.length<=300:=by rw [nx_0 k0];exact succ_len s t
       refine qV (t_n (zcc (sp (yI 0) (zjn (qR (zl ((fun Z0 Z1 Z2 Z3 Z4 Z5 Z6 Z7 Z8 Z9 bx bG dy fj ix=>fun m' ρ OX=>∃ (xE:Env) (i:Nat),ρ=upd (upd (upd (upd (upd (upd (upd (upd (upd xE 5 (pp Dl 0)) 6 (pp Bd 0)) 7 (Sv aaE av.length CP)) 8 (Bv (dec (Keeps s av)))) 10 (Bv false)) 12 (yI (bndV s t av))) 14 (yI (weight t av))) 22 (Sv Oz (((Qr s t).1).length) Pl)) 24 (yI i)/\((i:Int)<=(((Qr s t).1).length))/\m' =((((Qr s t).1).length) - (i:Int)).toNat/\Fresh w.heap.size [NU,Fo,BV,CU]/\St w OX [Z0,Z1,Z2,Z3,Z4,Z5,Z6,Z7,Z8,Z9] [bx,bG,dy,fj,ix]) _ _ _ _ _ _ _ _ _ _ _ _ _ _ _) (((((Qr s t).1).length) - (0:Int)).toNat) ⟨_,0,uE9,qf,rfl,N,H.pick (zR 0 10) [0,1,3,4,5]⟩ ?_))))))
       clear H N
       rintro m' ρ Ud ⟨xE,i,rfl,i0,rfl,N,H⟩
       refine zcc (sp (yI i) (sq 1 (oN rfl (sq 1 (zjn (cD rfl (fun akC=>?_) (fun akC=>?_)))))))
       ·obtain ⟨n1,n2,n3⟩:=Z.next i qf qf
        have k4:=And.intro k1 n1
        refine qV (t_n (xQ (qR (xQ (jE rfl H fun H=>rt 0 _ (y8 (cs:=(yS s gG fo fE cW)) isAgg27 sizeOf27 rfl (fun _ h=>qF (h.cells 3 rfl) 0 3)) H ?_)))))
        refine rtl 1 H ?_
        refine rtp 2 (yI i) H ?_
        obtain ⟨wM,rfl⟩:=H.jK 0 rfl qf
        obtain ⟨xS,xD,Ni,BI,BU,RA,vb,vx,La,aai,H⟩:=H.rowel_StateD 0 rfl 0 rfl (iv:=i) i qf qf
        have S:=H.jm (zR 0 10) (zR 3 5)
        refine tI 3 rfl rfl rfl S ?_
        refine rt 4 _ (y8 (cs:=[Sv xS (((((Qr s t).1)[i]!).qK).length) xD,Sv BI (((((Qr s t).1)[i]!).qQ).length) BU,Sv vb (((((Qr s t).1)[i]!).qL).length) vx]) isAgg31 sizeOf31 rfl (fun _ h=>qF (fun j v hj=>h.Vk 0 rfl (aai j v hj)) 0 3)) S ?_
        refine rtl 5 S ?_
        refine ro 6 rfl ?_
        obtain ⟨auC,aot,alp⟩:=H.yH 4 rfl
        obtain ⟨as1,anT,Nq⟩:=H.jY (α:=vS) 5 rfl 5 rfl qj
        obtain ⟨awD,aoH,ake⟩:=H.jY (α:=yLI) 9 rfl 7 rfl qj
        refine oq (implWeigh_ok _ s (((Qr s t).1)[i]!) av alp Nq (H.get 0 rfl).1 (H.get 1 rfl).1 (H.get 2 rfl).1 ake qg qg) H fun akS H=>⟨H.pick (zR 0 10) (zR 3 5),?_⟩
        have S:=H.jm (zR 0 10) (zR 3 5)
        refine rtl 7 S ?_
        refine rtl 8 S ?_
        refine rtp 9 (yI 0) S ?_
        refine rtl 10 S ?_
        refine rtp 11 (yI 0) S ?_
        refine xw qh (t_n (zcr (sp (yI 0) (sp (Bv false) (sp (Bv false) (qJ 153 rfl rfl (sp (Bv (dec (Keeps s av))) (qJ 153 rfl rfl (sp (Bv (dec (Keeps s av))) ?_)))))))))
        cases IC:(dec (Keeps s av))
        ·replace IC:=zM IC
         refine xR [156,157,158] (qJ 153 rfl rfl (sp (Bv false) (sp (Bv false) (sp (Bv false) (qJ 161 rfl rfl (sp (Bv false) (qJ 161 rfl rfl (sp (Bv false) (xR [164,165,166] (qJ 161 rfl rfl (sp (Bv false) (sp (Bv false) (zjn (cFr rfl (qV (b_n (t_n (xJ (sp (yI i) (sw (zn i 1 rfl rfl qf (sq 1 (xO (qX (m' :=((((Qr s t).1).length) - ((i+1):Int)).toNat) qf ⟨_,i+1,uE9,?_,rfl,N,H.pick (zR 0 10) (zR 3 5)⟩))))))))))))))))))))))))
         ·omega
        replace IC:=yG IC
        refine qJ 155 rfl rfl (sq 1 (qJ 155 rfl rfl (sq 1 (qJ 155 rfl rfl (sp (Bv (((weight (((Qr s t).1)[i]!) av):Int) != (weight t av))) (qJ 153 rfl rfl (sp (Bv (((weight (((Qr s t).1)[i]!) av):Int) != (weight t av))) (sp (Bv (((weight (((Qr s t).1)[i]!) av):Int) != (weight t av))) (sp (Bv (((weight (((Qr s t).1)[i]!) av):Int) != (weight t av))) ?_)))))))))
        cases Jd:(((weight (((Qr s t).1)[i]!) av):Int) != (weight t av))
        ·replace Jd:=xx Jd
         refine qJ 161 rfl rfl (sp (Bv false) (qJ 161 rfl rfl (sp (Bv false) (xR [164,165,166] (qJ 161 rfl rfl (sp (Bv false) (sp (Bv false) (zjn (cFr rfl (qV (b_n (t_n (xJ (sp (yI i) (sw (zn i 1 rfl rfl qf (sq 1 (xO (qX (m' :=((((Qr s t).1).length) - ((i+1):Int)).toNat) qf ⟨_,i+1,uE9,?_,rfl,N,H.pick (zR 0 10) (zR 3 5)⟩)))))))))))))))))))
         ·omega
        replace Jd:=bne_iff_ne.1 Jd
        refine xR (zR 162 6) (sp (Bv true) (zjn (cTr rfl (zcr (sp (Bv false) (zjr (zr5 (rH1 (Bv false) H ?_))))))))
        exfalso;exact absurd (n2 ql) ql
       refine zx4 (zcr (sw (xU (yS s gG fo fE cW) isAgg27 sizeOf27 rfl (qF (H.cells 3 rfl) 0 3) (sw (xU (yT t ed dt li nF dA dD) isAgg31 sizeOf31 rfl (qF (H.cells 2 rfl) 0 3) ?_)))))
       obtain ⟨vf,YT,aga⟩:=H.yH 4 rfl
       obtain ⟨afu,aqA,OT⟩:=H.jY (α:=vS) 5 rfl 2 rfl qj
       obtain ⟨asZ,ap6,ai2⟩:=H.rowIsB 6 rfl
       obtain ⟨atD,aoC,aky⟩:=H.jY (α:=yLI) 7 rfl 3 rfl qj
       obtain ⟨axF,am9,afy⟩:=H.yH 8 rfl
       refine sw (oq (specLR_ok _ s t aga OT ai2 aky afy) H fun E5 H=>sq 5 (zjc (sw (xU (yS s gG fo fE cW) isAgg27 sizeOf27 rfl (qF (H.cells 3 rfl) 0 3) (sw (xU (yT t ed dt li nF dA dD) isAgg31 sizeOf31 rfl (qF (H.cells 2 rfl) 0 3) ?_))))))
       obtain ⟨as6,ao1,amm⟩:=H.yH 4 rfl
       obtain ⟨B3,adc,amt⟩:=H.jY (α:=vS) 5 rfl 2 rfl qj
       obtain ⟨asO,anN,agn⟩:=H.rowIsB 6 rfl
       obtain ⟨ajM,UE,aiB⟩:=H.jY (α:=yLI) 7 rfl 3 rfl qj
       obtain ⟨avr,aqj,ajL⟩:=H.yH 8 rfl
       refine sw (oq (implLR_ok _ s t amm amt agn aiB ajL) H fun akI H=>sq 5 (zjcc (sq 2 (sp (Bv (((Qw s t).2:Int) != ((Qw s t).2))) (sp (Bv (((Qw s t).2:Int) != ((Qw s t).2))) ?_)))))
       cases MW:(((Qw s t).2:Int) != ((Qw s t).2))
       ·replace MW:=xx MW
        refine qJ 184 rfl rfl (sq 1 (qJ 184 rfl rfl (sp (Bv (((Qw s t).2:Int) == 4)) (qJ 184 rfl rfl (sp (Bv (((Qw s t).2:Int) == 4)) ?_)))))
        cases Io:(((Qw s t).2:Int) == 4)
        ·replace Io:=ne_of_beq_false Io
         refine xR [188] (qJ 184 rfl rfl (sp (Bv false) (sp (Bv false) (zjn (cFr rfl (qV (t_n (zcr (sq 1 (sp (Bv (((Qw s t).2:Int) != 0)) (sp (Bv (((Qw s t).2:Int) != 0)) ?_)))))))))))
         cases BS:(((Qw s t).2:Int) != 0)
         ·replace BS:=xx BS
          refine qJ 193 rfl rfl (sp (Bv false) (qJ 193 rfl rfl (sp (Bv true) (sp (Bv true) (sp (Bv true) (xR [198,199,200] (sp (Bv true) (sp (Bv true) (zjr (rH1 (Bv true) H ?_))))))))))
          rfl
         replace BS:=bne_iff_ne.1 BS
         refine xR [194,195] (sp (Bv true) (sp (Bv true) (xR [198,199,200] (sp (Bv true) (sp (Bv true) (zjr (rH1 (Bv true) H ?_)))))))
         rfl
        replace Io:=eq_of_beq Io
        refine qJ 187 rfl rfl (sp (Bv false) (qJ 184 rfl rfl (sp (Bv false) (sp (Bv false) (zjn (cFr rfl (qV (t_n (zcr (sq 1 (sp (Bv (((Qw s t).2:Int) != 0)) (sp (Bv (((Qw s t).2:Int) != 0)) ?_))))))))))))
        cases Ir:(((Qw s t).2:Int) != 0)
        ·replace Ir:=xx Ir
         refine qJ 193 rfl rfl (sp (Bv false) (qJ 193 rfl rfl (sp (Bv true) (sp (Bv true) (sp (Bv true) (xR [198,199,200] (sp (Bv true) (sp (Bv true) (zjr (rH1 (Bv true) H ?_))))))))))
         rfl
        replace Ir:=bne_iff_ne.1 Ir
        refine xR [194,195] (sp (Bv true) (sp (Bv true) (xR [198,199,200] (sp (Bv true) (sp (Bv true) (zjr (rH1 (Bv true) H ?_)))))))
        rfl
       ·exact absurd rfl (bne_iff_ne.1 MW)
      replace CN:=bne_iff_ne.1 CN
      refine xR (zR 130 4) (sp (Bv true) (zjn (cTr rfl (zcr (sp (Bv true) (zjr (t_r (rH1 (Bv true) H ?_))))))))
      rfl
     replace II:=yG II
     refine qJ 106 rfl rfl (sq 1 (qJ 106 rfl rfl (sq 1 (qJ 106 rfl rfl (sq 1 (qJ 104 rfl rfl (sq 2 (zjn (zT _ rfl (fun FM=>?_) (fun FM=>?_))))))))))
     ·replace FM:=bne_iff_ne.1 FM
      refine zcr (sp (Bv false) (zjr (t_r (rH1 (Bv false) H ?_))))
      exfalso;(have:=bv ql;omega)
     replace FM:=xx FM
     refine qV (t_n (zcr (sw (xU (yS s gG fo fE cW) isAgg27 sizeOf27 rfl (qF (H.cells 1 rfl) 0 3) (sw (xU (yT t ed dt li nF dA dD) isAgg31 sizeOf31 rfl (qF (H.cells 0 rfl) 0 3) ?_))))))
     obtain ⟨asY,aoM,afw⟩:=H.yH 2 rfl
     obtain ⟨asJ,aoY,af7⟩:=H.jY (α:=vS) 3 rfl 1 rfl qj
     obtain ⟨azA,aop,aeT⟩:=H.rowIsB 4 rfl
     obtain ⟨azr,aoE,alk⟩:=H.jY (α:=yLI) 5 rfl 2 rfl qj
     obtain ⟨sj,Uq,ajk⟩:=H.yH 6 rfl
     have aa5:=H.base.size
     have ZQ:=H.ltN (L:=[BV,CU]) [2,3]
     refine sw (oc (specNx_ok _ s t afw af7 aeT alk ajk) ?_)
     rintro _ akN ⟨ajy,akO,ai6,aic,FQ,rfl,M,K⟩ _
     replace N:=N.merge aa5 ZQ M
     replace H:=H.merge K M
     obtain rfl:=H.zg (α:=qH) 0 rfl 0 rfl qj
     refine sq 5 (zjc (sw (xU (yS s gG fo fE cW) isAgg27 sizeOf27 rfl (qF (H.cells 2 rfl) 0 3) (sw (xU (yT t ed dt li nF dA dD) isAgg31 sizeOf31 rfl (qF (H.cells 1 rfl) 0 3) ?_)))))
     obtain ⟨at6,apZ,NH⟩:=H.yH 3 rfl
     obtain ⟨ayT,anR,ahI⟩:=H.jY (α:=vS) 4 rfl 2 rfl qj
     obtain ⟨arK,aoV,aeN⟩:=H.rowIsB 5 rfl
     obtain ⟨HR,apD,ah0⟩:=H.jY (α:=yLI) 6 rfl 3 rfl qj
     obtain ⟨axo,aqu,aiQ⟩:=H.yH 7 rfl
     have YW:=H.base.size
     have aaL:=H.ltN (L:=[FQ,BV,CU]) [0,3,4]
     refine sw (oc (implNx_ok _ s t NH ahI aeN ah0 aiQ) ?_)
     rintro _ akx ⟨NK,ak7,Nl,ai0,Nw,rfl,M,K⟩ _
     replace N:=N.merge YW aaL M
     replace H:=H.merge K M
     obtain rfl:=H.zg (α:=qH) 0 rfl 0 rfl qj
     refine sq 5 (zjcc (sq 3 (zjn (zT _ rfl (fun h=>absurd rfl (bne_iff_ne.1 h)) (fun W7=>?_)))))
     replace W7:=xx W7
     refine qV (t_n (zcc (sq 1 (sp (Bv (((Qr s t).2:Int) != 0)) (sp (Bv (((Qr s t).2:Int) != 0)) ?_)))))
     cases Je:(((Qr s t).2:Int) != 0)
     ·replace Je:=xx Je
      refine qJ 129 rfl rfl (sw (xU (yS s gG fo fE cW) isAgg27 sizeOf27 rfl (qF (H.cells 3 rfl) 0 3) (qJ 129 rfl rfl (sw (xU (yT t ed dt li nF dA dD) isAgg31 sizeOf31 rfl (qF (H.cells 2 rfl) 0 3) (qJ 129 rfl rfl ?_))))))
      obtain ⟨ayU,an6,afo⟩:=H.yH 4 rfl
      obtain ⟨ayd,aoZ,aiE⟩:=H.jY (α:=vS) 5 rfl 3 rfl qj
      obtain ⟨asD,aoz,aim⟩:=H.rowIsB 6 rfl
      obtain ⟨azI,anG,ag7⟩:=H.jY (α:=yLI) 7 rfl 4 rfl qj
      obtain ⟨av9,am6,alY⟩:=H.yH 8 rfl
      refine sw (oq (a2Sound_ok _ s t afo aiE aim ag7 alY qg) H fun atc H=>qJ 129 rfl rfl (sq 2 (zjn (cQ rfl (fun ajQ=>?_) (fun ajQ=>?_)))))
      ·refine zcr (sp (Bv true) (zjr (t_r (rH1 (Bv true) H ?_))))
       rfl
      have Z:WeighAt s t av:=weighAt_of sd td wk (‹Vt s t›)
      have n0:(Qr s t).1.length<=300:=by rw [nx_0 k0];exact succ_len s t
      have zr:=Z.run
      refine qV (t_n (zcc (sp (yI 0) (zjn (qR (zl ((fun Z0 Z1 Z2 Z3 Z4 Z5 Z6 Z7 Z8 Z9 bx bG dy fj ix=>fun m' ρ aiO=>∃ (xE:Env) (i:Nat),ρ=upd (upd (upd (upd (upd (upd (upd (upd (upd xE 5 (pp Dl 0)) 6 (pp Bd 0)) 7 (Sv aaE av.length CP)) 8 (Bv (dec (Keeps s av)))) 10 (Bv true)) 12 (yI (bndV s t av))) 14 (yI (weight t av))) 22 (Sv NK (((Qr s t).1).length) Nl)) 24 (yI i)/\((i:Int)<=(((Qr s t).1).length))/\m' =((((Qr s t).1).length) - (i:Int)).toNat/\Fresh w.heap.size [Nw,FQ,BV,CU]/\St w aiO [Z0,Z1,Z2,Z3,Z4,Z5,Z6,Z7,Z8,Z9] [bx,bG,dy,fj,ix]) _ _ _ _ _ _ _ _ _ _ _ _ _ _ _) (((((Qr s t).1).length) - (0:Int)).toNat) ⟨_,0,uE9,qf,rfl,N,H.pick (zR 0 10) [0,1,3,4,5]⟩ ?_))))))
      clear H N
      rintro m' ρ aun ⟨xE,i,rfl,i0,rfl,N,H⟩
      refine zcc (sp (yI i) (sq 1 (oN rfl (sq 1 (zjn (cD rfl (fun ajT=>?_) (fun ajT=>?_)))))))
      ·obtain ⟨n1,n2,n3⟩:=Z.next i qf qf
       have k4:=And.intro k1 n1
       refine qV (t_n (xQ (qR (xQ (jE rfl H fun H=>rt 0 _ (y8 (cs:=(yS s gG fo fE cW)) isAgg27 sizeOf27 rfl (fun _ h=>qF (h.cells 3 rfl) 0 3)) H ?_)))))
       refine rtl 1 H ?_
       refine rtp 2 (yI i) H ?_
       obtain ⟨ay8,rfl⟩:=H.jK 0 rfl qf
       obtain ⟨wS,wz,NY,B1,Ck,Rl,u7,vm,Mp,Zs,H⟩:=H.rowel_StateD 0 rfl 0 rfl (iv:=i) i qf qf
       have S:=H.jm (zR 0 10) (zR 3 5)
       refine tI 3 rfl rfl rfl S ?_
       refine rt 4 _ (y8 (cs:=[Sv wS (((((Qr s t).1)[i]!).qK).length) wz,Sv B1 (((((Qr s t).1)[i]!).qQ).length) Ck,Sv u7 (((((Qr s t).1)[i]!).qL).length) vm]) isAgg31 sizeOf31 rfl (fun _ h=>qF (fun j v hj=>h.Vk 0 rfl (Zs j v hj)) 0 3)) S ?_
       refine rtl 5 S ?_
       refine ro 6 rfl ?_
       obtain ⟨art,aq4,ago⟩:=H.yH 4 rfl
       obtain ⟨arI,apR,aiq⟩:=H.jY (α:=vS) 5 rfl 5 rfl qj
       obtain ⟨azf,anc,ag3⟩:=H.jY (α:=yLI) 9 rfl 7 rfl qj
       refine oq (implWeigh_ok _ s (((Qr s t).1)[i]!) av ago aiq (H.get 0 rfl).1 (H.get 1 rfl).1 (H.get 2 rfl).1 ag3 qg qg) H fun ayu H=>⟨H.pick (zR 0 10) (zR 3 5),?_⟩
       have S:=H.jm (zR 0 10) (zR 3 5)
       refine rtl 7 S ?_
       refine rtl 8 S ?_
       refine rtp 9 (yI 0) S ?_
       refine rtl 10 S ?_
       refine rtp 11 (yI 0) S ?_
       refine xw qh (t_n (zcr (sp (yI 0) (sp (Bv false) (sp (Bv false) (qJ 153 rfl rfl (sp (Bv (dec (Keeps s av))) (qJ 153 rfl rfl (sp (Bv (dec (Keeps s av))) ?_)))))))))
       cases IR:(dec (Keeps s av))
       ·replace IR:=zM IR
        refine xR [156,157,158] (qJ 153 rfl rfl (sp (Bv false) (sp (Bv false) (sp (Bv false) (qJ 161 rfl rfl (sp (Bv true) (qJ 161 rfl rfl (sp (Bv true) (qJ 163 rfl rfl (sq 1 (qJ 163 rfl rfl (sq 1 (qJ 163 rfl rfl (sq 1 (qJ 161 rfl rfl (sq 2 (zjn (cD rfl (fun afd=>?_) (fun afd=>?_)))))))))))))))))))
        ·refine zcr (sp (Bv false) (zjr (zr5 (rH1 (Bv false) H ?_))))
         exfalso;(have:=n3 ql;omega)
        refine qV (b_n (t_n (xJ (sp (yI i) (sw (zn i 1 rfl rfl qf (sq 1 (xO (qX (m' :=((((Qr s t).1).length) - ((i+1):Int)).toNat) qf ⟨_,i+1,uE9,?_,rfl,N,H.pick (zR 0 10) (zR 3 5)⟩)))))))))
        ·omega
       replace IR:=yG IR
       refine qJ 155 rfl rfl (sq 1 (qJ 155 rfl rfl (sq 1 (qJ 155 rfl rfl (sp (Bv (((weight (((Qr s t).1)[i]!) av):Int) != (weight t av))) (qJ 153 rfl rfl (sp (Bv (((weight (((Qr s t).1)[i]!) av):Int) != (weight t av))) (sp (Bv (((weight (((Qr s t).1)[i]!) av):Int) != (weight t av))) (sp (Bv (((weight (((Qr s t).1)[i]!) av):Int) != (weight t av))) ?_)))))))))
       cases IJ:(((weight (((Qr s t).1)[i]!) av):Int) != (weight t av))
       ·replace IJ:=xx IJ
        refine qJ 161 rfl rfl (sp (Bv true) (qJ 161 rfl rfl (sp (Bv true) (qJ 163 rfl rfl (sq 1 (qJ 163 rfl rfl (sq 1 (qJ 163 rfl rfl (sq 1 (qJ 161 rfl rfl (sq 2 (zjn (cD rfl (fun aeF=>?_) (fun aeF=>?_))))))))))))))
        ·refine zcr (sp (Bv false) (zjr (zr5 (rH1 (Bv false) H ?_))))
         exfalso;(have:=n3 ql;omega)
        refine qV (b_n (t_n (xJ (sp (yI i) (sw (zn i 1 rfl rfl qf (sq 1 (xO (qX (m' :=((((Qr s t).1).length) - ((i+1):Int)).toNat) qf ⟨_,i+1,uE9,?_,rfl,N,H.pick (zR 0 10) (zR 3 5)⟩)))))))))
        ·omega
       replace IJ:=bne_iff_ne.1 IJ
       refine xR (zR 162 6) (sp (Bv true) (zjn (cTr rfl (zcr (sp (Bv false) (zjr (zr5 (rH1 (Bv false) H ?_))))))))
       exfalso;exact absurd (n2 ql) ql
      refine zx4 (zcr (sw (xU (yS s gG fo fE cW) isAgg27 sizeOf27 rfl (qF (H.cells 3 rfl) 0 3) (sw (xU (yT t ed dt li nF dA dD) isAgg31 sizeOf31 rfl (qF (H.cells 2 rfl) 0 3) ?_)))))
      obtain ⟨asg,anK,ag4⟩:=H.yH 4 rfl
      obtain ⟨auU,aoD,alr⟩:=H.jY (α:=vS) 5 rfl 2 rfl qj
      obtain ⟨avl,am4,ai1⟩:=H.rowIsB 6 rfl
      obtain ⟨atX,anl,agb⟩:=H.jY (α:=yLI) 7 rfl 3 rfl qj
      obtain ⟨auq,an9,akd⟩:=H.yH 8 rfl
      refine sw (oq (specLR_ok _ s t ag4 alr ai1 agb akd) H fun atw H=>sq 5 (zjc (sw (xU (yS s gG fo fE cW) isAgg27 sizeOf27 rfl (qF (H.cells 3 rfl) 0 3) (sw (xU (yT t ed dt li nF dA dD) isAgg31 sizeOf31 rfl (qF (H.cells 2 rfl) 0 3) ?_))))))
      obtain ⟨ar1,aoI,ahw⟩:=H.yH 4 rfl
      obtain ⟨aya,ao5,aia⟩:=H.jY (α:=vS) 5 rfl 2 rfl qj
      obtain ⟨azz,ap0,ajZ⟩:=H.rowIsB 6 rfl
      obtain ⟨ay1,aqF,agO⟩:=H.jY (α:=yLI) 7 rfl 3 rfl qj
      obtain ⟨au0,apG,agL⟩:=H.yH 8 rfl
      refine sw (oq (implLR_ok _ s t ahw aia ajZ agO agL) H fun auk H=>sq 5 (zjcc (sq 2 (sp (Bv (((Qw s t).2:Int) != ((Qw s t).2))) (sp (Bv (((Qw s t).2:Int) != ((Qw s t).2))) ?_)))))
      cases Pw:(((Qw s t).2:Int) != ((Qw s t).2))
      ·replace Pw:=xx Pw
       refine qJ 184 rfl rfl (sq 1 (qJ 184 rfl rfl (sp (Bv (((Qw s t).2:Int) == 4)) (qJ 184 rfl rfl (sp (Bv (((Qw s t).2:Int) == 4)) ?_)))))
       cases HS:(((Qw s t).2:Int) == 4)
       ·replace HS:=ne_of_beq_false HS
        refine xR [188] (qJ 184 rfl rfl (sp (Bv false) (sp (Bv false) (zjn (cFr rfl (qV (t_n (zcr (sq 1 (sp (Bv (((Qw s t).2:Int) != 0)) (sp (Bv (((Qw s t).2:Int) != 0)) ?_)))))))))))
        cases J7:(((Qw s t).2:Int) != 0)
        ·replace J7:=xx J7
         refine qJ 193 rfl rfl (sp (Bv true) (qJ 193 rfl rfl (sp (Bv false) (sp (Bv false) (sp (Bv false) (qJ 197 rfl rfl (sq 1 (qJ 197 rfl rfl (sq 1 (qJ 197 rfl rfl (sq 3 (zjr (rH1 (Bv (decide (((Qw s t).1:Int)<=(bndV s t av)))) H ?_)))))))))))))
         rw [decide_eq_true (by have:=(zr ql).2 qf;have:=bv ql;omega)]
        replace J7:=bne_iff_ne.1 J7
        refine xR [194,195] (sp (Bv true) (sp (Bv true) (xR [198,199,200] (sp (Bv true) (sp (Bv true) (zjr (rH1 (Bv true) H ?_)))))))
        rfl
       replace HS:=eq_of_beq HS
       refine qJ 187 rfl rfl (sp (Bv true) (qJ 184 rfl rfl (sp (Bv true) (sp (Bv true) (zjn (cTr rfl (zcr (sp (Bv false) (zjr (t_r (rH1 (Bv false) H ?_)))))))))))
       exfalso;(have:=(zr ql).1;omega)
      ·exact absurd rfl (bne_iff_ne.1 Pw)
     replace Je:=bne_iff_ne.1 Je
     refine xR (zR 130 4) (sp (Bv true) (zjn (cTr rfl (zcr (sp (Bv true) (zjr (t_r (rH1 (Bv true) H ?_))))))))
     rfl
    replace CA:=bne_iff_ne.1 CA
    refine xR (zR 105 6) (sp (Bv true) (zjn (cTr rfl (zcr (sp (Bv false) (zjr (t_r (rH1 (Bv false) H ?_))))))))
    exfalso;contradiction
   replace CT:=bne_iff_ne.1 CT
   refine xR (zR 99 4) (sp (Bv true) (sp (Bv true) (xR (zR 105 6) (sp (Bv true) (zjn (cTr rfl (zcr (sp (Bv false) (zjr (t_r (rH1 (Bv false) H ?_)))))))))))
   exfalso;contradiction
  replace HX:=bne_iff_ne.1 HX
  refine xR [94,95,96] (sp (Bv true) (sp (Bv true) (xR (zR 99 4) (sp (Bv true) (sp (Bv true) (xR (zR 105 6) (sp (Bv true) (zjn (cTr rfl (zcr (sp (Bv false) (zjr (t_r (rH1 (Bv false) H ?_))))))))))))))
  exfalso;contradiction
 replace h1:=of_decide_eq_true h1
 refine xR [9,10,11] (sp (Bv true) (sp (Bv true) (zjr (ret1 (Bv true) rfl rfl ⟨_,rfl,(zjn (cTr rfl (zcr (sp (Bv true) (zjr (t_r (rH1 (Bv true) H ?_)))))))⟩))))
 rfl
end
section
open Go.ChangeShapes Go.WideShapes Go.ChangeAt Go.RowKit Go.Joins
def Reads (P:Program) (t:TypeId) (α:Type) [qW α]:Prop:=
 ∀ {H:Type} {enc:TypeId×Value->H} {w:World} {yW:Nat->Bool} {Js:Bool} {fuel:Nat} {cs:List Value} {x:DataW H×List MemPlace},
  DataW.trod enc P w 0 yW Js fuel t cs=some x->∃ F,∃ y:α,qW.rep w F cs y
theorem cell_spot {w:World} {a:Addr} (h:w.cell? a=some v):a.spot=none:=by
 unfold World.cell? at h
 split at h
 ·split at h
  ·cases h
  ·rename_i hs;simpa using hs
 ·cases h
theorem reads_slice {α:Type} [qW α] {t:TypeId} (hu:P.underlying t=some (.slice e)) (hc:P.cellsOf e=qW.size α) (hz:0 < qW.size α) (he:Reads P e α):Reads P t (List α):=by
 intro H enc w yW Js fuel cs x h
 rcases DataW.trod_slice hu h with ⟨rfl,_⟩ | ⟨a,len,dw,elems,ai,n,_,rfl,_,_,TH,hcm,hel,hget,_⟩
 ·exact ⟨[],[],none,0,rfl,by simp,Or.inl ⟨rfl,rfl⟩⟩
 ·have hm:dw<=9223372036854775807:=by unfold maxLen at hcm;omega
  rcases Nat.eq_zero_or_pos len with h0 | h0
  ·subst h0
   exact ⟨[],[],some a,dw,rfl,by simp,Or.inl ⟨rfl,rfl⟩⟩
  ·have Jh:∀ i,i < len->∃ ci Fi,∃ y:α,w.cells? 0 (a.add (i * qW.size α)) (qW.size α)=some ci/\qW.rep w Fi ci y:=by
    intro i hi
    have hg:=hget i hi
    rw [hc] at hg
    have hs:elems[i]? =some (elems[i]'(by omega)):=List.getElem?_eq_getElem qf
    rw [hs] at hg
    obtain ⟨ci,h1,h2⟩:=Option.bind_eq_some_iff.1 hg
    obtain ⟨Fi,y,hr⟩:=he h2
    exact ⟨ci,Fi,y,h1,hr⟩
   have hsp:a.spot=none:=by
    obtain ⟨ci,Fi,y,h1,_⟩:=Jh 0 h0
    obtain ⟨_,hl,i9⟩:=World.cells?_some h1
    have:=i9 0 hz
    rw [List.getElem?_eq_getElem (show 0 < ci.length by omega)] at this
    have:=cell_spot this
    simpa [Addr.add] using this
   obtain ⟨b,aC,sp⟩:=a
   simp only at hsp
   subst hsp
   have akp:∀ i j:Nat,((⟨b,aC,none⟩:Addr).add (i * qW.size α)).add j=⟨b,aC+i * qW.size α+j,none⟩:=fun i j=>by simp [Addr.add_mid]
   have Eb:∀ m,m<=len->∃ F vs,∃ l:List α,l.length=m/\reps w F vs l/\vY w b aC vs:=by
    intro m
    induction m with
    | zero=>exact fun _=>⟨[],[],[],rfl,⟨rfl,rfl⟩,fun i v hv=>by simp at hv⟩
    | succ m ih=>
     intro hm'
     obtain ⟨F,vs,l,hl,hr,uM⟩:=ih qf
     obtain ⟨ci,Fi,y,h1,h2⟩:=Jh m qf
     obtain ⟨_,awg,i9⟩:=World.cells?_some h1
     refine ⟨F++Fi,vs++ci,l++[y],by simp [hl],yO hr (reps_one h2),fun i v hv=>?_⟩
     have hvl:=Vx hr
     rw [hl] at hvl
     rcases Nat.lt_or_ge i vs.length with hi | hi
     ·rw [List.getElem?_append_left hi] at hv
      exact uM i v hv
     ·rw [List.getElem?_append_right hi] at hv
      have hi2:i - vs.length < ci.length:=by
       rcases Nat.lt_or_ge (i - vs.length) ci.length with h | h
       ·exact h
       ·simp [h] at hv
      have:=i9 (i - vs.length) qf
      rw [akp,hv] at this
      rw [← this]
      congr 1
      rw [show aC+i=aC+m * qW.size α+(i - vs.length) by omega]
   obtain ⟨F,vs,l,hl,hr,uM⟩:=Eb len (Nat.le_refl _)
   have hb:b < w.heap.size:=by
    have h1:0 < vs.length:=by rw [Vx hr,hl];exact Nat.mul_pos h0 hz
    exact World.block_lt_of_cell? w _ (uM 0 _ (List.getElem?_eq_getElem h1))
   subst hl
   exact ⟨b::F,l,some ⟨b,aC,none⟩,dw,rfl,⟨by omega,TH⟩,Or.inr ⟨b,aC,F,vs,rfl,rfl,hb,hr,uM⟩⟩
theorem arg_slice {α:Type} [qW α] {H:Type} {enc:TypeId×Value->H} {w:World} {yW:Nat->Bool} {Js:Bool} {b0:Nat} {t:TypeId} {d:DataW H} {p:List MemPlace} (hu:P.underlying t=some (.slice e)) (hr:Reads P t (List α))
 (hv:Value.okWide P w .any b0 t v) (h:DataW.Trod enc P w 0 yW Js t v d p):∃ (a:yOA) (c:Nat) (F:yLN) (l:List α),v=Sv a l.length c/\qW.rep w F [Sv a l.length c] l:=by
 obtain ⟨a,m,c,rfl⟩:=okWide_slice hu hv
 obtain ⟨fuel,hf⟩:=h
 obtain ⟨F,l,hl⟩:=hr hf
 have th:(Value.slice a m c).cells.toList=[Sv a m c]:=rfl
 rw [th] at hl
 obtain ⟨a',c',hc,hx⟩:=id hl
 simp only [List.cons.injEq,Value.slice.injEq,and_true] at hc
 obtain ⟨rfl,rfl,rfl⟩:=hc
 exact ⟨a,c,F,l,rfl,hl⟩
section
variable {H : Type} {enc : TypeId × Value -> H} {P : Program}
theorem trodAll_below (hl:laidOutB P=true) {W W' :World} (hb:Below W.heap.size W W'):
 ∀ (ts:List TypeId) (vs:List Value) (ds:List (DataW H)) (ps:List MemPlace),(∀ t∈ts,P.readableRec t=true/\t < P.types.size)→
  DataW.TrodAll enc P W 0 (fun _=>true) true ts vs ds ps->(∀ x∈ps,x.block < W.heap.size)→
  DataW.TrodAll enc P W' 0 (fun b=>decide (b < W.heap.size)) true ts vs ds ps
 | [],vs,ds,ps,_,h,_=>by
  obtain ⟨rfl,rfl,rfl⟩:=trodAll_nil h
  exact trodAll_mk0
 | t::ts,vs,ds,ps,hr,h,hp=>by
  obtain ⟨v,vs',d,ds',p,q,rfl,rfl,rfl,h0,h1⟩:=trodAll_cons h
  have ht:=hr t (List.mem_cons_self ..)
  exact trodAll_cons_mk (Below.trod hl ht.1 ht.2 h0 hb (fun x hx=>hp x (List.mem_append_left _ hx)))
   (trodAll_below hl hb ts vs' ds' q (fun t' ht' =>hr t' (List.mem_cons_of_mem _ ht')) h1 (fun x hx=>hp x (List.mem_append_right _ hx)))
theorem post_law {f:Func} {s:ChangeSpec} {W W' :World} {args:Array Value} {tb:TypeId} {ds gs:List (DataW H)} {pH:List MemPlace}
 (hW:DataW.Whole enc P f.params.toList s.vars false W args.toList ds gs pH) (hv:s.vars=[])
 (hs:s.fn H (ds++[])={ results:=[.lit (.bool true)],args:=ds }) (hr:f.resultTypes=#[tb]) (hu:P.underlying tb=some .bool)
 (hl:laidOutB P=true) (hts:∀ t∈f.params.toList,P.readableRec t=true/\t < P.types.size) (hb:Below W.heap.size W W'):
 s.post enc P f false true false false W args (Bv true) W' :=by
 have hW' :=hW
 obtain ⟨p,q,hA,hV,rfl,hz,hn⟩:=hW
 rw [hv] at hV
 obtain ⟨rfl,rfl⟩:=trodVars_none hV
 have oT:∀ x∈p++[],x.block < W.heap.size:=fun x hx=>hW'.lt x hx
 refine ⟨ds,[],p++[],[],p,[],hW',?_,?_,?_,World.keptBut_mono (fun x hx=>⟨hx,Or.inr (Or.inl (by simpa using hx))⟩) (hb.frame (·∈p++[])),fun h=>by cases h⟩
 ·rw [hs,hr]
  simp only [Value.resultList]
  exact trodAll_mk1 (shut_bool hu true)
 ·rw [hs]
  exact trodAll_below hl hb _ _ _ _ hts hA (fun x hx=>oT x (by simpa using hx))
 ·rw [hv,hs]
  exact rfl
end
theorem reads_byte {t:TypeId} (hu:P.underlying t=some (.int .u8)):Reads P t UInt8:=fun h=>by
 obtain ⟨n,rfl,_,hw⟩:=DataW.trod_int hu h
 have hb:0<=n/\n<=255:=by
  simp [Lit.wf,IntKind.min,IntKind.max,IntKind.signed,IntKind.bits] at hw
  omega
 refine ⟨[],UInt8.ofNat n.toNat,rfl,?_⟩
 have e:(UInt8.ofNat n.toNat).toNat=n.toNat:=by
  simp
  omega
 rw [e,Int.toNat_of_nonneg hb.1]
end
end Go.Proofs.YtdhklgjmiamiaaaGreat
