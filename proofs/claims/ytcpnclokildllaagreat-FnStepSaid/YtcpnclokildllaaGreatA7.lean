/- Walks and laws, printed by program and by hand: what each function comes to, for all arguments, part 7. -/
import Derived.Test.YtcpnclokildllaaGreatA6
import Derived.Test.YtcpnclokildllaaGreatRows
import Derived.ProofKit
import Derived.OpenShut
import Derived.Carry
import Derived.BigQuiet
import Derived.Lib.SmallJoins
namespace Go.Proofs.YtcpnclokildllaaGreat
set_option linter.unusedVariables false
set_option linter.unusedSimpArgs false
open Go.Proofs.YtcpnclokildllaaGreat.Tot (tot)
open Go.Proofs.YtcpnclokildllaaGreat.Mark (cnt mrk mkd mkd_mark cnt_mark)
section
open Go.RowKit
set_option linter.unusedVariables false
set_option linter.unusedSimpArgs false
set_option maxRecDepth 100000
set_option maxHeartbeats 4000000
variable {qB qI qP xn qM : Nat}
theorem dSystem_ok {W0 w:World} {ps:List Prv} {Γ:List Fact} {Ns:List yLN} (code:List UInt8) (ip:Int) (sd:Int) (bs:Nat) (ac:yOA) (cc:Nat) (Fc:yLN) (H:St W0 w ((.box bs [Sv ac code.length cc,.int .i64 ip,.int .u64 sd] 127) :: ps) ((sF false Fc ac cc code) :: Γ)) (N:Fresh W0.heap.size (Ns)) (K0:Kept Ns Γ) (q0:0≤ip∧ip≤50000):Calls Tryz.prog 78 #[.pointer (some ⟨bs,0,none⟩)] w (fun e w' =>∃ v,e=.returned v∧∃ (ip_:Int) (sd_:Int) (kk_:Int) (par_:yLI) (rules_:List jy) (raq:yOA) (rnq:Nat) (rcq:Nat) (raS:yOA) (rnS:Nat) (rcS:Nat) (rxS:List Value) (rFS:yLN),(ip≤ip_∧ip_≤ip+2000)∧(SysDr kk_ par_ rules_)∧v=.agg #[.int .i64 kk_,Sv raq rnq rcq,Sv raS rnS rcS]∧Fresh W0.heap.size (rFS :: Ns)∧St W0 w' ((.box bs [Sv ac code.length cc,.int .i64 ip_,.int .u64 sd_] 127) :: (rr raq rnq rcq 2 1 (par_.map (Value.int .i64))) :: (rr raS rnS rcS 56 9 rxS) :: ps) ((sF false Fc ac cc code) :: (qX true rFS rxS rules_) :: Γ)):=by
 refine en Tryz.func78 Tryz.ntmps78 ?_
 have ncode:=qQ (H.get 0 rfl).1
 refine zcr (sw (xx H ti27 [.int .i64 0,Sv none 0 0,Sv none 0 0] fun b1 w2 H=>zjc (sp (.pointer (some ⟨bs,0,none⟩)) ?_)))
 have H1:St W0 w2 ((.box bs [Sv ac code.length cc,.int .i64 ip,.int .u64 sd] 127) :: (.box b1 [.int .i64 0,Sv none 0 0,Sv none 0 0] 27) :: ps) ((sF false Fc ac cc code) :: Γ):=H.xH 2 1 [1,0] [0] qo qo
 have N1:Fresh _ (Ns):=N
 have K1:Kept (Ns) (Γ):=K0.behind 0 rfl
 refine sw (xR #[.pointer (some ⟨bs,0,none⟩),.int .i64 3] rfl rfl Tryz.call68 (jZ code ip sd bs ac cc Fc (3:Int) H1 N1 K1 qg) ?_)
 clear H H1 N1 K1
 rintro _ w3 ⟨zi7,zi8,zi9,hx5,hx6,rfl,N,H⟩
 refine sw (zN 1 zi9 rfl rfl qf (sw (zJ H Tryz.underlying24 ti2 [.int .i64 (-1)] fun b10 w11 H=>sw (xP [.int .i64 (1+zi9),Sv (some ⟨b10,0,none⟩) 1 1,Sv none 0 0] [(0,.int .i64 (1+zi9)),(1,Sv (some ⟨b10,0,none⟩) 1 1)] (sw (xx H ti27 [.int .i64 0,Sv none 0 0,Sv none 0 0] fun b12 w13 H=>sw (xu H 0 [.int .i64 (1+zi9),Sv (some ⟨b10,0,none⟩) 1 1,Sv none 0 0] Tryz.sizeOf27 fun w14 H=>?_)))))))
 try dsimp only [List.set] at H
 refine zjcc (sp (.pointer (some ⟨bs,0,none⟩)) ?_)
 have H1:St W0 w14 ((.box bs [Sv ac code.length cc,.int .i64 zi7,.int .u64 zi8] 127) :: (.box b12 [.int .i64 (1+zi9),Sv (some ⟨b10,0,none⟩) 1 1,Sv none 0 0] 27) :: (.box b10 [.int .i64 (-1)] 2) :: (.box b1 [.int .i64 0,Sv none 0 0,Sv none 0 0] 27) :: ps) ((sF false Fc ac cc code) :: Γ):=H.xH 4 1 [2,0,1,3] [0] qo qo
 have N1:Fresh _ (Ns):=N
 have K1:Kept (Ns) (Γ):=K0.behind 0 rfl
 refine sw (xR #[.pointer (some ⟨bs,0,none⟩),.int .i64 3] rfl rfl Tryz.call68 (jZ code zi7 zi8 bs ac cc Fc (3:Int) H1 N1 K1 qg) ?_)
 clear H H1 N1 K1
 rintro _ w15 ⟨zi19,zi20,zi21,hx17,hx18,rfl,N,H⟩
 refine sp (.int .i64 zi21) (zjn (qZ ?_))
 replace H:=H.boxRowI 2 [(-1)] 1
 try dsimp only [List.set] at H
 refine zU (fun m' ρ w22=>∃ (zl:Env) (c:Int) (s_at:Int) (s_seed:Int) (zS:yOA) (x9:Nat) (zQ:Nat) (y_Parents:yLI),ρ=upd (upd (upd (upd zl 0 (.pointer (some ⟨bs,0,none⟩))) 2 (.pointer (some ⟨b1,0,none⟩))) 3 (.pointer (some ⟨b12,0,none⟩))) 4 (.int .i64 c)∧(ip≤s_at∧s_at+2 * c≤ip+8)∧(0≤c∧(y_Parents.length:Int)+c≤3)∧(ParDr y_Parents)∧m' =c.toNat∧Fresh W0.heap.size (Ns)∧St W0 w22 ((.box bs [Sv ac code.length cc,.int .i64 s_at,.int .u64 s_seed] 127) :: (.box b12 [.int .i64 (1+zi9),Sv zS x9 zQ,Sv none 0 0] 27) :: (rr zS x9 zQ 2 1 (y_Parents.map (Value.int .i64))) :: (.box b1 [.int .i64 0,Sv none 0 0,Sv none 0 0] 27) :: ps) ((sF false Fc ac cc code) :: Γ)) (zi21.toNat) ⟨_,zi21,zi19,zi20,(some ⟨b10,0,none⟩),1,1,[(-1)],uE4,qf,(by simp;omega),(by exact ParDr.one),rfl,N,H⟩ ?_
 clear H N
 rintro m' ρ w23 ⟨zl,c,s_at,s_seed,zS,x9,zQ,y_Parents,rfl,i1,i2,i3,rfl,N,H⟩
 have hn_y_Parents:=H.vM 2 rfl
 have i4:=i3.1
 refine zcc (sps [.int .i64 c,Bv (decide ((c:Int) > 0))] (zjn (cD rfl (fun h24=>?_) (fun h24=>?_))))
 ·skip
  refine xe (t_n (zg (qZ ?_)))
  refine c_cut (fun ρ w30=>∃ (zl:Env) (zi25:Int) (zi26:Int) (zi27:Int) (a28:yOA) (c29:Nat),ρ=upd (upd (upd (upd zl 0 (.pointer (some ⟨bs,0,none⟩))) 2 (.pointer (some ⟨b1,0,none⟩))) 3 (.pointer (some ⟨b12,0,none⟩))) 4 (.int .i64 c)∧(s_at≤zi25∧zi25≤s_at+2)∧(0≤zi26∧(zi26 < x9∨zi26=0))∧Fresh W0.heap.size (Ns)∧St W0 w30 ((.box bs [Sv ac code.length cc,.int .i64 zi25,.int .u64 zi27] 127) :: (.box b12 [.int .i64 (1+zi9),Sv a28 (x9+1) c29,Sv none 0 0] 27) :: (rr a28 (x9+1) c29 2 1 ((y_Parents++[zi26]).map (Value.int .i64))) :: (.box b1 [.int .i64 0,Sv none 0 0,Sv none 0 0] 27) :: ps) ((sF false Fc ac cc code) :: Γ)) ?_ ?_
  ·skip
   refine XG rfl H [3] [0] fun H=>?_
   have S:=H.jG [3] [0]
   refine tF 0 rfl rfl S ?_
   refine rtp 2 (.pointer (some ⟨bs,0,none⟩)) S ?_
   refine tF 3 rfl rfl S ?_
   refine zH [1,4] qh qm (vg rfl ?_ (vg rfl ?_ zI))
   ·skip
    refine zt (Sv zS x9 zQ) Tryz.isAgg24 rfl (H.cell 1 rfl rfl) (⟨H.pick [3] [0],(ro 4 rfl (zt (Sv zS x9 zQ) Tryz.isAgg24 rfl (H.cell 1 rfl rfl) (⟨H.pick [3] [0],(tN 5 rfl rfl (H.pick [3] [0]) ?_)⟩)))⟩)
    refine ro 6 rfl ?_
    have H1:St W0 w23.drew ((.box bs [Sv ac code.length cc,.int .i64 s_at,.int .u64 s_seed] 127) :: (.box b12 [.int .i64 (1+zi9),Sv zS x9 zQ,Sv none 0 0] 27) :: (rr zS x9 zQ 2 1 (y_Parents.map (Value.int .i64))) :: (.box b1 [.int .i64 0,Sv none 0 0,Sv none 0 0] 27) :: ps) ((sF false Fc ac cc code) :: Γ):=H.xH 4 1 [0,1,2,3] [0] qo qo
    have N1:Fresh _ (Ns):=N
    have K1:Kept (Ns) (Γ):=K0.behind 0 rfl
    refine xR #[.pointer (some ⟨bs,0,none⟩),.int .i64 x9] rfl rfl Tryz.call68 (jZ code s_at s_seed bs ac cc Fc x9 H1 N1 K1 qg) ?_
    clear H H1 N1 K1
    rintro _ w32 ⟨zi36,zi37,zi38,hx34,hx35,rfl,N,H⟩
    refine ⟨H.pick [3] [0],(ro 7 rfl (zJ H Tryz.underlying24 ti2 [.int .i64 zi38] fun b39 w40 H=>⟨H.pick [4] [0],(ro 8 rfl (zM H 3 rfl 0 rfl Tryz.underlying24 ti2 rfl qj rfl rfl rfl (by simp [Value.oneCell',Value.cells]) qp qf fun a41 c42 w43 H=>?_))⟩))⟩
    rw [snocI] at H
    try dsimp only [List.set] at H
    refine ⟨H.pick [4] [0],(tF 9 rfl rfl (H.pick [4] [0]) ?_)⟩
    refine ro 10 rfl (xX H 2 [.int .i64 (1+zi9),Sv a41 (x9+1) c42,Sv none 0 0] Tryz.sizeOf24 fun w44 H=>?_)
    try dsimp only [List.set] at H
    refine ⟨H.pick [4] [0],(xg qh ((meet ⟨_,zi36,zi38,zi37,a41,c42,uE4,hx34,hx35,N,H.xH 5 1 [1,2,3,4] [0] qo qo⟩)))⟩
   ·skip
    refine zt (Sv zS x9 zQ) Tryz.isAgg24 rfl (H.cell 1 rfl rfl) (⟨H.pick [3] [0],(tN 5 rfl rfl (H.pick [3] [0]) ?_)⟩)
    refine zH [1,6] qh qm (vg rfl ?_ (vg rfl ?_ zI))
    ·skip
     refine zt (Sv zS x9 zQ) Tryz.isAgg24 rfl (H.cell 1 rfl rfl) (⟨H.pick [3] [0],(ro 6 rfl ?_)⟩)
     have H1:St W0 w23.drew ((.box bs [Sv ac code.length cc,.int .i64 s_at,.int .u64 s_seed] 127) :: (.box b12 [.int .i64 (1+zi9),Sv zS x9 zQ,Sv none 0 0] 27) :: (rr zS x9 zQ 2 1 (y_Parents.map (Value.int .i64))) :: (.box b1 [.int .i64 0,Sv none 0 0,Sv none 0 0] 27) :: ps) ((sF false Fc ac cc code) :: Γ):=H.xH 4 1 [0,1,2,3] [0] qo qo
     have N1:Fresh _ (Ns):=N
     have K1:Kept (Ns) (Γ):=K0.behind 0 rfl
     refine xR #[.pointer (some ⟨bs,0,none⟩),.int .i64 x9] rfl rfl Tryz.call68 (jZ code s_at s_seed bs ac cc Fc x9 H1 N1 K1 qg) ?_
     clear H H1 N1 K1
     rintro _ w45 ⟨zi49,zi50,zi51,hx47,hx48,rfl,N,H⟩
     refine ⟨H.pick [3] [0],(ro 7 rfl (zJ H Tryz.underlying24 ti2 [.int .i64 zi51] fun b52 w53 H=>⟨H.pick [4] [0],(ro 8 rfl (zM H 3 rfl 0 rfl Tryz.underlying24 ti2 rfl qj rfl rfl rfl (by simp [Value.oneCell',Value.cells]) qp qf fun a54 c55 w56 H=>?_))⟩))⟩
     rw [snocI] at H
     try dsimp only [List.set] at H
     refine ⟨H.pick [4] [0],(tF 9 rfl rfl (H.pick [4] [0]) ?_)⟩
     refine ro 10 rfl (xX H 2 [.int .i64 (1+zi9),Sv a54 (x9+1) c55,Sv none 0 0] Tryz.sizeOf24 fun w57 H=>?_)
     try dsimp only [List.set] at H
     refine ⟨H.pick [4] [0],(xg qh ((meet ⟨_,zi49,zi51,zi50,a54,c55,uE4,hx47,hx48,N,H.xH 5 1 [1,2,3,4] [0] qo qo⟩)))⟩
    ·skip
     have H1:St W0 w23.drew ((.box bs [Sv ac code.length cc,.int .i64 s_at,.int .u64 s_seed] 127) :: (.box b12 [.int .i64 (1+zi9),Sv zS x9 zQ,Sv none 0 0] 27) :: (rr zS x9 zQ 2 1 (y_Parents.map (Value.int .i64))) :: (.box b1 [.int .i64 0,Sv none 0 0,Sv none 0 0] 27) :: ps) ((sF false Fc ac cc code) :: Γ):=H.xH 4 1 [0,1,2,3] [0] qo qo
     have N1:Fresh _ (Ns):=N
     have K1:Kept (Ns) (Γ):=K0.behind 0 rfl
     refine xR #[.pointer (some ⟨bs,0,none⟩),.int .i64 x9] rfl rfl Tryz.call68 (jZ code s_at s_seed bs ac cc Fc x9 H1 N1 K1 qg) ?_
     clear H H1 N1 K1
     rintro _ w58 ⟨zi62,zi63,zi64,hx60,hx61,rfl,N,H⟩
     refine ⟨H.pick [3] [0],(zH [1,7] qh qm (vg rfl ?_ (vg rfl ?_ zI)))⟩
     ·skip
      refine zt (Sv zS x9 zQ) Tryz.isAgg24 rfl (H.cell 1 rfl rfl) (⟨H.pick [3] [0],(ro 7 rfl (zJ H Tryz.underlying24 ti2 [.int .i64 zi64] fun b65 w66 H=>⟨H.pick [4] [0],(ro 8 rfl (zM H 3 rfl 0 rfl Tryz.underlying24 ti2 rfl qj rfl rfl rfl (by simp [Value.oneCell',Value.cells]) qp qf fun a67 c68 w69 H=>?_))⟩))⟩)
      rw [snocI] at H
      try dsimp only [List.set] at H
      refine ⟨H.pick [4] [0],(tF 9 rfl rfl (H.pick [4] [0]) ?_)⟩
      refine ro 10 rfl (xX H 2 [.int .i64 (1+zi9),Sv a67 (x9+1) c68,Sv none 0 0] Tryz.sizeOf24 fun w70 H=>?_)
      try dsimp only [List.set] at H
      refine ⟨H.pick [4] [0],(xg qh ((meet ⟨_,zi62,zi64,zi63,a67,c68,uE4,hx60,hx61,N,H.xH 5 1 [1,2,3,4] [0] qo qo⟩)))⟩
     ·skip
      refine zJ H Tryz.underlying24 ti2 [.int .i64 zi64] fun b71 w72 H=>⟨H.pick [4] [0],(ro 1 rfl (zt (Sv zS x9 zQ) Tryz.isAgg24 rfl (H.cell 2 rfl rfl) (⟨H.pick [4] [0],(ro 8 rfl (zM H 3 rfl 0 rfl Tryz.underlying24 ti2 rfl qj rfl rfl rfl (by simp [Value.oneCell',Value.cells]) qp qf fun a73 c74 w75 H=>?_))⟩)))⟩
      rw [snocI] at H
      try dsimp only [List.set] at H
      refine ⟨H.pick [4] [0],(tF 9 rfl rfl (H.pick [4] [0]) ?_)⟩
      refine ro 10 rfl (xX H 2 [.int .i64 (1+zi9),Sv a73 (x9+1) c74,Sv none 0 0] Tryz.sizeOf24 fun w76 H=>?_)
      try dsimp only [List.set] at H
      refine ⟨H.pick [4] [0],(xg qh ((meet ⟨_,zi62,zi64,zi63,a73,c74,uE4,hx60,hx61,N,H.xH 5 1 [1,2,3,4] [0] qo qo⟩)))⟩
  ·skip
   clear H N
   rintro ρ w77 ⟨zl,zi25,zi26,zi27,a28,c29,rfl,hx78,hx79,N,H⟩
   refine b_n (t_n (zn (sp (.int .i64 c) (sw (o_sub c 1 rfl rfl qf (sp (.int .i64 (c - 1)) (zo (xm (m' :=(c - 1).toNat) qf ⟨_,c - 1,zi25,zi27,a28,x9+1,c29,(y_Parents++[zi26]),uE4,?_,?_,?_,rfl,N,H⟩))))))))
   · omega
   · simp;omega
   · exact i3.snoc (by have:=i3.1;omega)
 ·skip
  refine zx4 (zcc (sp (.pointer (some ⟨bs,0,none⟩)) ?_))
  have H1:St W0 w23 ((.box bs [Sv ac code.length cc,.int .i64 s_at,.int .u64 s_seed] 127) :: (.box b12 [.int .i64 (1+zi9),Sv zS x9 zQ,Sv none 0 0] 27) :: (rr zS x9 zQ 2 1 (y_Parents.map (Value.int .i64))) :: (.box b1 [.int .i64 0,Sv none 0 0,Sv none 0 0] 27) :: ps) ((sF false Fc ac cc code) :: Γ):=H.xH 4 1 [0,1,2,3] [0] qo qo
  have N1:Fresh _ (Ns):=N
  have K1:Kept (Ns) (Γ):=K0.behind 0 rfl
  refine sw (xR #[.pointer (some ⟨bs,0,none⟩),.int .i64 6] rfl rfl Tryz.call68 (jZ code s_at s_seed bs ac cc Fc (6:Int) H1 N1 K1 qg) ?_)
  clear H H1 N1 K1
  rintro _ w80 ⟨zi84,zi85,zi86,hx82,hx83,rfl,N,H⟩
  refine sp (.int .i64 zi86) (zjn (qZ ?_))
  replace H:=H.nilRow 56 9
  replace H:=H.jD (α:=jy)
  refine zU (fun m' ρ w87=>∃ (zl:Env) (k:Int) (s_at_1:Int) (s_seed_1:Int) (Qv:yOA) (yt:Nat) (Qs:Nat) (y_Rules:List jy) (QY:List Value) (zA:yLN),ρ=upd (upd (upd (upd zl 0 (.pointer (some ⟨bs,0,none⟩))) 2 (.pointer (some ⟨b1,0,none⟩))) 3 (.pointer (some ⟨b12,0,none⟩))) 5 (.int .i64 k)∧(ip≤s_at_1∧s_at_1+300 * k≤ip+1600)∧(0≤k∧(y_Rules.length:Int)+k≤5)∧(Qh (1+zi9) y_Parents y_Rules)∧m' =k.toNat∧Fresh W0.heap.size (zA :: Ns)∧St W0 w87 ((rr Qv yt Qs 56 9 QY) :: (.box bs [Sv ac code.length cc,.int .i64 s_at_1,.int .u64 s_seed_1] 127) :: (.box b12 [.int .i64 (1+zi9),Sv zS x9 zQ,Sv Qv yt Qs] 27) :: (rr zS x9 zQ 2 1 (y_Parents.map (Value.int .i64))) :: (.box b1 [.int .i64 0,Sv none 0 0,Sv none 0 0] 27) :: ps) ((qX true zA QY y_Rules) :: (sF false Fc ac cc code) :: Γ)) (zi86.toNat) ⟨_,zi86,zi84,zi85,none,0,0,([]:List jy),[],[],uE4,qf,(by simp;omega),(by exact Qh.nil _ _),rfl,N.emp,H⟩ ?_
  clear H N
  rintro m' ρ w88 ⟨zl,k,s_at_1,s_seed_1,Qv,yt,Qs,y_Rules,QY,zA,rfl,j1,j2,j3,rfl,N,H⟩
  have hn_y_Rules:=H.zi (α:=jy) 0 rfl 0 rfl qj
  refine zcc (sps [.int .i64 k,Bv (decide ((k:Int) > 0))] (zjn (cD rfl (fun h89=>?_) (fun h89=>?_))))
  ·skip
   refine xe (t_n (zg (qZ ?_)))
   refine c_cut (fun ρ w121=>∃ (zl:Env) (zi90:Int) (zi91:Int) (zi92:Int) (zl93:yLI) (zl94:yLI) (zl95:yLI) (zl96:yLI) (zl97:yLI) (zI98:List IntoD) (zb99:Bool) (zi100:Int) (a101:yOA) (c102:Nat) (ra103:yOA) (rc104:Nat) (ra105:yOA) (rc106:Nat) (ra107:yOA) (rc108:Nat) (ra109:yOA) (rc110:Nat) (ra111:yOA) (rc112:Nat) (ra113:yOA) (rc114:Nat) (G115:yLN) (G116:yLN) (G117:yLN) (G118:yLN) (G119:yLN) (G120:yLN),ρ=upd (upd (upd (upd zl 0 (.pointer (some ⟨bs,0,none⟩))) 2 (.pointer (some ⟨b1,0,none⟩))) 3 (.pointer (some ⟨b12,0,none⟩))) 5 (.int .i64 k)∧(s_at_1≤zi90∧zi90≤s_at_1+300)∧(RuleDr (1+zi9) y_Parents ⟨zi91,zi92,zl93,zl94,zl95,zl96,zl97,zI98,zb99⟩)∧Fresh W0.heap.size ((zA++(G115++G116++G117++G118++G119++G120)) :: Ns)∧St W0 w121 ((.box bs [Sv ac code.length cc,.int .i64 zi90,.int .u64 zi100] 127) :: (.box b12 [.int .i64 (1+zi9),Sv zS x9 zQ,Sv a101 (yt+1) c102] 27) :: (rr zS x9 zQ 2 1 (y_Parents.map (Value.int .i64))) :: (rr a101 (yt+1) c102 56 9 (QY++[.int .i64 zi91,.int .i64 zi92,Sv ra103 zl93.length rc104,Sv ra105 zl94.length rc106,Sv ra107 zl95.length rc108,Sv ra109 zl96.length rc110,Sv ra111 zl97.length rc112,Sv ra113 zI98.length rc114,Bv zb99])) :: (.box b1 [.int .i64 0,Sv none 0 0,Sv none 0 0] 27) :: ps) ((qX true (zA++(G115++G116++G117++G118++G119++G120)) (QY++[.int .i64 zi91,.int .i64 zi92,Sv ra103 zl93.length rc104,Sv ra105 zl94.length rc106,Sv ra107 zl95.length rc108,Sv ra109 zl96.length rc110,Sv ra111 zl97.length rc112,Sv ra113 zI98.length rc114,Bv zb99]) (y_Rules++[(⟨zi91,zi92,zl93,zl94,zl95,zl96,zl97,zI98,zb99⟩:jy)])) :: (sF true G120 ra113 rc114 zI98) :: (sF true G119 ra111 rc112 zl97) :: (sF true G118 ra109 rc110 zl96) :: (sF true G117 ra107 rc108 zl95) :: (sF true G116 ra105 rc106 zl94) :: (sF true G115 ra103 rc104 zl93) :: (sF false Fc ac cc code) :: Γ)) ?_ ?_
   ·skip
    refine XG rfl H [3,4] [0,1] fun H=>?_
    have S:=H.jG [3,4] [0,1]
    refine tF 0 rfl rfl S ?_
    refine rtp 2 (.pointer (some ⟨bs,0,none⟩)) S ?_
    refine zH [1,3] qh qm (vg rfl ?_ (vg rfl ?_ zI))
    ·skip
     refine zt (Sv Qv yt Qs) Tryz.isAgg25 rfl (H.cell 2 rfl rfl) (⟨H.pick [3,4] [0,1],(ro 3 rfl ?_)⟩)
     have f0:jO (⟨1+zi9,y_Parents,y_Rules⟩:qy):=frame_of i3 qf qf
     have H1:St W0 w88.drew ((.box bs [Sv ac code.length cc,.int .i64 s_at_1,.int .u64 s_seed_1] 127) :: (.box b12 [.int .i64 (1+zi9),Sv zS x9 zQ,Sv Qv yt Qs] 27) :: (rr zS x9 zQ 2 1 (y_Parents.map (Value.int .i64))) :: (rr Qv yt Qs 56 9 QY) :: (.box b1 [.int .i64 0,Sv none 0 0,Sv none 0 0] 27) :: ps) ((sF false Fc ac cc code) :: (qX true zA QY y_Rules) :: Γ):=H.xH 5 2 [1,2,3,0,4] [1,0] qo qo
     have N1:Fresh _ (zA :: Ns):=N
     have K1:Kept (Ns) (Γ):=K0.behind 0 rfl
     refine xR #[.pointer (some ⟨bs,0,none⟩),.pointer (some ⟨b12,0,none⟩)] rfl rfl Tryz.call144 (dRule_ok code s_at_1 s_seed_1 bs ac cc Fc (1+zi9) y_Parents y_Rules b12 zS x9 zQ Qv yt Qs QY zA H1 N1 K1 qg qg) ?_
     clear H H1 N1 K1
     rintro _ w123 ⟨zi127,zi128,zi129,zi130,zl131,zl132,zl133,zl134,zl135,zI136,zb137,ra138,rn139,rc140,ra141,rn142,rc143,ra144,rn145,rc146,ra147,rn148,rc149,ra150,rn151,rc152,ra153,rn154,rc155,rx156,rF157,hx125,hx126,rfl,N,H⟩
     obtain rfl:=H.vM 4 rfl
     obtain rfl:=H.vM 5 rfl
     obtain rfl:=H.vM 6 rfl
     obtain rfl:=H.vM 7 rfl
     obtain rfl:=H.vM 8 rfl
     obtain rfl:=H.zi (α:=IntoD) 9 rfl 2 rfl qj
     refine ⟨H.pick [2,10] [1,0],(ro 4 rfl (zJ H Tryz.underlying25 ti56 [.int .i64 zi129,.int .i64 zi130,Sv ra138 zl131.length rc140,Sv ra141 zl132.length rc143,Sv ra144 zl133.length rc146,Sv ra147 zl134.length rc149,Sv ra150 zl135.length rc152,Sv ra153 zI136.length rc155,Bv zb137] fun b158 w159 H=>⟨H.pick [3,11] [1,0],(ro 5 rfl ?_)⟩))⟩
     obtain ⟨G163,N,hn164,H⟩:=H.vz 5 rfl N (fun F hF b hb=>(List.mem_append.1 (show F∈[zA,rF157]++Ns from hF)).elim (fun h=>(H.jJ (L:=[zA,rF157]) [1,2]) F h b hb) fun h=>H.XI (K0.behind 3 rfl) F h b hb)
     try dsimp only [List.set] at H
     obtain ⟨G165,N,hn166,H⟩:=H.vz 6 rfl N (fun F hF b hb=>(List.mem_append.1 (show F∈[G163,zA,rF157]++Ns from hF)).elim (fun h=>(H.jJ (L:=[G163,zA,rF157]) [0,2,3]) F h b hb) fun h=>H.XI (K0.behind 4 rfl) F h b hb)
     try dsimp only [List.set] at H
     obtain ⟨G167,N,hn168,H⟩:=H.vz 7 rfl N (fun F hF b hb=>(List.mem_append.1 (show F∈[G165,G163,zA,rF157]++Ns from hF)).elim (fun h=>(H.jJ (L:=[G165,G163,zA,rF157]) [0,1,3,4]) F h b hb) fun h=>H.XI (K0.behind 5 rfl) F h b hb)
     try dsimp only [List.set] at H
     obtain ⟨G169,N,hn170,H⟩:=H.vz 8 rfl N (fun F hF b hb=>(List.mem_append.1 (show F∈[G167,G165,G163,zA,rF157]++Ns from hF)).elim (fun h=>(H.jJ (L:=[G167,G165,G163,zA,rF157]) [0,1,2,4,5]) F h b hb) fun h=>H.XI (K0.behind 6 rfl) F h b hb)
     try dsimp only [List.set] at H
     obtain ⟨G171,N,hn172,H⟩:=H.vz 9 rfl N (fun F hF b hb=>(List.mem_append.1 (show F∈[G169,G167,G165,G163,zA,rF157]++Ns from hF)).elim (fun h=>(H.jJ (L:=[G169,G167,G165,G163,zA,rF157]) [0,1,2,3,5,6]) F h b hb) fun h=>H.XI (K0.behind 7 rfl) F h b hb)
     try dsimp only [List.set] at H
     have H0:=H
     obtain ⟨G173,hg175,hn174,H⟩:=H.Q3 (α:=IntoD) 10 rfl 7 rfl qj
     replace N:Fresh W0.heap.size (G173 :: G171 :: G169 :: G167 :: G165 :: G163 :: zA :: Ns):=Fresh.ice (N.xH 7 [6,0,1,2,3,4,5] qo) H0 10 hg175.1 hg175.2 (fun F hF b hb=>(List.mem_append.1 (show F∈[G171,G169,G167,G165,G163,zA]++Ns from hF)).elim (fun h=>(H0.jJ (L:=[G171,G169,G167,G165,G163,zA]) [0,1,2,3,4,6]) F h b hb) fun h=>H0.XI (K0.behind 8 rfl) F h b hb)
     clear H0
     try dsimp only [List.set] at H
     refine zM H 4 rfl 0 rfl Tryz.underlying25 ti56 rfl qj rfl rfl rfl (by simp [Value.oneCell',Value.cells]) qp qf fun a160 c161 w162 H=>?_
     try dsimp only [List.set] at H
     replace H:=H.snoc_RuleD 7 rfl zi129 zi130 5 rfl 4 rfl 3 rfl 2 rfl 1 rfl 0 rfl zb137
     replace N:Fresh W0.heap.size ((zA++(G163++G165++G167++G169++G171++G173)) :: Ns):=(N.xH 7 [5,4,3,2,1,0,6] qo).join.join.join.join.join.swap.join
     refine ⟨H.pick [3,11] [8,7],(tF 6 rfl rfl (H.pick [3,11] [8,7]) ?_)⟩
     refine ro 7 rfl (xX H 2 [.int .i64 (1+zi9),Sv zS x9 zQ,Sv a160 (yt+1) c161] Tryz.sizeOf25 fun w176 H=>?_)
     try dsimp only [List.set] at H
     refine ⟨H.pick [3,11] [8,7],(xg qh ((meet ⟨_,zi127,zi129,zi130,zl131,zl132,zl133,zl134,zl135,zI136,zb137,zi128,a160,c161,ra138,rc140,ra141,rc143,ra144,rc146,ra147,rc149,ra150,rc152,ra153,rc155,G163,G165,G167,G169,G171,G173,uE4,hx125,hx126,N,H.xH 12 10 [1,2,3,4,11] [0,1,2,3,4,5,6,7] qo qo⟩)))⟩
    ·skip
     have f0:jO (⟨1+zi9,y_Parents,y_Rules⟩:qy):=frame_of i3 qf qf
     have H1:St W0 w88.drew ((.box bs [Sv ac code.length cc,.int .i64 s_at_1,.int .u64 s_seed_1] 127) :: (.box b12 [.int .i64 (1+zi9),Sv zS x9 zQ,Sv Qv yt Qs] 27) :: (rr zS x9 zQ 2 1 (y_Parents.map (Value.int .i64))) :: (rr Qv yt Qs 56 9 QY) :: (.box b1 [.int .i64 0,Sv none 0 0,Sv none 0 0] 27) :: ps) ((sF false Fc ac cc code) :: (qX true zA QY y_Rules) :: Γ):=H.xH 5 2 [1,2,3,0,4] [1,0] qo qo
     have N1:Fresh _ (zA :: Ns):=N
     have K1:Kept (Ns) (Γ):=K0.behind 0 rfl
     refine xR #[.pointer (some ⟨bs,0,none⟩),.pointer (some ⟨b12,0,none⟩)] rfl rfl Tryz.call144 (dRule_ok code s_at_1 s_seed_1 bs ac cc Fc (1+zi9) y_Parents y_Rules b12 zS x9 zQ Qv yt Qs QY zA H1 N1 K1 qg qg) ?_
     clear H H1 N1 K1
     rintro _ w177 ⟨zi181,zi182,zi183,zi184,zl185,zl186,zl187,zl188,zl189,zI190,zb191,ra192,rn193,rc194,ra195,rn196,rc197,ra198,rn199,rc200,ra201,rn202,rc203,ra204,rn205,rc206,ra207,rn208,rc209,rx210,rF211,hx179,hx180,rfl,N,H⟩
     obtain rfl:=H.vM 4 rfl
     obtain rfl:=H.vM 5 rfl
     obtain rfl:=H.vM 6 rfl
     obtain rfl:=H.vM 7 rfl
     obtain rfl:=H.vM 8 rfl
     obtain rfl:=H.zi (α:=IntoD) 9 rfl 2 rfl qj
     refine ⟨H.pick [2,10] [1,0],(zH [1,4] qh qm (vg rfl ?_ (vg rfl ?_ zI)))⟩
     ·skip
      refine zt (Sv Qv yt Qs) Tryz.isAgg25 rfl (H.cell 1 rfl rfl) (⟨H.pick [2,10] [1,0],(ro 4 rfl (zJ H Tryz.underlying25 ti56 [.int .i64 zi183,.int .i64 zi184,Sv ra192 zl185.length rc194,Sv ra195 zl186.length rc197,Sv ra198 zl187.length rc200,Sv ra201 zl188.length rc203,Sv ra204 zl189.length rc206,Sv ra207 zI190.length rc209,Bv zb191] fun b212 w213 H=>⟨H.pick [3,11] [1,0],(ro 5 rfl ?_)⟩))⟩)
      obtain ⟨G217,N,hn218,H⟩:=H.vz 5 rfl N (fun F hF b hb=>(List.mem_append.1 (show F∈[zA,rF211]++Ns from hF)).elim (fun h=>(H.jJ (L:=[zA,rF211]) [1,2]) F h b hb) fun h=>H.XI (K0.behind 3 rfl) F h b hb)
      try dsimp only [List.set] at H
      obtain ⟨G219,N,hn220,H⟩:=H.vz 6 rfl N (fun F hF b hb=>(List.mem_append.1 (show F∈[G217,zA,rF211]++Ns from hF)).elim (fun h=>(H.jJ (L:=[G217,zA,rF211]) [0,2,3]) F h b hb) fun h=>H.XI (K0.behind 4 rfl) F h b hb)
      try dsimp only [List.set] at H
      obtain ⟨G221,N,hn222,H⟩:=H.vz 7 rfl N (fun F hF b hb=>(List.mem_append.1 (show F∈[G219,G217,zA,rF211]++Ns from hF)).elim (fun h=>(H.jJ (L:=[G219,G217,zA,rF211]) [0,1,3,4]) F h b hb) fun h=>H.XI (K0.behind 5 rfl) F h b hb)
      try dsimp only [List.set] at H
      obtain ⟨G223,N,hn224,H⟩:=H.vz 8 rfl N (fun F hF b hb=>(List.mem_append.1 (show F∈[G221,G219,G217,zA,rF211]++Ns from hF)).elim (fun h=>(H.jJ (L:=[G221,G219,G217,zA,rF211]) [0,1,2,4,5]) F h b hb) fun h=>H.XI (K0.behind 6 rfl) F h b hb)
      try dsimp only [List.set] at H
      obtain ⟨G225,N,hn226,H⟩:=H.vz 9 rfl N (fun F hF b hb=>(List.mem_append.1 (show F∈[G223,G221,G219,G217,zA,rF211]++Ns from hF)).elim (fun h=>(H.jJ (L:=[G223,G221,G219,G217,zA,rF211]) [0,1,2,3,5,6]) F h b hb) fun h=>H.XI (K0.behind 7 rfl) F h b hb)
      try dsimp only [List.set] at H
      have H0:=H
      obtain ⟨G227,hg229,hn228,H⟩:=H.Q3 (α:=IntoD) 10 rfl 7 rfl qj
      replace N:Fresh W0.heap.size (G227 :: G225 :: G223 :: G221 :: G219 :: G217 :: zA :: Ns):=Fresh.ice (N.xH 7 [6,0,1,2,3,4,5] qo) H0 10 hg229.1 hg229.2 (fun F hF b hb=>(List.mem_append.1 (show F∈[G225,G223,G221,G219,G217,zA]++Ns from hF)).elim (fun h=>(H0.jJ (L:=[G225,G223,G221,G219,G217,zA]) [0,1,2,3,4,6]) F h b hb) fun h=>H0.XI (K0.behind 8 rfl) F h b hb)
      clear H0
      try dsimp only [List.set] at H
      refine zM H 4 rfl 0 rfl Tryz.underlying25 ti56 rfl qj rfl rfl rfl (by simp [Value.oneCell',Value.cells]) qp qf fun a214 c215 w216 H=>?_
      try dsimp only [List.set] at H
      replace H:=H.snoc_RuleD 7 rfl zi183 zi184 5 rfl 4 rfl 3 rfl 2 rfl 1 rfl 0 rfl zb191
      replace N:Fresh W0.heap.size ((zA++(G217++G219++G221++G223++G225++G227)) :: Ns):=(N.xH 7 [5,4,3,2,1,0,6] qo).join.join.join.join.join.swap.join
      refine ⟨H.pick [3,11] [8,7],(tF 6 rfl rfl (H.pick [3,11] [8,7]) ?_)⟩
      refine ro 7 rfl (xX H 2 [.int .i64 (1+zi9),Sv zS x9 zQ,Sv a214 (yt+1) c215] Tryz.sizeOf25 fun w230 H=>?_)
      try dsimp only [List.set] at H
      refine ⟨H.pick [3,11] [8,7],(xg qh ((meet ⟨_,zi181,zi183,zi184,zl185,zl186,zl187,zl188,zl189,zI190,zb191,zi182,a214,c215,ra192,rc194,ra195,rc197,ra198,rc200,ra201,rc203,ra204,rc206,ra207,rc209,G217,G219,G221,G223,G225,G227,uE4,hx179,hx180,N,H.xH 12 10 [1,2,3,4,11] [0,1,2,3,4,5,6,7] qo qo⟩)))⟩
     ·skip
      refine zJ H Tryz.underlying25 ti56 [.int .i64 zi183,.int .i64 zi184,Sv ra192 zl185.length rc194,Sv ra195 zl186.length rc197,Sv ra198 zl187.length rc200,Sv ra201 zl188.length rc203,Sv ra204 zl189.length rc206,Sv ra207 zI190.length rc209,Bv zb191] fun b231 w232 H=>⟨H.pick [3,11] [1,0],(ro 1 rfl (zt (Sv Qv yt Qs) Tryz.isAgg25 rfl (H.cell 2 rfl rfl) (⟨H.pick [3,11] [1,0],(ro 5 rfl ?_)⟩)))⟩
      obtain ⟨G236,N,hn237,H⟩:=H.vz 5 rfl N (fun F hF b hb=>(List.mem_append.1 (show F∈[zA,rF211]++Ns from hF)).elim (fun h=>(H.jJ (L:=[zA,rF211]) [1,2]) F h b hb) fun h=>H.XI (K0.behind 3 rfl) F h b hb)
      try dsimp only [List.set] at H
      obtain ⟨G238,N,hn239,H⟩:=H.vz 6 rfl N (fun F hF b hb=>(List.mem_append.1 (show F∈[G236,zA,rF211]++Ns from hF)).elim (fun h=>(H.jJ (L:=[G236,zA,rF211]) [0,2,3]) F h b hb) fun h=>H.XI (K0.behind 4 rfl) F h b hb)
      try dsimp only [List.set] at H
      obtain ⟨G240,N,hn241,H⟩:=H.vz 7 rfl N (fun F hF b hb=>(List.mem_append.1 (show F∈[G238,G236,zA,rF211]++Ns from hF)).elim (fun h=>(H.jJ (L:=[G238,G236,zA,rF211]) [0,1,3,4]) F h b hb) fun h=>H.XI (K0.behind 5 rfl) F h b hb)
      try dsimp only [List.set] at H
      obtain ⟨G242,N,hn243,H⟩:=H.vz 8 rfl N (fun F hF b hb=>(List.mem_append.1 (show F∈[G240,G238,G236,zA,rF211]++Ns from hF)).elim (fun h=>(H.jJ (L:=[G240,G238,G236,zA,rF211]) [0,1,2,4,5]) F h b hb) fun h=>H.XI (K0.behind 6 rfl) F h b hb)
      try dsimp only [List.set] at H
      obtain ⟨G244,N,hn245,H⟩:=H.vz 9 rfl N (fun F hF b hb=>(List.mem_append.1 (show F∈[G242,G240,G238,G236,zA,rF211]++Ns from hF)).elim (fun h=>(H.jJ (L:=[G242,G240,G238,G236,zA,rF211]) [0,1,2,3,5,6]) F h b hb) fun h=>H.XI (K0.behind 7 rfl) F h b hb)
      try dsimp only [List.set] at H
      have H0:=H
      obtain ⟨G246,hg248,hn247,H⟩:=H.Q3 (α:=IntoD) 10 rfl 7 rfl qj
      replace N:Fresh W0.heap.size (G246 :: G244 :: G242 :: G240 :: G238 :: G236 :: zA :: Ns):=Fresh.ice (N.xH 7 [6,0,1,2,3,4,5] qo) H0 10 hg248.1 hg248.2 (fun F hF b hb=>(List.mem_append.1 (show F∈[G244,G242,G240,G238,G236,zA]++Ns from hF)).elim (fun h=>(H0.jJ (L:=[G244,G242,G240,G238,G236,zA]) [0,1,2,3,4,6]) F h b hb) fun h=>H0.XI (K0.behind 8 rfl) F h b hb)
      clear H0
      try dsimp only [List.set] at H
      refine zM H 4 rfl 0 rfl Tryz.underlying25 ti56 rfl qj rfl rfl rfl (by simp [Value.oneCell',Value.cells]) qp qf fun a233 c234 w235 H=>?_
      try dsimp only [List.set] at H
      replace H:=H.snoc_RuleD 7 rfl zi183 zi184 5 rfl 4 rfl 3 rfl 2 rfl 1 rfl 0 rfl zb191
      replace N:Fresh W0.heap.size ((zA++(G236++G238++G240++G242++G244++G246)) :: Ns):=(N.xH 7 [5,4,3,2,1,0,6] qo).join.join.join.join.join.swap.join
      refine ⟨H.pick [3,11] [8,7],(tF 6 rfl rfl (H.pick [3,11] [8,7]) ?_)⟩
      refine ro 7 rfl (xX H 2 [.int .i64 (1+zi9),Sv zS x9 zQ,Sv a233 (yt+1) c234] Tryz.sizeOf25 fun w249 H=>?_)
      try dsimp only [List.set] at H
      refine ⟨H.pick [3,11] [8,7],(xg qh ((meet ⟨_,zi181,zi183,zi184,zl185,zl186,zl187,zl188,zl189,zI190,zb191,zi182,a233,c234,ra192,rc194,ra195,rc197,ra198,rc200,ra201,rc203,ra204,rc206,ra207,rc209,G236,G238,G240,G242,G244,G246,uE4,hx179,hx180,N,H.xH 12 10 [1,2,3,4,11] [0,1,2,3,4,5,6,7] qo qo⟩)))⟩
   ·skip
    clear H N
    rintro ρ w250 ⟨zl,zi90,zi91,zi92,zl93,zl94,zl95,zl96,zl97,zI98,zb99,zi100,a101,c102,ra103,rc104,ra105,rc106,ra107,rc108,ra109,rc110,ra111,rc112,ra113,rc114,G115,G116,G117,G118,G119,G120,rfl,hx251,hx252,N,H⟩
    refine b_n (t_n (zn (sp (.int .i64 k) (sw (o_sub k 1 rfl rfl qf (sp (.int .i64 (k - 1)) (zo ?_)))))))
    refine xm (m' :=(k - 1).toNat) qf ⟨_,k - 1,zi90,zi100,a101,yt+1,c102,(y_Rules++[(⟨zi91,zi92,zl93,zl94,zl95,zl96,zl97,zI98,zb99⟩:jy)]),(QY++[Value.int .i64 zi91,Value.int .i64 zi92,Value.slice ra103 zl93.length rc104,Value.slice ra105 zl94.length rc106,Value.slice ra107 zl95.length rc108,Value.slice ra109 zl96.length rc110,Value.slice ra111 zl97.length rc112,Value.slice ra113 zI98.length rc114,Value.bool zb99]:List Value),(zA++(G115++G116++G117++G118++G119++G120)),uE4,?_,?_,?_,rfl,N,H.xH 5 8 [3,0,1,2,4] [0,7] qo qo⟩
    · omega
    · simp;omega
    · exact j3.snoc ql
  ·skip
   refine zx4 (zcr (sw (zB [.int .i64 (1+zi9),Sv zS x9 zQ,Sv Qv yt Qs] Tryz.isAgg27 Tryz.sizeOf27 rfl (qJ (H.cells 2 rfl) 0 3) (sw (xu H 4 [.int .i64 (1+zi9),Sv zS x9 zQ,Sv Qv yt Qs] Tryz.sizeOf27 fun w253 H=>?_)))))
   try dsimp only [List.set] at H
   refine zjr (retC H 4 rfl rfl Tryz.isAgg27 Tryz.sizeOf27 rfl ⟨_,rfl,(⟨s_at_1,s_seed_1,1+zi9,y_Parents,y_Rules,zS,x9,zQ,Qv,yt,Qs,QY,zA,qf,(by exact sysDr_of i3 qf qf qf j3),rfl,N,H.xH 5 2 [1,3,0] [1,0] qo qo⟩)⟩)

theorem dState_ok {W0 w:World} {ps:List Prv} {Γ:List Fact} {Ns:List yLN} (code:List UInt8) (ip:Int) (sd:Int) (bs:Nat) (ac:yOA) (cc:Nat) (Fc:yLN) (kk:Int) (par:yLI) (rules:List jy) (bY:Nat) (rap:yOA) (rnp:Nat) (rcp:Nat) (raR:yOA) (rnR:Nat) (rcR:Nat) (rxR:List Value) (rFR:yLN) (frR:Bool) (most:Int) (H:St W0 w ((.box bs [Sv ac code.length cc,.int .i64 ip,.int .u64 sd] 127) :: (.box bY [.int .i64 kk,Sv rap rnp rcp,Sv raR rnR rcR] 27) :: (rr rap rnp rcp 2 1 (par.map (Value.int .i64))) :: (rr raR rnR rcR 56 9 rxR) :: ps) ((sF false Fc ac cc code) :: (qX frR rFR rxR rules) :: Γ)) (N:Fresh W0.heap.size (Ns)) (K0:Kept Ns Γ) (q0:0≤ip∧ip≤40000) (f0:jO (⟨kk,par,rules⟩:qy)) (q2:1≤most∧most≤6):Calls Tryz.prog 79 #[.pointer (some ⟨bs,0,none⟩),.pointer (some ⟨bY,0,none⟩),.int .i64 most] w (fun e w' =>∃ v,e=.returned v∧∃ (ip_:Int) (sd_:Int) (alive_:List Bool) (bags_:yLL) (around_:yLI) (raA:yOA) (rnA:Nat) (rcA:Nat) (raB:yOA) (rnB:Nat) (rcB:Nat) (rxB:List Value) (rFB:yLN) (raD:yOA) (rnD:Nat) (rcD:Nat),(ip≤ip_∧ip_≤ip+200)∧(StDr kk par.length most alive_ bags_ around_)∧v=.agg #[Sv raA rnA rcA,Sv raB rnB rcB,Sv raD rnD rcD]∧Fresh W0.heap.size (rFB :: Ns)∧St W0 w' ((.box bs [Sv ac code.length cc,.int .i64 ip_,.int .u64 sd_] 127) :: (.box bY [.int .i64 kk,Sv rap rnp rcp,Sv raR rnR rcR] 27) :: (rr rap rnp rcp 2 1 (par.map (Value.int .i64))) :: (rr raR rnR rcR 56 9 rxR) :: (rr raA rnA rcA 4 1 (alive_.map (Value.bool))) :: (rr raB rnB rcB 24 1 rxB) :: (rr raD rnD rcD 2 1 (around_.map (Value.int .i64))) :: ps) ((sF false Fc ac cc code) :: (qX frR rFR rxR rules) :: (qX true rFB rxB bags_) :: Γ)):=by
 refine en Tryz.func79 Tryz.ntmps79 ?_
 have ncode:=qQ (H.get 0 rfl).1
 obtain rfl:=H.vM 2 rfl
 obtain rfl:=H.zi (α:=jy) 3 rfl 1 rfl qj
 have f1:1≤kk∧kk≤8:=f0.1
 have f2:1≤par.length∧par.length≤6:=f0.2.1
 refine zcr (sw (xx H ti31 [Sv none 0 0,Sv none 0 0,Sv none 0 0] fun b1 w2 H=>zjc (sps [.pointer (some ⟨bY,0,none⟩),.pointer (some ⟨bY,0,none⟩)] (oF rfl (oL rfl (H.cell 2 rfl rfl) (sw (zf H Tryz.underlying24 ti2 kk.toNat rfl rfl qf qf qf fun b3 w4 H=>sw (xP [Sv none 0 0,Sv none 0 0,Sv (some ⟨b3,0,none⟩) kk.toNat kk.toNat] [(2,Sv (some ⟨b3,0,none⟩) kk.toNat kk.toNat)] (sw (xx H ti31 [Sv none 0 0,Sv none 0 0,Sv none 0 0] fun b5 w6 H=>?_))))))))))
 refine sw (xu H 0 [Sv none 0 0,Sv none 0 0,Sv (some ⟨b3,0,none⟩) kk.toNat kk.toNat] Tryz.sizeOf31 fun w7 H=>?_)
 try dsimp only [List.set] at H
 refine zjcc (sp (.int .i64 0) (zjn (qZ ?_)))
 replace H:=H.nilRowB 4
 replace H:=H.nilRow 24 1
 replace H:=H.jD (α:=yLI)
 refine zU (fun m' ρ w8=>∃ (zl:Env) (c:Nat) (s_at:Int) (s_seed:Int) (yH:yOA) (jf:Nat) (yE:Nat) (t_Alive:List Bool) (yU:yOA) (jW:Nat) (yR:Nat) (t_Bags:yLL) (yL:List Value) (jb:yLN),ρ=upd (upd (upd (upd (upd (upd zl 0 (.pointer (some ⟨bs,0,none⟩))) 1 (.pointer (some ⟨bY,0,none⟩))) 2 (.int .i64 most)) 6 (.pointer (some ⟨b1,0,none⟩))) 7 (.pointer (some ⟨b5,0,none⟩))) 8 (.int .i64 c)∧((c:Int)≤par.length)∧(ip≤s_at∧s_at≤ip+22 * c)∧(StTo kk most c t_Alive t_Bags)∧m' =(par.length - (c:Int)).toNat∧Fresh W0.heap.size (jb :: Ns)∧St W0 w8 ((rr yU jW yR 24 1 yL) :: (rr yH jf yE 4 1 (t_Alive.map (Value.bool))) :: (.box b5 [Sv yH jf yE,Sv yU jW yR,Sv (some ⟨b3,0,none⟩) kk.toNat kk.toNat] 31) :: (rr (some ⟨b3,0,none⟩) kk.toNat kk.toNat 2 1 ((List.replicate kk.toNat (0:Int)).map (Value.int .i64))) :: (.box b1 [Sv none 0 0,Sv none 0 0,Sv none 0 0] 31) :: (.box bs [Sv ac code.length cc,.int .i64 s_at,.int .u64 s_seed] 127) :: (.box bY [.int .i64 kk,Sv rap par.length rcp,Sv raR rules.length rcR] 27) :: (rr rap par.length rcp 2 1 (par.map (Value.int .i64))) :: (rr raR rules.length rcR 56 9 rxR) :: ps) ((qX true jb yL t_Bags) :: (sF false Fc ac cc code) :: (qX frR rFR rxR rules) :: Γ)) ((par.length - (0:Int)).toNat) ⟨_,0,ip,sd,none,0,0,[],none,0,0,([]:yLL),[],[],uE6,qf,qf,(by exact StTo.nil _ _),rfl,N.emp,H⟩ ?_
 clear H N
 rintro m' ρ w9 ⟨zl,c,s_at,s_seed,yH,jf,yE,t_Alive,yU,jW,yR,t_Bags,yL,jb,rfl,i0,i1,i2,rfl,N,H⟩
 have hn_t_Alive:=H.rowNB 1 rfl
 have hn_t_Bags:=H.zi (α:=yLI) 0 rfl 0 rfl qj
 have i3:=i2.la
 have i4:=i2.lb
 refine zcc (sps [.int .i64 c,.pointer (some ⟨bY,0,none⟩),.pointer (some ⟨bY,0,none⟩)] (oF rfl (oL rfl (H.cell 6 rfl rfl) (oN rfl (sp (Bv (decide ((c:Int) < par.length))) (zjn (cD rfl (fun h10=>?_) (fun h10=>?_))))))))
 ·skip
  refine xe (t_n (zg (qZ (zcr (sps [.int .i64 c,Bv ((c:Int) == 0),Bv ((c:Int) == 0)] ?_)))))
  cases h11:((c:Int) == 0)
  ·skip
   replace h11:=ne_of_beq_false h11
   refine qL 28 rfl rfl (sp (.pointer (some ⟨bs,0,none⟩)) (qL 28 rfl rfl ?_))
   have H1:St W0 w9 ((.box bs [Sv ac code.length cc,.int .i64 s_at,.int .u64 s_seed] 127) :: (rr yU jW yR 24 1 yL) :: (rr yH jf yE 4 1 (t_Alive.map (Value.bool))) :: (.box b5 [Sv yH jf yE,Sv yU jW yR,Sv (some ⟨b3,0,none⟩) kk.toNat kk.toNat] 31) :: (rr (some ⟨b3,0,none⟩) kk.toNat kk.toNat 2 1 ((List.replicate kk.toNat (0:Int)).map (Value.int .i64))) :: (.box b1 [Sv none 0 0,Sv none 0 0,Sv none 0 0] 31) :: (.box bY [.int .i64 kk,Sv rap par.length rcp,Sv raR rules.length rcR] 27) :: (rr rap par.length rcp 2 1 (par.map (Value.int .i64))) :: (rr raR rules.length rcR 56 9 rxR) :: ps) ((sF false Fc ac cc code) :: (qX true jb yL t_Bags) :: (qX frR rFR rxR rules) :: Γ):=H.xH 9 3 [5,0,1,2,3,4,6,7,8] [1,0,2] qo qo
   have N1:Fresh _ (jb :: Ns):=N
   have K1:Kept (Ns) ((qX true jb yL t_Bags) :: (qX frR rFR rxR rules) :: Γ):=K0.behind 2 rfl
   replace K1:=K1.cons (F:=jb) 0 rfl rfl
   refine sw (xR #[.pointer (some ⟨bs,0,none⟩),.int .i64 8] rfl rfl Tryz.call66 (dOne_ok code s_at s_seed bs ac cc Fc (8:Int) H1 N1 K1 qg) ?_)
   clear H H1 N1 K1
   rintro _ w12 ⟨zi15,zi16,zb17,hx14,rfl,N,H⟩
   refine qL 28 rfl rfl (sps [Bv !zb17,Bv !zb17,Bv !zb17] (zjc (sps [.pointer (some ⟨bY,0,none⟩),.pointer (some ⟨bY,0,none⟩)] (oF rfl (oL rfl (H.cell 6 rfl rfl) (sw (zf H Tryz.underlying24 ti2 kk.toNat rfl rfl qf qf qf fun b18 w19 H=>sp (Sv (some ⟨b18,0,none⟩) kk.toNat kk.toNat) (zjcc (sp (Bv !zb17) (zjn (xI (!zb17) rfl (fun h20=>?_) (fun h20=>?_))))))))))))
   ·skip
    replace h20:=xC h20
    refine zn (sps [.pointer (some ⟨bs,0,none⟩),.pointer (some ⟨bY,0,none⟩),.pointer (some ⟨bY,0,none⟩)] (oF rfl (oL rfl (H.cell 7 rfl rfl) (sp (.int .i64 most) ?_))))
    have H1:St W0 w19 ((.box bs [Sv ac code.length cc,.int .i64 zi15,.int .u64 zi16] 127) :: (rr (some ⟨b18,0,none⟩) kk.toNat kk.toNat 2 1 ((List.replicate kk.toNat (0:Int)).map (Value.int .i64))) :: (rr yU jW yR 24 1 yL) :: (rr yH jf yE 4 1 (t_Alive.map (Value.bool))) :: (.box b5 [Sv yH jf yE,Sv yU jW yR,Sv (some ⟨b3,0,none⟩) kk.toNat kk.toNat] 31) :: (rr (some ⟨b3,0,none⟩) kk.toNat kk.toNat 2 1 ((List.replicate kk.toNat (0:Int)).map (Value.int .i64))) :: (.box b1 [Sv none 0 0,Sv none 0 0,Sv none 0 0] 31) :: (.box bY [.int .i64 kk,Sv rap par.length rcp,Sv raR rules.length rcR] 27) :: (rr rap par.length rcp 2 1 (par.map (Value.int .i64))) :: (rr raR rules.length rcR 56 9 rxR) :: ps) ((sF false Fc ac cc code) :: (qX true jb yL t_Bags) :: (qX frR rFR rxR rules) :: Γ):=H.xH 10 3 [1,0,2,3,4,5,6,7,8,9] [0,1,2] qo qo
    have N1:Fresh _ (jb :: Ns):=N
    have K1:Kept (Ns) ((qX true jb yL t_Bags) :: (qX frR rFR rxR rules) :: Γ):=K0.behind 2 rfl
    replace K1:=K1.cons (F:=jb) 0 rfl rfl
    refine sw (xR #[.pointer (some ⟨bs,0,none⟩),.int .i64 kk,.int .i64 most] rfl rfl Tryz.call145 (dFew_ok code zi15 zi16 bs ac cc Fc kk most H1 N1 K1 qg qg qg) ?_)
    clear H H1 N1 K1
    rintro _ w21 ⟨zi25,zi26,zl27,ra28,rn29,rc30,hx23,hx24,rfl,N,H⟩
    obtain rfl:=H.vM 1 rfl
    refine sp (Sv ra28 zl27.length rc30) (zjc (oF rfl (oL rfl (H.cell 5 rfl rfl) (sp (Bv !zb17) (sw (zJ H Tryz.underlying28 ti4 [Bv !zb17] fun b31 w32 H=>sw (zM H 5 rfl 0 rfl Tryz.underlying28 ti4 rfl qj rfl rfl rfl (by simp [Value.oneCell',Value.cells]) qp qf fun a33 c34 w35 H=>?_)))))))
    rw [snocB] at H
    try dsimp only [List.set] at H
    refine oF rfl (sw (xX H 6 [Sv a33 (jf+1) c34,Sv yU jW yR,Sv (some ⟨b3,0,none⟩) kk.toNat kk.toNat] Tryz.sizeOf28 fun w36 H=>?_))
    try dsimp only [List.set] at H
    refine zjn (zn (oF rfl (oL rfl (H.cell 6 rfl rfl) (sp (Sv ra28 zl27.length rc30) (sw (zJ H Tryz.underlying29 ti24 [Sv ra28 zl27.length rc30] fun b37 w38 H=>?_))))))
    obtain ⟨G42,N,hn43,H⟩:=H.vz 3 rfl N (fun F hF b hb=>(List.mem_append.1 (show F∈[jb]++Ns from hF)).elim (fun h=>(H.jJ (L:=[jb]) [1]) F h b hb) fun h=>H.XI (K0.behind 3 rfl) F h b hb)
    try dsimp only [List.set] at H
    refine sw (zM H 5 rfl 0 rfl Tryz.underlying29 ti24 rfl qj rfl rfl rfl (by simp [Value.oneCell',Value.cells]) qp qf fun a39 c40 w41 H=>?_)
    try dsimp only [List.set] at H
    replace H:=H.y5 2 rfl 0 rfl
    replace N:Fresh W0.heap.size ((jb++G42) :: Ns):=(N.xH 2 [1,0] qo).join
    refine oF rfl (sw (xX H 7 [Sv a33 (jf+1) c34,Sv a39 (jW+1) c40,Sv (some ⟨b3,0,none⟩) kk.toNat kk.toNat] Tryz.sizeOf29 fun w44 H=>?_))
    try dsimp only [List.set] at H
    refine zo (b_n (t_n (zn (sp (.int .i64 c) (sw (zN c 1 rfl rfl qf (sp (.int .i64 (c+1)) (zo (xm (m' :=(par.length - ((c+1):Int)).toNat) qf ⟨_,c+1,zi25,zi26,a33,jf+1,c34,(t_Alive++[!zb17]),a39,jW+1,c40,(t_Bags++[zl27]),(yL++[Value.slice ra28 zl27.length rc30]:List Value),(jb++G42),uE6,?_,?_,?_,rfl,N,H.xH 13 5 [5,6,7,8,9,2,10,11,12] [0,2,4] qo qo⟩)))))))))
    · omega
    · omega
    · first | exact i2.snoc (fun _=>rfl) ql (fun h=>by cases h) | exact i2.snoc (fun h=>by omega) ql (fun h=>by simp_all) | exact i2.snoc (fun h=>by omega) (vJ.zero qf qf) (fun _=>sum_zeros _)
   ·skip
    replace h20:=xw h20
    refine xe (t_n (zcr (oF rfl (oL rfl (H.cell 4 rfl rfl) (sp (Bv !zb17) (sw (zJ H Tryz.underlying28 ti4 [Bv !zb17] fun b45 w46 H=>sw (zM H 4 rfl 0 rfl Tryz.underlying28 ti4 rfl qj rfl rfl rfl (by simp [Value.oneCell',Value.cells]) qp qf fun a47 c48 w49 H=>?_))))))))
    rw [snocB] at H
    try dsimp only [List.set] at H
    refine oF rfl (sw (xX H 5 [Sv a47 (jf+1) c48,Sv yU jW yR,Sv (some ⟨b3,0,none⟩) kk.toNat kk.toNat] Tryz.sizeOf28 fun w50 H=>?_))
    try dsimp only [List.set] at H
    refine zjn (zn (oF rfl (oL rfl (H.cell 5 rfl rfl) (sp (Sv (some ⟨b18,0,none⟩) kk.toNat kk.toNat) (sw (zJ H Tryz.underlying29 ti24 [Sv (some ⟨b18,0,none⟩) kk.toNat kk.toNat] fun b51 w52 H=>?_))))))
    obtain ⟨G56,N,hn57,H⟩:=H.vz 2 rfl N (fun F hF b hb=>(List.mem_append.1 (show F∈[jb]++Ns from hF)).elim (fun h=>(H.jJ (L:=[jb]) [1]) F h b hb) fun h=>H.XI (K0.behind 3 rfl) F h b hb)
    try dsimp only [List.set] at H
    refine sw (zM H 4 rfl 0 rfl Tryz.underlying29 ti24 rfl qj rfl rfl rfl (by simp [Value.oneCell',Value.cells]) qp qf fun a53 c54 w55 H=>?_)
    try dsimp only [List.set] at H
    replace H:=H.y5 2 rfl 0 rfl
    replace N:Fresh W0.heap.size ((jb++G56) :: Ns):=(N.xH 2 [1,0] qo).join
    refine oF rfl (sw (xX H 6 [Sv a47 (jf+1) c48,Sv a53 (jW+1) c54,Sv (some ⟨b3,0,none⟩) kk.toNat kk.toNat] Tryz.sizeOf29 fun w58 H=>?_))
    try dsimp only [List.set] at H
    refine zo (b_n (t_n (zn (sp (.int .i64 c) (sw (zN c 1 rfl rfl qf (sp (.int .i64 (c+1)) (zo (xm (m' :=(par.length - ((c+1):Int)).toNat) qf ⟨_,c+1,zi15,zi16,a47,jf+1,c48,(t_Alive++[!zb17]),a53,jW+1,c54,(t_Bags++[(List.replicate kk.toNat (0:Int))]),(yL++[Value.slice (some ⟨b18,0,none⟩) kk.toNat kk.toNat]:List Value),(jb++G56),uE6,?_,?_,?_,rfl,N,H.xH 12 5 [4,5,6,7,8,3,9,10,11] [0,2,4] qo qo⟩)))))))))
    · omega
    · omega
    · first | exact i2.snoc (fun _=>rfl) ql (fun h=>by cases h) | exact i2.snoc (fun h=>by omega) ql (fun h=>by simp_all) | exact i2.snoc (fun h=>by omega) (vJ.zero qf qf) (fun _=>sum_zeros _)
  ·skip
   replace h11:=eq_of_beq h11
   refine xU [29,30,31] (sps [Bv true,Bv true] (zjc (sps [.pointer (some ⟨bY,0,none⟩),.pointer (some ⟨bY,0,none⟩)] (oF rfl (oL rfl (H.cell 6 rfl rfl) (sw (zf H Tryz.underlying24 ti2 kk.toNat rfl rfl qf qf qf fun b59 w60 H=>sp (Sv (some ⟨b59,0,none⟩) kk.toNat kk.toNat) (zjcc (sp (Bv true) (zjn (xI true rfl (fun _=>zn (sps [.pointer (some ⟨bs,0,none⟩),.pointer (some ⟨bY,0,none⟩),.pointer (some ⟨bY,0,none⟩)] (oF rfl (oL rfl (H.cell 7 rfl rfl) (sp (.int .i64 most) ?_))))) (fun h=>absurd h qj))))))))))))
   have H1:St W0 w60 ((.box bs [Sv ac code.length cc,.int .i64 s_at,.int .u64 s_seed] 127) :: (rr (some ⟨b59,0,none⟩) kk.toNat kk.toNat 2 1 ((List.replicate kk.toNat (0:Int)).map (Value.int .i64))) :: (rr yU jW yR 24 1 yL) :: (rr yH jf yE 4 1 (t_Alive.map (Value.bool))) :: (.box b5 [Sv yH jf yE,Sv yU jW yR,Sv (some ⟨b3,0,none⟩) kk.toNat kk.toNat] 31) :: (rr (some ⟨b3,0,none⟩) kk.toNat kk.toNat 2 1 ((List.replicate kk.toNat (0:Int)).map (Value.int .i64))) :: (.box b1 [Sv none 0 0,Sv none 0 0,Sv none 0 0] 31) :: (.box bY [.int .i64 kk,Sv rap par.length rcp,Sv raR rules.length rcR] 27) :: (rr rap par.length rcp 2 1 (par.map (Value.int .i64))) :: (rr raR rules.length rcR 56 9 rxR) :: ps) ((sF false Fc ac cc code) :: (qX true jb yL t_Bags) :: (qX frR rFR rxR rules) :: Γ):=H.xH 10 3 [6,0,1,2,3,4,5,7,8,9] [1,0,2] qo qo
   have N1:Fresh _ (jb :: Ns):=N
   have K1:Kept (Ns) ((qX true jb yL t_Bags) :: (qX frR rFR rxR rules) :: Γ):=K0.behind 2 rfl
   replace K1:=K1.cons (F:=jb) 0 rfl rfl
   refine sw (xR #[.pointer (some ⟨bs,0,none⟩),.int .i64 kk,.int .i64 most] rfl rfl Tryz.call145 (dFew_ok code s_at s_seed bs ac cc Fc kk most H1 N1 K1 qg qg qg) ?_)
   clear H H1 N1 K1
   rintro _ w61 ⟨zi65,zi66,zl67,ra68,rn69,rc70,hx63,hx64,rfl,N,H⟩
   obtain rfl:=H.vM 1 rfl
   refine sp (Sv ra68 zl67.length rc70) (zjc (oF rfl (oL rfl (H.cell 5 rfl rfl) (sp (Bv true) (sw (zJ H Tryz.underlying28 ti4 [Bv true] fun b71 w72 H=>sw (zM H 5 rfl 0 rfl Tryz.underlying28 ti4 rfl qj rfl rfl rfl (by simp [Value.oneCell',Value.cells]) qp qf fun a73 c74 w75 H=>?_)))))))
   rw [snocB] at H
   try dsimp only [List.set] at H
   refine oF rfl (sw (xX H 6 [Sv a73 (jf+1) c74,Sv yU jW yR,Sv (some ⟨b3,0,none⟩) kk.toNat kk.toNat] Tryz.sizeOf28 fun w76 H=>?_))
   try dsimp only [List.set] at H
   refine zjn (zn (oF rfl (oL rfl (H.cell 6 rfl rfl) (sp (Sv ra68 zl67.length rc70) (sw (zJ H Tryz.underlying29 ti24 [Sv ra68 zl67.length rc70] fun b77 w78 H=>?_))))))
   obtain ⟨G82,N,hn83,H⟩:=H.vz 3 rfl N (fun F hF b hb=>(List.mem_append.1 (show F∈[jb]++Ns from hF)).elim (fun h=>(H.jJ (L:=[jb]) [1]) F h b hb) fun h=>H.XI (K0.behind 3 rfl) F h b hb)
   try dsimp only [List.set] at H
   refine sw (zM H 5 rfl 0 rfl Tryz.underlying29 ti24 rfl qj rfl rfl rfl (by simp [Value.oneCell',Value.cells]) qp qf fun a79 c80 w81 H=>?_)
   try dsimp only [List.set] at H
   replace H:=H.y5 2 rfl 0 rfl
   replace N:Fresh W0.heap.size ((jb++G82) :: Ns):=(N.xH 2 [1,0] qo).join
   refine oF rfl (sw (xX H 7 [Sv a73 (jf+1) c74,Sv a79 (jW+1) c80,Sv (some ⟨b3,0,none⟩) kk.toNat kk.toNat] Tryz.sizeOf29 fun w84 H=>?_))
   try dsimp only [List.set] at H
   refine zo (b_n (t_n (zn (sp (.int .i64 c) (sw (zN c 1 rfl rfl qf (sp (.int .i64 (c+1)) (zo (xm (m' :=(par.length - ((c+1):Int)).toNat) qf ⟨_,c+1,zi65,zi66,a73,jf+1,c74,(t_Alive++[true]),a79,jW+1,c80,(t_Bags++[zl67]),(yL++[Value.slice ra68 zl67.length rc70]:List Value),(jb++G82),uE6,?_,?_,?_,rfl,N,H.xH 13 5 [5,6,7,8,9,2,10,11,12] [0,2,4] qo qo⟩)))))))))
   · omega
   · omega
   · first | exact i2.snoc (fun _=>rfl) ql (fun h=>by cases h) | exact i2.snoc (fun h=>by omega) ql (fun h=>by simp_all) | exact i2.snoc (fun h=>by omega) (vJ.zero qf qf) (fun _=>sum_zeros _)
 ·skip
  refine zx4 (zcc (sp (.pointer (some ⟨bs,0,none⟩)) ?_))
  have H1:St W0 w9 ((.box bs [Sv ac code.length cc,.int .i64 s_at,.int .u64 s_seed] 127) :: (rr yU jW yR 24 1 yL) :: (rr yH jf yE 4 1 (t_Alive.map (Value.bool))) :: (.box b5 [Sv yH jf yE,Sv yU jW yR,Sv (some ⟨b3,0,none⟩) kk.toNat kk.toNat] 31) :: (rr (some ⟨b3,0,none⟩) kk.toNat kk.toNat 2 1 ((List.replicate kk.toNat (0:Int)).map (Value.int .i64))) :: (.box b1 [Sv none 0 0,Sv none 0 0,Sv none 0 0] 31) :: (.box bY [.int .i64 kk,Sv rap par.length rcp,Sv raR rules.length rcR] 27) :: (rr rap par.length rcp 2 1 (par.map (Value.int .i64))) :: (rr raR rules.length rcR 56 9 rxR) :: ps) ((sF false Fc ac cc code) :: (qX true jb yL t_Bags) :: (qX frR rFR rxR rules) :: Γ):=H.xH 9 3 [5,0,1,2,3,4,6,7,8] [1,0,2] qo qo
  have N1:Fresh _ (jb :: Ns):=N
  have K1:Kept (Ns) ((qX true jb yL t_Bags) :: (qX frR rFR rxR rules) :: Γ):=K0.behind 2 rfl
  replace K1:=K1.cons (F:=jb) 0 rfl rfl
  refine sw (xR #[.pointer (some ⟨bs,0,none⟩),.int .i64 3] rfl rfl Tryz.call66 (dOne_ok code s_at s_seed bs ac cc Fc (3:Int) H1 N1 K1 qg) ?_)
  clear H H1 N1 K1
  rintro _ w85 ⟨zi88,zi89,zb90,hx87,rfl,N,H⟩
  refine zjn (xI (zb90) rfl (fun h91=>?_) (fun h91=>?_))
  ·skip
   refine zn (sps [.pointer (some ⟨bs,0,none⟩),.pointer (some ⟨bY,0,none⟩),.pointer (some ⟨bY,0,none⟩)] (oF rfl (oL rfl (H.cell 6 rfl rfl) ?_)))
   have H1:St W0 w85 ((.box bs [Sv ac code.length cc,.int .i64 zi88,.int .u64 zi89] 127) :: (rr yU jW yR 24 1 yL) :: (rr yH jf yE 4 1 (t_Alive.map (Value.bool))) :: (.box b5 [Sv yH jf yE,Sv yU jW yR,Sv (some ⟨b3,0,none⟩) kk.toNat kk.toNat] 31) :: (rr (some ⟨b3,0,none⟩) kk.toNat kk.toNat 2 1 ((List.replicate kk.toNat (0:Int)).map (Value.int .i64))) :: (.box b1 [Sv none 0 0,Sv none 0 0,Sv none 0 0] 31) :: (.box bY [.int .i64 kk,Sv rap par.length rcp,Sv raR rules.length rcR] 27) :: (rr rap par.length rcp 2 1 (par.map (Value.int .i64))) :: (rr raR rules.length rcR 56 9 rxR) :: ps) ((sF false Fc ac cc code) :: (qX true jb yL t_Bags) :: (qX frR rFR rxR rules) :: Γ):=H.xH 9 3 [0,1,2,3,4,5,6,7,8] [0,1,2] qo qo
   have N1:Fresh _ (jb :: Ns):=N
   have K1:Kept (Ns) ((qX true jb yL t_Bags) :: (qX frR rFR rxR rules) :: Γ):=K0.behind 2 rfl
   replace K1:=K1.cons (F:=jb) 0 rfl rfl
   refine sw (xR #[.pointer (some ⟨bs,0,none⟩),.int .i64 kk,.int .i64 2] rfl rfl Tryz.call145 (dFew_ok code zi88 zi89 bs ac cc Fc kk (2:Int) H1 N1 K1 qg qg qg) ?_)
   clear H H1 N1 K1
   rintro _ w92 ⟨zi96,zi97,zl98,ra99,rn100,rc101,hx94,hx95,rfl,N,H⟩
   obtain rfl:=H.vM 1 rfl
   refine oF rfl (sw (xX H 4 [Sv yH jf yE,Sv yU jW yR,Sv ra99 zl98.length rc101] Tryz.sizeOf24 fun w102 H=>?_))
   try dsimp only [List.set] at H
   refine zjc (sw (zB [Sv yH jf yE,Sv yU jW yR,Sv ra99 zl98.length rc101] Tryz.isAgg31 Tryz.sizeOf31 rfl (qJ (H.cells 4 rfl) 0 3) (sw (xu H 6 [Sv yH jf yE,Sv yU jW yR,Sv ra99 zl98.length rc101] Tryz.sizeOf31 fun w103 H=>?_))))
   try dsimp only [List.set] at H
   refine zjr (retC H 6 rfl rfl Tryz.isAgg31 Tryz.sizeOf31 rfl ⟨_,rfl,?_⟩)
   obtain rfl:c=par.length:=by omega
   exact ⟨zi96,zi97,t_Alive,t_Bags,zl98,yH,jf,yE,yU,jW,yR,yL,jb,ra99,zl98.length,rc101,qf,(by first | exact ⟨i2.la,i2.lb,i2.skin qf,by assumption,i2.bags⟩ | exact ⟨i2.la,i2.lb,i2.skin qf,vJ.zero qf qf,i2.bags⟩),rfl,N,H.xH 10 3 [0,7,8,9,3,2,1] [0,2,1] qo qo⟩
  ·skip
   refine xe (t_n (zcr (sw (zB [Sv yH jf yE,Sv yU jW yR,Sv (some ⟨b3,0,none⟩) kk.toNat kk.toNat] Tryz.isAgg31 Tryz.sizeOf31 rfl (qJ (H.cells 3 rfl) 0 3) (sw (xu H 5 [Sv yH jf yE,Sv yU jW yR,Sv (some ⟨b3,0,none⟩) kk.toNat kk.toNat] Tryz.sizeOf31 fun w104 H=>?_))))))
   try dsimp only [List.set] at H
   refine zjr (retC H 5 rfl rfl Tryz.isAgg31 Tryz.sizeOf31 rfl ⟨_,rfl,?_⟩)
   obtain rfl:c=par.length:=by omega
   exact ⟨zi88,zi89,t_Alive,t_Bags,(List.replicate kk.toNat (0:Int)),yH,jf,yE,yU,jW,yR,yL,jb,(some ⟨b3,0,none⟩),kk.toNat,kk.toNat,qf,(by first | exact ⟨i2.la,i2.lb,i2.skin qf,by assumption,i2.bags⟩ | exact ⟨i2.la,i2.lb,i2.skin qf,vJ.zero qf qf,i2.bags⟩),rfl,N,H.xH 9 3 [0,6,7,8,2,1,4] [0,2,1] qo qo⟩
theorem a2System_ok {W0 w:World} {ps:List Prv} {Γ:List Fact} {Ns:List yLN} (code:List UInt8) (ac:yOA) (cc:Nat) (Fc:yLN) (H:St W0 w (ps) ((sF false Fc ac cc code) :: Γ)) (N:Fresh W0.heap.size (Ns)) (K0:Kept Ns Γ):Calls Tryz.prog 24 #[Sv ac code.length cc] w (fun e w' =>∃ v,e=.returned v∧∃ (kk_:Int) (par_:yLI) (rules_:List jy) (alive_:List Bool) (bags_:yLL) (around_:yLI) (raq:yOA) (rnq:Nat) (rcq:Nat) (raS:yOA) (rnS:Nat) (rcS:Nat) (rxS:List Value) (rFS:yLN) (raA:yOA) (rnA:Nat) (rcA:Nat) (raB:yOA) (rnB:Nat) (rcB:Nat) (rxB:List Value) (rFB:yLN) (raD:yOA) (rnD:Nat) (rcD:Nat),(SysDr kk_ par_ rules_)∧(StDr kk_ par_.length 5 alive_ bags_ around_)∧v=.tuple #[.agg #[.int .i64 kk_,Sv raq rnq rcq,Sv raS rnS rcS],.agg #[Sv raA rnA rcA,Sv raB rnB rcB,Sv raD rnD rcD]]∧Fresh W0.heap.size (rFS :: rFB :: Ns)∧St W0 w' ((rr raq rnq rcq 2 1 (par_.map (Value.int .i64))) :: (rr raS rnS rcS 56 9 rxS) :: (rr raA rnA rcA 4 1 (alive_.map (Value.bool))) :: (rr raB rnB rcB 24 1 rxB) :: (rr raD rnD rcD 2 1 (around_.map (Value.int .i64))) :: ps) ((sF false Fc ac cc code) :: (qX true rFS rxS rules_) :: (qX true rFB rxB bags_) :: Γ)):=by
 refine en Tryz.func24 Tryz.ntmps24 ?_
 have ncode:=qQ (H.get 0 rfl).1
 refine zcr (sw (xx H ti27 [.int .i64 0,Sv none 0 0,Sv none 0 0] fun b1 w2 H=>sw (xx H ti31 [Sv none 0 0,Sv none 0 0,Sv none 0 0] fun b3 w4 H=>zjc (sp (Sv ac code.length cc) (sw (vC #[Sv ac code.length cc] rfl rfl Tryz.call46 (en Tryz.func46 Tryz.ntmps46 ?_)))))))
 refine zcr (sp (.pointer none) (zjc (sp (Sv ac code.length cc) (sw (xP [Sv ac code.length cc,.int .i64 0,.int .u64 0] [(0,Sv ac code.length cc)] (sw (vF H [Sv ac code.length cc,.int .i64 0,.int .u64 0] fun b5 w6 H=>sp (.pointer (some ⟨b5,0,none⟩)) (zjr (ret1 (.pointer (some ⟨b5,0,none⟩)) rfl rfl ⟨_,rfl,(sp (.pointer (some ⟨b5,0,none⟩)) (zjc (sp (.pointer (some ⟨b5,0,none⟩)) ?_)))⟩)))))))))
 have H1:St W0 w6 ((.box b5 [Sv ac code.length cc,.int .i64 0,.int .u64 0] 127) :: (.box b3 [Sv none 0 0,Sv none 0 0,Sv none 0 0] 31) :: (.box b1 [.int .i64 0,Sv none 0 0,Sv none 0 0] 27) :: ps) ((sF false Fc ac cc code) :: Γ):=H.xH 3 1 [0,1,2] [0] qo qo
 have N1:Fresh _ (Ns):=N
 have K1:Kept (Ns) (Γ):=K0.behind 0 rfl
 refine sw (xR #[.pointer (some ⟨b5,0,none⟩)] rfl rfl Tryz.call78 (dSystem_ok code (0:Int) 0 b5 ac cc Fc H1 N1 K1 qg) ?_)
 clear H H1 N1 K1
 rintro _ w7 ⟨zi11,zi12,zi13,zl14,zR15,ra16,rn17,rc18,ra19,rn20,rc21,rx22,rF23,hx9,hx10,rfl,N,H⟩
 obtain rfl:=H.vM 1 rfl
 obtain rfl:=H.zi (α:=jy) 2 rfl 1 rfl qj
 refine sw (xx H ti27 [.int .i64 0,Sv none 0 0,Sv none 0 0] fun b24 w25 H=>sw (xu H 0 [.int .i64 zi13,Sv ra16 zl14.length rc18,Sv ra19 zR15.length rc21] Tryz.sizeOf27 fun w26 H=>?_))
 try dsimp only [List.set] at H
 refine zjn (zg ?_)
 refine XG rfl H [0,2,3] [0,1] fun H=>?_
 have S:=H.jG [0,2,3] [0,1]
 refine rt 0 (.agg #[.int .i64 zi13,Sv ra16 zl14.length rc18,Sv ra19 zR15.length rc21]) (yK (cs:=[.int .i64 zi13,Sv ra16 zl14.length rc18,Sv ra19 zR15.length rc21]) Tryz.isAgg27 Tryz.sizeOf27 rfl (fun _ h=>qJ (h.cells 0 rfl) 0 3)) S ?_
 refine rtp 1 (.pointer (some ⟨b5,0,none⟩)) S ?_
 refine ro 2 rfl ?_
 have f0:jO (⟨zi13,zl14,zR15⟩:qy):=SysDr.frame ql
 have H1:St W0 w26.drew ((.box b5 [Sv ac code.length cc,.int .i64 zi11,.int .u64 zi12] 127) :: (.box b24 [.int .i64 zi13,Sv ra16 zl14.length rc18,Sv ra19 zR15.length rc21] 27) :: (rr ra16 zl14.length rc18 2 1 (zl14.map (Value.int .i64))) :: (rr ra19 zR15.length rc21 56 9 rx22) :: (.box b3 [Sv none 0 0,Sv none 0 0,Sv none 0 0] 31) :: (.box b1 [.int .i64 0,Sv none 0 0,Sv none 0 0] 27) :: ps) ((sF false Fc ac cc code) :: (qX true rF23 rx22 zR15) :: (qX true rF23 rx22 zR15) :: Γ):=H.xH 6 2 [1,0,2,3,4,5] [0,1,1] qo qo
 have N1:Fresh _ (rF23 :: Ns):=N
 have K1:Kept (Ns) ((qX true rF23 rx22 zR15) :: Γ):=K0.behind 1 rfl
 replace K1:=K1.cons (F:=rF23) 0 rfl rfl
 refine xR #[.pointer (some ⟨b5,0,none⟩),.pointer (some ⟨b24,0,none⟩),.int .i64 5] rfl rfl Tryz.call79 (dState_ok code zi11 zi12 b5 ac cc Fc zi13 zl14 zR15 b24 ra16 zl14.length rc18 ra19 zR15.length rc21 rx22 rF23 true (5:Int) H1 N1 K1 qg qg qg) ?_
 clear H H1 N1 K1
 rintro _ w28 ⟨zi32,zi33,zm34,zL35,zl36,ra37,rn38,rc39,ra40,rn41,rc42,rx43,rF44,ra45,rn46,rc47,hx30,hx31,rfl,N,H⟩
 obtain rfl:=H.rowNB 4 rfl
 obtain rfl:=H.zi (α:=yLI) 5 rfl 2 rfl qj
 obtain rfl:=H.vM 6 rfl
 refine ⟨H.pick [1,2,3] [0,3],(ro 3 rfl (xu H 8 [.int .i64 zi13,Sv ra16 zl14.length rc18,Sv ra19 zR15.length rc21] Tryz.sizeOf27 fun w48 H=>?_))⟩
 try dsimp only [List.set] at H
 refine ⟨H.pick [1,2,3] [0,3],(ro 4 rfl (xu H 7 [Sv ra37 zm34.length rc39,Sv ra40 zL35.length rc42,Sv ra45 zl36.length rc47] Tryz.sizeOf31 fun w49 H=>?_))⟩
 try dsimp only [List.set] at H
 refine ⟨H.pick [1,2,3] [0,3],(xg qh (t_n (c_ret (retCC H 8 rfl 7 rfl rfl Tryz.isAgg27 Tryz.sizeOf27 Tryz.isAgg31 Tryz.sizeOf31 rfl rfl ⟨_,rfl,(⟨zi13,zl14,zR15,zm34,zL35,zl36,ra16,zl14.length,rc18,ra19,zR15.length,rc21,rx22,rF23,ra37,zm34.length,rc39,ra40,zL35.length,rc42,rx43,rF44,ra45,zl36.length,rc47,ql,ql,rfl,(N.xH 2 [1,0] qo),H.xH 9 4 [2,3,4,5,6] [0,1,2] qo qo⟩)⟩))))⟩
theorem a2At_ok (w:World) (code:List UInt8) (q:Int) (n:Int) {acode:yOA} {ccode:Nat} {Fcode:yLN} (hcode:qU.rep w Fcode [Sv acode code.length ccode] code) (p0:0≤q):Calls Tryz.prog 11 #[Sv acode code.length ccode,.int .i64 q,.int .i64 n] w (Ret (fun v w' =>v=.int .i64 (atV code q n)) w):=by
 refine en Tryz.func11 Tryz.ntmps11 ?_
 have H:=(St.start w).arg hcode
 have nhcode:=qQ hcode
 clear hcode
 have N:=Fresh.nil w.heap.size
 refine zcr (sp (.int .i64 0) (zjcc (sps [.int .i64 q,Sv acode code.length ccode] (oN rfl (sps [Bv (decide ((q:Int)≥code.length)),Bv (decide ((q:Int)≥code.length))] ?_)))))
 cases h1:(decide ((q:Int)≥code.length))
 ·skip
  replace h1:=of_decide_eq_false h1
  refine qL 11 rfl rfl (sp (.int .i64 n) (qL 11 rfl rfl (sps [Bv (decide ((n:Int) < 1)),Bv (decide ((n:Int) < 1))] (zjn (cD rfl (fun h2=>?_) (fun h2=>?_))))))
  ·skip
   refine zcr (sp (.int .i64 0) (zjr (t_r (ret1 (.int .i64 0) rfl rfl ⟨_,rfl,?_,H.base⟩))))
   rw [atV_no qf]
  ·skip
   have rm:=fun (x:Int)=>Int.emod_nonneg x (show n≠0 by omega)
   have rl:=fun (x:Int)=>Int.emod_lt_of_pos x (show 0 < n by omega)
   refine xe (t_n (zcr (sps [Sv acode code.length ccode,.int .i64 q] ?_)))
   obtain ⟨b3,o4,rfl⟩:=H.addr 0 rfl qf
   refine oI rfl rfl ?_
   have hb6:=byte_lt (code[q.toNat]!)
   refine oL rfl (H.elemByte 0 rfl q q.toNat qf qf qf) (sw (o_convI (((code[q.toNat]!).toNat:Nat):Int) Tryz.underlying5 Tryz.underlying2 rfl qf (sp (.int .i64 n) (sw (o_rem (((code[q.toNat]!).toNat:Nat):Int) n rfl rfl qf qf qf (sp (.int .i64 ((((code[q.toNat]!).toNat:Nat):Int) % n)) (zjr (ret1 (.int .i64 ((((code[q.toNat]!).toNat:Nat):Int) % n)) rfl rfl ⟨_,rfl,?_,H.base⟩))))))))
   rw [atV_yes ‹_› ‹_›]
 ·skip
  replace h1:=of_decide_eq_true h1
  refine xU [12,13] (sp (Bv true) (zjn (xI true rfl (fun _=>zcr (sp (.int .i64 0) (zjr (t_r (ret1 (.int .i64 0) rfl rfl ⟨_,rfl,?_,H.base⟩))))) (fun h=>absurd h qj))))
  rw [atV_no qf]

theorem a2Same_ok (w:World) (a:yLI) (b:yLI) {aa:yOA} {ca:Nat} {Fa:yLN} {ab:yOA} {cb:Nat} {Fb:yLN} (ha:qU.rep w Fa [Sv aa a.length ca] a) (hb:qU.rep w Fb [Sv ab b.length cb] b):Calls Tryz.prog 30 #[Sv aa a.length ca,Sv ab b.length cb] w (Ret (fun v w' =>v=Bv (decide (a=b))) w):=by
 refine en Tryz.func30 Tryz.ntmps30 ?_
 have H:=((St.start w).arg hb).arg ha
 have nha:=qQ ha
 have nhb:=qQ hb
 clear ha hb
 have N:=Fresh.nil w.heap.size
 refine zcr (sp (Bv false) (zjcc (sp (Sv aa a.length ca) (oN rfl (sp (Sv ab b.length cb) (oN rfl (sp (Bv ((a.length:Int) != b.length)) (zjn (xI ((a.length:Int) != b.length) rfl (fun h1=>?_) (fun h1=>?_))))))))))
 ·skip
  replace h1:=bne_iff_ne.1 h1
  refine zcr (sp (Bv false) (zjr (t_r (ret1 (Bv false) rfl rfl ⟨_,rfl,?_,H.base⟩))))
  first | rw [decide_eq_false (fun e=>by subst e;omega)] | rw [decide_eq_false (ne_of_get (k:=i) ‹_›)] | rw [decide_eq_false (ne_of_get (k:=i) (by simpa using ‹_›))]
 ·skip
  replace h1:=zh h1
  refine xe (t_n (zcc (sp (.int .i64 0) (zjn (qZ ?_)))))
  refine zU (fun m' ρ w2=>∃ (zl:Env) (i:Nat),ρ=upd (upd (upd zl 0 (Sv aa a.length ca)) 1 (Sv ab b.length cb)) 5 (.int .i64 i)∧((i:Int)≤a.length)∧(a.take i=b.take i)∧m' =(a.length - (i:Int)).toNat∧Fresh w.heap.size []∧St w w2 [] [sF false Fa aa ca a,sF false Fb ab cb b]) ((a.length - (0:Int)).toNat) ⟨_,0,uE3,qf,(by rfl),rfl,N,H⟩ ?_
  clear H N
  rintro m' ρ w3 ⟨zl,i,rfl,i0,i1,rfl,N,H⟩
  refine zcc (sps [.int .i64 i,Sv aa a.length ca] (oN rfl (sp (Bv (decide ((i:Int) < a.length))) (zjn (cD rfl (fun h4=>?_) (fun h4=>?_))))))
  ·skip
   refine xe (t_n (zg (qZ (zg ?_))))
   refine yj rfl H fun H=>rtp 0 (Sv aa a.length ca) H ?_
   refine rtp 1 (.int .i64 i) H ?_
   obtain ⟨b6,o7,rfl⟩:=H.addr 0 rfl qf
   refine tI 2 rfl rfl rfl H ?_
   refine tL 3 rfl rfl (fun _ h=>h.QG 0 rfl i qf) H ?_
   refine rtp 4 (Sv ab b.length cb) H ?_
   refine rtp 5 (.int .i64 i) H ?_
   obtain ⟨b9,o10,rfl⟩:=H.addr 1 rfl qf
   refine tI 6 rfl rfl rfl H ?_
   refine tL 7 rfl rfl (fun _ h=>h.QG 1 rfl i qf) H ?_
   refine rtp 8 (Bv ((a[i]! :Int) != (b[i]!))) H ?_
   refine xg qh (t_n (xI ((a[i]! :Int) != (b[i]!)) rfl (fun h12=>?_) (fun h12=>?_)))
   ·skip
    replace h12:=bne_iff_ne.1 h12
    refine zcr (sp (Bv false) (zjr (zr5 (ret1 (Bv false) rfl rfl ⟨_,rfl,?_,H.base⟩))))
    first | rw [decide_eq_false (fun e=>by subst e;omega)] | rw [decide_eq_false (ne_of_get (k:=i) ‹_›)] | rw [decide_eq_false (ne_of_get (k:=i) (by simpa using ‹_›))]
   ·skip
    replace h12:=zh h12
    refine xe (b_n (t_n (zn (sp (.int .i64 i) (sw (zN i 1 rfl rfl qf (sp (.int .i64 (i+1)) (zo (xm (m' :=(a.length - ((i+1):Int)).toNat) qf ⟨_,i+1,uE3,?_,?_,rfl,N,H⟩)))))))))
    · omega
    · exact eqTo_succ qf qf i1 qg
  ·skip
   refine zx4 (zcr (sp (Bv true) (zjr (ret1 (Bv true) rfl rfl ⟨_,rfl,?_,H.base⟩))))
   rw [decide_eq_true (eq_of_take (k:=i) qf qf i1)]
theorem isBagH_ok (w:World) (l:yLI) {al:yOA} {cl:Nat} {Fl:yLN} (hl:qU.rep w Fl [Sv al l.length cl] l):Calls Tryz.prog 157 #[Sv al l.length cl] w (Ret (fun v w' =>v=Bv (dec (Ql l))) w):=by
 refine en Tryz.func157 Tryz.ntmps157 ?_
 have H:=(St.start w).arg hl
 have nhl:=qQ hl
 clear hl
 have N:=Fresh.nil w.heap.size
 refine zcr (sp (Bv false) (zjc (sp (Sv al l.length cl) (sw (oq (sizeI_ok _ l (H.get 0 rfl).1) H fun w1 H=>sp (Sv al l.length cl) (sw (oq (Xp _ (l.length:Int) l (H.get 0 rfl).1) H fun w3 H=>sp (Bv (dec (zZ (l.length:Int) l))) (zjr (ret1 (Bv (dec (zZ (l.length:Int) l))) rfl rfl ⟨_,rfl,?_,H.base⟩)))))))))
 rw [dec_congr bagAny_ok]

theorem implTotal_ok (w:World) (s:qy) (t:qA) {qC:yOA} {qY:yLN} {qK:yOA} {xK:yLN} {qR:yOA} {zq:yLN} {xq:yOA} {zX:yLN} {qN:yOA} {xN:yLN} (qW:qU.rep w qY [Sv qC s.qw.length qB] s.qw) (xF:qU.rep w xK [Sv qK s.qx.length qI] s.qx) (zy:qU.rep w zq [Sv qR t.qF.length qP] t.qF) (ve:qU.rep w zX [Sv xq t.qG.length xn] t.qG) (xW:qU.rep w xN [Sv qN t.qH.length qM] t.qH) (p0:vw s∧xJ s t) (p1:Ql (QD t s.qw.length)):Calls Tryz.prog 29 #[.agg #[.int .i64 s.xf,Sv qC s.qw.length qB,Sv qK s.qx.length qI],.agg #[Sv qR t.qF.length qP,Sv xq t.qG.length xn,Sv qN t.qH.length qM]] w (Ret (fun v w' =>∃ (ra0:yOA) (rn0:Nat) (rc0:Nat),v=.tuple #[Sv ra0 rn0 rc0,.int .i64 0]∧Fresh w.heap.size []∧St w w' [rr ra0 rn0 rc0 2 1 ((QD t s.qw.length).map (Value.int .i64))] []) w):=by
 refine en Tryz.func29 Tryz.ntmps29 ?_
 have H:=(((((St.start w).arg xW).arg ve).arg zy).arg xF).arg qW
 have vH:=qQ qW
 have jM:=qQ xF
 have Qg:=qQ zy
 have QZ:=qQ ve
 have yC:=qQ xW
 clear qW xF zy ve xW
 have N:=Fresh.nil w.heap.size
 have p2:=p0.1.1
 have p3:=p0.2
 obtain ⟨s1,s2,s3,s4⟩:=p3.sizes p2
 have p4:=p3.2.1
 have p5:=p2.2.1
 refine zcr (sw (vF H [.int .i64 s.xf,Sv qC s.qw.length qB,Sv qK s.qx.length qI] fun b1 w2 H=>sw (vF H [Sv qR t.qF.length qP,Sv xq t.qG.length xn,Sv qN t.qH.length qM] fun b3 w4 H=>sps [Sv none 0 0,.int .i64 0] (zjcc (sw (zB [.int .i64 s.xf,Sv qC s.qw.length qB,Sv qK s.qx.length qI] Tryz.isAgg27 Tryz.sizeOf27 rfl (qJ (H.cells 1 rfl) 0 3) ?_))))))
 refine sw (zB [Sv qR t.qF.length qP,Sv xq t.qG.length xn,Sv qN t.qH.length qM] Tryz.isAgg31 Tryz.sizeOf31 rfl (qJ (H.cells 0 rfl) 0 3) (sw (oq (validState_ok _ s t (H.get 0 rfl).1 (H.get 1 rfl).1 (H.get 2 rfl).1 (H.get 3 rfl).1 (H.get 4 rfl).1) H fun w6 H=>sp (Bv (!(dec (vw s∧xJ s t)))) (zjn (cQ rfl (fun h8=>?_) (fun h8=>?_))))))
 ·skip
  exact absurd p0 h8
 ·skip
  refine xe (t_n (zcr (oF rfl (oL rfl (H.cell 0 rfl rfl) ?_))))
  have sz9:=H.base.size
  refine sw (oc (cloneI_ok _ t.qH (H.get 4 rfl).1 qg) ?_)
  rintro v14 w12 r14 x13
  replace H:=H.zW x13 r14
  obtain ⟨a15,c16,rfl,hc17,hm18⟩:=H.jY 0 rfl
  refine sp (Sv a15 t.qH.length c16) (zjcc (oF rfl (oL rfl (H.cell 1 rfl rfl) (oN rfl (sp (.int .i64 0) (zjn (qZ ?_)))))))
  refine zU (fun m' ρ w19=>∃ (zl:Env) (jH:yOA) (zY:Nat) (vV:Nat) (out:yLI) (k:Nat),ρ=upd (upd (upd (upd zl 6 (Sv jH zY vV)) 17 (Sv xq t.qG.length xn)) 18 (.int .i64 t.qG.length)) 19 (.int .i64 k)∧out=(QD t k)∧((k:Int)≤t.qG.length)∧m' =(t.qG.length - (k:Int)).toNat∧Fresh w.heap.size []∧St w w19 [rr jH zY vV 2 1 (out.map (Value.int .i64)),.box b3 [Sv qR t.qF.length qP,Sv xq t.qG.length xn,Sv qN t.qH.length qM] 31,.box b1 [.int .i64 s.xf,Sv qC s.qw.length qB,Sv qK s.qx.length qI] 27] [sF false qY qC qB s.qw,sF false xK qK qI s.qx,sF false zq qR qP t.qF,sF false zX xq xn t.qG,sF false xN qN qM t.qH]) ((t.qG.length - (0:Int)).toNat) ⟨_,a15,t.qH.length,c16,t.qH,0,uE4,(by rfl),qf,rfl,N,H⟩ ?_
  clear H N
  rintro m' ρ w20 ⟨zl,jH,zY,vV,out,k,rfl,rfl,i0,rfl,N,H⟩
  have hn_out:=H.vM 0 rfl
  have al:=XT t k
  refine zcr (sp (Bv (decide ((k:Int) < t.qG.length))) (zjn (zg (cD rfl (fun h21=>?_) (fun h21=>?_)))))
  ·skip
   refine xe (t_n (zg (qZ (zcr ?_))))
   obtain ⟨b22,o23,rfl⟩:=H.addr 3 rfl qf
   obtain ⟨ae25,ce25,Fe25,H⟩:=H.jS 3 rfl k k qf qf qf
   refine oI rfl rfl (oL rfl (H.zu 1 rfl 0 rfl) (sp (Sv ae25 ((t.qG[k]!).length) ce25) (zjn (zn (sps [Sv jH zY vV,Sv ae25 ((t.qG[k]!).length) ce25] ?_)))))
   obtain ⟨G26,hn27,h28⟩:=H.rowIsI 0 rfl
   obtain ⟨m1,m2,m3⟩:=all_mid p2 p3 (k:=k) qf
   have sz29:=H.base.size
   refine sw (oc (args_eq (by rw [← hn27]) (Xq _ (QD t k) (t.qG[k]!) 1 (hn27▸h28) (H.get 0 rfl).1 qg qg qg)) ?_)
   rintro v34 w32 r34 x33
   replace H:=H.zW x33 r34
   obtain ⟨a35,c36,rfl,hc37,hm38⟩:=H.jY 0 rfl
   refine sp (Sv a35 ((vZ (QD t k) (t.qG[k]!) 1).length) c36) (zo (b_n (t_n (zn (sw (zN k 1 rfl rfl qf (sp (.int .i64 (k+1)) (zo (xm (m' :=(t.qG.length - ((k+1):Int)).toNat) qf ⟨_,a35,(vZ (QD t k) (t.qG[k]!) 1).length,c36,vZ (QD t k) (t.qG[k]!) 1,k+1,uE4,?_,?_,rfl,N,H.pick [0,2,3] [2,3,4,5,6]⟩)))))))))
   · rfl
   · omega
  ·skip
   refine zx4 (zcr (sp (Sv jH zY vV) (sw (vC #[Sv jH zY vV] rfl rfl Tryz.call88 (en Tryz.func88 Tryz.ntmps88 ?_)))))
   refine zcr (sps [Sv none 0 0,.int .i64 0] (zjcc (sp (Sv jH zY vV) ?_)))
   obtain ⟨G39,hn40,h41⟩:=H.rowIsI 0 rfl
   refine sw (oq (args_eq (by rw [← hn40]) (isBagH_ok _ (QD t k) (hn40▸h41))) H fun w43 H=>sp (Bv (!(dec (Ql (QD t k))))) (zjn (cQ rfl (fun h45=>?_) (fun h45=>?_))))
   ·skip
    rw [show k=s.qw.length by omega] at h45
    exact absurd p1 h45
   ·skip
    refine xe (t_n (zcr (sps [Sv jH zY vV,Sv jH zY vV,.int .i64 0] (zjr (ret2 (Sv jH zY vV) (.int .i64 0) rfl rfl rfl ⟨_,rfl,(sps [Sv jH zY vV,.int .i64 0,Sv jH zY vV,.int .i64 0] (zjr (ret2 (Sv jH zY vV) (.int .i64 0) rfl rfl rfl ⟨_,rfl,?_,H.base⟩)))⟩)))))
    obtain rfl:k=s.qw.length:=by omega
    exact ⟨jH,zY,vV,rfl,N,H.pick [0] []⟩

theorem specValid_ok (w:World) (s:qy) (t:qA) {qC:yOA} {qY:yLN} {qK:yOA} {xK:yLN} {qR:yOA} {zq:yLN} {xq:yOA} {zX:yLN} {qN:yOA} {xN:yLN} (qW:qU.rep w qY [Sv qC s.qw.length qB] s.qw) (xF:qU.rep w xK [Sv qK s.qx.length qI] s.qx) (zy:qU.rep w zq [Sv qR t.qF.length qP] t.qF) (ve:qU.rep w zX [Sv xq t.qG.length xn] t.qG) (xW:qU.rep w xN [Sv qN t.qH.length qM] t.qH):Calls Tryz.prog 13 #[.agg #[.int .i64 s.xf,Sv qC s.qw.length qB,Sv qK s.qx.length qI],.agg #[Sv qR t.qF.length qP,Sv xq t.qG.length xn,Sv qN t.qH.length qM]] w (Ret (fun v w' =>v=Bv (dec (vw s∧xJ s t))) w):=by
 refine en Tryz.func13 Tryz.ntmps13 ?_
 have H:=(((((St.start w).arg xW).arg ve).arg zy).arg xF).arg qW
 have vH:=qQ qW
 have jM:=qQ xF
 have Qg:=qQ zy
 have QZ:=qQ ve
 have yC:=qQ xW
 clear qW xF zy ve xW
 have N:=Fresh.nil w.heap.size
 refine zcr (sw (vF H [.int .i64 s.xf,Sv qC s.qw.length qB,Sv qK s.qx.length qI] fun b1 w2 H=>sw (vF H [Sv qR t.qF.length qP,Sv xq t.qG.length xn,Sv qN t.qH.length qM] fun b3 w4 H=>sp (Bv false) (zjc (sw (oq (l02Ok_ok _ s (qJ (H.cells 1 rfl) 0 3) (H.get 0 rfl).1 (H.get 1 rfl).1) H fun w5 H=>sp (Bv (dec (vw s))) ?_))))))
 cases h7:(dec (vw s))
 ·skip
  replace h7:=zO h7
  refine xU [7] (sps [Bv false,Bv false] (zjr (ret1 (Bv false) rfl rfl ⟨_,rfl,?_,H.base⟩)))
  rw [xk (fun h=>‹¬ vw s› h.1)]
 ·skip
  replace h7:=yB h7
  refine qL 6 rfl rfl (sw (oq (l02State_ok _ s t (qJ (H.cells 1 rfl) 0 3) (H.get 0 rfl).1 (H.get 1 rfl).1 (qJ (H.cells 0 rfl) 0 3) (H.get 2 rfl).1 (H.get 3 rfl).1 (H.get 4 rfl).1 (by first | assumption | exact (And.left (by assumption:vw _)))) H fun w8 H=>sps [Bv (dec (xJ s t)),Bv (dec (xJ s t))] (zjr (ret1 (Bv (dec (xJ s t))) rfl rfl ⟨_,rfl,?_,H.base⟩))))
  rw [dec_congr (show xJ s t↔vw s∧xJ s t from ⟨fun h=>⟨by assumption,h⟩,fun h=>h.2⟩)]
theorem change_ok (w:World) (s:qy) (t:qA) (r:jy) {qC:yOA} {qY:yLN} {qK:yOA} {xK:yLN} {qR:yOA} {zq:yLN} {xq:yOA} {zX:yLN} {qN:yOA} {xN:yLN} {jo:yOA} {ji:Nat} {Q8:yLN} {jv:yOA} {jm:Nat} {Xb:yLN} {jq:yOA} {jk:Nat} {Q9:yLN} {je:yOA} {jd:Nat} {Xa:yLN} {yG:yOA} {yD:Nat} {FrOut:yLN} {vX:yOA} {vW:Nat} {XM:yLN} (qW:qU.rep w qY [Sv qC s.qw.length qB] s.qw) (xF:qU.rep w xK [Sv qK s.qx.length qI] s.qx) (zy:qU.rep w zq [Sv qR t.qF.length qP] t.qF) (ve:qU.rep w zX [Sv xq t.qG.length xn] t.qG) (xW:qU.rep w xN [Sv qN t.qH.length qM] t.qH) (hrNeed:qU.rep w Q8 [Sv jo r.xM.length ji] r.xM) (hrHave:qU.rep w Xb [Sv jv r.zF.length jm] r.zF) (hrLack:qU.rep w Q9 [Sv jq r.zD.length jk] r.zD) (hrHere:qU.rep w Xa [Sv je r.zC.length jd] r.zC) (hrOut:qU.rep w FrOut [Sv yG r.jI.length yD] r.jI) (hrInto:qU.rep w XM [Sv vX r.qO.length vW] r.qO) (p0:vw s) (p1:xJ s t) (q:RuleOk s r):Calls Tryz.prog 85 #[.agg #[.int .i64 s.xf,Sv qC s.qw.length qB,Sv qK s.qx.length qI],.agg #[Sv qR t.qF.length qP,Sv xq t.qG.length xn,Sv qN t.qH.length qM],.agg #[.int .i64 r.qE,.int .i64 r.vI,Sv jo r.xM.length ji,Sv jv r.zF.length jm,Sv jq r.zD.length jk,Sv je r.zC.length jd,Sv yG r.jI.length yD,Sv vX r.qO.length vW,Bv r.zV]] w (Ret (fun v w' =>∃ (ra:yOA) (rn:Nat) (rc:Nat) (rx:List Value) (rF:yLN),v=Sv ra rn rc∧Fresh w.heap.size [rF]∧St w w' [rr ra rn rc 24 1 rx] [qX true rF rx (QA s t r)]) w):=by
 refine en Tryz.func85 Tryz.ntmps85 ?_
 have H:=(((((((((((St.start w).arg hrInto).arg hrOut).arg hrHere).arg hrLack).arg hrHave).arg hrNeed).arg xW).arg ve).arg zy).arg xF).arg qW
 have vH:=qQ qW
 have jM:=qQ xF
 have Qg:=qQ zy
 have QZ:=qQ ve
 have yC:=qQ xW
 have nhrNeed:=qQ hrNeed
 have nhrHave:=qQ hrHave
 have nhrLack:=qQ hrLack
 have nhrHere:=qQ hrHere
 have nhrOut:=qQ hrOut
 have nhrInto:=qQ hrInto
 clear qW xF zy ve xW hrNeed hrHave hrLack hrHere hrOut hrInto
 have N:=Fresh.nil w.heap.size
 have p5:=p0.2.1
 have p7:=p1.2.1
 have p8:=kinds_le p0
 have p9:=p0.1.2.1
 have p12:=p1.1
 have p15:=p0.1
 have p16:=p0.1.1
 have qc:=q.1
 have qk:=q.cell
 have qr:=q.2.1
 have qn:=q.2.2.2.1
 have bn1:=q.2.2.2.2.1
 have bn2:=q.2.2.2.2.2.2.2.1
 have bn3:=q.2.2.2.2.2.2.2.2.1
 have ln1:=bn1.len
 have ln2:=bn2.len
 have ln3:=bn3.len
 refine zcr (sw (vF H [.int .i64 s.xf,Sv qC s.qw.length qB,Sv qK s.qx.length qI] fun b1 w2 H=>sw (vF H [Sv qR t.qF.length qP,Sv xq t.qG.length xn,Sv qN t.qH.length qM] fun b3 w4 H=>sw (vF H [.int .i64 r.qE,.int .i64 r.vI,Sv jo r.xM.length ji,Sv jv r.zF.length jm,Sv jq r.zD.length jk,Sv je r.zC.length jd,Sv yG r.jI.length yD,Sv vX r.qO.length vW,Bv r.zV] fun b5 w6 H=>sp (Sv none 0 0) (zjc ?_)))))
 refine sw (jR H Tryz.underlying29 ti24 fun b7 w8 H=>sp (Sv (some ⟨b7,0,none⟩) 0 0) (zjcc (sw (zB [.int .i64 s.xf,Sv qC s.qw.length qB,Sv qK s.qx.length qI] Tryz.isAgg27 Tryz.sizeOf27 rfl (qJ (H.cells 3 rfl) 0 3) (sw (oq (XR _ s (H.get 0 rfl).1 (H.get 1 rfl).1) H fun w10 H=>sw (zN s.qw.length 1 rfl rfl qf (sp (.int .i64 0) (zjn (qZ ?_))))))))))
 replace H:=H.boxRow 0 rfl 1 0 rfl qj
 replace H:=H.jD (α:=yLI)
 refine zU (fun m' ρ w12=>∃ (zl:Env) (a_bags:yOA) (Xu:Nat) (XQ:Nat) (bags:yLL) (x_bags:List Value) (F_bags:yLN) (k:Nat),ρ=upd (upd (upd (upd (upd (upd zl 3 (.pointer (some ⟨b1,0,none⟩))) 4 (.pointer (some ⟨b3,0,none⟩))) 5 (.pointer (some ⟨b5,0,none⟩))) 7 (Sv a_bags Xu XQ)) 11 (.int .i64 (s.qw.length+1))) 12 (.int .i64 k)∧((k:Int)≤(s.qw.length+1))∧(Ent (k) (xY s) (fun p q=>0) (0) bags)∧(bags.length=k)∧m' =((s.qw.length+1) - (k:Int)).toNat∧Fresh w.heap.size [F_bags]∧St w w12 [rr a_bags Xu XQ 24 1 x_bags,.box b5 [.int .i64 r.qE,.int .i64 r.vI,Sv jo r.xM.length ji,Sv jv r.zF.length jm,Sv jq r.zD.length jk,Sv je r.zC.length jd,Sv yG r.jI.length yD,Sv vX r.qO.length vW,Bv r.zV] 56,.box b3 [Sv qR t.qF.length qP,Sv xq t.qG.length xn,Sv qN t.qH.length qM] 31,.box b1 [.int .i64 s.xf,Sv qC s.qw.length qB,Sv qK s.qx.length qI] 27] [qX true F_bags x_bags bags,sF false qY qC qB s.qw,sF false xK qK qI s.qx,sF false zq qR qP t.qF,sF false zX xq xn t.qG,sF false xN qN qM t.qH,sF false Q8 jo ji r.xM,sF false Xb jv jm r.zF,sF false Q9 jq jk r.zD,sF false Xa je jd r.zC,sF false FrOut yG yD r.jI,sF false XM vX vW r.qO]) (((s.qw.length+1) - (0:Int)).toNat) ⟨_,(some ⟨b7,0,none⟩),0,0,([]:yLL),[],[],0,uE6,qf,(by exact ent_nil),(by rfl),rfl,N.emp,H⟩ ?_
 clear H N
 rintro m' ρ w13 ⟨zl,a_bags,Xu,XQ,bags,x_bags,F_bags,k,rfl,i0,E_bags,z_bags,rfl,N,H⟩
 have hn_bags:=H.zi (α:=yLI) 0 rfl 0 rfl qj
 refine zcr (sp (Bv (decide ((k:Int) < (s.qw.length+1)))) (zjn (zg (cD rfl (fun h14=>?_) (fun h14=>?_)))))
 ·skip
  refine xe (t_n (zg (qZ (zn (sp (Sv a_bags Xu XQ) (oF rfl (oL rfl (H.cell 3 rfl rfl) (sw (zf H Tryz.underlying24 ti2 s.xf.toNat rfl rfl qf qf qf fun b15 w16 H=>sw (zJ H Tryz.underlying29 ti24 [Sv (some ⟨b15,0,none⟩) s.xf.toNat s.xf.toNat] fun b17 w18 H=>?_))))))))))
  obtain ⟨G22,N,hn23,H⟩:=H.vz 1 rfl N (H.jJ [0])
  refine sw (zM H 2 rfl 0 rfl Tryz.underlying29 ti24 rfl qj rfl rfl rfl (by simp [Value.oneCell',Value.cells]) qp qf fun a19 c20 w21 H=>?_)
  replace H:=H.y5 1 rfl 0 rfl
  replace N:Fresh w.heap.size [(F_bags++G22)]:=(N.pick [1,0]).join
  refine sp (Sv a19 (Xu+1) c20) (zo (b_n (t_n (zn (sw (zN k 1 rfl rfl qf (sp (.int .i64 (k+1)) (zo (xm (m' :=((s.qw.length+1) - ((k+1):Int)).toNat) qf ⟨_,a19,Xu+1,c20,(bags++[(List.replicate s.xf.toNat (0:Int))]),x_bags++[Sv (some ⟨b15,0,none⟩) s.xf.toNat s.xf.toNat],(F_bags++G22),k+1,uE6,?_,?_,?_,rfl,N,H.pick [2,3,4,5] [0,3,4,5,6,7,8,9,10,11,12,13]⟩)))))))))
  · omega
  · exact ent_zero E_bags
  · simp [z_bags]
 ·skip
  have ek:k=s.qw.length+1:=by omega
  rw [ek] at E_bags
  refine zx4 (zg ?_)
  refine Qe rfl H [1,2,3] fun H=>?_
  have S:=H.jG [1,2,3] [0,1,2,3,4,5,6,7,8,9,10,11]
  refine rtp 0 (Sv a_bags Xu XQ) S ?_
  refine tF 1 rfl rfl S ?_
  refine tL 2 rfl rfl (fun _ h=>h.cell 0 rfl rfl) S ?_
  refine rtp 3 (Sv a_bags Xu XQ) S ?_
  refine tF 4 rfl rfl S ?_
  refine tL 5 rfl rfl (fun _ h=>h.cell 0 rfl rfl) S ?_
  obtain ⟨b25,rfl⟩:=H.Qc 0 rfl qf
  have S:=H.jG [1,2,3] [0,1,2,3,4,5,6,7,8,9,10,11]
  refine tI 6 rfl rfl rfl S ?_
  refine tF 8 rfl rfl S ?_
  refine tL 9 rfl rfl (fun _ h=>h.cell 0 rfl rfl) S ?_
  refine ro 7 rfl ?_
  obtain ⟨a26,c27,G28,s29,h30,H⟩:=H.jV 0 rfl 0 rfl (iv:=r.qE) r.qE.toNat qf qf
  refine zt (Sv a26 ((bags[r.qE.toNat]!).length) c27) Tryz.isAgg24 rfl (h30) (⟨H.pick [1,2,3] [1,2,3,4,5,6,7,8,9,10,11,12],(ro 10 rfl ?_)⟩)
  obtain ⟨u1,u2⟩:=E_bags.sh.row (c:=r.qE.toNat) qf p8 qf
  have u4:=(by first | exact bn1.jU qf | exact bn2.jU qf | exact bn3.jU qf | exact bn4.jU qf:Ve r.xM (-1))
  have sz31:=H.base.size
  have lt32:=H.ltN (L:=[F_bags]) [1]
  refine oc (Xq _ (bags[r.qE.toNat]!) r.xM (-1) (H.get 0 rfl).1 (H.get 7 rfl).1 qg qg qg) ?_
  rintro v36 w34 r36 x35
  replace H:=H.zW x35 r36
  obtain ⟨a37,c38,rfl,hc39,hm40⟩:=H.jY 0 rfl
  refine ⟨H.pick [2,3,4] [1,2,3,4,5,6,7,8,9,10,11,12],(tI 11 rfl rfl rfl (H.pick [2,3,4] [1,2,3,4,5,6,7,8,9,10,11,12]) ?_)⟩
  refine ro 12 rfl ?_
  obtain ⟨G42,N,hn43,H⟩:=H.vz 0 rfl N (H.jJ [1])
  refine yh true H 1 rfl 2 rfl (Sv a37 ((vZ (bags[r.qE.toNat]!) r.xM (-1)).length) c38) 0 rfl rfl Tryz.sizeOf24 rfl rfl (i:=r.qE.toNat) qf qf qm fun w41 xs44 F45 hs46 H=>?_
  replace N:Fresh w.heap.size [F45]:=(N.pick [1,0]).repl hs46
  refine ⟨H.pick [2,3,4] [3,4,5,6,7,8,9,10,11,12,13,14],(xg qh (t_n (zcr (sw (zB [.int .i64 s.xf,Sv qC s.qw.length qB,Sv qK s.qx.length qI] Tryz.isAgg27 Tryz.sizeOf27 rfl (qJ (H.cells 4 rfl) 0 3) (sw (zB [Sv qR t.qF.length qP,Sv xq t.qG.length xn,Sv qN t.qH.length qM] Tryz.isAgg31 Tryz.sizeOf31 rfl (qJ (H.cells 3 rfl) 0 3) (sp (Sv (some ⟨b25,0,none⟩) Xu XQ) ?_))))))))⟩
  refine sw (zB [.int .i64 r.qE,.int .i64 r.vI,Sv jo r.xM.length ji,Sv jv r.zF.length jm,Sv jq r.zD.length jk,Sv je r.zC.length jd,Sv yG r.jI.length yD,Sv vX r.qO.length vW,Bv r.zV] Tryz.isAgg56 Tryz.sizeOf56 rfl (qJ (H.cells 2 rfl) 0 9) ?_)
  obtain ⟨bg47,e_bg47⟩:∃ z,z=(bags.set r.qE.toNat (vZ (bags[r.qE.toNat]!) r.xM (-1))):=⟨_,rfl⟩
  rw [← e_bg47] at H
  have E_bg47:=Ent.add (D:=1000000) E_bags e_bg47 qf (by first | exact bn1.mul qf | exact bn2.mul qf | exact bn3.mul qf | exact bn4.mul qf) qf
  have z_bg47:=E_bg47.sh.1
  have E_cur:=E_bg47
  refine sw (vC #[.agg #[.int .i64 s.xf,Sv qC s.qw.length qB,Sv qK s.qx.length qI],.agg #[Sv qR t.qF.length qP,Sv xq t.qG.length xn,Sv qN t.qH.length qM],Sv (some ⟨b25,0,none⟩) Xu XQ,.agg #[.int .i64 r.qE,.int .i64 r.vI,Sv jo r.xM.length ji,Sv jv r.zF.length jm,Sv jq r.zD.length jk,Sv je r.zC.length jd,Sv yG r.jI.length yD,Sv vX r.qO.length vW,Bv r.zV],.int .i64 1] rfl rfl Tryz.call105 (en Tryz.func105 Tryz.ntmps105 ?_))
  refine zcr (sw (vF H [.int .i64 s.xf,Sv qC s.qw.length qB,Sv qK s.qx.length qI] fun b48 w49 H=>sw (vF H [Sv qR t.qF.length qP,Sv xq t.qG.length xn,Sv qN t.qH.length qM] fun b50 w51 H=>sw (vF H [Sv (some ⟨b25,0,none⟩) Xu XQ] fun b52 w53 H=>?_))))
  refine sw (vF H [.int .i64 r.qE,.int .i64 r.vI,Sv jo r.xM.length ji,Sv jv r.zF.length jm,Sv jq r.zD.length jk,Sv je r.zC.length jd,Sv yG r.jI.length yD,Sv vX r.qO.length vW,Bv r.zV] fun b54 w55 H=>sw (vF H [.int .i64 1] fun b56 w57 H=>zjc (sps [.func (.func 173) #[] #[.pointer (some ⟨b52,0,none⟩),.pointer (some ⟨b56,0,none⟩)],.func (.func 173) #[] #[.pointer (some ⟨b52,0,none⟩),.pointer (some ⟨b56,0,none⟩)]] (zjc (sp (.func (.func 173) #[] #[.pointer (some ⟨b52,0,none⟩),.pointer (some ⟨b56,0,none⟩)]) ?_)))))
  refine oF rfl (oL rfl (H.cell 1 rfl rfl) (oF rfl (oL rfl (H.cell 1 rfl rfl) (sw (vC #[.int .i64 r.qE,Sv je r.zC.length jd,.pointer (some ⟨b52,0,none⟩),.pointer (some ⟨b56,0,none⟩)] rfl rfl Tryz.call173 (en Tryz.func173 Tryz.ntmps173 ?_))))))
  refine Qe rfl H [0,1,2,3,4,5,7,8,9] fun H=>?_
  have S:=H.jG [0,1,2,3,4,5,7,8,9] [0,1,2,3,4,5,6,7,8,9,10,11,12,13,14]
  refine tL 0 rfl rfl (fun _ h=>h.cell 2 rfl rfl) S ?_
  refine rtp 1 (.int .i64 r.qE) S ?_
  refine tL 2 rfl rfl (fun _ h=>h.cell 2 rfl rfl) S ?_
  refine rtp 3 (.int .i64 r.qE) S ?_
  refine tI 4 rfl rfl rfl S ?_
  refine rtp 6 (Sv je r.zC.length jd) S ?_
  refine tL 7 rfl rfl (fun _ h=>h.cell 0 rfl rfl) S ?_
  refine ro 5 rfl ?_
  obtain ⟨a59,c60,G61,s62,h63,H⟩:=H.jV 6 rfl 0 rfl (iv:=r.qE) r.qE.toNat qf qf
  refine zt (Sv a59 ((bg47[r.qE.toNat]!).length) c60) Tryz.isAgg24 rfl (h63) (⟨H.pick [0,1,2,3,4,5,7,8,9] [1,2,3,4,5,6,7,8,9,10,11,12,13,14,15],(ro 8 rfl ?_)⟩)
  obtain ⟨u1,u2⟩:=E_bg47.sh.row (c:=r.qE.toNat) qf p8 qf
  have u4:=(by first | exact bn1.jU qf | exact bn2.jU qf | exact bn3.jU qf | exact bn4.jU qf:Ve r.zC 1)
  have sz64:=H.base.size
  have lt65:=H.ltN (L:=[F45]) [1]
  refine oc (Xq _ (bg47[r.qE.toNat]!) r.zC 1 (H.get 0 rfl).1 (H.get 13 rfl).1 qg qg qg) ?_
  rintro v69 w67 r69 x68
  replace H:=H.zW x68 r69
  obtain ⟨a70,c71,rfl,hc72,hm73⟩:=H.jY 0 rfl
  refine ⟨H.pick [1,2,3,4,5,6,8,9,10] [1,2,3,4,5,6,7,8,9,10,11,12,13,14,15],(tI 9 rfl rfl rfl (H.pick [1,2,3,4,5,6,8,9,10] [1,2,3,4,5,6,7,8,9,10,11,12,13,14,15]) ?_)⟩
  refine ro 10 rfl ?_
  obtain ⟨G75,N,hn76,H⟩:=H.vz 0 rfl N (H.jJ [1])
  refine yh true H 7 rfl 2 rfl (Sv a70 ((vZ (bg47[r.qE.toNat]!) r.zC 1).length) c71) 0 rfl rfl Tryz.sizeOf24 rfl rfl (i:=r.qE.toNat) qf qf qm fun w74 xs77 F78 hs79 H=>?_
  replace N:Fresh w.heap.size [F78]:=(N.pick [1,0]).repl hs79
  refine ⟨H.pick [1,2,3,4,5,6,8,9,10] [3,4,5,6,7,8,9,10,11,12,13,14,15,16,17],(xg qh ((ret0 rfl ⟨_,rfl,?_⟩)))⟩
  replace H:=H.erases [6,0]
  dsimp only [ja,List.eraseIdx] at H
  obtain ⟨bg80,e_bg80⟩:∃ z,z=(bg47.set r.qE.toNat (vZ (bg47[r.qE.toNat]!) r.zC 1)):=⟨_,rfl⟩
  rw [← e_bg80] at H
  have E_bg80:=Ent.add (D:=1000000) E_bg47 e_bg80 qf (by first | exact bn1.mul qf | exact bn2.mul qf | exact bn3.mul qf | exact bn4.mul qf) qf
  have z_bg80:=E_bg80.sh.1
  have E_cur:=E_bg80
  refine zjcc (sw (zB [.int .i64 s.xf,Sv qC s.qw.length qB,Sv qK s.qx.length qI] Tryz.isAgg27 Tryz.sizeOf27 rfl (qJ (H.cells 4 rfl) 0 3) (sw (zB [Sv qR t.qF.length qP,Sv xq t.qG.length xn,Sv qN t.qH.length qM] Tryz.isAgg31 Tryz.sizeOf31 rfl (qJ (H.cells 3 rfl) 0 3) (oF rfl (oL rfl (H.cell 1 rfl rfl) ?_))))))
  have qc' :=qc
  refine sw (oq (parentNow_ok _ s t r.qE (H.get 7 rfl).1 (H.get 8 rfl).1 (H.get 9 rfl).1 (H.get 10 rfl).1 (H.get 11 rfl).1 qg qg qg) H fun w82 H=>?_)
  have pl:=parentNow_lt p15 p1.2.2.1 qc
  refine sp (.int .i64 (xh s t r.qE)) (zjc (sps [.int .i64 (xh s t r.qE),Bv (decide ((xh s t r.qE:Int)≥0))] (zjn (cD rfl (fun h84=>?_) (fun h84=>?_)))))
  ·skip
   have po:=outPl_in (r:=r) p15 ‹_›
   refine zn (sps [.func (.func 173) #[] #[.pointer (some ⟨b52,0,none⟩),.pointer (some ⟨b56,0,none⟩)],.int .i64 (xh s t r.qE)] (oF rfl (oL rfl (H.cell 1 rfl rfl) (sw (vC #[.int .i64 (xh s t r.qE),Sv yG r.jI.length yD,.pointer (some ⟨b52,0,none⟩),.pointer (some ⟨b56,0,none⟩)] rfl rfl Tryz.call173 (en Tryz.func173 Tryz.ntmps173 ?_))))))
   refine Qe rfl H [0,1,2,3,4,6,7,8] fun H=>?_
   have S:=H.jG [0,1,2,3,4,6,7,8] [0,1,2,3,4,5,6,7,8,9,10,11,12,13,14,15,16,17]
   refine tL 0 rfl rfl (fun _ h=>h.cell 2 rfl rfl) S ?_
   refine rtp 1 (.int .i64 (xh s t r.qE)) S ?_
   refine tL 2 rfl rfl (fun _ h=>h.cell 2 rfl rfl) S ?_
   refine rtp 3 (.int .i64 (xh s t r.qE)) S ?_
   refine tI 4 rfl rfl rfl S ?_
   refine rtp 6 (Sv yG r.jI.length yD) S ?_
   refine tL 7 rfl rfl (fun _ h=>h.cell 0 rfl rfl) S ?_
   refine ro 5 rfl ?_
   obtain ⟨a86,c87,G88,s89,h90,H⟩:=H.jV 5 rfl 0 rfl (iv:=xh s t r.qE) ((xh s t r.qE).toNat) qf qf
   refine zt (Sv a86 ((bg80[(xh s t r.qE).toNat]!).length) c87) Tryz.isAgg24 rfl (h90) (⟨H.pick [0,1,2,3,4,6,7,8] [1,2,3,4,5,6,7,8,9,10,11,12,13,14,15,16,17,18],(ro 8 rfl ?_)⟩)
   obtain ⟨u1,u2⟩:=E_bg80.sh.row (c:=(xh s t r.qE).toNat) qf p8 qf
   have u4:=(by first | exact bn1.jU qf | exact bn2.jU qf | exact bn3.jU qf | exact bn4.jU qf:Ve r.jI 1)
   have sz91:=H.base.size
   have lt92:=H.ltN (L:=[F78]) [1]
   refine oc (Xq _ (bg80[(xh s t r.qE).toNat]!) r.jI 1 (H.get 0 rfl).1 (H.get 17 rfl).1 qg qg qg) ?_
   rintro v96 w94 r96 x95
   replace H:=H.zW x95 r96
   obtain ⟨a97,c98,rfl,hc99,hm100⟩:=H.jY 0 rfl
   refine ⟨H.pick [1,2,3,4,5,7,8,9] [1,2,3,4,5,6,7,8,9,10,11,12,13,14,15,16,17,18],(tI 9 rfl rfl rfl (H.pick [1,2,3,4,5,7,8,9] [1,2,3,4,5,6,7,8,9,10,11,12,13,14,15,16,17,18]) ?_)⟩
   refine ro 10 rfl ?_
   obtain ⟨G102,N,hn103,H⟩:=H.vz 0 rfl N (H.jJ [1])
   refine yh true H 6 rfl 2 rfl (Sv a97 ((vZ (bg80[(xh s t r.qE).toNat]!) r.jI 1).length) c98) 0 rfl rfl Tryz.sizeOf24 rfl rfl (i:=((xh s t r.qE).toNat)) qf qf qm fun w101 xs104 F105 hs106 H=>?_
   replace N:Fresh w.heap.size [F105]:=(N.pick [1,0]).repl hs106
   refine ⟨H.pick [1,2,3,4,5,7,8,9] [3,4,5,6,7,8,9,10,11,12,13,14,15,16,17,18,19,20],(xg qh ((ret0 rfl ⟨_,rfl,?_⟩)))⟩
   replace H:=H.erases [0]
   dsimp only [ja,List.eraseIdx] at H
   obtain ⟨bg107,e_bg107⟩:∃ z,z=(bg80.set ((xh s t r.qE).toNat) (vZ (bg80[(xh s t r.qE).toNat]!) r.jI 1)):=⟨_,rfl⟩
   rw [← e_bg107] at H
   have E_bg107:=Ent.add (D:=1000000) E_bg80 e_bg107 qf (by first | exact bn1.mul qf | exact bn2.mul qf | exact bn3.mul qf | exact bn4.mul qf) qf
   have z_bg107:=E_bg107.sh.1
   have E_cur:=E_bg107
   refine zjc (oF rfl (oL rfl (H.cell 1 rfl rfl) (oN rfl (sp (.int .i64 0) (zjn (qZ ?_))))))
   refine zU (fun m' ρ w108=>∃ (zl:Env) (k_1:Nat) (bags_1:yLL) (yO:List Value) (yX:yLN),ρ=upd (upd (upd (upd zl 10 (.func (.func 173) #[] #[.pointer (some ⟨b52,0,none⟩),.pointer (some ⟨b56,0,none⟩)])) 40 (Sv vX r.qO.length vW)) 41 (.int .i64 r.qO.length)) 42 (.int .i64 k_1)∧((k_1:Int)≤r.qO.length)∧(Ent (s.qw.length+1) (xY s) (fun p q=>0+at' p r.qE.toNat (-1 * (r.xM)[q]!)+at' p r.qE.toNat (1 * (r.zC)[q]!)+at' p (outPl s t r) (1 * (r.jI)[q]!)+Vf r 1 k_1 p q) (3000000+1000000 * k_1) bags_1)∧(bags_1.length=s.qw.length+1)∧m' =(r.qO.length - (k_1:Int)).toNat∧Fresh w.heap.size [yX]∧St w w108 [.box b56 [.int .i64 1] 2,.box b54 [.int .i64 r.qE,.int .i64 r.vI,Sv jo r.xM.length ji,Sv jv r.zF.length jm,Sv jq r.zD.length jk,Sv je r.zC.length jd,Sv yG r.jI.length yD,Sv vX r.qO.length vW,Bv r.zV] 56,.box b52 [Sv (some ⟨b25,0,none⟩) Xu XQ] 29,.box b50 [Sv qR t.qF.length qP,Sv xq t.qG.length xn,Sv qN t.qH.length qM] 31,.box b48 [.int .i64 s.xf,Sv qC s.qw.length qB,Sv qK s.qx.length qI] 27,rr (some ⟨b25,0,none⟩) Xu XQ 24 1 yO,.box b5 [.int .i64 r.qE,.int .i64 r.vI,Sv jo r.xM.length ji,Sv jv r.zF.length jm,Sv jq r.zD.length jk,Sv je r.zC.length jd,Sv yG r.jI.length yD,Sv vX r.qO.length vW,Bv r.zV] 56,.box b3 [Sv qR t.qF.length qP,Sv xq t.qG.length xn,Sv qN t.qH.length qM] 31,.box b1 [.int .i64 s.xf,Sv qC s.qw.length qB,Sv qK s.qx.length qI] 27] [qX true yX yO bags_1,sF true G42 a37 c38 (vZ (bags[r.qE.toNat]!) r.xM (-1)),sF true G28 a26 c27 (bags[r.qE.toNat]!),sF false qY qC qB s.qw,sF false xK qK qI s.qx,sF false zq qR qP t.qF,sF false zX xq xn t.qG,sF false xN qN qM t.qH,sF false Q8 jo ji r.xM,sF false Xb jv jm r.zF,sF false Q9 jq jk r.zD,sF false Xa je jd r.zC,sF false FrOut yG yD r.jI,sF false XM vX vW r.qO]) ((r.qO.length - (0:Int)).toNat) ⟨_,0,bg107,xs104,F105,uE4,qf,(by exact E_cur.to (fun p q=>by rw [po];simp only [Vf];first | omega | (simp only [Int.toNat_natCast];omega)) qf),qf,rfl,N,H.pick [0,1,2,3,4,5,6,7,8] [0,7,8,10,11,12,13,14,15,16,17,18,19,20]⟩ ?_
   clear H N
   rintro m' ρ w109 ⟨zl,k_1,bags_1,yO,yX,rfl,i0,E_bags_1,z_bags_1,rfl,N,H⟩
   have hn_bags:=H.zi (α:=yLI) 5 rfl 0 rfl qj
   refine zcr (sp (Bv (decide ((k_1:Int) < r.qO.length))) (zjn (zg (cD rfl (fun h110=>?_) (fun h110=>?_)))))
   ·skip
    have qi:=q.2.2.2.2.2.2.2.2.2.2 k_1 qf
    have qi1:=qi.1
    have bn4:=qi.2.2.1
    have ln4:=bn4.len
    refine xe (t_n (zg (qZ (zcr ?_))))
    obtain ⟨b111,o112,rfl⟩:=H.addr 13 rfl qf
    obtain ⟨ae114Bag,ce114Bag,Fe114Bag,H⟩:=H.yZ 13 rfl k_1 k_1 qf qf qf
    refine oI rfl rfl (sw (zB [.int .i64 ((r.qO[k_1]!).qE),Sv ae114Bag (((r.qO[k_1]!).Qm).length) ce114Bag] Tryz.isAgg142 Tryz.sizeOf142 rfl (qJ (H.get 1 rfl) 0 2) (sw (xx H ti142 [.int .i64 0,Sv none 0 0] fun b115 w116 H=>sw (xu H 0 [.int .i64 ((r.qO[k_1]!).qE),Sv ae114Bag (((r.qO[k_1]!).Qm).length) ce114Bag] Tryz.sizeOf142 fun w117 H=>zjn (zn (sp (.func (.func 173) #[] #[.pointer (some ⟨b52,0,none⟩),.pointer (some ⟨b56,0,none⟩)]) (oF rfl (oL rfl (H.cell 0 rfl rfl) (oF rfl (oL rfl (H.cell 0 rfl rfl) ?_)))))))))))
    refine sw (vC #[.int .i64 ((r.qO[k_1]!).qE),Sv ae114Bag (((r.qO[k_1]!).Qm).length) ce114Bag,.pointer (some ⟨b52,0,none⟩),.pointer (some ⟨b56,0,none⟩)] rfl rfl Tryz.call173 (en Tryz.func173 Tryz.ntmps173 ?_))
    refine Qe rfl H [0,1,2,3,4,5,7,8,9] fun H=>?_
    have S:=H.jG [0,1,2,3,4,5,7,8,9] [0,1,2,3,4,5,6,7,8,9,10,11,12,13,14,15]
    refine tL 0 rfl rfl (fun _ h=>h.cell 3 rfl rfl) S ?_
    refine rtp 1 (.int .i64 ((r.qO[k_1]!).qE)) S ?_
    refine tL 2 rfl rfl (fun _ h=>h.cell 3 rfl rfl) S ?_
    refine rtp 3 (.int .i64 ((r.qO[k_1]!).qE)) S ?_
    refine tI 4 rfl rfl rfl S ?_
    refine rtp 6 (Sv ae114Bag (((r.qO[k_1]!).Qm).length) ce114Bag) S ?_
    refine tL 7 rfl rfl (fun _ h=>h.cell 1 rfl rfl) S ?_
    refine ro 5 rfl ?_
    obtain ⟨a119,c120,G121,s122,h123,H⟩:=H.jV 6 rfl 2 rfl (iv:=(r.qO[k_1]!).qE) (((r.qO[k_1]!).qE).toNat) qf qf
    refine zt (Sv a119 ((bags_1[((r.qO[k_1]!).qE).toNat]!).length) c120) Tryz.isAgg24 rfl (h123) (⟨H.pick [0,1,2,3,4,5,7,8,9] [1,2,3,4,5,6,7,8,9,10,11,12,13,14,15,16],(ro 8 rfl ?_)⟩)
    obtain ⟨u1,u2⟩:=E_bags_1.sh.row (c:=((r.qO[k_1]!).qE).toNat) qf p8 qf
    have u4:=(by first | exact bn1.jU qf | exact bn2.jU qf | exact bn3.jU qf | exact bn4.jU qf:Ve ((r.qO[k_1]!).Qm) 1)
    have sz124:=H.base.size
    have lt125:=H.ltN (L:=[yX]) [3]
    refine oc (Xq _ (bags_1[((r.qO[k_1]!).qE).toNat]!) ((r.qO[k_1]!).Qm) 1 (H.get 0 rfl).1 (H.get 1 rfl).1 qg qg qg) ?_
    rintro v129 w127 r129 x128
    replace H:=H.zW x128 r129
    obtain ⟨a130,c131,rfl,hc132,hm133⟩:=H.jY 0 rfl
    refine ⟨H.pick [1,2,3,4,5,6,8,9,10] [1,2,3,4,5,6,7,8,9,10,11,12,13,14,15,16],(tI 9 rfl rfl rfl (H.pick [1,2,3,4,5,6,8,9,10] [1,2,3,4,5,6,7,8,9,10,11,12,13,14,15,16]) ?_)⟩
    refine ro 10 rfl ?_
    obtain ⟨G135,N,hn136,H⟩:=H.vz 0 rfl N (H.jJ [3])
    refine yh true H 7 rfl 4 rfl (Sv a130 ((vZ (bags_1[((r.qO[k_1]!).qE).toNat]!) ((r.qO[k_1]!).Qm) 1).length) c131) 0 rfl rfl Tryz.sizeOf24 rfl rfl (i:=(((r.qO[k_1]!).qE).toNat)) qf qf qm fun w134 xs137 F138 hs139 H=>?_
    replace N:Fresh w.heap.size [F138]:=(N.pick [1,0]).repl hs139
    refine ⟨H.pick [1,2,3,4,5,6,8,9,10] [3,4,5,6,7,8,9,10,11,12,13,14,15,16,17,18],(xg qh ((ret0 rfl ⟨_,rfl,?_⟩)))⟩
    replace H:=H.erases [0]
    dsimp only [ja,List.eraseIdx] at H
    obtain ⟨bg140,e_bg140⟩:∃ z,z=(bags_1.set (((r.qO[k_1]!).qE).toNat) (vZ (bags_1[((r.qO[k_1]!).qE).toNat]!) ((r.qO[k_1]!).Qm) 1)):=⟨_,rfl⟩
    rw [← e_bg140] at H
    have E_bg140:=Ent.add (D:=1000000) E_bags_1 e_bg140 qf (by first | exact bn1.mul qf | exact bn2.mul qf | exact bn3.mul qf | exact bn4.mul qf) qf
    have z_bg140:=E_bg140.sh.1
    have E_cur:=E_bg140
    refine zo (b_n (t_n (zn (sw (zN k_1 1 rfl rfl qf (sp (.int .i64 (k_1+1)) (zo (xm (m' :=(r.qO.length - ((k_1+1):Int)).toNat) qf ⟨_,k_1+1,bg140,xs137,F138,uE4,?_,?_,?_,rfl,N,H.pick [1,2,3,4,5,6,7,8,9] [0,6,7,8,9,10,11,12,13,14,15,16,17,18]⟩))))))))
    · omega
    · exact E_cur.to (fun p q=>by simp only [Vf];omega) qf
    · omega
   ·skip
    refine c_exit (t_x (t_x (b_x (ret0 rfl ⟨_,rfl,?_⟩))))
    replace H:=H.erases [4,3,2,1,0]
    dsimp only [ja,List.eraseIdx] at H
    refine zjc (sps [Sv (some ⟨b25,0,none⟩) Xu XQ,Sv (some ⟨b25,0,none⟩) Xu XQ] (zjr (ret1 (Sv (some ⟨b25,0,none⟩) Xu XQ) rfl rfl ⟨_,rfl,?_,H.base⟩)))
    rw [show QA s t r=bags_1 from (E_bags_1.to (fun p q=>by rw [show k_1=(r.qO).length by omega];simp only [chgP,putF];omega) (Int.le_refl _)).tab.symm]
    exact ⟨(some ⟨b25,0,none⟩),Xu,XQ,yO,yX,rfl,N,H.pick [0] [0]⟩
  ·skip
   have po:=outPl_out (r:=r) p15 p1.2.2.1 qc qf
   refine Qe rfl H [0,1,2,3,4,6,7,8] fun H=>?_
   have S:=H.jG [0,1,2,3,4,6,7,8] [0,1,2,3,4,5,6,7,8,9,10,11,12,13,14,15,16,17]
   refine rtp 0 (.func (.func 173) #[] #[.pointer (some ⟨b52,0,none⟩),.pointer (some ⟨b56,0,none⟩)]) S ?_
   refine rt 1 (.agg #[.int .i64 s.xf,Sv qC s.qw.length qB,Sv qK s.qx.length qI]) (yK (cs:=[.int .i64 s.xf,Sv qC s.qw.length qB,Sv qK s.qx.length qI]) Tryz.isAgg27 Tryz.sizeOf27 rfl (fun _ h=>qJ (h.cells 4 rfl) 0 3)) S ?_
   refine tF 3 rfl rfl S ?_
   refine tL 4 rfl rfl (fun _ h=>h.cell 1 rfl rfl) S ?_
   refine ro 2 rfl (oq (XR _ s (H.get 7 rfl).1 (H.get 8 rfl).1) H fun w143 H=>⟨H.pick [0,1,2,3,4,6,7,8] [0,1,2,3,4,5,6,7,8,9,10,11,12,13,14,15,16,17],(ro 5 rfl (vC #[.int .i64 s.qw.length,Sv yG r.jI.length yD,.pointer (some ⟨b52,0,none⟩),.pointer (some ⟨b56,0,none⟩)] rfl rfl Tryz.call173 (en Tryz.func173 Tryz.ntmps173 ?_)))⟩)
   refine Qe rfl H [0,1,2,3,4,6,7,8] fun H=>?_
   have S:=H.jG [0,1,2,3,4,6,7,8] [0,1,2,3,4,5,6,7,8,9,10,11,12,13,14,15,16,17]
   refine tL 0 rfl rfl (fun _ h=>h.cell 2 rfl rfl) S ?_
   refine rtp 1 (.int .i64 s.qw.length) S ?_
   refine tL 2 rfl rfl (fun _ h=>h.cell 2 rfl rfl) S ?_
   refine rtp 3 (.int .i64 s.qw.length) S ?_
   refine tI 4 rfl rfl rfl S ?_
   refine rtp 6 (Sv yG r.jI.length yD) S ?_
   refine tL 7 rfl rfl (fun _ h=>h.cell 0 rfl rfl) S ?_
   refine ro 5 rfl ?_
   obtain ⟨a146,c147,G148,s149,h150,H⟩:=H.jV 5 rfl 0 rfl (iv:=s.qw.length) s.qw.length qf qf
   refine zt (Sv a146 ((bg80[s.qw.length]!).length) c147) Tryz.isAgg24 rfl (h150) (⟨H.pick [0,1,2,3,4,6,7,8] [1,2,3,4,5,6,7,8,9,10,11,12,13,14,15,16,17,18],(ro 8 rfl ?_)⟩)
   obtain ⟨u1,u2⟩:=E_bg80.sh.row (c:=s.qw.length) qf p8 qf
   have u4:=(by first | exact bn1.jU qf | exact bn2.jU qf | exact bn3.jU qf | exact bn4.jU qf:Ve r.jI 1)
   have sz151:=H.base.size
   have lt152:=H.ltN (L:=[F78]) [1]
   refine oc (Xq _ (bg80[s.qw.length]!) r.jI 1 (H.get 0 rfl).1 (H.get 17 rfl).1 qg qg qg) ?_
   rintro v156 w154 r156 x155
   replace H:=H.zW x155 r156
   obtain ⟨a157,c158,rfl,hc159,hm160⟩:=H.jY 0 rfl
   refine ⟨H.pick [1,2,3,4,5,7,8,9] [1,2,3,4,5,6,7,8,9,10,11,12,13,14,15,16,17,18],(tI 9 rfl rfl rfl (H.pick [1,2,3,4,5,7,8,9] [1,2,3,4,5,6,7,8,9,10,11,12,13,14,15,16,17,18]) ?_)⟩
   refine ro 10 rfl ?_
   obtain ⟨G162,N,hn163,H⟩:=H.vz 0 rfl N (H.jJ [1])
   refine yh true H 6 rfl 2 rfl (Sv a157 ((vZ (bg80[s.qw.length]!) r.jI 1).length) c158) 0 rfl rfl Tryz.sizeOf24 rfl rfl (i:=s.qw.length) qf qf qm fun w161 xs164 F165 hs166 H=>?_
   replace N:Fresh w.heap.size [F165]:=(N.pick [1,0]).repl hs166
   refine ⟨H.pick [1,2,3,4,5,7,8,9] [3,4,5,6,7,8,9,10,11,12,13,14,15,16,17,18,19,20],(xg qh ((ret0 rfl ⟨_,rfl,?_⟩)))⟩
   replace H:=H.erases [0]
   dsimp only [ja,List.eraseIdx] at H
   obtain ⟨bg167,e_bg167⟩:∃ z,z=(bg80.set s.qw.length (vZ (bg80[s.qw.length]!) r.jI 1)):=⟨_,rfl⟩
   rw [← e_bg167] at H
   have E_bg167:=Ent.add (D:=1000000) E_bg80 e_bg167 qf (by first | exact bn1.mul qf | exact bn2.mul qf | exact bn3.mul qf | exact bn4.mul qf) qf
   have z_bg167:=E_bg167.sh.1
   have E_cur:=E_bg167
   refine ⟨H.pick [0,1,2,3,4,6,7,8] [3,4,5,6,7,8,9,10,11,12,13,14,15,16,17,18,19,20],(xg qh (t_n (zcr (oF rfl (oL rfl (H.cell 1 rfl rfl) (oN rfl (sp (.int .i64 0) (zjn (qZ ?_)))))))))⟩
   refine zU (fun m' ρ w168=>∃ (zl:Env) (k_1:Nat) (bags_1:yLL) (yO:List Value) (yX:yLN),ρ=upd (upd (upd (upd zl 10 (.func (.func 173) #[] #[.pointer (some ⟨b52,0,none⟩),.pointer (some ⟨b56,0,none⟩)])) 40 (Sv vX r.qO.length vW)) 41 (.int .i64 r.qO.length)) 42 (.int .i64 k_1)∧((k_1:Int)≤r.qO.length)∧(Ent (s.qw.length+1) (xY s) (fun p q=>0+at' p r.qE.toNat (-1 * (r.xM)[q]!)+at' p r.qE.toNat (1 * (r.zC)[q]!)+at' p (outPl s t r) (1 * (r.jI)[q]!)+Vf r 1 k_1 p q) (3000000+1000000 * k_1) bags_1)∧(bags_1.length=s.qw.length+1)∧m' =(r.qO.length - (k_1:Int)).toNat∧Fresh w.heap.size [yX]∧St w w168 [.box b56 [.int .i64 1] 2,.box b54 [.int .i64 r.qE,.int .i64 r.vI,Sv jo r.xM.length ji,Sv jv r.zF.length jm,Sv jq r.zD.length jk,Sv je r.zC.length jd,Sv yG r.jI.length yD,Sv vX r.qO.length vW,Bv r.zV] 56,.box b52 [Sv (some ⟨b25,0,none⟩) Xu XQ] 29,.box b50 [Sv qR t.qF.length qP,Sv xq t.qG.length xn,Sv qN t.qH.length qM] 31,.box b48 [.int .i64 s.xf,Sv qC s.qw.length qB,Sv qK s.qx.length qI] 27,rr (some ⟨b25,0,none⟩) Xu XQ 24 1 yO,.box b5 [.int .i64 r.qE,.int .i64 r.vI,Sv jo r.xM.length ji,Sv jv r.zF.length jm,Sv jq r.zD.length jk,Sv je r.zC.length jd,Sv yG r.jI.length yD,Sv vX r.qO.length vW,Bv r.zV] 56,.box b3 [Sv qR t.qF.length qP,Sv xq t.qG.length xn,Sv qN t.qH.length qM] 31,.box b1 [.int .i64 s.xf,Sv qC s.qw.length qB,Sv qK s.qx.length qI] 27] [qX true yX yO bags_1,sF true G42 a37 c38 (vZ (bags[r.qE.toNat]!) r.xM (-1)),sF true G28 a26 c27 (bags[r.qE.toNat]!),sF false qY qC qB s.qw,sF false xK qK qI s.qx,sF false zq qR qP t.qF,sF false zX xq xn t.qG,sF false xN qN qM t.qH,sF false Q8 jo ji r.xM,sF false Xb jv jm r.zF,sF false Q9 jq jk r.zD,sF false Xa je jd r.zC,sF false FrOut yG yD r.jI,sF false XM vX vW r.qO]) ((r.qO.length - (0:Int)).toNat) ⟨_,0,bg167,xs164,F165,uE4,qf,(by exact E_cur.to (fun p q=>by rw [po];simp only [Vf];first | omega | (simp only [Int.toNat_natCast];omega)) qf),qf,rfl,N,H.pick [0,1,2,3,4,5,6,7,8] [0,7,8,10,11,12,13,14,15,16,17,18,19,20]⟩ ?_
   clear H N
   rintro m' ρ w169 ⟨zl,k_1,bags_1,yO,yX,rfl,i0,E_bags_1,z_bags_1,rfl,N,H⟩
   have hn_bags:=H.zi (α:=yLI) 5 rfl 0 rfl qj
   refine zcr (sp (Bv (decide ((k_1:Int) < r.qO.length))) (zjn (zg (cD rfl (fun h170=>?_) (fun h170=>?_)))))
   ·skip
    have qi:=q.2.2.2.2.2.2.2.2.2.2 k_1 qf
    have qi1:=qi.1
    have bn4:=qi.2.2.1
    have ln4:=bn4.len
    refine xe (t_n (zg (qZ (zcr ?_))))
    obtain ⟨b171,o172,rfl⟩:=H.addr 13 rfl qf
    obtain ⟨ae174Bag,ce174Bag,Fe174Bag,H⟩:=H.yZ 13 rfl k_1 k_1 qf qf qf
    refine oI rfl rfl (sw (zB [.int .i64 ((r.qO[k_1]!).qE),Sv ae174Bag (((r.qO[k_1]!).Qm).length) ce174Bag] Tryz.isAgg142 Tryz.sizeOf142 rfl (qJ (H.get 1 rfl) 0 2) (sw (xx H ti142 [.int .i64 0,Sv none 0 0] fun b175 w176 H=>sw (xu H 0 [.int .i64 ((r.qO[k_1]!).qE),Sv ae174Bag (((r.qO[k_1]!).Qm).length) ce174Bag] Tryz.sizeOf142 fun w177 H=>zjn (zn (sp (.func (.func 173) #[] #[.pointer (some ⟨b52,0,none⟩),.pointer (some ⟨b56,0,none⟩)]) (oF rfl (oL rfl (H.cell 0 rfl rfl) (oF rfl (oL rfl (H.cell 0 rfl rfl) ?_)))))))))))
    refine sw (vC #[.int .i64 ((r.qO[k_1]!).qE),Sv ae174Bag (((r.qO[k_1]!).Qm).length) ce174Bag,.pointer (some ⟨b52,0,none⟩),.pointer (some ⟨b56,0,none⟩)] rfl rfl Tryz.call173 (en Tryz.func173 Tryz.ntmps173 ?_))
    refine Qe rfl H [0,1,2,3,4,5,7,8,9] fun H=>?_
    have S:=H.jG [0,1,2,3,4,5,7,8,9] [0,1,2,3,4,5,6,7,8,9,10,11,12,13,14,15]
    refine tL 0 rfl rfl (fun _ h=>h.cell 3 rfl rfl) S ?_
    refine rtp 1 (.int .i64 ((r.qO[k_1]!).qE)) S ?_
    refine tL 2 rfl rfl (fun _ h=>h.cell 3 rfl rfl) S ?_
    refine rtp 3 (.int .i64 ((r.qO[k_1]!).qE)) S ?_
    refine tI 4 rfl rfl rfl S ?_
    refine rtp 6 (Sv ae174Bag (((r.qO[k_1]!).Qm).length) ce174Bag) S ?_
    refine tL 7 rfl rfl (fun _ h=>h.cell 1 rfl rfl) S ?_
    refine ro 5 rfl ?_
    obtain ⟨a179,c180,G181,s182,h183,H⟩:=H.jV 6 rfl 2 rfl (iv:=(r.qO[k_1]!).qE) (((r.qO[k_1]!).qE).toNat) qf qf
    refine zt (Sv a179 ((bags_1[((r.qO[k_1]!).qE).toNat]!).length) c180) Tryz.isAgg24 rfl (h183) (⟨H.pick [0,1,2,3,4,5,7,8,9] [1,2,3,4,5,6,7,8,9,10,11,12,13,14,15,16],(ro 8 rfl ?_)⟩)
    obtain ⟨u1,u2⟩:=E_bags_1.sh.row (c:=((r.qO[k_1]!).qE).toNat) qf p8 qf
    have u4:=(by first | exact bn1.jU qf | exact bn2.jU qf | exact bn3.jU qf | exact bn4.jU qf:Ve ((r.qO[k_1]!).Qm) 1)
    have sz184:=H.base.size
    have lt185:=H.ltN (L:=[yX]) [3]
    refine oc (Xq _ (bags_1[((r.qO[k_1]!).qE).toNat]!) ((r.qO[k_1]!).Qm) 1 (H.get 0 rfl).1 (H.get 1 rfl).1 qg qg qg) ?_
    rintro v189 w187 r189 x188
    replace H:=H.zW x188 r189
    obtain ⟨a190,c191,rfl,hc192,hm193⟩:=H.jY 0 rfl
    refine ⟨H.pick [1,2,3,4,5,6,8,9,10] [1,2,3,4,5,6,7,8,9,10,11,12,13,14,15,16],(tI 9 rfl rfl rfl (H.pick [1,2,3,4,5,6,8,9,10] [1,2,3,4,5,6,7,8,9,10,11,12,13,14,15,16]) ?_)⟩
    refine ro 10 rfl ?_
    obtain ⟨G195,N,hn196,H⟩:=H.vz 0 rfl N (H.jJ [3])
    refine yh true H 7 rfl 4 rfl (Sv a190 ((vZ (bags_1[((r.qO[k_1]!).qE).toNat]!) ((r.qO[k_1]!).Qm) 1).length) c191) 0 rfl rfl Tryz.sizeOf24 rfl rfl (i:=(((r.qO[k_1]!).qE).toNat)) qf qf qm fun w194 xs197 F198 hs199 H=>?_
    replace N:Fresh w.heap.size [F198]:=(N.pick [1,0]).repl hs199
    refine ⟨H.pick [1,2,3,4,5,6,8,9,10] [3,4,5,6,7,8,9,10,11,12,13,14,15,16,17,18],(xg qh ((ret0 rfl ⟨_,rfl,?_⟩)))⟩
    replace H:=H.erases [0]
    dsimp only [ja,List.eraseIdx] at H
    obtain ⟨bg200,e_bg200⟩:∃ z,z=(bags_1.set (((r.qO[k_1]!).qE).toNat) (vZ (bags_1[((r.qO[k_1]!).qE).toNat]!) ((r.qO[k_1]!).Qm) 1)):=⟨_,rfl⟩
    rw [← e_bg200] at H
    have E_bg200:=Ent.add (D:=1000000) E_bags_1 e_bg200 qf (by first | exact bn1.mul qf | exact bn2.mul qf | exact bn3.mul qf | exact bn4.mul qf) qf
    have z_bg200:=E_bg200.sh.1
    have E_cur:=E_bg200
    refine zo (b_n (t_n (zn (sw (zN k_1 1 rfl rfl qf (sp (.int .i64 (k_1+1)) (zo (xm (m' :=(r.qO.length - ((k_1+1):Int)).toNat) qf ⟨_,k_1+1,bg200,xs197,F198,uE4,?_,?_,?_,rfl,N,H.pick [1,2,3,4,5,6,7,8,9] [0,6,7,8,9,10,11,12,13,14,15,16,17,18]⟩))))))))
    · omega
    · exact E_cur.to (fun p q=>by simp only [Vf];omega) qf
    · omega
   ·skip
    refine c_exit (t_x (t_x (b_x (ret0 rfl ⟨_,rfl,?_⟩))))
    replace H:=H.erases [4,3,2,1,0]
    dsimp only [ja,List.eraseIdx] at H
    refine zjc (sps [Sv (some ⟨b25,0,none⟩) Xu XQ,Sv (some ⟨b25,0,none⟩) Xu XQ] (zjr (ret1 (Sv (some ⟨b25,0,none⟩) Xu XQ) rfl rfl ⟨_,rfl,?_,H.base⟩)))
    rw [show QA s t r=bags_1 from (E_bags_1.to (fun p q=>by rw [show k_1=(r.qO).length by omega];simp only [chgP,putF];omega) (Int.le_refl _)).tab.symm]
    exact ⟨(some ⟨b25,0,none⟩),Xu,XQ,yO,yX,rfl,N,H.pick [0] [0]⟩

theorem changeOf_ok (w:World) (s:qy) (t:qA) (i:Int) {qC:yOA} {qY:yLN} {qK:yOA} {xK:yLN} {qR:yOA} {zq:yLN} {xq:yOA} {zX:yLN} {qN:yOA} {xN:yLN} (qW:qU.rep w qY [Sv qC s.qw.length qB] s.qw) (xF:qU.rep w xK [Sv qK s.qx.length qI] s.qx) (zy:qU.rep w zq [Sv qR t.qF.length qP] t.qF) (ve:qU.rep w zX [Sv xq t.qG.length xn] t.qG) (xW:qU.rep w xN [Sv qN t.qH.length qM] t.qH) (p0:vw s∧xJ s t) (p1:0≤i∧i < (s.qx.length:Int)) (p2:EnOk s t (s.qx[i.toNat]!)):Calls Tryz.prog 28 #[.agg #[.int .i64 s.xf,Sv qC s.qw.length qB,Sv qK s.qx.length qI],.agg #[Sv qR t.qF.length qP,Sv xq t.qG.length xn,Sv qN t.qH.length qM],.int .i64 i] w (Ret (fun v w' =>∃ (ra0:yOA) (rn0:Nat) (rc0:Nat) (rx0:List Value) (rF0:yLN),v=.tuple #[Sv ra0 rn0 rc0,.int .i64 0]∧Fresh w.heap.size [rF0]∧St w w' [rr ra0 rn0 rc0 24 1 rx0] [qX true rF0 rx0 (QA s t (s.qx[(i:Int).toNat]!))]) w):=by
 refine en Tryz.func28 Tryz.ntmps28 ?_
 have H:=(((((St.start w).arg xW).arg ve).arg zy).arg xF).arg qW
 have vH:=qQ qW
 have jM:=qQ xF
 have Qg:=qQ zy
 have QZ:=qQ ve
 have yC:=qQ xW
 clear qW xF zy ve xW
 have N:=Fresh.nil w.heap.size
 have k1:=p0.1
 have k2:=p0.2
 have k3:RuleOk s (s.qx[i.toNat]!):=k1.rule qf
 have k4:=k1.2.1
 refine zcr (sw (vF H [.int .i64 s.xf,Sv qC s.qw.length qB,Sv qK s.qx.length qI] fun b1 w2 H=>sw (vF H [Sv qR t.qF.length qP,Sv xq t.qG.length xn,Sv qN t.qH.length qM] fun b3 w4 H=>sps [Sv none 0 0,.int .i64 0] (zjc (sw (zB [.int .i64 s.xf,Sv qC s.qw.length qB,Sv qK s.qx.length qI] Tryz.isAgg27 Tryz.sizeOf27 rfl (qJ (H.cells 1 rfl) 0 3) ?_))))))
 refine sw (zB [Sv qR t.qF.length qP,Sv xq t.qG.length xn,Sv qN t.qH.length qM] Tryz.isAgg31 Tryz.sizeOf31 rfl (qJ (H.cells 0 rfl) 0 3) (sp (.int .i64 i) (sw (vC #[.agg #[.int .i64 s.xf,Sv qC s.qw.length qB,Sv qK s.qx.length qI],.agg #[Sv qR t.qF.length qP,Sv xq t.qG.length xn,Sv qN t.qH.length qM],.int .i64 i] rfl rfl Tryz.call74 (en Tryz.func74 Tryz.ntmps74 ?_)))))
 refine zcr (sw (vF H [.int .i64 s.xf,Sv qC s.qw.length qB,Sv qK s.qx.length qI] fun b5 w6 H=>sw (vF H [Sv qR t.qF.length qP,Sv xq t.qG.length xn,Sv qN t.qH.length qM] fun b7 w8 H=>sp (.int .i64 0) (zjn (zg (qZ (zcr (sw (zB [.int .i64 s.xf,Sv qC s.qw.length qB,Sv qK s.qx.length qI] Tryz.isAgg27 Tryz.sizeOf27 rfl (qJ (H.cells 1 rfl) 0 3) ?_)))))))))
 refine sw (zB [Sv qR t.qF.length qP,Sv xq t.qG.length xn,Sv qN t.qH.length qM] Tryz.isAgg31 Tryz.sizeOf31 rfl (qJ (H.cells 0 rfl) 0 3) (sw (oq (validState_ok _ s t (H.get 0 rfl).1 (H.get 1 rfl).1 (H.get 2 rfl).1 (H.get 3 rfl).1 (H.get 4 rfl).1) H fun w10 H=>sps [Bv (!(dec (vw s∧xJ s t))),Bv (!(dec (vw s∧xJ s t)))] (zjn (xI (!(dec (vw s∧xJ s t))) rfl (fun h=>absurd p0 (zO (xC h))) (fun h12=>?_))))))
 replace h12:=xw h12
 replace h12:=yB h12
 refine zcr (sp (.int .i64 i) (oF rfl (oL rfl (H.cell 1 rfl rfl) (sw (oq (sizeR_ok _ s.qx (H.get 1 rfl).1) H fun w14 H=>sw (o_sub s.qx.length 1 rfl rfl qf (sw (oq (Xj w14 i 0 (s.qx.length - 1)) H fun w16 H=>sps [Bv (!(inR i 0 (s.qx.length - 1))),Bv (!(inR i 0 (s.qx.length - 1)))] (zjn (xI (!(inR i 0 (s.qx.length - 1))) rfl (fun h18=>?_) (fun h18=>?_)))))))))))
 ·skip
  replace h18:=xC h18
  replace h18:=Xn h18
  refine zcr (sp (.int .i64 2) (zjr (b_r (t_r (ret1 (.int .i64 2) rfl rfl ⟨_,rfl,?_⟩)))))
  replace H:=H.erases [1,0]
  dsimp only [ja,List.eraseIdx] at H
  refine sp (.int .i64 2) (zjn (zg (zg ?_)))
  refine yj rfl H fun H=>rtp 0 (.int .i64 2) H ?_
  refine rtp 1 (Bv ((2:Int) == 0)) H ?_
  refine rtp 2 (Bv ((2:Int) == 0)) H ?_
  cases h20:((2:Int) == 0)
  ·skip
   replace h20:=ne_of_beq_false h20
   refine zL [3,4,5,6,7,8,9,10,11] 9 (H) (rtp 12 (Bv false) H ?_)
   refine xg qh (t_n (xI false rfl (fun h=>absurd h qj) (fun _=>xe (t_n (zcc (sps [.int .i64 2,Bv true] (zjn (xI true rfl (fun _=>zcr (sps [.int .i64 2,Sv none 0 0,.int .i64 2] (zjr (t_r ?_)))) (fun h=>absurd h qj)))))))))
   replace H:=H.nilRow 24 1
   replace H:=H.jD (α:=yLI)
   refine ret2 (Sv none 0 0) (.int .i64 2) rfl rfl rfl ⟨_,rfl,?_,H.base⟩
   exfalso;first | omega | contradiction
  ·skip
   replace h20:=eq_of_beq h20
   refine rg 3 (.agg #[.int .i64 s.xf,Sv qC s.qw.length qB,Sv qK s.qx.length qI]) 15 (yK (cs:=[.int .i64 s.xf,Sv qC s.qw.length qB,Sv qK s.qx.length qI]) Tryz.isAgg27 Tryz.sizeOf27 rfl (fun _ h=>qJ (h.cells 1 rfl) 0 3)) H ?_
   refine rg 4 (.agg #[Sv qR t.qF.length qP,Sv xq t.qG.length xn,Sv qN t.qH.length qM]) 15 (yK (cs:=[Sv qR t.qF.length qP,Sv xq t.qG.length xn,Sv qN t.qH.length qM]) Tryz.isAgg31 Tryz.sizeOf31 rfl (fun _ h=>qJ (h.cells 0 rfl) 0 3)) H ?_
   refine gF 5 rfl rfl H ?_
   refine gL 6 rfl rfl (fun _ h=>h.cell 1 rfl rfl) H ?_
   refine rgp 7 (.int .i64 i) 15 H ?_
   obtain ⟨b21,o22,rfl⟩:=H.addr 1 rfl qf
   obtain ⟨ae24Need,ce24Need,Fe24Need,ae24Have,ce24Have,Fe24Have,ae24Lack,ce24Lack,Fe24Lack,ae24Here,ce24Here,Fe24Here,ae24Out,ce24Out,Fe24Out,ae24Into,ce24Into,Fe24Into,H⟩:=H.yY 1 rfl i i.toNat qf qf qf
   refine gI 8 rfl rfl rfl (H.pick [0,1] [7,8,9,10,11]) ?_
   refine zH [9] qh qm (Xg rfl (e:=15) rfl rfl (zB [.int .i64 ((s.qx[i.toNat]!).qE),.int .i64 ((s.qx[i.toNat]!).vI),Sv ae24Need (((s.qx[i.toNat]!).xM).length) ce24Need,Sv ae24Have (((s.qx[i.toNat]!).zF).length) ce24Have,Sv ae24Lack (((s.qx[i.toNat]!).zD).length) ce24Lack,Sv ae24Here (((s.qx[i.toNat]!).zC).length) ce24Here,Sv ae24Out (((s.qx[i.toNat]!).jI).length) ce24Out,Sv ae24Into (((s.qx[i.toNat]!).qO).length) ce24Into,Bv ((s.qx[i.toNat]!).zV)] Tryz.isAgg56 Tryz.sizeOf56 rfl (qJ (H.get 6 rfl) 0 9) (⟨H.pick [0,1] [7,8,9,10,11],?_⟩)) zI)
   refine zH [10] qh qm (Xg rfl (e:=15) rfl rfl (oq (isEnabled_ok _ s t (s.qx[i.toNat]!) (H.get 7 rfl).1 (H.get 8 rfl).1 (H.get 9 rfl).1 (H.get 10 rfl).1 (H.get 11 rfl).1 (H.get 0 rfl).1 (H.get 1 rfl).1 (H.get 2 rfl).1 (H.get 3 rfl).1 (H.get 4 rfl).1 (H.get 5 rfl).1 qg qg qg) H fun w26 H=>⟨H.pick [0,1] [7,8,9,10,11],?_⟩) zI)
   have S:=H.jG [0,1] [7,8,9,10,11]
   refine rgp 11 (Bv (!(dec (EnOk s t (s.qx[i.toNat]!))))) 15 S ?_
   refine rtp 12 (Bv (!(dec (EnOk s t (s.qx[i.toNat]!))))) S ?_
   refine xg qh (t_n (cQ rfl (fun h28=>?_) (fun h28=>?_)))
   ·skip
    refine zn (sp (.int .i64 4) (zjcc (sps [.int .i64 4,Bv true] (zjn (xI true rfl (fun _=>zcr (sps [.int .i64 4,Sv none 0 0,.int .i64 4] (zjr (t_r ?_)))) (fun h=>absurd h qj))))))
    replace H:=H.nilRow 24 1
    replace H:=H.jD (α:=yLI)
    refine ret2 (Sv none 0 0) (.int .i64 4) rfl rfl rfl ⟨_,rfl,?_,H.base⟩
    exfalso;first | omega | contradiction
   ·skip
    refine xe (t_n (zcc (sps [.int .i64 2,Bv true] (zjn (xI true rfl (fun _=>zcr (sps [.int .i64 2,Sv none 0 0,.int .i64 2] (zjr (t_r ?_)))) (fun h=>absurd h qj))))))
    replace H:=H.nilRow 24 1
    replace H:=H.jD (α:=yLI)
    refine ret2 (Sv none 0 0) (.int .i64 2) rfl rfl rfl ⟨_,rfl,?_,H.base⟩
    exfalso;first | omega | contradiction
 ·skip
  replace h18:=xw h18
  replace h18:=QL.1 h18
  refine xe (b_n (t_n (zcr (sp (.int .i64 0) (zjr (ret1 (.int .i64 0) rfl rfl ⟨_,rfl,?_⟩))))))
  replace H:=H.erases [1,0]
  dsimp only [ja,List.eraseIdx] at H
  refine sp (.int .i64 0) (zjn (zg (zg ?_)))
  refine yj rfl H fun H=>rtp 0 (.int .i64 0) H ?_
  refine rtp 1 (Bv ((0:Int) == 0)) H ?_
  refine rtp 2 (Bv ((0:Int) == 0)) H ?_
  cases h30:((0:Int) == 0)
  · exact absurd rfl (ne_of_beq_false h30)
  ·skip
   replace h30:=eq_of_beq h30
   refine rg 3 (.agg #[.int .i64 s.xf,Sv qC s.qw.length qB,Sv qK s.qx.length qI]) 15 (yK (cs:=[.int .i64 s.xf,Sv qC s.qw.length qB,Sv qK s.qx.length qI]) Tryz.isAgg27 Tryz.sizeOf27 rfl (fun _ h=>qJ (h.cells 1 rfl) 0 3)) H ?_
   refine rg 4 (.agg #[Sv qR t.qF.length qP,Sv xq t.qG.length xn,Sv qN t.qH.length qM]) 15 (yK (cs:=[Sv qR t.qF.length qP,Sv xq t.qG.length xn,Sv qN t.qH.length qM]) Tryz.isAgg31 Tryz.sizeOf31 rfl (fun _ h=>qJ (h.cells 0 rfl) 0 3)) H ?_
   refine gF 5 rfl rfl H ?_
   refine gL 6 rfl rfl (fun _ h=>h.cell 1 rfl rfl) H ?_
   refine rgp 7 (.int .i64 i) 15 H ?_
   obtain ⟨b31,o32,rfl⟩:=H.addr 1 rfl qf
   obtain ⟨ae34Need,ce34Need,Fe34Need,ae34Have,ce34Have,Fe34Have,ae34Lack,ce34Lack,Fe34Lack,ae34Here,ce34Here,Fe34Here,ae34Out,ce34Out,Fe34Out,ae34Into,ce34Into,Fe34Into,H⟩:=H.yY 1 rfl i i.toNat qf qf qf
   refine gI 8 rfl rfl rfl (H.pick [0,1] [7,8,9,10,11]) ?_
   refine zH [9] qh qm (Xg rfl (e:=15) rfl rfl (zB [.int .i64 ((s.qx[i.toNat]!).qE),.int .i64 ((s.qx[i.toNat]!).vI),Sv ae34Need (((s.qx[i.toNat]!).xM).length) ce34Need,Sv ae34Have (((s.qx[i.toNat]!).zF).length) ce34Have,Sv ae34Lack (((s.qx[i.toNat]!).zD).length) ce34Lack,Sv ae34Here (((s.qx[i.toNat]!).zC).length) ce34Here,Sv ae34Out (((s.qx[i.toNat]!).jI).length) ce34Out,Sv ae34Into (((s.qx[i.toNat]!).qO).length) ce34Into,Bv ((s.qx[i.toNat]!).zV)] Tryz.isAgg56 Tryz.sizeOf56 rfl (qJ (H.get 6 rfl) 0 9) (⟨H.pick [0,1] [7,8,9,10,11],?_⟩)) zI)
   refine zH [10] qh qm (Xg rfl (e:=15) rfl rfl (oq (isEnabled_ok _ s t (s.qx[i.toNat]!) (H.get 7 rfl).1 (H.get 8 rfl).1 (H.get 9 rfl).1 (H.get 10 rfl).1 (H.get 11 rfl).1 (H.get 0 rfl).1 (H.get 1 rfl).1 (H.get 2 rfl).1 (H.get 3 rfl).1 (H.get 4 rfl).1 (H.get 5 rfl).1 qg qg qg) H fun w36 H=>⟨H.pick [0,1] [7,8,9,10,11],?_⟩) zI)
   have S:=H.jG [0,1] [7,8,9,10,11]
   refine rgp 11 (Bv (!(dec (EnOk s t (s.qx[i.toNat]!))))) 15 S ?_
   refine rtp 12 (Bv (!(dec (EnOk s t (s.qx[i.toNat]!))))) S ?_
   refine xg qh (t_n (cQ rfl (fun h38=>?_) (fun h38=>?_)))
   ·skip
    refine zn (sp (.int .i64 4) (zjcc (sps [.int .i64 4,Bv true] (zjn (xI true rfl (fun _=>zcr (sps [.int .i64 4,Sv none 0 0,.int .i64 4] (zjr (t_r ?_)))) (fun h=>absurd h qj))))))
    replace H:=H.nilRow 24 1
    replace H:=H.jD (α:=yLI)
    refine ret2 (Sv none 0 0) (.int .i64 4) rfl rfl rfl ⟨_,rfl,?_,H.base⟩
    exfalso;first | omega | contradiction
   ·skip
    refine xe (t_n (zcc (sps [.int .i64 0,Bv false] (zjn (xI false rfl (fun h=>absurd h qj) (fun _=>xe (t_n (zg ?_))))))))
    refine yj rfl H fun H=>rt 0 (.agg #[.int .i64 s.xf,Sv qC s.qw.length qB,Sv (some ⟨b31,o32,none⟩) s.qx.length qI]) (yK (cs:=[.int .i64 s.xf,Sv qC s.qw.length qB,Sv (some ⟨b31,o32,none⟩) s.qx.length qI]) Tryz.isAgg27 Tryz.sizeOf27 rfl (fun _ h=>qJ (h.cells 1 rfl) 0 3)) H ?_
    refine rt 1 (.agg #[Sv qR t.qF.length qP,Sv xq t.qG.length xn,Sv qN t.qH.length qM]) (yK (cs:=[Sv qR t.qF.length qP,Sv xq t.qG.length xn,Sv qN t.qH.length qM]) Tryz.isAgg31 Tryz.sizeOf31 rfl (fun _ h=>qJ (h.cells 0 rfl) 0 3)) H ?_
    refine tF 2 rfl rfl H ?_
    refine tL 3 rfl rfl (fun _ h=>h.cell 1 rfl rfl) H ?_
    refine rtp 4 (.int .i64 i) H ?_
    refine tI 5 rfl rfl rfl H ?_
    refine rt 6 (.agg #[.int .i64 ((s.qx[i.toNat]!).qE),.int .i64 ((s.qx[i.toNat]!).vI),Sv ae34Need (((s.qx[i.toNat]!).xM).length) ce34Need,Sv ae34Have (((s.qx[i.toNat]!).zF).length) ce34Have,Sv ae34Lack (((s.qx[i.toNat]!).zD).length) ce34Lack,Sv ae34Here (((s.qx[i.toNat]!).zC).length) ce34Here,Sv ae34Out (((s.qx[i.toNat]!).jI).length) ce34Out,Sv ae34Into (((s.qx[i.toNat]!).qO).length) ce34Into,Bv ((s.qx[i.toNat]!).zV)]) (yK (cs:=[.int .i64 ((s.qx[i.toNat]!).qE),.int .i64 ((s.qx[i.toNat]!).vI),Sv ae34Need (((s.qx[i.toNat]!).xM).length) ce34Need,Sv ae34Have (((s.qx[i.toNat]!).zF).length) ce34Have,Sv ae34Lack (((s.qx[i.toNat]!).zD).length) ce34Lack,Sv ae34Here (((s.qx[i.toNat]!).zC).length) ce34Here,Sv ae34Out (((s.qx[i.toNat]!).jI).length) ce34Out,Sv ae34Into (((s.qx[i.toNat]!).qO).length) ce34Into,Bv ((s.qx[i.toNat]!).zV)]) Tryz.isAgg56 Tryz.sizeOf56 rfl (fun _ h=>qJ (h.get 6 rfl) 0 9)) H ?_
    refine ro 7 rfl ?_
    have sz43:=H.base.size
    refine oc (change_ok _ s t (s.qx[i.toNat]!) (H.get 7 rfl).1 (H.get 8 rfl).1 (H.get 9 rfl).1 (H.get 10 rfl).1 (H.get 11 rfl).1 (H.get 0 rfl).1 (H.get 1 rfl).1 (H.get 2 rfl).1 (H.get 3 rfl).1 (H.get 4 rfl).1 (H.get 5 rfl).1 qg qg qg) ?_
    rintro _ w41 ⟨ra40,rn40,rc40,rx40,rF40,rfl,M,K⟩ _
    replace N:=N.merge sz43 qm M
    replace H:=H.merge K M
    obtain rfl:=H.zi (α:=yLI) 0 rfl 0 rfl qj
    refine ⟨H.pick [1,2] [1,2,3,4,5,6,7,8,9,10,11,12],?_⟩
    have S:=H.jG [1,2] [1,2,3,4,5,6,7,8,9,10,11,12]
    refine rtp 8 (Sv ra40 ((QA s t (s.qx[i.toNat]!)).length) rc40) S ?_
    refine rtp 9 (.int .i64 0) S ?_
    refine xg qh (t_n (c_ret (ret2 (Sv ra40 ((QA s t (s.qx[i.toNat]!)).length) rc40) (.int .i64 0) rfl rfl rfl ⟨_,rfl,(⟨ra40,(QA s t (s.qx[i.toNat]!)).length,rc40,rx40,rF40,rfl,N,H.pick [0] [0]⟩),H.base⟩)))

theorem a2Melts_ok (w:World) (s:qy) (x:yLI) {qC:yOA} {qY:yLN} {qK:yOA} {xK:yLN} {ax:yOA} {cx:Nat} {Fx:yLN} (qW:qU.rep w qY [Sv qC s.qw.length qB] s.qw) (xF:qU.rep w xK [Sv qK s.qx.length qI] s.qx) (hx:qU.rep w Fx [Sv ax x.length cx] x) (p0:x.length=s.qx.length):Calls Tryz.prog 31 #[.agg #[.int .i64 s.xf,Sv qC s.qw.length qB,Sv qK s.qx.length qI],Sv ax x.length cx] w (Ret (fun v w' =>v=Bv (dec (AnyMelt s x s.qx.length))) w):=by
 refine en Tryz.func31 Tryz.ntmps31 ?_
 have H:=(((St.start w).arg hx).arg xF).arg qW
 have vH:=qQ qW
 have jM:=qQ xF
 have nhx:=qQ hx
 clear qW xF hx
 have N:=Fresh.nil w.heap.size
 refine zcr (sw (vF H [.int .i64 s.xf,Sv qC s.qw.length qB,Sv qK s.qx.length qI] fun b1 w2 H=>sp (Bv false) (zjcc (sp (.int .i64 0) (zjn (qZ ?_))))))
 refine zU (fun m' ρ w3=>∃ (zl:Env) (i:Nat),ρ=upd (upd (upd zl 1 (Sv ax x.length cx)) 2 (.pointer (some ⟨b1,0,none⟩))) 5 (.int .i64 i)∧(¬ AnyMelt s x i)∧(i≤s.qx.length)∧m' =(s.qx.length - i)∧Fresh w.heap.size []∧St w w3 [.box b1 [.int .i64 s.xf,Sv qC s.qw.length qB,Sv qK s.qx.length qI] 27] [sF false qY qC qB s.qw,sF false xK qK qI s.qx,sF false Fx ax cx x]) ((s.qx.length - 0)) ⟨_,0,uE3,(by exact anyMelt_0 s x),qf,rfl,N,H⟩ ?_
 clear H N
 rintro m' ρ w4 ⟨zl,i,rfl,i1,i2,rfl,N,H⟩
 refine zcc (sps [.int .i64 i,Sv ax x.length cx] (oN rfl (sps [Bv (decide ((i:Int) < x.length)),Bv (decide ((i:Int) < x.length))] ?_)))
 cases h5:(decide ((i:Int) < x.length))
 ·skip
  replace h5:=of_decide_eq_false h5
  refine xU [11,12,13,14,15] (sp (Bv false) (zjn (xI false rfl (fun h=>absurd h qj) (fun _=>zx4 (zcr (sp (Bv false) (zjr (ret1 (Bv false) rfl rfl ⟨_,rfl,?_,H.base⟩))))))))
  rw [xk (by rw [show s.qx.length=i by omega];exact i1)]
 ·skip
  replace h5:=of_decide_eq_true h5
  refine qL 10 rfl rfl (sp (.int .i64 i) (qL 10 rfl rfl (oF rfl (qL 10 rfl rfl (oL rfl (H.cell 0 rfl rfl) (qL 10 rfl rfl (oN rfl (qL 10 rfl rfl (sps [Bv (decide ((i:Int) < s.qx.length)),Bv (decide ((i:Int) < s.qx.length))] (zjn (cD rfl (fun h6=>?_) (fun h6=>?_))))))))))))
  ·skip
   refine xe (t_n (zg (qZ (zcr (sps [Sv ax x.length cx,.int .i64 i] ?_)))))
   obtain ⟨b7,o8,rfl⟩:=H.addr 2 rfl qf
   refine oI rfl rfl (oL rfl (H.jg 2 rfl i qf qf) (sps [Bv (decide ((x[i]! :Int) > 0)),Bv (decide ((x[i]! :Int) > 0))] ?_))
   cases h10:(decide ((x[i]! :Int) > 0))
   ·skip
    replace h10:=of_decide_eq_false h10
    refine xU [25,26,27,28,29,30] (sp (Bv false) (zjn (xI false rfl (fun h=>absurd h qj) (fun _=>xe (b_n (t_n (zn (sp (.int .i64 i) (sw (zN i 1 rfl rfl qf (sp (.int .i64 (i+1)) (zo (xm (m' :=(s.qx.length - (i+1))) qf ⟨_,i+1,uE3,?_,?_,rfl,N,H⟩)))))))))))))
    · exact anyMelt_step i1 (by first | exact .inl ‹_› | exact .inr ‹_›)
    · omega
   ·skip
    replace h10:=of_decide_eq_true h10
    refine qL 24 rfl rfl (oF rfl (qL 24 rfl rfl (oL rfl (H.cell 0 rfl rfl) (qL 24 rfl rfl (sp (.int .i64 i) (qL 24 rfl rfl ?_))))))
    obtain ⟨b11,o12,rfl⟩:=H.addr 1 rfl qf
    obtain ⟨ae14Need,ce14Need,Fe14Need,ae14Have,ce14Have,Fe14Have,ae14Lack,ce14Lack,Fe14Lack,ae14Here,ce14Here,Fe14Here,ae14Out,ce14Out,Fe14Out,ae14Into,ce14Into,Fe14Into,H⟩:=H.yY 1 rfl i i qf qf qf
    refine oI rfl rfl (qL 24 rfl rfl (oF rfl (qL 24 rfl rfl (oL rfl (H.zu 6 rfl 8 rfl) (sp (Bv ((s.qx[i]!).zV)) (zjn (xI ((s.qx[i]!).zV) rfl (fun h15=>?_) (fun h15=>?_))))))))
    ·skip
     refine zcr (sp (Bv true) (zjr (zr5 (ret1 (Bv true) rfl rfl ⟨_,rfl,?_,H.base⟩))))
     rw [yl (anyMelt_yes (i:=i) qf ql ql)]
    ·skip
     refine xe (b_n (t_n (zn (sp (.int .i64 i) (sw (zN i 1 rfl rfl qf (sp (.int .i64 (i+1)) (zo (xm (m' :=(s.qx.length - (i+1))) qf ⟨_,i+1,uE3,?_,?_,rfl,N,H.pick [0] [7,8,9]⟩)))))))))
     · exact anyMelt_step i1 (by first | exact .inl ‹_› | exact .inr ‹_›)
     · omega
  ·skip
   refine zx4 (zcr (sp (Bv false) (zjr (ret1 (Bv false) rfl rfl ⟨_,rfl,?_,H.base⟩))))
   rw [xk (by rw [show s.qx.length=i by omega];exact i1)]
theorem specMc_ok (w:World) (s:qy) (t:qA) {qC:yOA} {qY:yLN} {qK:yOA} {xK:yLN} {qR:yOA} {zq:yLN} {xq:yOA} {zX:yLN} {qN:yOA} {xN:yLN} (qW:qU.rep w qY [Sv qC s.qw.length qB] s.qw) (xF:qU.rep w xK [Sv qK s.qx.length qI] s.qx) (zy:qU.rep w zq [Sv qR t.qF.length qP] t.qF) (ve:qU.rep w zX [Sv xq t.qG.length xn] t.qG) (xW:qU.rep w xN [Sv qN t.qH.length qM] t.qH):Calls Tryz.prog 25 #[.agg #[.int .i64 s.xf,Sv qC s.qw.length qB,Sv qK s.qx.length qI],.agg #[Sv qR t.qF.length qP,Sv xq t.qG.length xn,Sv qN t.qH.length qM]] w (Ret (fun v w' =>∃ (ra0:yOA) (rn0:Nat) (rc0:Nat) (rx0:List Value) (rF0:yLN),v=.tuple #[Sv ra0 rn0 rc0,.int .i64 ((QC s t).2)]∧Fresh w.heap.size [rF0]∧St w w' [rr ra0 rn0 rc0 24 1 rx0] [qX true rF0 rx0 ((QC s t).1)]) w):=by
 refine en Tryz.func25 Tryz.ntmps25 ?_
 have H:=(((((St.start w).arg xW).arg ve).arg zy).arg xF).arg qW
 have vH:=qQ qW
 have jM:=qQ xF
 have Qg:=qQ zy
 have QZ:=qQ ve
 have yC:=qQ xW
 clear qW xF zy ve xW
 have N:=Fresh.nil w.heap.size
 refine zcr (sw (vF H [.int .i64 s.xf,Sv qC s.qw.length qB,Sv qK s.qx.length qI] fun b1 w2 H=>sw (vF H [Sv qR t.qF.length qP,Sv xq t.qG.length xn,Sv qN t.qH.length qM] fun b3 w4 H=>sps [Sv none 0 0,.int .i64 0] (zjcc (sw (oq (l03Both_ok _ s t (qJ (H.cells 1 rfl) 0 3) (H.get 0 rfl).1 (H.get 1 rfl).1 (qJ (H.cells 0 rfl) 0 3) (H.get 2 rfl).1 (H.get 3 rfl).1 (H.get 4 rfl).1) H fun w6 H=>sp (Bv (!(dec (vw s∧xJ s t)))) (zjn (cQ rfl (fun h8=>?_) (fun h8=>?_)))))))))
 ·skip
  refine zcr (sw (jR H Tryz.underlying29 ti24 fun b9 w10 H=>sps [Sv (some ⟨b9,0,none⟩) 0 0,.int .i64 1] (zjr (t_r ?_))))
  replace H:=H.boxRow 0 rfl 1 0 rfl qj
  replace H:=H.jD (α:=yLI)
  refine ret2 (Sv (some ⟨b9,0,none⟩) 0 0) (.int .i64 1) rfl rfl rfl ⟨_,rfl,?_,H.base⟩
  rw [mc_1 ‹_›]
  exact ⟨(some ⟨b9,0,none⟩),0,0,[],[],rfl,N.emp,H.pick [0] [0]⟩
 ·skip
  have k0:=(‹vw s∧xJ s t›:vw s∧xJ s t)
  have k1:=k0.1
  have k2:=k0.2
  refine xe (t_n (zcr ?_))
  have sz14:=H.base.size
  refine sw (oc (l03Choices_ok _ s t (qJ (H.cells 1 rfl) 0 3) (H.get 0 rfl).1 (H.get 1 rfl).1 (qJ (H.cells 0 rfl) 0 3) (H.get 2 rfl).1 (H.get 3 rfl).1 (H.get 4 rfl).1 qg qg) ?_)
  rintro _ w12 ⟨ra11a,rn11a,rc11a,rx11a,rF11a,rfl,M,K⟩ _
  replace N:=N.merge sz14 qm M
  replace H:=H.merge K M
  obtain rfl:=H.zi (α:=yLI) 0 rfl 0 rfl qj
  refine sps [Sv ra11a (((Qd s t).1).length) rc11a,.int .i64 ((Qd s t).2),Sv ra11a (((Qd s t).1).length) rc11a,.int .i64 ((Qd s t).2)] (zjr (ret2 (Sv ra11a (((Qd s t).1).length) rc11a) (.int .i64 ((Qd s t).2)) rfl rfl rfl ⟨_,rfl,?_,H.base⟩))
  rw [mc_0 k0]
  exact ⟨ra11a,((Qd s t).1).length,rc11a,rx11a,rF11a,rfl,N,H.pick [0] [0]⟩

theorem implMc_ok (w:World) (s:qy) (t:qA) {qC:yOA} {qY:yLN} {qK:yOA} {xK:yLN} {qR:yOA} {zq:yLN} {xq:yOA} {zX:yLN} {qN:yOA} {xN:yLN} (qW:qU.rep w qY [Sv qC s.qw.length qB] s.qw) (xF:qU.rep w xK [Sv qK s.qx.length qI] s.qx) (zy:qU.rep w zq [Sv qR t.qF.length qP] t.qF) (ve:qU.rep w zX [Sv xq t.qG.length xn] t.qG) (xW:qU.rep w xN [Sv qN t.qH.length qM] t.qH):Calls Tryz.prog 26 #[.agg #[.int .i64 s.xf,Sv qC s.qw.length qB,Sv qK s.qx.length qI],.agg #[Sv qR t.qF.length qP,Sv xq t.qG.length xn,Sv qN t.qH.length qM]] w (Ret (fun v w' =>∃ (ra0:yOA) (rn0:Nat) (rc0:Nat) (rx0:List Value) (rF0:yLN),v=.tuple #[Sv ra0 rn0 rc0,.int .i64 ((QC s t).2)]∧Fresh w.heap.size [rF0]∧St w w' [rr ra0 rn0 rc0 24 1 rx0] [qX true rF0 rx0 ((QC s t).1)]) w):=by
 refine en Tryz.func26 Tryz.ntmps26 ?_
 have H:=(((((St.start w).arg xW).arg ve).arg zy).arg xF).arg qW
 have vH:=qQ qW
 have jM:=qQ xF
 have Qg:=qQ zy
 have QZ:=qQ ve
 have yC:=qQ xW
 clear qW xF zy ve xW
 have N:=Fresh.nil w.heap.size
 refine zcr (sw (vF H [.int .i64 s.xf,Sv qC s.qw.length qB,Sv qK s.qx.length qI] fun b1 w2 H=>sw (vF H [Sv qR t.qF.length qP,Sv xq t.qG.length xn,Sv qN t.qH.length qM] fun b3 w4 H=>sps [Sv none 0 0,.int .i64 0] (zjcc (sw (zB [.int .i64 s.xf,Sv qC s.qw.length qB,Sv qK s.qx.length qI] Tryz.isAgg27 Tryz.sizeOf27 rfl (qJ (H.cells 1 rfl) 0 3) ?_))))))
 refine sw (zB [Sv qR t.qF.length qP,Sv xq t.qG.length xn,Sv qN t.qH.length qM] Tryz.isAgg31 Tryz.sizeOf31 rfl (qJ (H.cells 0 rfl) 0 3) (sw (oq (validState_ok _ s t (H.get 0 rfl).1 (H.get 1 rfl).1 (H.get 2 rfl).1 (H.get 3 rfl).1 (H.get 4 rfl).1) H fun w6 H=>sp (Bv (!(dec (vw s∧xJ s t)))) (zjn (cQ rfl (fun h8=>?_) (fun h8=>?_))))))
 ·skip
  refine zcr (sps [Sv none 0 0,.int .i64 1] (zjr (t_r ?_)))
  replace H:=H.nilRow 24 1
  replace H:=H.jD (α:=yLI)
  refine ret2 (Sv none 0 0) (.int .i64 1) rfl rfl rfl ⟨_,rfl,?_,H.base⟩
  rw [mc_1 ‹_›]
  exact ⟨none,0,0,[],[],rfl,N.emp,H.pick [0] [0]⟩
 ·skip
  have k0:=(‹vw s∧xJ s t›:vw s∧xJ s t)
  have k1:=k0.1
  have k2:=k0.2
  refine xe (t_n (zcr (sw (zB [.int .i64 s.xf,Sv qC s.qw.length qB,Sv qK s.qx.length qI] Tryz.isAgg27 Tryz.sizeOf27 rfl (qJ (H.cells 1 rfl) 0 3) (sw (zB [Sv qR t.qF.length qP,Sv xq t.qG.length xn,Sv qN t.qH.length qM] Tryz.isAgg31 Tryz.sizeOf31 rfl (qJ (H.cells 0 rfl) 0 3) ?_))))))
  have sz12:=H.base.size
  refine sw (oc (choices_ok _ s t (H.get 0 rfl).1 (H.get 1 rfl).1 (H.get 2 rfl).1 (H.get 3 rfl).1 (H.get 4 rfl).1 qg qg) ?_)
  rintro _ w10 ⟨ra9a,rn9a,rc9a,rx9a,rF9a,rfl,M,K⟩ _
  replace N:=N.merge sz12 qm M
  replace H:=H.merge K M
  obtain rfl:=H.zi (α:=yLI) 0 rfl 0 rfl qj
  refine sps [Sv ra9a (((Qd s t).1).length) rc9a,.int .i64 ((Qd s t).2),Sv ra9a (((Qd s t).1).length) rc9a,.int .i64 ((Qd s t).2)] (zjr (ret2 (Sv ra9a (((Qd s t).1).length) rc9a) (.int .i64 ((Qd s t).2)) rfl rfl rfl ⟨_,rfl,?_,H.base⟩))
  rw [mc_0 k0]
  exact ⟨ra9a,((Qd s t).1).length,rc9a,rx9a,rF9a,rfl,N,H.pick [0] [0]⟩
theorem law_FnStep (w:World) (code:List UInt8) (more:List UInt8) (acode:yOA) (ccode:Nat) (Fcode:yLN) (amore:yOA) (cmore:Nat) (Fmore:yLN) (hcode:qU.rep w Fcode [Sv acode code.length ccode] code) (hmore:qU.rep w Fmore [Sv amore more.length cmore] more):Calls Tryz.prog 5 #[Sv acode code.length ccode,Sv amore more.length cmore] w (Ret (fun v w' =>v=Bv true) w):=by
 refine en Tryz.func5 Tryz.ntmps5 ?_
 have H:=((St.start w).arg hmore).arg hcode
 have nhcode:=qQ hcode
 have nhmore:=qQ hmore
 clear hcode hmore
 have N:=Fresh.nil w.heap.size
 refine zcr (sp (Bv false) (zjcc (sps [Sv acode code.length ccode,Sv amore more.length cmore] (sw (vC #[Sv acode code.length ccode,Sv amore more.length cmore] rfl rfl Tryz.call8 (en Tryz.func8 Tryz.ntmps8 ?_))))))
 refine zcr (sp (Bv false) (zjc (sp (Sv acode code.length ccode) (oN rfl (sps [Bv (decide ((code.length:Int) > 3000)),Bv (decide ((code.length:Int) > 3000))] ?_)))))
 cases h1:(decide ((code.length:Int) > 3000))
 ·skip
  replace h1:=of_decide_eq_false h1
  refine qL 8 rfl rfl (sp (Sv amore more.length cmore) (qL 8 rfl rfl (oN rfl (qL 8 rfl rfl (sps [Bv (decide ((more.length:Int) > 3000)),Bv (decide ((more.length:Int) > 3000)),Bv (decide ((more.length:Int) > 3000))] (zjr (ret1 (Bv (decide ((more.length:Int) > 3000))) rfl rfl ⟨_,rfl,(zjn (cD rfl (fun h2=>?_) (fun h2=>?_)))⟩)))))))
  ·skip
   refine zcr (sp (Bv true) (zjr (t_r (ret1 (Bv true) rfl rfl ⟨_,rfl,?_,H.base⟩))))
   rfl
  ·skip
   refine xe (t_n (zcr (sp (Sv acode code.length ccode) ?_)))
   have H1:St w w [] [sF false Fcode acode ccode code,sF false Fmore amore cmore more]:=H.pick [] [0,1]
   have N1:Fresh _ []:=N
   have K1:Kept [] [sF false Fmore amore cmore more]:=Kept.nil _
   refine sw (xR #[Sv acode code.length ccode] rfl rfl Tryz.call24 (a2System_ok code acode ccode Fcode H1 N1 K1 ) ?_)
   clear H H1 N1 K1
   rintro _ w3 ⟨zi7,zl8,zR9,zm10,zL11,zl12,ra13,rn14,rc15,ra16,rn17,rc18,rx19,rF20,ra21,rn22,rc23,ra24,rn25,rc26,rx27,rF28,ra29,rn30,rc31,hx5,hx6,rfl,N,H⟩
   obtain rfl:=H.vM 0 rfl
   obtain rfl:=H.zi (α:=jy) 1 rfl 1 rfl qj
   obtain rfl:=H.rowNB 2 rfl
   obtain rfl:=H.zi (α:=yLI) 3 rfl 2 rfl qj
   obtain rfl:=H.vM 4 rfl
   have sd:=(‹SysDr _ _ _›)
   have td:=(‹StDr _ _ _ _ _ _›)
   have k0:vw (⟨zi7,zl8,zR9⟩:qy)∧xJ (⟨zi7,zl8,zR9⟩:qy) (⟨zm10,zL11,zl12⟩:qA):=⟨sd.ok,td.ok sd qf⟩
   have k1:=k0.1
   have k2:=k0.2
   have sc:=sd.cells
   have la:=td.la
   have lb:=td.lb
   have eK:xY (⟨zi7,zl8,zR9⟩:qy)=zi7.toNat:=rfl
   have eN:xB (⟨zi7,zl8,zR9⟩:qy)=zl8.length:=rfl
   have eR:((⟨zi7,zl8,zR9⟩:qy)).qx.length=zR9.length:=rfl
   have kb:=sd.kinds
   have fr:=sd.few
   have mce:=mc_0 k0
   refine sps [.tuple #[.agg #[.int .i64 zi7,Sv ra13 zl8.length rc15,Sv ra16 zR9.length rc18],.agg #[Sv ra21 zm10.length rc23,Sv ra24 zL11.length rc26,Sv ra29 zl12.length rc31]],.agg #[.int .i64 zi7,Sv ra13 zl8.length rc15,Sv ra16 zR9.length rc18],.agg #[Sv ra21 zm10.length rc23,Sv ra24 zL11.length rc26,Sv ra29 zl12.length rc31]] (sw (xx H ti27 [.int .i64 0,Sv none 0 0,Sv none 0 0] fun b32 w33 H=>sw (xx H ti31 [Sv none 0 0,Sv none 0 0,Sv none 0 0] fun b34 w35 H=>sw (xu H 1 [.int .i64 zi7,Sv ra13 zl8.length rc15,Sv ra16 zR9.length rc18] Tryz.sizeOf27 fun w36 H=>?_))))
   refine sw (xu H 0 [Sv ra21 zm10.length rc23,Sv ra24 zL11.length rc26,Sv ra29 zl12.length rc31] Tryz.sizeOf31 fun w37 H=>zjc (sw (zB [.int .i64 zi7,Sv ra13 zl8.length rc15,Sv ra16 zR9.length rc18] Tryz.isAgg27 Tryz.sizeOf27 rfl (qJ (H.cells 1 rfl) 0 3) (sw (zB [Sv ra21 zm10.length rc23,Sv ra24 zL11.length rc26,Sv ra29 zl12.length rc31] Tryz.isAgg31 Tryz.sizeOf31 rfl (qJ (H.cells 0 rfl) 0 3) ?_)))))
   obtain ⟨G38,hn39,h40⟩:=H.rowIsI 2 rfl
   obtain ⟨G41,hn42,h43⟩:=H.rowIsR (α:=jy) 3 rfl 1 rfl qj
   obtain ⟨G44,hn45,h46⟩:=H.rowIsB 4 rfl
   obtain ⟨G47,hn48,h49⟩:=H.rowIsR (α:=yLI) 5 rfl 2 rfl qj
   obtain ⟨G50,hn51,h52⟩:=H.rowIsI 6 rfl
   have sz56:=H.base.size
   have lt57:=H.ltN (L:=[rF20,rF28]) [1,2]
   refine sw (oc (specMc_ok _ (⟨zi7,zl8,zR9⟩:qy) (⟨zm10,zL11,zl12⟩:qA) h40 h43 h46 h49 h52) ?_)
   rintro _ w54 ⟨ra53a,rn53a,rc53a,rx53a,rF53a,rfl,M,K⟩ _
   replace N:=N.merge sz56 lt57 M
   replace H:=H.merge K M
   obtain rfl:=H.zi (α:=yLI) 0 rfl 0 rfl qj
   refine sps [.tuple #[Sv ra53a (((QC (⟨zi7,zl8,zR9⟩:qy) (⟨zm10,zL11,zl12⟩:qA)).1).length) rc53a,.int .i64 ((QC (⟨zi7,zl8,zR9⟩:qy) (⟨zm10,zL11,zl12⟩:qA)).2)],Sv ra53a (((QC (⟨zi7,zl8,zR9⟩:qy) (⟨zm10,zL11,zl12⟩:qA)).1).length) rc53a,.int .i64 ((QC (⟨zi7,zl8,zR9⟩:qy) (⟨zm10,zL11,zl12⟩:qA)).2),Sv ra53a (((QC (⟨zi7,zl8,zR9⟩:qy) (⟨zm10,zL11,zl12⟩:qA)).1).length) rc53a,.int .i64 ((QC (⟨zi7,zl8,zR9⟩:qy) (⟨zm10,zL11,zl12⟩:qA)).2)] (zjc ?_)
   refine sw (zB [.int .i64 zi7,Sv ra13 zl8.length rc15,Sv ra16 zR9.length rc18] Tryz.isAgg27 Tryz.sizeOf27 rfl (qJ (H.cells 2 rfl) 0 3) (sw (zB [Sv ra21 zm10.length rc23,Sv ra24 zL11.length rc26,Sv ra29 zl12.length rc31] Tryz.isAgg31 Tryz.sizeOf31 rfl (qJ (H.cells 1 rfl) 0 3) ?_)))
   obtain ⟨G59,hn60,h61⟩:=H.rowIsI 3 rfl
   obtain ⟨G62,hn63,h64⟩:=H.rowIsR (α:=jy) 4 rfl 2 rfl qj
   obtain ⟨G65,hn66,h67⟩:=H.rowIsB 5 rfl
   obtain ⟨G68,hn69,h70⟩:=H.rowIsR (α:=yLI) 6 rfl 3 rfl qj
   obtain ⟨G71,hn72,h73⟩:=H.rowIsI 7 rfl
   have sz77:=H.base.size
   have lt78:=H.ltN (L:=[rF53a,rF20,rF28]) [0,2,3]
   refine sw (oc (implMc_ok _ (⟨zi7,zl8,zR9⟩:qy) (⟨zm10,zL11,zl12⟩:qA) h61 h64 h67 h70 h73) ?_)
   rintro _ w75 ⟨ra74a,rn74a,rc74a,rx74a,rF74a,rfl,M,K⟩ _
   replace N:=N.merge sz77 lt78 M
   replace H:=H.merge K M
   obtain rfl:=H.zi (α:=yLI) 0 rfl 0 rfl qj
   refine sps [.tuple #[Sv ra74a (((QC (⟨zi7,zl8,zR9⟩:qy) (⟨zm10,zL11,zl12⟩:qA)).1).length) rc74a,.int .i64 ((QC (⟨zi7,zl8,zR9⟩:qy) (⟨zm10,zL11,zl12⟩:qA)).2)],Sv ra74a (((QC (⟨zi7,zl8,zR9⟩:qy) (⟨zm10,zL11,zl12⟩:qA)).1).length) rc74a,.int .i64 ((QC (⟨zi7,zl8,zR9⟩:qy) (⟨zm10,zL11,zl12⟩:qA)).2),Sv ra74a (((QC (⟨zi7,zl8,zR9⟩:qy) (⟨zm10,zL11,zl12⟩:qA)).1).length) rc74a,.int .i64 ((QC (⟨zi7,zl8,zR9⟩:qy) (⟨zm10,zL11,zl12⟩:qA)).2)] (zjcc ?_)
   refine sps [.int .i64 ((QC (⟨zi7,zl8,zR9⟩:qy) (⟨zm10,zL11,zl12⟩:qA)).2),.int .i64 ((QC (⟨zi7,zl8,zR9⟩:qy) (⟨zm10,zL11,zl12⟩:qA)).2),Bv (((QC (⟨zi7,zl8,zR9⟩:qy) (⟨zm10,zL11,zl12⟩:qA)).2:Int) != ((QC (⟨zi7,zl8,zR9⟩:qy) (⟨zm10,zL11,zl12⟩:qA)).2))] (zjn (xI (((QC (⟨zi7,zl8,zR9⟩:qy) (⟨zm10,zL11,zl12⟩:qA)).2:Int) != ((QC (⟨zi7,zl8,zR9⟩:qy) (⟨zm10,zL11,zl12⟩:qA)).2)) rfl (fun h=>absurd rfl (bne_iff_ne.1 h)) (fun h80=>?_)))
   replace h80:=zh h80
   refine xe (t_n (zcc (sps [.int .i64 ((QC (⟨zi7,zl8,zR9⟩:qy) (⟨zm10,zL11,zl12⟩:qA)).2),Bv (((QC (⟨zi7,zl8,zR9⟩:qy) (⟨zm10,zL11,zl12⟩:qA)).2:Int) != 0)] (zjn (xI (((QC (⟨zi7,zl8,zR9⟩:qy) (⟨zm10,zL11,zl12⟩:qA)).2:Int) != 0) rfl (fun h81=>?_) (fun h81=>?_))))))
   ·skip
    replace h81:=bne_iff_ne.1 h81
    refine zcr (sp (Bv true) (zjr (t_r (ret1 (Bv true) rfl rfl ⟨_,rfl,?_,H.base⟩))))
    rfl
   ·skip
    replace h81:=zh h81
    have c0:(QC (⟨zi7,zl8,zR9⟩:qy) (⟨zm10,zL11,zl12⟩:qA)).2=0:=by omega
    have cs:0 < ((QC (⟨zi7,zl8,zR9⟩:qy) (⟨zm10,zL11,zl12⟩:qA)).1).length:=by rw [mce] at c0 ⊢;exact cho_some k1 k2 c0
    refine xe (t_n (zcc (sp (Sv ra74a (((QC (⟨zi7,zl8,zR9⟩:qy) (⟨zm10,zL11,zl12⟩:qA)).1).length) rc74a) (oN rfl (sp (Bv (decide ((((QC (⟨zi7,zl8,zR9⟩:qy) (⟨zm10,zL11,zl12⟩:qA)).1).length:Int) < 1))) (zjn (cD rfl (fun h82=>?_) (fun h82=>?_))))))))
    ·skip
     refine zcr (sp (Bv false) (zjr (t_r (ret1 (Bv false) rfl rfl ⟨_,rfl,?_,H.base⟩))))
     exfalso;first | omega | contradiction
    ·skip
     refine xe (t_n (zcr (sps [Sv ra74a (((QC (⟨zi7,zl8,zR9⟩:qy) (⟨zm10,zL11,zl12⟩:qA)).1).length) rc74a,Sv amore more.length cmore,Sv ra74a (((QC (⟨zi7,zl8,zR9⟩:qy) (⟨zm10,zL11,zl12⟩:qA)).1).length) rc74a] (oN rfl (sw (oq (a2At_ok _ more 0 (((QC (⟨zi7,zl8,zR9⟩:qy) (⟨zm10,zL11,zl12⟩:qA)).1).length) (H.get 5 rfl).1 qg) H fun w84 H=>?_))))))
     have ba:=atV_bd more 0 (n:=(((QC (⟨zi7,zl8,zR9⟩:qy) (⟨zm10,zL11,zl12⟩:qA)).1).length:Int)) qf
     obtain ⟨b86,rfl⟩:=H.Qc 0 rfl qf
     refine oI rfl rfl ?_
     obtain ⟨a87,c88,G89,s90,h91,H⟩:=H.jV 0 rfl 0 rfl (iv:=(atV more 0 (((QC (⟨zi7,zl8,zR9⟩:qy) (⟨zm10,zL11,zl12⟩:qA)).1).length))) ((atV more 0 (((QC (⟨zi7,zl8,zR9⟩:qy) (⟨zm10,zL11,zl12⟩:qA)).1).length)).toNat) qf qf
     refine oL rfl (h91) (sp (Sv a87 ((((QC (⟨zi7,zl8,zR9⟩:qy) (⟨zm10,zL11,zl12⟩:qA)).1)[(atV more 0 (((QC (⟨zi7,zl8,zR9⟩:qy) (⟨zm10,zL11,zl12⟩:qA)).1).length)).toNat]!).length) c88) (zjn (zg ?_)))
     obtain ⟨x,hx⟩:∃ z,(((QC (⟨zi7,zl8,zR9⟩:qy) (⟨zm10,zL11,zl12⟩:qA)).1)[(atV more 0 (((QC (⟨zi7,zl8,zR9⟩:qy) (⟨zm10,zL11,zl12⟩:qA)).1).length)).toNat]!)=z:=⟨_,rfl⟩
     rw [hx] at H ⊢
     obtain ⟨h1,h2⟩:Xx (⟨zi7,zl8,zR9⟩:qy) x∧IsCh (⟨zi7,zl8,zR9⟩:qy) (⟨zm10,zL11,zl12⟩:qA) x:=by rw [← hx,mce];exact cho_ok k1 k2 (by rw [← mce];omega)
     have Z:=stepAt_of sd td qf h1 h2
     have xl:x.length=zR9.length:=Z.len
     obtain ⟨z1,z4,z5⟩:=Z.by
     have z3:=And.intro k1 z4
     have z6:=Z.totalOk
     have ub:(xO (⟨zi7,zl8,zR9⟩:qy) (⟨zm10,zL11,zl12⟩:qA) x).1.qG.length=zl8.length:=z4.2.1
     have ua:(xO (⟨zi7,zl8,zR9⟩:qy) (⟨zm10,zL11,zl12⟩:qA) x).1.qF.length=zl8.length:=z4.1
     refine zn (sw (zB [.int .i64 zi7,Sv ra13 zl8.length rc15,Sv ra16 zR9.length rc18] Tryz.isAgg27 Tryz.sizeOf27 rfl (qJ (H.cells 3 rfl) 0 3) (sw (zB [Sv ra21 zm10.length rc23,Sv ra24 zL11.length rc26,Sv ra29 zl12.length rc31] Tryz.isAgg31 Tryz.sizeOf31 rfl (qJ (H.cells 2 rfl) 0 3) (sp (Sv a87 x.length c88) ?_)))))
     obtain ⟨G92,hn93,h94⟩:=H.rowIsI 4 rfl
     obtain ⟨G95,hn96,h97⟩:=H.rowIsR (α:=jy) 5 rfl 4 rfl qj
     obtain ⟨G98,hn99,h100⟩:=H.rowIsB 6 rfl
     obtain ⟨G101,hn102,h103⟩:=H.rowIsR (α:=yLI) 7 rfl 5 rfl qj
     obtain ⟨G104,hn105,h106⟩:=H.rowIsI 8 rfl
     have sz110:=H.base.size
     have lt111:=H.ltN (L:=[rF74a,rF53a,rF20,rF28]) [1,2,4,5]
     refine sw (oc (implBy_ok _ (⟨zi7,zl8,zR9⟩:qy) (⟨zm10,zL11,zl12⟩:qA) x h94 h97 h100 h103 h106 (H.get 0 rfl).1) ?_)
     rintro _ w108 ⟨ra107aAlive,rn107aAlive,rc107aAlive,ra107aBags,rn107aBags,rc107aBags,rx107aBags,rF107aBags,ra107aAround,rn107aAround,rc107aAround,rfl,M,K⟩ _
     replace N:=N.merge sz110 lt111 M
     replace H:=H.merge K M
     obtain rfl:=H.rowNB 0 rfl
     obtain rfl:=H.zi (α:=yLI) 1 rfl 0 rfl qj
     obtain rfl:=H.vM 2 rfl
     refine sps [.tuple #[.agg #[Sv ra107aAlive ((((xO (⟨zi7,zl8,zR9⟩:qy) (⟨zm10,zL11,zl12⟩:qA) x).1).qF).length) rc107aAlive,Sv ra107aBags ((((xO (⟨zi7,zl8,zR9⟩:qy) (⟨zm10,zL11,zl12⟩:qA) x).1).qG).length) rc107aBags,Sv ra107aAround ((((xO (⟨zi7,zl8,zR9⟩:qy) (⟨zm10,zL11,zl12⟩:qA) x).1).qH).length) rc107aAround],.int .i64 ((xO (⟨zi7,zl8,zR9⟩:qy) (⟨zm10,zL11,zl12⟩:qA) x).2)],.agg #[Sv ra107aAlive ((((xO (⟨zi7,zl8,zR9⟩:qy) (⟨zm10,zL11,zl12⟩:qA) x).1).qF).length) rc107aAlive,Sv ra107aBags ((((xO (⟨zi7,zl8,zR9⟩:qy) (⟨zm10,zL11,zl12⟩:qA) x).1).qG).length) rc107aBags,Sv ra107aAround ((((xO (⟨zi7,zl8,zR9⟩:qy) (⟨zm10,zL11,zl12⟩:qA) x).1).qH).length) rc107aAround],.int .i64 ((xO (⟨zi7,zl8,zR9⟩:qy) (⟨zm10,zL11,zl12⟩:qA) x).2)] ?_
     refine sw (xx H ti31 [Sv none 0 0,Sv none 0 0,Sv none 0 0] fun b115 w116 H=>sw (xu H 0 [Sv ra107aAlive ((((xO (⟨zi7,zl8,zR9⟩:qy) (⟨zm10,zL11,zl12⟩:qA) x).1).qF).length) rc107aAlive,Sv ra107aBags ((((xO (⟨zi7,zl8,zR9⟩:qy) (⟨zm10,zL11,zl12⟩:qA) x).1).qG).length) rc107aBags,Sv ra107aAround ((((xO (⟨zi7,zl8,zR9⟩:qy) (⟨zm10,zL11,zl12⟩:qA) x).1).qH).length) rc107aAround] Tryz.sizeOf31 fun w117 H=>sp (.int .i64 ((xO (⟨zi7,zl8,zR9⟩:qy) (⟨zm10,zL11,zl12⟩:qA) x).2)) (zjcc ?_)))
     refine sps [.int .i64 ((xO (⟨zi7,zl8,zR9⟩:qy) (⟨zm10,zL11,zl12⟩:qA) x).2),Bv (((xO (⟨zi7,zl8,zR9⟩:qy) (⟨zm10,zL11,zl12⟩:qA) x).2:Int) != 0),Bv (((xO (⟨zi7,zl8,zR9⟩:qy) (⟨zm10,zL11,zl12⟩:qA) x).2:Int) != 0)] ?_
     cases h118:(((xO (⟨zi7,zl8,zR9⟩:qy) (⟨zm10,zL11,zl12⟩:qA) x).2:Int) != 0)
     ·skip
      replace h118:=zh h118
      refine qL 73 rfl rfl (sp (Sv a87 x.length c88) (qL 73 rfl rfl (oN rfl (qL 73 rfl rfl (oF rfl (qL 73 rfl rfl (oL rfl (H.cell 7 rfl rfl) (qL 73 rfl rfl (oN rfl (qL 73 rfl rfl (sps [Bv ((x.length:Int) != zR9.length),Bv ((x.length:Int) != zR9.length),Bv ((x.length:Int) != zR9.length)] ?_)))))))))))
      cases h119:((x.length:Int) != zR9.length)
      ·skip
       replace h119:=zh h119
       refine qL 81 rfl rfl (sw (zB [.int .i64 zi7,Sv ra13 zl8.length rc15,Sv ra16 zR9.length rc18] Tryz.isAgg27 Tryz.sizeOf27 rfl (qJ (H.cells 7 rfl) 0 3) (qL 81 rfl rfl (sw (zB [Sv ra107aAlive ((((xO (⟨zi7,zl8,zR9⟩:qy) (⟨zm10,zL11,zl12⟩:qA) x).1).qF).length) rc107aAlive,Sv ra107aBags ((((xO (⟨zi7,zl8,zR9⟩:qy) (⟨zm10,zL11,zl12⟩:qA) x).1).qG).length) rc107aBags,Sv ra107aAround ((((xO (⟨zi7,zl8,zR9⟩:qy) (⟨zm10,zL11,zl12⟩:qA) x).1).qH).length) rc107aAround] Tryz.isAgg31 Tryz.sizeOf31 rfl (qJ (H.cells 0 rfl) 0 3) (qL 81 rfl rfl ?_))))))
       obtain ⟨G120,hn121,h122⟩:=H.rowIsI 8 rfl
       obtain ⟨G123,hn124,h125⟩:=H.rowIsR (α:=jy) 9 rfl 5 rfl qj
       obtain ⟨G126,hn127,h128⟩:=H.rowIsB 1 rfl
       obtain ⟨G129,hn130,h131⟩:=H.rowIsR (α:=yLI) 2 rfl 0 rfl qj
       obtain ⟨G132,hn133,h134⟩:=H.rowIsI 3 rfl
       refine sw (oq (specValid_ok _ (⟨zi7,zl8,zR9⟩:qy) ((xO (⟨zi7,zl8,zR9⟩:qy) (⟨zm10,zL11,zl12⟩:qA) x).1) h122 h125 h128 h131 h134) H fun w136 H=>qL 81 rfl rfl (sps [Bv (!(dec (vw (⟨zi7,zl8,zR9⟩:qy)∧xJ (⟨zi7,zl8,zR9⟩:qy) ((xO (⟨zi7,zl8,zR9⟩:qy) (⟨zm10,zL11,zl12⟩:qA) x).1)))),Bv (!(dec (vw (⟨zi7,zl8,zR9⟩:qy)∧xJ (⟨zi7,zl8,zR9⟩:qy) ((xO (⟨zi7,zl8,zR9⟩:qy) (⟨zm10,zL11,zl12⟩:qA) x).1))))] (zjn ?_)))
       refine xI (!(dec (vw (⟨zi7,zl8,zR9⟩:qy)∧xJ (⟨zi7,zl8,zR9⟩:qy) ((xO (⟨zi7,zl8,zR9⟩:qy) (⟨zm10,zL11,zl12⟩:qA) x).1)))) rfl (fun h=>absurd z3 (zO (xC h))) (fun h138=>?_)
       replace h138:=xw h138
       replace h138:=yB h138
       obtain ⟨G139,N,hn140,H⟩:=H.freezeB 1 rfl N (H.jJ [0,2,3,5,6])
       have H0:=H
       obtain ⟨G141,hg143,hn142,H⟩:=H.Q3 (α:=yLI) 2 rfl 1 rfl qj
       replace N:Fresh w.heap.size [G141,G139,rF74a,rF53a,rF20,rF28]:=Fresh.ice (N.pick [1,0,2,3,4,5]) H0 2 hg143.1 hg143.2 (H0.jJ [0,3,4,6,7])
       clear H0
       obtain ⟨G144,N,hn145,H⟩:=H.vz 3 rfl N (H.jJ [0,1,4,5,7,8])
       obtain ⟨G146,N,hn147,H⟩:=H.freezeB 10 rfl N (H.jJ [0,1,2,5,6,8,9])
       have H0:=H
       obtain ⟨G148,hg150,hn149,H⟩:=H.Q3 (α:=yLI) 11 rfl 10 rfl qj
       replace N:Fresh w.heap.size [G148,G146,G144,G141,G139,rF74a,rF53a,rF20]:=Fresh.ice (N.pick [7,0,1,2,3,4,5,6]) H0 11 hg150.1 hg150.2 (H0.jJ [0,1,2,3,6,7,9])
       clear H0
       obtain ⟨G151,N,hn152,H⟩:=H.vz 12 rfl N (H.jJ [0,1,2,3,4,7,8,10])
       obtain ⟨G153,N,hn154,H⟩:=H.vz 8 rfl N (H.jJ [0,1,2,3,4,5,8,9,11])
       have H0:=H
       obtain ⟨G155,hg157,hn156,H⟩:=H.Q3 (α:=jy) 9 rfl 12 rfl qj
       replace N:Fresh w.heap.size [G155,G153,G151,G148,G146,G144,G141,G139,rF74a,rF53a]:=Fresh.ice (N.pick [9,0,1,2,3,4,5,6,7,8]) H0 9 hg157.1 hg157.2 (H0.jJ [0,1,2,3,4,5,6,9,10])
       clear H0
       have H0:=H
       obtain ⟨G158,hg160,hn159,H⟩:=H.Q3 (α:=yLI) 5 rfl 11 rfl qj
       replace N:Fresh w.heap.size [G158,G155,G153,G151,G148,G146,G144,G141,G139,rF74a]:=Fresh.ice (N.pick [9,0,1,2,3,4,5,6,7,8]) H0 5 hg160.1 hg160.2 (H0.jJ [0,1,2,3,4,5,6,7,10])
       clear H0
       have H0:=H
       obtain ⟨G161,hg163,hn162,H⟩:=H.Q3 (α:=yLI) 4 rfl 11 rfl qj
       replace N:Fresh w.heap.size [G161,G158,G155,G153,G151,G148,G146,G144,G141,G139]:=Fresh.ice (N.pick [9,0,1,2,3,4,5,6,7,8]) H0 4 hg163.1 hg163.2 (H0.jJ [0,1,2,3,4,5,6,7,8])
       clear H0
       have B0:=H.base
       have H:=H.rebase [atF b115 0 [Sv ra107aAlive ((((xO (⟨zi7,zl8,zR9⟩:qy) (⟨zm10,zL11,zl12⟩:qA) x).1).qF).length) rc107aAlive,Sv ra107aBags ((((xO (⟨zi7,zl8,zR9⟩:qy) (⟨zm10,zL11,zl12⟩:qA) x).1).qG).length) rc107aBags,Sv ra107aAround ((((xO (⟨zi7,zl8,zR9⟩:qy) (⟨zm10,zL11,zl12⟩:qA) x).1).qH).length) rc107aAround],atF b34 0 [Sv ra21 zm10.length rc23,Sv ra24 zL11.length rc26,Sv ra29 zl12.length rc31],atF b32 0 [.int .i64 zi7,Sv ra13 zl8.length rc15,Sv ra16 zR9.length rc18],sF true G161 (some ⟨b86,0,none⟩) rc74a ((QC (⟨zi7,zl8,zR9⟩:qy) (⟨zm10,zL11,zl12⟩:qA)).1),sF true G158 ra53a rc53a ((QC (⟨zi7,zl8,zR9⟩:qy) (⟨zm10,zL11,zl12⟩:qA)).1),sF true G155 ra16 rc18 zR9,sF true G153 ra13 rc15 zl8,sF true G151 ra29 rc31 zl12,sF true G148 ra24 rc26 zL11,sF true G146 ra21 rc23 zm10,sF true G144 ra107aAround rc107aAround (((xO (⟨zi7,zl8,zR9⟩:qy) (⟨zm10,zL11,zl12⟩:qA) x).1).qH),sF true G141 ra107aBags rc107aBags (((xO (⟨zi7,zl8,zR9⟩:qy) (⟨zm10,zL11,zl12⟩:qA) x).1).qG),sF true G139 ra107aAlive rc107aAlive (((xO (⟨zi7,zl8,zR9⟩:qy) (⟨zm10,zL11,zl12⟩:qA) x).1).qF),sF true G89 a87 c88 x,sF false Fcode acode ccode code,sF false Fmore amore cmore more] (Qi (old_box H 0 rfl) (Qi (old_box H 6 rfl) (Qi (old_box H 7 rfl) (Qi (XB H 0 rfl) (Qi (XB H 1 rfl) (Qi (XB H 2 rfl) (Qi (XB H 3 rfl) (Qi (XB H 4 rfl) (Qi (XB H 5 rfl) (Qi (XB H 6 rfl) (Qi (XB H 7 rfl) (Qi (XB H 8 rfl) (Qi (XB H 9 rfl) (Qi (XB H 11 rfl) (Qi (XB H 14 rfl) (Qi (XB H 17 rfl) olds_nil))))))))))))))))
       have N:=Fresh.nil w136.heap.size
       have HB:=H
       refine xe (t_n (zcr (sw (jR H Tryz.underlying29 ti24 fun b164 w165 H=>sp (Sv (some ⟨b164,0,none⟩) 0 0) (zjcc (sp (.int .i64 0) (zjn (qZ ?_))))))))
       replace H:=H.boxRow 0 rfl 1 0 rfl qj
       replace H:=H.jD (α:=OwnI 2)
       refine zU (fun m' ρ w166=>∃ (zl:Env) (a_due:yOA) (yJ:Nat) (c_due:Nat) (due:List (OwnI 2)) (x_due:List Value) (F_due:yLN) (c:Nat),ρ=upd (upd (upd (upd (upd (upd zl 5 (.pointer (some ⟨b32,0,none⟩))) 6 (.pointer (some ⟨b34,0,none⟩))) 11 (Sv a87 x.length c88)) 12 (.pointer (some ⟨b115,0,none⟩))) 14 (Sv a_due yJ c_due)) 15 (.int .i64 c)∧((c:Int)≤zL11.length)∧(DueIs (xY (⟨zi7,zl8,zR9⟩:qy)) due (c) (base0 (⟨zi7,zl8,zR9⟩:qy) (⟨zm10,zL11,zl12⟩:qA)))∧m' =(zL11.length - (c:Int)).toNat∧Fresh w136.heap.size [F_due]∧St w136 w166 [rr a_due yJ c_due 24 1 x_due] [qX true F_due x_due due,atF b115 0 [Sv ra107aAlive ((((xO (⟨zi7,zl8,zR9⟩:qy) (⟨zm10,zL11,zl12⟩:qA) x).1).qF).length) rc107aAlive,Sv ra107aBags ((((xO (⟨zi7,zl8,zR9⟩:qy) (⟨zm10,zL11,zl12⟩:qA) x).1).qG).length) rc107aBags,Sv ra107aAround ((((xO (⟨zi7,zl8,zR9⟩:qy) (⟨zm10,zL11,zl12⟩:qA) x).1).qH).length) rc107aAround],atF b34 0 [Sv ra21 zm10.length rc23,Sv ra24 zL11.length rc26,Sv ra29 zl12.length rc31],atF b32 0 [.int .i64 zi7,Sv ra13 zl8.length rc15,Sv ra16 zR9.length rc18],sF true G155 ra16 rc18 zR9,sF true G153 ra13 rc15 zl8,sF true G151 ra29 rc31 zl12,sF true G148 ra24 rc26 zL11,sF true G146 ra21 rc23 zm10,sF true G144 ra107aAround rc107aAround (((xO (⟨zi7,zl8,zR9⟩:qy) (⟨zm10,zL11,zl12⟩:qA) x).1).qH),sF true G141 ra107aBags rc107aBags (((xO (⟨zi7,zl8,zR9⟩:qy) (⟨zm10,zL11,zl12⟩:qA) x).1).qG),sF true G139 ra107aAlive rc107aAlive (((xO (⟨zi7,zl8,zR9⟩:qy) (⟨zm10,zL11,zl12⟩:qA) x).1).qF),sF true G89 a87 c88 x]) ((zL11.length - (0:Int)).toNat) ⟨_,(some ⟨b164,0,none⟩),0,0,([]:List (OwnI 2)),[],[],0,uE6,qf,(by exact DueIs.nil),rfl,N.emp,H.pick [0] [0,1,2,3,6,7,8,9,10,11,12,13,14]⟩ ?_
       clear H N
       rintro m' ρ w167 ⟨zl,a_due,yJ,c_due,due,x_due,F_due,c,rfl,i0,D0,rfl,N,H⟩
       have hn_due:=H.zi (α:=OwnI 2) 0 rfl 0 rfl qj
       have dl:=D0.1
       refine zcc (sp (.int .i64 c) (oF rfl (oL rfl (H.zu 2 rfl 1 rfl) (oN rfl (sp (Bv (decide ((c:Int) < zL11.length))) (zjn (cD rfl (fun h168=>?_) (fun h168=>?_))))))))
       ·skip
        have bl:(zL11[c]!).length=zi7.toNat:=(Z.bagOf (c:=c) qf).1
        have rl:zl12.length=zi7.toNat:=Z.rimOf.1
        refine xe (t_n (zg (qZ (zn (sp (Sv a_due yJ c_due) (sw (jR H Tryz.underlying24 ti2 fun b169 w170 H=>oF rfl (oL rfl (H.zu 2 rfl 1 rfl) (sp (.int .i64 c) ?_)))))))))
        obtain ⟨b171,o172,rfl⟩:=H.addr 7 rfl qf
        obtain ⟨ae174,ce174,Fe174,HB⟩:=HB.jS 8 rfl c c qf qf qf
        replace H:St w136 w170 [.box b169 [] 2,rr a_due yJ c_due 24 1 x_due] [sF true Fe174 ae174 ce174 (zL11[c]!),atF b171 (o172+(c:Int).toNat * 1) [Sv ae174 ((zL11[c]!).length) ce174],qX true F_due x_due due,atF b115 0 [Sv ra107aAlive ((((xO (⟨zi7,zl8,zR9⟩:qy) (⟨zm10,zL11,zl12⟩:qA) x).1).qF).length) rc107aAlive,Sv ra107aBags ((((xO (⟨zi7,zl8,zR9⟩:qy) (⟨zm10,zL11,zl12⟩:qA) x).1).qG).length) rc107aBags,Sv ra107aAround ((((xO (⟨zi7,zl8,zR9⟩:qy) (⟨zm10,zL11,zl12⟩:qA) x).1).qH).length) rc107aAround],atF b34 0 [Sv ra21 zm10.length rc23,Sv (some ⟨b171,o172,none⟩) zL11.length rc26,Sv ra29 zl12.length rc31],atF b32 0 [.int .i64 zi7,Sv ra13 zl8.length rc15,Sv ra16 zR9.length rc18],sF true G155 ra16 rc18 zR9,sF true G153 ra13 rc15 zl8,sF true G151 ra29 rc31 zl12,sF true G148 (some ⟨b171,o172,none⟩) rc26 zL11,sF true G146 ra21 rc23 zm10,sF true G144 ra107aAround rc107aAround (((xO (⟨zi7,zl8,zR9⟩:qy) (⟨zm10,zL11,zl12⟩:qA) x).1).qH),sF true G141 ra107aBags rc107aBags (((xO (⟨zi7,zl8,zR9⟩:qy) (⟨zm10,zL11,zl12⟩:qA) x).1).qG),sF true G139 ra107aAlive rc107aAlive (((xO (⟨zi7,zl8,zR9⟩:qy) (⟨zm10,zL11,zl12⟩:qA) x).1).qF),sF true G89 a87 c88 x]:=H.oldies HB 2
        refine oI rfl rfl (oL rfl (H.zu 1 rfl 0 rfl) ?_)
        replace H:=H.boxRowI 0 [] 0
        refine sw (o_appendIR H 0 rfl 0 rfl Tryz.underlying24 ti2 rfl rfl rfl qp qf fun a175 c176 w177 H=>?_)
        rw [catI] at H
        refine sw (zJ H Tryz.underlying29 ti24 [Sv a175 (0+((zL11[c]!).length)) c176] fun b178 w179 H=>sw (zM H 2 rfl 0 rfl Tryz.underlying29 ti24 rfl qj rfl rfl rfl (by simp [Value.oneCell',Value.cells]) qp qf fun a180 c181 w182 H=>?_))
        obtain ⟨F183,N,H⟩:=H.snocI 1 rfl 2 rfl (N:Fresh w136.heap.size [F_due]) (H.jJ [])
        refine sp (Sv a180 (yJ+1) c181) (zo (b_n (t_n (zn (sp (.int .i64 c) (sw (zN c 1 rfl rfl qf (sp (.int .i64 (c+1)) (zo (xm (m' :=(zL11.length - ((c+1):Int)).toNat) qf ⟨_,a180,yJ+1,c181,(due++[⟨(([]:yLI)++(zL11[c]!))⟩]),x_due++[Sv a175 (0+((zL11[c]!).length)) c176],F183,c+1,uE6,?_,?_,rfl,N,H.pick [2] [0,4,5,6,7,8,9,10,11,12,13,14,15]⟩))))))))))
        · omega
        · exact D0.snoc (Z.bagOf (c:=c) qf).1 (Z.bagOf (c:=c) qf).2
       ·skip
        have rl:zl12.length=zi7.toNat:=Z.rimOf.1
        refine zx4 (zcr (sp (Sv a_due yJ c_due) (sw (jR H Tryz.underlying24 ti2 fun b184 w185 H=>oF rfl (oL rfl (H.zu 2 rfl 2 rfl) ?_)))))
        replace H:=H.boxRowI 0 [] 0
        refine sw (o_appendIR H 0 rfl 6 rfl Tryz.underlying24 ti2 rfl rfl rfl qp qf fun a186 c187 w188 H=>?_)
        rw [catI] at H
        refine sw (zJ H Tryz.underlying29 ti24 [Sv a186 (0+zl12.length) c187] fun b189 w190 H=>sw (zM H 2 rfl 0 rfl Tryz.underlying29 ti24 rfl qj rfl rfl rfl (by simp [Value.oneCell',Value.cells]) qp qf fun a191 c192 w193 H=>?_))
        obtain ⟨F194,N,H⟩:=H.snocI 1 rfl 0 rfl (N:Fresh w136.heap.size [F_due]) (H.jJ [])
        refine sp (Sv a191 (yJ+1) c192) (zjcc (sp (.int .i64 0) (zjn (qZ ?_))))
        refine zU (fun m' ρ w195=>∃ (zl:Env) (i:Nat) (due_1:List (OwnI 2)) (Xd:List Value) (Xw:yLN),ρ=upd (upd (upd (upd (upd (upd zl 5 (.pointer (some ⟨b32,0,none⟩))) 6 (.pointer (some ⟨b34,0,none⟩))) 11 (Sv a87 x.length c88)) 12 (.pointer (some ⟨b115,0,none⟩))) 14 (Sv a191 (yJ+1) c192)) 16 (.int .i64 i)∧((i:Int)≤x.length)∧(DueIs (xY (⟨zi7,zl8,zR9⟩:qy)) due_1 (xB (⟨zi7,zl8,zR9⟩:qy)+1) (dueC (⟨zi7,zl8,zR9⟩:qy) (⟨zm10,zL11,zl12⟩:qA) x i))∧m' =(x.length - (i:Int)).toNat∧Fresh w136.heap.size [Xw]∧St w136 w195 [.box b189 [Sv a186 (0+zl12.length) c187] 24,rr a191 (yJ+1) c192 24 1 Xd] [qX true Xw Xd due_1,atF b115 0 [Sv ra107aAlive ((((xO (⟨zi7,zl8,zR9⟩:qy) (⟨zm10,zL11,zl12⟩:qA) x).1).qF).length) rc107aAlive,Sv ra107aBags ((((xO (⟨zi7,zl8,zR9⟩:qy) (⟨zm10,zL11,zl12⟩:qA) x).1).qG).length) rc107aBags,Sv ra107aAround ((((xO (⟨zi7,zl8,zR9⟩:qy) (⟨zm10,zL11,zl12⟩:qA) x).1).qH).length) rc107aAround],atF b34 0 [Sv ra21 zm10.length rc23,Sv ra24 zL11.length rc26,Sv ra29 zl12.length rc31],atF b32 0 [.int .i64 zi7,Sv ra13 zl8.length rc15,Sv ra16 zR9.length rc18],sF true G155 ra16 rc18 zR9,sF true G153 ra13 rc15 zl8,sF true G151 ra29 rc31 zl12,sF true G148 ra24 rc26 zL11,sF true G146 ra21 rc23 zm10,sF true G144 ra107aAround rc107aAround (((xO (⟨zi7,zl8,zR9⟩:qy) (⟨zm10,zL11,zl12⟩:qA) x).1).qH),sF true G141 ra107aBags rc107aBags (((xO (⟨zi7,zl8,zR9⟩:qy) (⟨zm10,zL11,zl12⟩:qA) x).1).qG),sF true G139 ra107aAlive rc107aAlive (((xO (⟨zi7,zl8,zR9⟩:qy) (⟨zm10,zL11,zl12⟩:qA) x).1).qF),sF true G89 a87 c88 x]) ((x.length - (0:Int)).toNat) ⟨_,0,(due++[⟨(([]:yLI)++zl12)⟩]),x_due++[Sv a186 (0+zl12.length) c187],F194,uE6,qf,(by exact ((D0.cast (by omega:c=xB _)).snoc Z.rimOf.1 Z.rimOf.2).to (fun p q _ _=>dueC_0 p q)),rfl,N,H.pick [0,2] [0,2,3,4,5,6,7,8,9,10,11,12,13]⟩ ?_
        clear H N
        rintro m' ρ w196 ⟨zl,i,due_1,Xd,Xw,rfl,i0,D1,rfl,N,H⟩
        have hn_due:=H.zi (α:=OwnI 2) 1 rfl 0 rfl qj
        refine zcc (sps [.int .i64 i,Sv a87 x.length c88] (oN rfl (sp (Bv (decide ((i:Int) < x.length))) (zjn (cD rfl (fun h197=>?_) (fun h197=>?_))))))
        ·skip
         have hi:i < ((⟨zi7,zl8,zR9⟩:qy)).qx.length:=by omega
         have xb:=Z.bd hi
         have dl:=D1.1
         refine xe (t_n (zg (qZ (zcc (sps [Sv a87 x.length c88,.int .i64 i] ?_)))))
         obtain ⟨b198,o199,rfl⟩:=H.addr 12 rfl qf
         refine oI rfl rfl (oL rfl (H.jg 12 rfl i qf qf) (sp (Bv ((x[i]! :Int) == 0)) (zjn (cE rfl (fun h201=>?_) (fun h201=>?_)))))
         ·skip
          refine c_exit (t_x (b_x (t_n (zn (sp (.int .i64 i) (sw (zN i 1 rfl rfl qf (sp (.int .i64 (i+1)) (zo (xm (m' :=(x.length - ((i+1):Int)).toNat) qf ⟨_,i+1,due_1,Xd,Xw,uE6,?_,?_,rfl,N,H⟩))))))))))
          · omega
          · first | exact D1.to (fun p q _ _=>dueC_skip ql p q) | exact D2.to (fun p q hp _=>by rw [show c_1=xB (⟨zi7,zl8,zR9⟩:qy)+1 from by omega];exact dueY_end q hp)
         ·skip
          have en:=Z.en hi h201
          have gl:=chgL_len (⟨zi7,zl8,zR9⟩:qy) (⟨zm10,zL11,zl12⟩:qA) (((⟨zi7,zl8,zR9⟩:qy)).qx[(i:Int).toNat]!)
          refine xe (t_n (zcr (sw (zB [.int .i64 zi7,Sv ra13 zl8.length rc15,Sv ra16 zR9.length rc18] Tryz.isAgg27 Tryz.sizeOf27 rfl (qJ (H.get 3 rfl) 0 3) (sw (zB [Sv ra21 zm10.length rc23,Sv ra24 zL11.length rc26,Sv ra29 zl12.length rc31] Tryz.isAgg31 Tryz.sizeOf31 rfl (qJ (H.get 2 rfl) 0 3) (sp (.int .i64 i) ?_)))))))
          have sz205:=H.base.size
          have lt206:=H.ltN (L:=[Xw]) [0]
          refine sw (oc (changeOf_ok _ (⟨zi7,zl8,zR9⟩:qy) (⟨zm10,zL11,zl12⟩:qA) i (H.get 5 rfl).1 (H.get 4 rfl).1 (H.get 8 rfl).1 (H.get 7 rfl).1 (H.get 6 rfl).1 qg qg qg) ?_)
          rintro _ w203 ⟨ra202a,rn202a,rc202a,rx202a,rF202a,rfl,M,K⟩ _
          replace N:=N.merge sz205 lt206 M
          replace H:=H.merge K M
          obtain rfl:=H.zi (α:=yLI) 0 rfl 0 rfl qj
          refine sps [.tuple #[Sv ra202a ((QA (⟨zi7,zl8,zR9⟩:qy) (⟨zm10,zL11,zl12⟩:qA) ((⟨zi7,zl8,zR9⟩:qy).qx[(i:Int).toNat]!)).length) rc202a,.int .i64 0],Sv ra202a ((QA (⟨zi7,zl8,zR9⟩:qy) (⟨zm10,zL11,zl12⟩:qA) ((⟨zi7,zl8,zR9⟩:qy).qx[(i:Int).toNat]!)).length) rc202a,.int .i64 0,Sv ra202a ((QA (⟨zi7,zl8,zR9⟩:qy) (⟨zm10,zL11,zl12⟩:qA) ((⟨zi7,zl8,zR9⟩:qy).qx[(i:Int).toNat]!)).length) rc202a,.int .i64 0] (zjcc (sps [.int .i64 0,Bv false,Bv false] (qL 132 rfl rfl ?_)))
          refine sp (Sv ra202a ((QA (⟨zi7,zl8,zR9⟩:qy) (⟨zm10,zL11,zl12⟩:qA) ((⟨zi7,zl8,zR9⟩:qy).qx[(i:Int).toNat]!)).length) rc202a) (qL 132 rfl rfl (oN rfl (qL 132 rfl rfl (sp (Sv a191 (yJ+1) c192) (qL 132 rfl rfl (oN rfl (qL 132 rfl rfl (sps [Bv (((QA (⟨zi7,zl8,zR9⟩:qy) (⟨zm10,zL11,zl12⟩:qA) ((⟨zi7,zl8,zR9⟩:qy).qx[(i:Int).toNat]!)).length:Int) != (yJ+1)),Bv (((QA (⟨zi7,zl8,zR9⟩:qy) (⟨zm10,zL11,zl12⟩:qA) ((⟨zi7,zl8,zR9⟩:qy).qx[(i:Int).toNat]!)).length:Int) != (yJ+1))] (zjn ?_)))))))))
          refine xI (((QA (⟨zi7,zl8,zR9⟩:qy) (⟨zm10,zL11,zl12⟩:qA) ((⟨zi7,zl8,zR9⟩:qy).qx[(i:Int).toNat]!)).length:Int) != (yJ+1)) rfl (fun h208=>?_) (fun h208=>?_)
          ·skip
           replace h208:=bne_iff_ne.1 h208
           refine zcr (sp (Bv false) (zjr (t_r (zr5 (ret1 (Bv false) rfl rfl ⟨_,rfl,?_,(Ext.trans' B0 H.base)⟩)))))
           exfalso;first | omega | contradiction
          ·skip
           replace h208:=zh h208
           refine xe (t_n (zcr (sp (.int .i64 0) (zjn (qZ ?_)))))
           refine zU (fun m' ρ w209=>∃ (zl:Env) (c_1:Nat) (due_51:List (OwnI 2)) (x_due_51:List Value) (F_due_51:yLN),ρ=upd (upd (upd (upd (upd (upd (upd (upd (upd (upd (upd (upd (upd zl 5 (.pointer (some ⟨b32,0,none⟩))) 6 (.pointer (some ⟨b34,0,none⟩))) 11 (Sv (some ⟨b198,o199,none⟩) x.length c88)) 12 (.pointer (some ⟨b115,0,none⟩))) 14 (Sv a191 (yJ+1) c192)) 16 (.int .i64 i)) 17 (Sv ra202a ((QA (⟨zi7,zl8,zR9⟩:qy) (⟨zm10,zL11,zl12⟩:qA) ((⟨zi7,zl8,zR9⟩:qy).qx[(i:Int).toNat]!)).length) rc202a)) 19 (.int .i64 c_1)) 133 (Sv ra202a ((QA (⟨zi7,zl8,zR9⟩:qy) (⟨zm10,zL11,zl12⟩:qA) ((⟨zi7,zl8,zR9⟩:qy).qx[(i:Int).toNat]!)).length) rc202a)) 134 (.int .i64 ((QA (⟨zi7,zl8,zR9⟩:qy) (⟨zm10,zL11,zl12⟩:qA) ((⟨zi7,zl8,zR9⟩:qy).qx[(i:Int).toNat]!)).length))) 135 (Sv a191 (yJ+1) c192)) 136 (.int .i64 (yJ+1))) 137 (Bv (((QA (⟨zi7,zl8,zR9⟩:qy) (⟨zm10,zL11,zl12⟩:qA) ((⟨zi7,zl8,zR9⟩:qy).qx[(i:Int).toNat]!)).length:Int) != (yJ+1)))∧((c_1:Int)≤(yJ+1))∧(DueIs (xY (⟨zi7,zl8,zR9⟩:qy)) due_51 (xB (⟨zi7,zl8,zR9⟩:qy)+1) (dueY (⟨zi7,zl8,zR9⟩:qy) (⟨zm10,zL11,zl12⟩:qA) x i c_1 0))∧m' =((yJ+1) - (c_1:Int)).toNat∧Fresh w136.heap.size [rF202a,F_due_51]∧St w136 w209 [rr ra202a ((QA (⟨zi7,zl8,zR9⟩:qy) (⟨zm10,zL11,zl12⟩:qA) ((⟨zi7,zl8,zR9⟩:qy).qx[(i:Int).toNat]!)).length) rc202a 24 1 rx202a,.box b189 [Sv a186 (0+zl12.length) c187] 24,rr a191 (yJ+1) c192 24 1 x_due_51] [qX true rF202a rx202a (QA (⟨zi7,zl8,zR9⟩:qy) (⟨zm10,zL11,zl12⟩:qA) ((⟨zi7,zl8,zR9⟩:qy).qx[(i:Int).toNat]!)),qX true F_due_51 x_due_51 due_51,atF b115 0 [Sv ra107aAlive ((((xO (⟨zi7,zl8,zR9⟩:qy) (⟨zm10,zL11,zl12⟩:qA) x).1).qF).length) rc107aAlive,Sv ra107aBags ((((xO (⟨zi7,zl8,zR9⟩:qy) (⟨zm10,zL11,zl12⟩:qA) x).1).qG).length) rc107aBags,Sv ra107aAround ((((xO (⟨zi7,zl8,zR9⟩:qy) (⟨zm10,zL11,zl12⟩:qA) x).1).qH).length) rc107aAround],atF b34 0 [Sv ra21 zm10.length rc23,Sv ra24 zL11.length rc26,Sv ra29 zl12.length rc31],atF b32 0 [.int .i64 zi7,Sv ra13 zl8.length rc15,Sv ra16 zR9.length rc18],sF true G155 ra16 rc18 zR9,sF true G153 ra13 rc15 zl8,sF true G151 ra29 rc31 zl12,sF true G148 ra24 rc26 zL11,sF true G146 ra21 rc23 zm10,sF true G144 ra107aAround rc107aAround (((xO (⟨zi7,zl8,zR9⟩:qy) (⟨zm10,zL11,zl12⟩:qA) x).1).qH),sF true G141 ra107aBags rc107aBags (((xO (⟨zi7,zl8,zR9⟩:qy) (⟨zm10,zL11,zl12⟩:qA) x).1).qG),sF true G139 ra107aAlive rc107aAlive (((xO (⟨zi7,zl8,zR9⟩:qy) (⟨zm10,zL11,zl12⟩:qA) x).1).qF),sF true G89 (some ⟨b198,o199,none⟩) c88 x]) (((yJ+1) - (0:Int)).toNat) ⟨_,0,due_1,Xd,Xw,uE13,qf,(by exact D1.to (fun p q _ _=>dueY_0 i p q)),rfl,N,H⟩ ?_
           clear H N
           rintro m' ρ w210 ⟨zl,c_1,due_51,x_due_51,F_due_51,rfl,i0,D2,rfl,N,H⟩
           have hn_due:=H.zi (α:=OwnI 2) 2 rfl 1 rfl qj
           have dl:=D2.1
           refine zcc (sps [.int .i64 c_1,Sv a191 (yJ+1) c192] (oN rfl (sp (Bv (decide ((c_1:Int) < (yJ+1)))) (zjn (cD rfl (fun h211=>?_) (fun h211=>?_))))))
           ·skip
            refine xe (t_n (zg (qZ (zcr (sp (.int .i64 0) (zjn (qZ ?_)))))))
            refine zU (fun m' ρ w212=>∃ (zl:Env) (k:Nat) (due_52:List (OwnI 2)) (x_due_52:List Value) (F_due_52:yLN),ρ=upd (upd (upd (upd (upd (upd (upd (upd (upd (upd (upd (upd (upd (upd zl 5 (.pointer (some ⟨b32,0,none⟩))) 6 (.pointer (some ⟨b34,0,none⟩))) 11 (Sv (some ⟨b198,o199,none⟩) x.length c88)) 12 (.pointer (some ⟨b115,0,none⟩))) 14 (Sv a191 (yJ+1) c192)) 16 (.int .i64 i)) 17 (Sv ra202a ((QA (⟨zi7,zl8,zR9⟩:qy) (⟨zm10,zL11,zl12⟩:qA) ((⟨zi7,zl8,zR9⟩:qy).qx[(i:Int).toNat]!)).length) rc202a)) 19 (.int .i64 c_1)) 20 (.int .i64 k)) 133 (Sv ra202a ((QA (⟨zi7,zl8,zR9⟩:qy) (⟨zm10,zL11,zl12⟩:qA) ((⟨zi7,zl8,zR9⟩:qy).qx[(i:Int).toNat]!)).length) rc202a)) 134 (.int .i64 ((QA (⟨zi7,zl8,zR9⟩:qy) (⟨zm10,zL11,zl12⟩:qA) ((⟨zi7,zl8,zR9⟩:qy).qx[(i:Int).toNat]!)).length))) 135 (Sv a191 (yJ+1) c192)) 136 (.int .i64 (yJ+1))) 137 (Bv (((QA (⟨zi7,zl8,zR9⟩:qy) (⟨zm10,zL11,zl12⟩:qA) ((⟨zi7,zl8,zR9⟩:qy).qx[(i:Int).toNat]!)).length:Int) != (yJ+1)))∧(DueIs (xY (⟨zi7,zl8,zR9⟩:qy)) due_52 (xB (⟨zi7,zl8,zR9⟩:qy)+1) (dueY (⟨zi7,zl8,zR9⟩:qy) (⟨zm10,zL11,zl12⟩:qA) x i c_1 k))∧(k≤xY (⟨zi7,zl8,zR9⟩:qy))∧m' =(4 - k)∧Fresh w136.heap.size [rF202a,F_due_52]∧St w136 w212 [rr ra202a ((QA (⟨zi7,zl8,zR9⟩:qy) (⟨zm10,zL11,zl12⟩:qA) ((⟨zi7,zl8,zR9⟩:qy).qx[(i:Int).toNat]!)).length) rc202a 24 1 rx202a,.box b189 [Sv a186 (0+zl12.length) c187] 24,rr a191 (yJ+1) c192 24 1 x_due_52] [qX true rF202a rx202a (QA (⟨zi7,zl8,zR9⟩:qy) (⟨zm10,zL11,zl12⟩:qA) ((⟨zi7,zl8,zR9⟩:qy).qx[(i:Int).toNat]!)),qX true F_due_52 x_due_52 due_52,atF b115 0 [Sv ra107aAlive ((((xO (⟨zi7,zl8,zR9⟩:qy) (⟨zm10,zL11,zl12⟩:qA) x).1).qF).length) rc107aAlive,Sv ra107aBags ((((xO (⟨zi7,zl8,zR9⟩:qy) (⟨zm10,zL11,zl12⟩:qA) x).1).qG).length) rc107aBags,Sv ra107aAround ((((xO (⟨zi7,zl8,zR9⟩:qy) (⟨zm10,zL11,zl12⟩:qA) x).1).qH).length) rc107aAround],atF b34 0 [Sv ra21 zm10.length rc23,Sv ra24 zL11.length rc26,Sv ra29 zl12.length rc31],atF b32 0 [.int .i64 zi7,Sv ra13 zl8.length rc15,Sv ra16 zR9.length rc18],sF true G155 ra16 rc18 zR9,sF true G153 ra13 rc15 zl8,sF true G151 ra29 rc31 zl12,sF true G148 ra24 rc26 zL11,sF true G146 ra21 rc23 zm10,sF true G144 ra107aAround rc107aAround (((xO (⟨zi7,zl8,zR9⟩:qy) (⟨zm10,zL11,zl12⟩:qA) x).1).qH),sF true G141 ra107aBags rc107aBags (((xO (⟨zi7,zl8,zR9⟩:qy) (⟨zm10,zL11,zl12⟩:qA) x).1).qG),sF true G139 ra107aAlive rc107aAlive (((xO (⟨zi7,zl8,zR9⟩:qy) (⟨zm10,zL11,zl12⟩:qA) x).1).qF),sF true G89 (some ⟨b198,o199,none⟩) c88 x]) ((4 - 0)) ⟨_,0,due_51,x_due_51,F_due_51,uE14,(by exact D2),qf,rfl,N,H⟩ ?_
            clear H N
            rintro m' ρ w213 ⟨zl,k,due_52,x_due_52,F_due_52,rfl,D3,i5,rfl,N,H⟩
            have hn_due:=H.zi (α:=OwnI 2) 2 rfl 1 rfl qj
            have dn:=D3.1
            have dm:=D3.len (p:=c_1) qf
            have cl:=chgL_row (s:=(⟨zi7,zl8,zR9⟩:qy)) (t:=(⟨zm10,zL11,zl12⟩:qA)) (r:=(((⟨zi7,zl8,zR9⟩:qy)).qx[(i:Int).toNat]!)) (p:=c_1) qf
            refine zcc (sps [.int .i64 k,Sv a191 (yJ+1) c192,.int .i64 c_1] ?_)
            obtain ⟨b214,rfl⟩:=H.Qc 2 rfl qf
            refine oI rfl rfl ?_
            obtain ⟨a215,c216,hx217⟩:=H.innerHead 1 rfl c_1 qf
            refine oL rfl (H.rowGet 2 rfl (by rw [show 0+(c_1:Int).toNat * 1=c_1 by omega];exact hx217)) (oN rfl (sps [Bv (decide ((k:Int) < ((due_52[c_1]!).l.length))),Bv (decide ((k:Int) < ((due_52[c_1]!).l.length)))] ?_))
            cases h218:(decide ((k:Int) < ((due_52[c_1]!).l.length)))
            ·skip
             replace h218:=of_decide_eq_false h218
             refine xU [153,154,155,156,157,158,159] (sp (Bv false) (zjn (xI false rfl (fun h=>absurd h qj) (fun _=>c_exit (t_x (t_x (b_x (b_n (t_n (zn (sp (.int .i64 c_1) (sw (zN c_1 1 rfl rfl qf (sp (.int .i64 (c_1+1)) (zo (xm (m' :=((yJ+1) - ((c_1+1):Int)).toNat) qf ⟨_,c_1+1,due_52,x_due_52,F_due_52,uE13,?_,?_,rfl,N,H⟩))))))))))))))))
             · omega
             · exact D3.to (fun p q _ hq=>by rw [show k=xY (⟨zi7,zl8,zR9⟩:qy) by omega];exact dueY_row p hq)
            ·skip
             replace h218:=of_decide_eq_true h218
             refine qL 152 rfl rfl (sp (.int .i64 k) (qL 152 rfl rfl (sp (Sv ra202a ((QA (⟨zi7,zl8,zR9⟩:qy) (⟨zm10,zL11,zl12⟩:qA) ((⟨zi7,zl8,zR9⟩:qy).qx[(i:Int).toNat]!)).length) rc202a) (qL 152 rfl rfl (sp (.int .i64 c_1) (qL 152 rfl rfl ?_))))))
             obtain ⟨b219,rfl⟩:=H.Qc 0 rfl qf
             refine oI rfl rfl (qL 152 rfl rfl ?_)
             obtain ⟨a220,c221,G222,s223,h224,H⟩:=H.jV 0 rfl 0 rfl (iv:=c_1) c_1 qf qf
             refine oL rfl (h224) (qL 152 rfl rfl (oN rfl (qL 152 rfl rfl (sps [Bv (decide ((k:Int) < (((QA (⟨zi7,zl8,zR9⟩:qy) (⟨zm10,zL11,zl12⟩:qA) ((⟨zi7,zl8,zR9⟩:qy).qx[(i:Int).toNat]!))[c_1]!).length))),Bv (decide ((k:Int) < (((QA (⟨zi7,zl8,zR9⟩:qy) (⟨zm10,zL11,zl12⟩:qA) ((⟨zi7,zl8,zR9⟩:qy).qx[(i:Int).toNat]!))[c_1]!).length)))] (zjn (cD rfl (fun h225=>?_) (fun h225=>?_)))))))
             ·skip
              have hk:k < xY (⟨zi7,zl8,zR9⟩:qy):=by omega
              have dv:=D3.at' (p:=c_1) qf hk
              have db:=Z.dueY_bd (m:=i) (c:=c_1) (k:=k) (p:=c_1) (q:=k) hi qf hk
              have cv:((QA (⟨zi7,zl8,zR9⟩:qy) (⟨zm10,zL11,zl12⟩:qA) (((⟨zi7,zl8,zR9⟩:qy)).qx[(i:Int).toNat]!))[c_1]!)[k]! =chgF (⟨zi7,zl8,zR9⟩:qy) (⟨zm10,zL11,zl12⟩:qA) i c_1 k:=chgL_at (s:=(⟨zi7,zl8,zR9⟩:qy)) (t:=(⟨zm10,zL11,zl12⟩:qA)) (i:=i) (p:=c_1) (q:=k) qf hk
              have cb:=Z.mul hi c_1 hk
              have cb2:=Z.chg hi c_1 hk
              rw [← dv] at db
              rw [← cv] at cb cb2
              refine xe (t_n (zg (qZ ?_)))
              refine c_cut (fun ρ w227=>∃ (zl:Env) (F226:yLN),ρ=upd (upd (upd (upd (upd (upd (upd (upd (upd (upd (upd (upd (upd (upd (upd (upd (upd (upd (upd (upd (upd zl 5 (.pointer (some ⟨b32,0,none⟩))) 6 (.pointer (some ⟨b34,0,none⟩))) 11 (Sv (some ⟨b198,o199,none⟩) x.length c88)) 12 (.pointer (some ⟨b115,0,none⟩))) 14 (Sv (some ⟨b214,0,none⟩) (yJ+1) c192)) 16 (.int .i64 i)) 17 (Sv (some ⟨b219,0,none⟩) ((QA (⟨zi7,zl8,zR9⟩:qy) (⟨zm10,zL11,zl12⟩:qA) ((⟨zi7,zl8,zR9⟩:qy).qx[(i:Int).toNat]!)).length) rc202a)) 19 (.int .i64 c_1)) 20 (.int .i64 k)) 133 (Sv (some ⟨b219,0,none⟩) ((QA (⟨zi7,zl8,zR9⟩:qy) (⟨zm10,zL11,zl12⟩:qA) ((⟨zi7,zl8,zR9⟩:qy).qx[(i:Int).toNat]!)).length) rc202a)) 134 (.int .i64 ((QA (⟨zi7,zl8,zR9⟩:qy) (⟨zm10,zL11,zl12⟩:qA) ((⟨zi7,zl8,zR9⟩:qy).qx[(i:Int).toNat]!)).length))) 135 (Sv (some ⟨b214,0,none⟩) (yJ+1) c192)) 136 (.int .i64 (yJ+1))) 137 (Bv (((QA (⟨zi7,zl8,zR9⟩:qy) (⟨zm10,zL11,zl12⟩:qA) ((⟨zi7,zl8,zR9⟩:qy).qx[(i:Int).toNat]!)).length:Int) != (yJ+1)))) 153 (.int .i64 k)) 154 (Sv (some ⟨b219,0,none⟩) ((QA (⟨zi7,zl8,zR9⟩:qy) (⟨zm10,zL11,zl12⟩:qA) ((⟨zi7,zl8,zR9⟩:qy).qx[(i:Int).toNat]!)).length) rc202a)) 155 (.int .i64 c_1)) 156 (.pointer (some ⟨b219,0+(c_1:Int).toNat * 1,none⟩))) 157 (Sv a220 (((QA (⟨zi7,zl8,zR9⟩:qy) (⟨zm10,zL11,zl12⟩:qA) ((⟨zi7,zl8,zR9⟩:qy).qx[(i:Int).toNat]!))[c_1]!).length) c221)) 158 (.int .i64 (((QA (⟨zi7,zl8,zR9⟩:qy) (⟨zm10,zL11,zl12⟩:qA) ((⟨zi7,zl8,zR9⟩:qy).qx[(i:Int).toNat]!))[c_1]!).length))) 159 (Bv (decide ((k:Int) < (((QA (⟨zi7,zl8,zR9⟩:qy) (⟨zm10,zL11,zl12⟩:qA) ((⟨zi7,zl8,zR9⟩:qy).qx[(i:Int).toNat]!))[c_1]!).length))))∧Fresh w136.heap.size [F226,rF202a]∧St w136 w227 [rr (some ⟨b219,0,none⟩) ((QA (⟨zi7,zl8,zR9⟩:qy) (⟨zm10,zL11,zl12⟩:qA) ((⟨zi7,zl8,zR9⟩:qy).qx[(i:Int).toNat]!)).length) rc202a 24 1 rx202a,.box b189 [Sv a186 (0+zl12.length) c187] 24,rr (some ⟨b214,0,none⟩) (yJ+1) c192 24 1 x_due_52] [qX true F226 x_due_52 (due_52.set c_1 ⟨(due_52[c_1]!).l.set k (((due_52[c_1]!).l[k]!)+((x[i]!) * (((QA (⟨zi7,zl8,zR9⟩:qy) (⟨zm10,zL11,zl12⟩:qA) ((⟨zi7,zl8,zR9⟩:qy).qx[(i:Int).toNat]!))[c_1]!)[k]!)))⟩),qX true rF202a rx202a (QA (⟨zi7,zl8,zR9⟩:qy) (⟨zm10,zL11,zl12⟩:qA) ((⟨zi7,zl8,zR9⟩:qy).qx[(i:Int).toNat]!)),atF b115 0 [Sv ra107aAlive ((((xO (⟨zi7,zl8,zR9⟩:qy) (⟨zm10,zL11,zl12⟩:qA) x).1).qF).length) rc107aAlive,Sv ra107aBags ((((xO (⟨zi7,zl8,zR9⟩:qy) (⟨zm10,zL11,zl12⟩:qA) x).1).qG).length) rc107aBags,Sv ra107aAround ((((xO (⟨zi7,zl8,zR9⟩:qy) (⟨zm10,zL11,zl12⟩:qA) x).1).qH).length) rc107aAround],atF b34 0 [Sv ra21 zm10.length rc23,Sv ra24 zL11.length rc26,Sv ra29 zl12.length rc31],atF b32 0 [.int .i64 zi7,Sv ra13 zl8.length rc15,Sv ra16 zR9.length rc18],sF true G155 ra16 rc18 zR9,sF true G153 ra13 rc15 zl8,sF true G151 ra29 rc31 zl12,sF true G148 ra24 rc26 zL11,sF true G146 ra21 rc23 zm10,sF true G144 ra107aAround rc107aAround (((xO (⟨zi7,zl8,zR9⟩:qy) (⟨zm10,zL11,zl12⟩:qA) x).1).qH),sF true G141 ra107aBags rc107aBags (((xO (⟨zi7,zl8,zR9⟩:qy) (⟨zm10,zL11,zl12⟩:qA) x).1).qG),sF true G139 ra107aAlive rc107aAlive (((xO (⟨zi7,zl8,zR9⟩:qy) (⟨zm10,zL11,zl12⟩:qA) x).1).qF),sF true G89 (some ⟨b198,o199,none⟩) c88 x]) ?_ ?_
              ·skip
               refine XG rfl H [0,1] [1,3,4,5,6,7,8,9,10,11,12,13,14] fun H=>?_
               have S:=H.jG [0,1] [1,3,4,5,6,7,8,9,10,11,12,13,14]
               refine rtp 0 (Sv (some ⟨b214,0,none⟩) (yJ+1) c192) S ?_
               refine rtp 1 (.int .i64 c_1) S ?_
               refine tI 2 rfl rfl rfl S ?_
               refine rtp 4 (.int .i64 k) S ?_
               refine rtp 7 (Sv (some ⟨b198,o199,none⟩) x.length c88) S ?_
               refine rtp 8 (.int .i64 i) S ?_
               refine tI 9 rfl rfl rfl S ?_
               refine tL 10 rfl rfl (fun _ h=>h.QG 12 rfl i qf) S ?_
               refine rtp 11 (Sv (some ⟨b219,0,none⟩) ((QA (⟨zi7,zl8,zR9⟩:qy) (⟨zm10,zL11,zl12⟩:qA) ((⟨zi7,zl8,zR9⟩:qy).qx[(i:Int).toNat]!)).length) rc202a) S ?_
               refine rtp 12 (.int .i64 c_1) S ?_
               refine tI 13 rfl rfl rfl S ?_
               refine rtp 15 (.int .i64 k) S ?_
               refine zH [3,14] qh qm (vg rfl ?_ (vg rfl ?_ zI))
               ·skip
                obtain ⟨a229,c230,hx231⟩:=H.innerHead 2 rfl c_1 qf
                refine zt (Sv a229 ((due_52[c_1]!).l.length) c230) Tryz.isAgg24 rfl (H.rowGet 2 rfl (by rw [show 0+(c_1:Int).toNat * 1=c_1 by omega];exact hx231)) (⟨H.pick [0,1] [1,3,4,5,6,7,8,9,10,11,12,13,14],?_⟩)
                obtain ⟨b232,rfl⟩:=H.innerAddr 2 rfl c_1 qf hx231 qf
                refine tI 5 rfl rfl rfl (H.pick [0,1] [1,3,4,5,6,7,8,9,10,11,12,13,14]) ?_
                refine zH [6,14] qh qm (vg rfl ?_ (vg rfl ?_ zI))
                ·skip
                 refine zt (.int .i64 ((due_52[c_1]!).l[k]!)) Tryz.isAgg2 rfl (H.innerInt 2 rfl c_1 qf hx231 (iv:=k) (k:=k) qf qf) (⟨H.pick [0,1] [1,3,4,5,6,7,8,9,10,11,12,13,14],(ro 14 rfl ?_)⟩)
                 obtain ⟨a233,c234,G235,s236,h237,H⟩:=H.jV 0 rfl 1 rfl (iv:=c_1) c_1 qf qf
                 refine zt (Sv a233 (((QA (⟨zi7,zl8,zR9⟩:qy) (⟨zm10,zL11,zl12⟩:qA) ((⟨zi7,zl8,zR9⟩:qy).qx[(i:Int).toNat]!))[c_1]!).length) c234) Tryz.isAgg24 rfl (h237) (⟨H.pick [0,1] [2,4,5,6,7,8,9,10,11,12,13,14,15],?_⟩)
                 obtain ⟨b238,o239,rfl⟩:=H.addr 0 rfl qf
                 refine tI 16 rfl rfl rfl (H.pick [0,1] [2,4,5,6,7,8,9,10,11,12,13,14,15]) ?_
                 refine ro 17 rfl (zt (.int .i64 (((QA (⟨zi7,zl8,zR9⟩:qy) (⟨zm10,zL11,zl12⟩:qA) ((⟨zi7,zl8,zR9⟩:qy).qx[(i:Int).toNat]!))[c_1]!)[k]!)) Tryz.isAgg2 rfl (H.jg 0 rfl k qf qf) (⟨H.pick [0,1] [2,4,5,6,7,8,9,10,11,12,13,14,15],?_⟩))
                 have S:=H.jG [0,1] [2,4,5,6,7,8,9,10,11,12,13,14,15]
                 refine rt 18 (.int .i64 ((x[i]!) * (((QA (⟨zi7,zl8,zR9⟩:qy) (⟨zm10,zL11,zl12⟩:qA) ((⟨zi7,zl8,zR9⟩:qy).qx[(i:Int).toNat]!))[c_1]!)[k]!))) (y_mul (x[i]!) (((QA (⟨zi7,zl8,zR9⟩:qy) (⟨zm10,zL11,zl12⟩:qA) ((⟨zi7,zl8,zR9⟩:qy).qx[(i:Int).toNat]!))[c_1]!)[k]!) rfl rfl qf) S ?_
                 refine rt 19 (.int .i64 (((due_52[c_1]!).l[k]!)+((x[i]!) * (((QA (⟨zi7,zl8,zR9⟩:qy) (⟨zm10,zL11,zl12⟩:qA) ((⟨zi7,zl8,zR9⟩:qy).qx[(i:Int).toNat]!))[c_1]!)[k]!)))) (y_add ((due_52[c_1]!).l[k]!) ((x[i]!) * (((QA (⟨zi7,zl8,zR9⟩:qy) (⟨zm10,zL11,zl12⟩:qA) ((⟨zi7,zl8,zR9⟩:qy).qx[(i:Int).toNat]!))[c_1]!)[k]!)) rfl rfl qf) S ?_
                 refine tI 20 rfl rfl rfl S ?_
                 refine ro 21 rfl ?_
                 have N0:=((N.pick [1,0]):Fresh w136.heap.size [F_due_52,rF202a])
                 refine o_storeII H 2 rfl 3 rfl N0 (H.jJ [2]) [qX true rF202a rx202a (QA (⟨zi7,zl8,zR9⟩:qy) (⟨zm10,zL11,zl12⟩:qA) ((⟨zi7,zl8,zR9⟩:qy).qx[(i:Int).toNat]!)),atF b115 0 [Sv ra107aAlive ((((xO (⟨zi7,zl8,zR9⟩:qy) (⟨zm10,zL11,zl12⟩:qA) x).1).qF).length) rc107aAlive,Sv ra107aBags ((((xO (⟨zi7,zl8,zR9⟩:qy) (⟨zm10,zL11,zl12⟩:qA) x).1).qG).length) rc107aBags,Sv ra107aAround ((((xO (⟨zi7,zl8,zR9⟩:qy) (⟨zm10,zL11,zl12⟩:qA) x).1).qH).length) rc107aAround],atF b34 0 [Sv ra21 zm10.length rc23,Sv ra24 zL11.length rc26,Sv ra29 zl12.length rc31],atF b32 0 [.int .i64 zi7,Sv ra13 zl8.length rc15,Sv ra16 zR9.length rc18],sF true G155 ra16 rc18 zR9,sF true G153 ra13 rc15 zl8,sF true G151 ra29 rc31 zl12,sF true G148 ra24 rc26 zL11,sF true G146 ra21 rc23 zm10,sF true G144 ra107aAround rc107aAround (((xO (⟨zi7,zl8,zR9⟩:qy) (⟨zm10,zL11,zl12⟩:qA) x).1).qH),sF true G141 ra107aBags rc107aBags (((xO (⟨zi7,zl8,zR9⟩:qy) (⟨zm10,zL11,zl12⟩:qA) x).1).qG),sF true G139 ra107aAlive rc107aAlive (((xO (⟨zi7,zl8,zR9⟩:qy) (⟨zm10,zL11,zl12⟩:qA) x).1).qF),sF true G89 (some ⟨b198,o199,none⟩) c88 x] (xA (kept 2 rfl (away_new N0 0 rfl)) (xA (kept 4 rfl (zK (HB.ltF 0 rfl) N0)) (xA (kept 5 rfl (zK (HB.ltF 1 rfl) N0)) (xA (kept 6 rfl (zK (HB.ltF 2 rfl) N0)) (xA (kept 7 rfl (zK (HB.ltF 5 rfl) N0)) (xA (kept 8 rfl (zK (HB.ltF 6 rfl) N0)) (xA (kept 9 rfl (zK (HB.ltF 7 rfl) N0)) (xA (kept 10 rfl (zK (HB.ltF 8 rfl) N0)) (xA (kept 11 rfl (zK (HB.ltF 9 rfl) N0)) (xA (kept 12 rfl (zK (HB.ltF 10 rfl) N0)) (xA (kept 13 rfl (zK (HB.ltF 11 rfl) N0)) (xA (kept 14 rfl (zK (HB.ltF 12 rfl) N0)) (xA (kept 15 rfl (zK (HB.ltF 13 rfl) N0)) keeps_nil))))))))))))) c_1 qf hx231 (((due_52[c_1]!).l[k]!)+((x[i]!) * (((QA (⟨zi7,zl8,zR9⟩:qy) (⟨zm10,zL11,zl12⟩:qA) ((⟨zi7,zl8,zR9⟩:qy).qx[(i:Int).toNat]!))[c_1]!)[k]!))) Tryz.sizeOf2 rfl rfl (q:=k) qf qf fun w241 F242 N H=>?_
                 refine ⟨H.pick [0,1] [1,2,3,4,5,6,7,8,9,10,11,12,13],(xg qh ((meet ⟨_,F242,uE21,N,H⟩)))⟩
                ·skip
                 obtain ⟨a243,c244,G245,s246,h247,H⟩:=H.jV 0 rfl 1 rfl (iv:=c_1) c_1 qf qf
                 refine zt (Sv a243 (((QA (⟨zi7,zl8,zR9⟩:qy) (⟨zm10,zL11,zl12⟩:qA) ((⟨zi7,zl8,zR9⟩:qy).qx[(i:Int).toNat]!))[c_1]!).length) c244) Tryz.isAgg24 rfl (h247) (⟨H.pick [0,1] [2,4,5,6,7,8,9,10,11,12,13,14,15],?_⟩)
                 obtain ⟨b248,o249,rfl⟩:=H.addr 0 rfl qf
                 refine tI 16 rfl rfl rfl (H.pick [0,1] [2,4,5,6,7,8,9,10,11,12,13,14,15]) ?_
                 refine zH [6,17] qh qm (vg rfl ?_ (vg rfl ?_ zI))
                 ·skip
                  refine zt (.int .i64 ((due_52[c_1]!).l[k]!)) Tryz.isAgg2 rfl (H.innerInt 3 rfl c_1 qf hx231 (iv:=k) (k:=k) qf qf) (⟨H.pick [0,1] [2,4,5,6,7,8,9,10,11,12,13,14,15],(ro 17 rfl (zt (.int .i64 (((QA (⟨zi7,zl8,zR9⟩:qy) (⟨zm10,zL11,zl12⟩:qA) ((⟨zi7,zl8,zR9⟩:qy).qx[(i:Int).toNat]!))[c_1]!)[k]!)) Tryz.isAgg2 rfl (H.jg 0 rfl k qf qf) (⟨H.pick [0,1] [2,4,5,6,7,8,9,10,11,12,13,14,15],?_⟩)))⟩)
                  have S:=H.jG [0,1] [2,4,5,6,7,8,9,10,11,12,13,14,15]
                  refine rt 18 (.int .i64 ((x[i]!) * (((QA (⟨zi7,zl8,zR9⟩:qy) (⟨zm10,zL11,zl12⟩:qA) ((⟨zi7,zl8,zR9⟩:qy).qx[(i:Int).toNat]!))[c_1]!)[k]!))) (y_mul (x[i]!) (((QA (⟨zi7,zl8,zR9⟩:qy) (⟨zm10,zL11,zl12⟩:qA) ((⟨zi7,zl8,zR9⟩:qy).qx[(i:Int).toNat]!))[c_1]!)[k]!) rfl rfl qf) S ?_
                  refine rt 19 (.int .i64 (((due_52[c_1]!).l[k]!)+((x[i]!) * (((QA (⟨zi7,zl8,zR9⟩:qy) (⟨zm10,zL11,zl12⟩:qA) ((⟨zi7,zl8,zR9⟩:qy).qx[(i:Int).toNat]!))[c_1]!)[k]!)))) (y_add ((due_52[c_1]!).l[k]!) ((x[i]!) * (((QA (⟨zi7,zl8,zR9⟩:qy) (⟨zm10,zL11,zl12⟩:qA) ((⟨zi7,zl8,zR9⟩:qy).qx[(i:Int).toNat]!))[c_1]!)[k]!)) rfl rfl qf) S ?_
                  refine tI 20 rfl rfl rfl S ?_
                  refine ro 21 rfl ?_
                  have N0:=((N.pick [1,0]):Fresh w136.heap.size [F_due_52,rF202a])
                  refine o_storeII H 2 rfl 3 rfl N0 (H.jJ [2]) [qX true rF202a rx202a (QA (⟨zi7,zl8,zR9⟩:qy) (⟨zm10,zL11,zl12⟩:qA) ((⟨zi7,zl8,zR9⟩:qy).qx[(i:Int).toNat]!)),atF b115 0 [Sv ra107aAlive ((((xO (⟨zi7,zl8,zR9⟩:qy) (⟨zm10,zL11,zl12⟩:qA) x).1).qF).length) rc107aAlive,Sv ra107aBags ((((xO (⟨zi7,zl8,zR9⟩:qy) (⟨zm10,zL11,zl12⟩:qA) x).1).qG).length) rc107aBags,Sv ra107aAround ((((xO (⟨zi7,zl8,zR9⟩:qy) (⟨zm10,zL11,zl12⟩:qA) x).1).qH).length) rc107aAround],atF b34 0 [Sv ra21 zm10.length rc23,Sv ra24 zL11.length rc26,Sv ra29 zl12.length rc31],atF b32 0 [.int .i64 zi7,Sv ra13 zl8.length rc15,Sv ra16 zR9.length rc18],sF true G155 ra16 rc18 zR9,sF true G153 ra13 rc15 zl8,sF true G151 ra29 rc31 zl12,sF true G148 ra24 rc26 zL11,sF true G146 ra21 rc23 zm10,sF true G144 ra107aAround rc107aAround (((xO (⟨zi7,zl8,zR9⟩:qy) (⟨zm10,zL11,zl12⟩:qA) x).1).qH),sF true G141 ra107aBags rc107aBags (((xO (⟨zi7,zl8,zR9⟩:qy) (⟨zm10,zL11,zl12⟩:qA) x).1).qG),sF true G139 ra107aAlive rc107aAlive (((xO (⟨zi7,zl8,zR9⟩:qy) (⟨zm10,zL11,zl12⟩:qA) x).1).qF),sF true G89 (some ⟨b198,o199,none⟩) c88 x] (xA (kept 2 rfl (away_new N0 0 rfl)) (xA (kept 4 rfl (zK (HB.ltF 0 rfl) N0)) (xA (kept 5 rfl (zK (HB.ltF 1 rfl) N0)) (xA (kept 6 rfl (zK (HB.ltF 2 rfl) N0)) (xA (kept 7 rfl (zK (HB.ltF 5 rfl) N0)) (xA (kept 8 rfl (zK (HB.ltF 6 rfl) N0)) (xA (kept 9 rfl (zK (HB.ltF 7 rfl) N0)) (xA (kept 10 rfl (zK (HB.ltF 8 rfl) N0)) (xA (kept 11 rfl (zK (HB.ltF 9 rfl) N0)) (xA (kept 12 rfl (zK (HB.ltF 10 rfl) N0)) (xA (kept 13 rfl (zK (HB.ltF 11 rfl) N0)) (xA (kept 14 rfl (zK (HB.ltF 12 rfl) N0)) (xA (kept 15 rfl (zK (HB.ltF 13 rfl) N0)) keeps_nil))))))))))))) c_1 qf hx231 (((due_52[c_1]!).l[k]!)+((x[i]!) * (((QA (⟨zi7,zl8,zR9⟩:qy) (⟨zm10,zL11,zl12⟩:qA) ((⟨zi7,zl8,zR9⟩:qy).qx[(i:Int).toNat]!))[c_1]!)[k]!))) Tryz.sizeOf2 rfl rfl (q:=k) qf qf fun w251 F252 N H=>?_
                  refine ⟨H.pick [0,1] [1,2,3,4,5,6,7,8,9,10,11,12,13],(xg qh ((meet ⟨_,F252,uE21,N,H⟩)))⟩
                 ·skip
                  refine zt (.int .i64 (((QA (⟨zi7,zl8,zR9⟩:qy) (⟨zm10,zL11,zl12⟩:qA) ((⟨zi7,zl8,zR9⟩:qy).qx[(i:Int).toNat]!))[c_1]!)[k]!)) Tryz.isAgg2 rfl (H.jg 0 rfl k qf qf) (⟨H.pick [0,1] [2,4,5,6,7,8,9,10,11,12,13,14,15],?_⟩)
                  refine rt 18 (.int .i64 ((x[i]!) * (((QA (⟨zi7,zl8,zR9⟩:qy) (⟨zm10,zL11,zl12⟩:qA) ((⟨zi7,zl8,zR9⟩:qy).qx[(i:Int).toNat]!))[c_1]!)[k]!))) (y_mul (x[i]!) (((QA (⟨zi7,zl8,zR9⟩:qy) (⟨zm10,zL11,zl12⟩:qA) ((⟨zi7,zl8,zR9⟩:qy).qx[(i:Int).toNat]!))[c_1]!)[k]!) rfl rfl qf) (H.pick [0,1] [2,4,5,6,7,8,9,10,11,12,13,14,15]) ?_
                  refine ro 6 rfl (zt (.int .i64 ((due_52[c_1]!).l[k]!)) Tryz.isAgg2 rfl (H.innerInt 3 rfl c_1 qf hx231 (iv:=k) (k:=k) qf qf) (⟨H.pick [0,1] [2,4,5,6,7,8,9,10,11,12,13,14,15],?_⟩))
                  have S:=H.jG [0,1] [2,4,5,6,7,8,9,10,11,12,13,14,15]
                  refine rt 19 (.int .i64 (((due_52[c_1]!).l[k]!)+((x[i]!) * (((QA (⟨zi7,zl8,zR9⟩:qy) (⟨zm10,zL11,zl12⟩:qA) ((⟨zi7,zl8,zR9⟩:qy).qx[(i:Int).toNat]!))[c_1]!)[k]!)))) (y_add ((due_52[c_1]!).l[k]!) ((x[i]!) * (((QA (⟨zi7,zl8,zR9⟩:qy) (⟨zm10,zL11,zl12⟩:qA) ((⟨zi7,zl8,zR9⟩:qy).qx[(i:Int).toNat]!))[c_1]!)[k]!)) rfl rfl qf) S ?_
                  refine tI 20 rfl rfl rfl S ?_
                  refine ro 21 rfl ?_
                  have N0:=((N.pick [1,0]):Fresh w136.heap.size [F_due_52,rF202a])
                  refine o_storeII H 2 rfl 3 rfl N0 (H.jJ [2]) [qX true rF202a rx202a (QA (⟨zi7,zl8,zR9⟩:qy) (⟨zm10,zL11,zl12⟩:qA) ((⟨zi7,zl8,zR9⟩:qy).qx[(i:Int).toNat]!)),atF b115 0 [Sv ra107aAlive ((((xO (⟨zi7,zl8,zR9⟩:qy) (⟨zm10,zL11,zl12⟩:qA) x).1).qF).length) rc107aAlive,Sv ra107aBags ((((xO (⟨zi7,zl8,zR9⟩:qy) (⟨zm10,zL11,zl12⟩:qA) x).1).qG).length) rc107aBags,Sv ra107aAround ((((xO (⟨zi7,zl8,zR9⟩:qy) (⟨zm10,zL11,zl12⟩:qA) x).1).qH).length) rc107aAround],atF b34 0 [Sv ra21 zm10.length rc23,Sv ra24 zL11.length rc26,Sv ra29 zl12.length rc31],atF b32 0 [.int .i64 zi7,Sv ra13 zl8.length rc15,Sv ra16 zR9.length rc18],sF true G155 ra16 rc18 zR9,sF true G153 ra13 rc15 zl8,sF true G151 ra29 rc31 zl12,sF true G148 ra24 rc26 zL11,sF true G146 ra21 rc23 zm10,sF true G144 ra107aAround rc107aAround (((xO (⟨zi7,zl8,zR9⟩:qy) (⟨zm10,zL11,zl12⟩:qA) x).1).qH),sF true G141 ra107aBags rc107aBags (((xO (⟨zi7,zl8,zR9⟩:qy) (⟨zm10,zL11,zl12⟩:qA) x).1).qG),sF true G139 ra107aAlive rc107aAlive (((xO (⟨zi7,zl8,zR9⟩:qy) (⟨zm10,zL11,zl12⟩:qA) x).1).qF),sF true G89 (some ⟨b198,o199,none⟩) c88 x] (xA (kept 2 rfl (away_new N0 0 rfl)) (xA (kept 4 rfl (zK (HB.ltF 0 rfl) N0)) (xA (kept 5 rfl (zK (HB.ltF 1 rfl) N0)) (xA (kept 6 rfl (zK (HB.ltF 2 rfl) N0)) (xA (kept 7 rfl (zK (HB.ltF 5 rfl) N0)) (xA (kept 8 rfl (zK (HB.ltF 6 rfl) N0)) (xA (kept 9 rfl (zK (HB.ltF 7 rfl) N0)) (xA (kept 10 rfl (zK (HB.ltF 8 rfl) N0)) (xA (kept 11 rfl (zK (HB.ltF 9 rfl) N0)) (xA (kept 12 rfl (zK (HB.ltF 10 rfl) N0)) (xA (kept 13 rfl (zK (HB.ltF 11 rfl) N0)) (xA (kept 14 rfl (zK (HB.ltF 12 rfl) N0)) (xA (kept 15 rfl (zK (HB.ltF 13 rfl) N0)) keeps_nil))))))))))))) c_1 qf hx231 (((due_52[c_1]!).l[k]!)+((x[i]!) * (((QA (⟨zi7,zl8,zR9⟩:qy) (⟨zm10,zL11,zl12⟩:qA) ((⟨zi7,zl8,zR9⟩:qy).qx[(i:Int).toNat]!))[c_1]!)[k]!))) Tryz.sizeOf2 rfl rfl (q:=k) qf qf fun w253 F254 N H=>?_
                  refine ⟨H.pick [0,1] [1,2,3,4,5,6,7,8,9,10,11,12,13],(xg qh ((meet ⟨_,F254,uE21,N,H⟩)))⟩
               ·skip
                obtain ⟨a255,c256,G257,s258,h259,H⟩:=H.jV 0 rfl 1 rfl (iv:=c_1) c_1 qf qf
                refine zt (Sv a255 (((QA (⟨zi7,zl8,zR9⟩:qy) (⟨zm10,zL11,zl12⟩:qA) ((⟨zi7,zl8,zR9⟩:qy).qx[(i:Int).toNat]!))[c_1]!).length) c256) Tryz.isAgg24 rfl (h259) (⟨H.pick [0,1] [2,4,5,6,7,8,9,10,11,12,13,14,15],?_⟩)
                obtain ⟨b260,o261,rfl⟩:=H.addr 0 rfl qf
                refine tI 16 rfl rfl rfl (H.pick [0,1] [2,4,5,6,7,8,9,10,11,12,13,14,15]) ?_
                refine zH [3,17] qh qm (vg rfl ?_ (vg rfl ?_ zI))
                ·skip
                 obtain ⟨a263,c264,hx265⟩:=H.innerHead 3 rfl c_1 qf
                 refine zt (Sv a263 ((due_52[c_1]!).l.length) c264) Tryz.isAgg24 rfl (H.rowGet 2 rfl (by rw [show 0+(c_1:Int).toNat * 1=c_1 by omega];exact hx265)) (⟨H.pick [0,1] [2,4,5,6,7,8,9,10,11,12,13,14,15],?_⟩)
                 obtain ⟨b266,rfl⟩:=H.innerAddr 3 rfl c_1 qf hx265 qf
                 refine tI 5 rfl rfl rfl (H.pick [0,1] [2,4,5,6,7,8,9,10,11,12,13,14,15]) ?_
                 refine zH [6,17] qh qm (vg rfl ?_ (vg rfl ?_ zI))
                 ·skip
                  refine zt (.int .i64 ((due_52[c_1]!).l[k]!)) Tryz.isAgg2 rfl (H.innerInt 3 rfl c_1 qf hx265 (iv:=k) (k:=k) qf qf) (⟨H.pick [0,1] [2,4,5,6,7,8,9,10,11,12,13,14,15],(ro 17 rfl (zt (.int .i64 (((QA (⟨zi7,zl8,zR9⟩:qy) (⟨zm10,zL11,zl12⟩:qA) ((⟨zi7,zl8,zR9⟩:qy).qx[(i:Int).toNat]!))[c_1]!)[k]!)) Tryz.isAgg2 rfl (H.jg 0 rfl k qf qf) (⟨H.pick [0,1] [2,4,5,6,7,8,9,10,11,12,13,14,15],?_⟩)))⟩)
                  have S:=H.jG [0,1] [2,4,5,6,7,8,9,10,11,12,13,14,15]
                  refine rt 18 (.int .i64 ((x[i]!) * (((QA (⟨zi7,zl8,zR9⟩:qy) (⟨zm10,zL11,zl12⟩:qA) ((⟨zi7,zl8,zR9⟩:qy).qx[(i:Int).toNat]!))[c_1]!)[k]!))) (y_mul (x[i]!) (((QA (⟨zi7,zl8,zR9⟩:qy) (⟨zm10,zL11,zl12⟩:qA) ((⟨zi7,zl8,zR9⟩:qy).qx[(i:Int).toNat]!))[c_1]!)[k]!) rfl rfl qf) S ?_
                  refine rt 19 (.int .i64 (((due_52[c_1]!).l[k]!)+((x[i]!) * (((QA (⟨zi7,zl8,zR9⟩:qy) (⟨zm10,zL11,zl12⟩:qA) ((⟨zi7,zl8,zR9⟩:qy).qx[(i:Int).toNat]!))[c_1]!)[k]!)))) (y_add ((due_52[c_1]!).l[k]!) ((x[i]!) * (((QA (⟨zi7,zl8,zR9⟩:qy) (⟨zm10,zL11,zl12⟩:qA) ((⟨zi7,zl8,zR9⟩:qy).qx[(i:Int).toNat]!))[c_1]!)[k]!)) rfl rfl qf) S ?_
                  refine tI 20 rfl rfl rfl S ?_
                  refine ro 21 rfl ?_
                  have N0:=((N.pick [1,0]):Fresh w136.heap.size [F_due_52,rF202a])
                  refine o_storeII H 2 rfl 3 rfl N0 (H.jJ [2]) [qX true rF202a rx202a (QA (⟨zi7,zl8,zR9⟩:qy) (⟨zm10,zL11,zl12⟩:qA) ((⟨zi7,zl8,zR9⟩:qy).qx[(i:Int).toNat]!)),atF b115 0 [Sv ra107aAlive ((((xO (⟨zi7,zl8,zR9⟩:qy) (⟨zm10,zL11,zl12⟩:qA) x).1).qF).length) rc107aAlive,Sv ra107aBags ((((xO (⟨zi7,zl8,zR9⟩:qy) (⟨zm10,zL11,zl12⟩:qA) x).1).qG).length) rc107aBags,Sv ra107aAround ((((xO (⟨zi7,zl8,zR9⟩:qy) (⟨zm10,zL11,zl12⟩:qA) x).1).qH).length) rc107aAround],atF b34 0 [Sv ra21 zm10.length rc23,Sv ra24 zL11.length rc26,Sv ra29 zl12.length rc31],atF b32 0 [.int .i64 zi7,Sv ra13 zl8.length rc15,Sv ra16 zR9.length rc18],sF true G155 ra16 rc18 zR9,sF true G153 ra13 rc15 zl8,sF true G151 ra29 rc31 zl12,sF true G148 ra24 rc26 zL11,sF true G146 ra21 rc23 zm10,sF true G144 ra107aAround rc107aAround (((xO (⟨zi7,zl8,zR9⟩:qy) (⟨zm10,zL11,zl12⟩:qA) x).1).qH),sF true G141 ra107aBags rc107aBags (((xO (⟨zi7,zl8,zR9⟩:qy) (⟨zm10,zL11,zl12⟩:qA) x).1).qG),sF true G139 ra107aAlive rc107aAlive (((xO (⟨zi7,zl8,zR9⟩:qy) (⟨zm10,zL11,zl12⟩:qA) x).1).qF),sF true G89 (some ⟨b198,o199,none⟩) c88 x] (xA (kept 2 rfl (away_new N0 0 rfl)) (xA (kept 4 rfl (zK (HB.ltF 0 rfl) N0)) (xA (kept 5 rfl (zK (HB.ltF 1 rfl) N0)) (xA (kept 6 rfl (zK (HB.ltF 2 rfl) N0)) (xA (kept 7 rfl (zK (HB.ltF 5 rfl) N0)) (xA (kept 8 rfl (zK (HB.ltF 6 rfl) N0)) (xA (kept 9 rfl (zK (HB.ltF 7 rfl) N0)) (xA (kept 10 rfl (zK (HB.ltF 8 rfl) N0)) (xA (kept 11 rfl (zK (HB.ltF 9 rfl) N0)) (xA (kept 12 rfl (zK (HB.ltF 10 rfl) N0)) (xA (kept 13 rfl (zK (HB.ltF 11 rfl) N0)) (xA (kept 14 rfl (zK (HB.ltF 12 rfl) N0)) (xA (kept 15 rfl (zK (HB.ltF 13 rfl) N0)) keeps_nil))))))))))))) c_1 qf hx265 (((due_52[c_1]!).l[k]!)+((x[i]!) * (((QA (⟨zi7,zl8,zR9⟩:qy) (⟨zm10,zL11,zl12⟩:qA) ((⟨zi7,zl8,zR9⟩:qy).qx[(i:Int).toNat]!))[c_1]!)[k]!))) Tryz.sizeOf2 rfl rfl (q:=k) qf qf fun w267 F268 N H=>?_
                  refine ⟨H.pick [0,1] [1,2,3,4,5,6,7,8,9,10,11,12,13],(xg qh ((meet ⟨_,F268,uE21,N,H⟩)))⟩
                 ·skip
                  refine zt (.int .i64 (((QA (⟨zi7,zl8,zR9⟩:qy) (⟨zm10,zL11,zl12⟩:qA) ((⟨zi7,zl8,zR9⟩:qy).qx[(i:Int).toNat]!))[c_1]!)[k]!)) Tryz.isAgg2 rfl (H.jg 0 rfl k qf qf) (⟨H.pick [0,1] [2,4,5,6,7,8,9,10,11,12,13,14,15],?_⟩)
                  refine rt 18 (.int .i64 ((x[i]!) * (((QA (⟨zi7,zl8,zR9⟩:qy) (⟨zm10,zL11,zl12⟩:qA) ((⟨zi7,zl8,zR9⟩:qy).qx[(i:Int).toNat]!))[c_1]!)[k]!))) (y_mul (x[i]!) (((QA (⟨zi7,zl8,zR9⟩:qy) (⟨zm10,zL11,zl12⟩:qA) ((⟨zi7,zl8,zR9⟩:qy).qx[(i:Int).toNat]!))[c_1]!)[k]!) rfl rfl qf) (H.pick [0,1] [2,4,5,6,7,8,9,10,11,12,13,14,15]) ?_
                  refine ro 6 rfl (zt (.int .i64 ((due_52[c_1]!).l[k]!)) Tryz.isAgg2 rfl (H.innerInt 3 rfl c_1 qf hx265 (iv:=k) (k:=k) qf qf) (⟨H.pick [0,1] [2,4,5,6,7,8,9,10,11,12,13,14,15],?_⟩))
                  have S:=H.jG [0,1] [2,4,5,6,7,8,9,10,11,12,13,14,15]
                  refine rt 19 (.int .i64 (((due_52[c_1]!).l[k]!)+((x[i]!) * (((QA (⟨zi7,zl8,zR9⟩:qy) (⟨zm10,zL11,zl12⟩:qA) ((⟨zi7,zl8,zR9⟩:qy).qx[(i:Int).toNat]!))[c_1]!)[k]!)))) (y_add ((due_52[c_1]!).l[k]!) ((x[i]!) * (((QA (⟨zi7,zl8,zR9⟩:qy) (⟨zm10,zL11,zl12⟩:qA) ((⟨zi7,zl8,zR9⟩:qy).qx[(i:Int).toNat]!))[c_1]!)[k]!)) rfl rfl qf) S ?_
                  refine tI 20 rfl rfl rfl S ?_
                  refine ro 21 rfl ?_
                  have N0:=((N.pick [1,0]):Fresh w136.heap.size [F_due_52,rF202a])
                  refine o_storeII H 2 rfl 3 rfl N0 (H.jJ [2]) [qX true rF202a rx202a (QA (⟨zi7,zl8,zR9⟩:qy) (⟨zm10,zL11,zl12⟩:qA) ((⟨zi7,zl8,zR9⟩:qy).qx[(i:Int).toNat]!)),atF b115 0 [Sv ra107aAlive ((((xO (⟨zi7,zl8,zR9⟩:qy) (⟨zm10,zL11,zl12⟩:qA) x).1).qF).length) rc107aAlive,Sv ra107aBags ((((xO (⟨zi7,zl8,zR9⟩:qy) (⟨zm10,zL11,zl12⟩:qA) x).1).qG).length) rc107aBags,Sv ra107aAround ((((xO (⟨zi7,zl8,zR9⟩:qy) (⟨zm10,zL11,zl12⟩:qA) x).1).qH).length) rc107aAround],atF b34 0 [Sv ra21 zm10.length rc23,Sv ra24 zL11.length rc26,Sv ra29 zl12.length rc31],atF b32 0 [.int .i64 zi7,Sv ra13 zl8.length rc15,Sv ra16 zR9.length rc18],sF true G155 ra16 rc18 zR9,sF true G153 ra13 rc15 zl8,sF true G151 ra29 rc31 zl12,sF true G148 ra24 rc26 zL11,sF true G146 ra21 rc23 zm10,sF true G144 ra107aAround rc107aAround (((xO (⟨zi7,zl8,zR9⟩:qy) (⟨zm10,zL11,zl12⟩:qA) x).1).qH),sF true G141 ra107aBags rc107aBags (((xO (⟨zi7,zl8,zR9⟩:qy) (⟨zm10,zL11,zl12⟩:qA) x).1).qG),sF true G139 ra107aAlive rc107aAlive (((xO (⟨zi7,zl8,zR9⟩:qy) (⟨zm10,zL11,zl12⟩:qA) x).1).qF),sF true G89 (some ⟨b198,o199,none⟩) c88 x] (xA (kept 2 rfl (away_new N0 0 rfl)) (xA (kept 4 rfl (zK (HB.ltF 0 rfl) N0)) (xA (kept 5 rfl (zK (HB.ltF 1 rfl) N0)) (xA (kept 6 rfl (zK (HB.ltF 2 rfl) N0)) (xA (kept 7 rfl (zK (HB.ltF 5 rfl) N0)) (xA (kept 8 rfl (zK (HB.ltF 6 rfl) N0)) (xA (kept 9 rfl (zK (HB.ltF 7 rfl) N0)) (xA (kept 10 rfl (zK (HB.ltF 8 rfl) N0)) (xA (kept 11 rfl (zK (HB.ltF 9 rfl) N0)) (xA (kept 12 rfl (zK (HB.ltF 10 rfl) N0)) (xA (kept 13 rfl (zK (HB.ltF 11 rfl) N0)) (xA (kept 14 rfl (zK (HB.ltF 12 rfl) N0)) (xA (kept 15 rfl (zK (HB.ltF 13 rfl) N0)) keeps_nil))))))))))))) c_1 qf hx265 (((due_52[c_1]!).l[k]!)+((x[i]!) * (((QA (⟨zi7,zl8,zR9⟩:qy) (⟨zm10,zL11,zl12⟩:qA) ((⟨zi7,zl8,zR9⟩:qy).qx[(i:Int).toNat]!))[c_1]!)[k]!))) Tryz.sizeOf2 rfl rfl (q:=k) qf qf fun w269 F270 N H=>?_
                  refine ⟨H.pick [0,1] [1,2,3,4,5,6,7,8,9,10,11,12,13],(xg qh ((meet ⟨_,F270,uE21,N,H⟩)))⟩
                ·skip
                 refine zt (.int .i64 (((QA (⟨zi7,zl8,zR9⟩:qy) (⟨zm10,zL11,zl12⟩:qA) ((⟨zi7,zl8,zR9⟩:qy).qx[(i:Int).toNat]!))[c_1]!)[k]!)) Tryz.isAgg2 rfl (H.jg 0 rfl k qf qf) (⟨H.pick [0,1] [2,4,5,6,7,8,9,10,11,12,13,14,15],?_⟩)
                 refine rt 18 (.int .i64 ((x[i]!) * (((QA (⟨zi7,zl8,zR9⟩:qy) (⟨zm10,zL11,zl12⟩:qA) ((⟨zi7,zl8,zR9⟩:qy).qx[(i:Int).toNat]!))[c_1]!)[k]!))) (y_mul (x[i]!) (((QA (⟨zi7,zl8,zR9⟩:qy) (⟨zm10,zL11,zl12⟩:qA) ((⟨zi7,zl8,zR9⟩:qy).qx[(i:Int).toNat]!))[c_1]!)[k]!) rfl rfl qf) (H.pick [0,1] [2,4,5,6,7,8,9,10,11,12,13,14,15]) ?_
                 refine ro 3 rfl ?_
                 obtain ⟨a271,c272,hx273⟩:=H.innerHead 3 rfl c_1 qf
                 refine zt (Sv a271 ((due_52[c_1]!).l.length) c272) Tryz.isAgg24 rfl (H.rowGet 2 rfl (by rw [show 0+(c_1:Int).toNat * 1=c_1 by omega];exact hx273)) (⟨H.pick [0,1] [2,4,5,6,7,8,9,10,11,12,13,14,15],?_⟩)
                 obtain ⟨b274,rfl⟩:=H.innerAddr 3 rfl c_1 qf hx273 qf
                 refine tI 5 rfl rfl rfl (H.pick [0,1] [2,4,5,6,7,8,9,10,11,12,13,14,15]) ?_
                 refine ro 6 rfl (zt (.int .i64 ((due_52[c_1]!).l[k]!)) Tryz.isAgg2 rfl (H.innerInt 3 rfl c_1 qf hx273 (iv:=k) (k:=k) qf qf) (⟨H.pick [0,1] [2,4,5,6,7,8,9,10,11,12,13,14,15],?_⟩))
                 have S:=H.jG [0,1] [2,4,5,6,7,8,9,10,11,12,13,14,15]
                 refine rt 19 (.int .i64 (((due_52[c_1]!).l[k]!)+((x[i]!) * (((QA (⟨zi7,zl8,zR9⟩:qy) (⟨zm10,zL11,zl12⟩:qA) ((⟨zi7,zl8,zR9⟩:qy).qx[(i:Int).toNat]!))[c_1]!)[k]!)))) (y_add ((due_52[c_1]!).l[k]!) ((x[i]!) * (((QA (⟨zi7,zl8,zR9⟩:qy) (⟨zm10,zL11,zl12⟩:qA) ((⟨zi7,zl8,zR9⟩:qy).qx[(i:Int).toNat]!))[c_1]!)[k]!)) rfl rfl qf) S ?_
                 refine tI 20 rfl rfl rfl S ?_
                 refine ro 21 rfl ?_
                 have N0:=((N.pick [1,0]):Fresh w136.heap.size [F_due_52,rF202a])
                 refine o_storeII H 2 rfl 3 rfl N0 (H.jJ [2]) [qX true rF202a rx202a (QA (⟨zi7,zl8,zR9⟩:qy) (⟨zm10,zL11,zl12⟩:qA) ((⟨zi7,zl8,zR9⟩:qy).qx[(i:Int).toNat]!)),atF b115 0 [Sv ra107aAlive ((((xO (⟨zi7,zl8,zR9⟩:qy) (⟨zm10,zL11,zl12⟩:qA) x).1).qF).length) rc107aAlive,Sv ra107aBags ((((xO (⟨zi7,zl8,zR9⟩:qy) (⟨zm10,zL11,zl12⟩:qA) x).1).qG).length) rc107aBags,Sv ra107aAround ((((xO (⟨zi7,zl8,zR9⟩:qy) (⟨zm10,zL11,zl12⟩:qA) x).1).qH).length) rc107aAround],atF b34 0 [Sv ra21 zm10.length rc23,Sv ra24 zL11.length rc26,Sv ra29 zl12.length rc31],atF b32 0 [.int .i64 zi7,Sv ra13 zl8.length rc15,Sv ra16 zR9.length rc18],sF true G155 ra16 rc18 zR9,sF true G153 ra13 rc15 zl8,sF true G151 ra29 rc31 zl12,sF true G148 ra24 rc26 zL11,sF true G146 ra21 rc23 zm10,sF true G144 ra107aAround rc107aAround (((xO (⟨zi7,zl8,zR9⟩:qy) (⟨zm10,zL11,zl12⟩:qA) x).1).qH),sF true G141 ra107aBags rc107aBags (((xO (⟨zi7,zl8,zR9⟩:qy) (⟨zm10,zL11,zl12⟩:qA) x).1).qG),sF true G139 ra107aAlive rc107aAlive (((xO (⟨zi7,zl8,zR9⟩:qy) (⟨zm10,zL11,zl12⟩:qA) x).1).qF),sF true G89 (some ⟨b198,o199,none⟩) c88 x] (xA (kept 2 rfl (away_new N0 0 rfl)) (xA (kept 4 rfl (zK (HB.ltF 0 rfl) N0)) (xA (kept 5 rfl (zK (HB.ltF 1 rfl) N0)) (xA (kept 6 rfl (zK (HB.ltF 2 rfl) N0)) (xA (kept 7 rfl (zK (HB.ltF 5 rfl) N0)) (xA (kept 8 rfl (zK (HB.ltF 6 rfl) N0)) (xA (kept 9 rfl (zK (HB.ltF 7 rfl) N0)) (xA (kept 10 rfl (zK (HB.ltF 8 rfl) N0)) (xA (kept 11 rfl (zK (HB.ltF 9 rfl) N0)) (xA (kept 12 rfl (zK (HB.ltF 10 rfl) N0)) (xA (kept 13 rfl (zK (HB.ltF 11 rfl) N0)) (xA (kept 14 rfl (zK (HB.ltF 12 rfl) N0)) (xA (kept 15 rfl (zK (HB.ltF 13 rfl) N0)) keeps_nil))))))))))))) c_1 qf hx273 (((due_52[c_1]!).l[k]!)+((x[i]!) * (((QA (⟨zi7,zl8,zR9⟩:qy) (⟨zm10,zL11,zl12⟩:qA) ((⟨zi7,zl8,zR9⟩:qy).qx[(i:Int).toNat]!))[c_1]!)[k]!))) Tryz.sizeOf2 rfl rfl (q:=k) qf qf fun w275 F276 N H=>?_
                 refine ⟨H.pick [0,1] [1,2,3,4,5,6,7,8,9,10,11,12,13],(xg qh ((meet ⟨_,F276,uE21,N,H⟩)))⟩
              ·skip
               clear H N
               rintro ρ w277 ⟨zl,F226,rfl,N,H⟩
               refine b_n (t_n (zn (sp (.int .i64 k) (sw (zN k 1 rfl rfl qf (sp (.int .i64 (k+1)) (zo (xm (m' :=(4 - (k+1))) qf ⟨_,k+1,(due_52.set c_1 ⟨(due_52[c_1]!).l.set k (((due_52[c_1]!).l[k]!)+((x[i]!) * (((QA (⟨zi7,zl8,zR9⟩:qy) (⟨zm10,zL11,zl12⟩:qA) ((⟨zi7,zl8,zR9⟩:qy).qx[(i:Int).toNat]!))[c_1]!)[k]!)))⟩),x_due_52,F226,uE14,?_,?_,rfl,(N.pick [1,0]),H.pick [0,1,2] [1,0,2,3,4,5,6,7,8,9,10,11,12,13]⟩))))))))
               · rw [dv,cv];exact D3.put qf hk (fun p q _ _=>dueY_put p q)
               · omega
             ·skip
              refine c_exit (t_x (t_x (b_x (b_n (t_n (zn (sp (.int .i64 c_1) (sw (zN c_1 1 rfl rfl qf (sp (.int .i64 (c_1+1)) (zo (xm (m' :=((yJ+1) - ((c_1+1):Int)).toNat) qf ⟨_,c_1+1,due_52,x_due_52,F_due_52,uE13,?_,?_,rfl,N,H.pick [0,1,2] [1,2,3,4,5,6,7,8,9,10,11,12,13,14]⟩))))))))))))
              · omega
              · exact D3.to (fun p q _ hq=>by rw [show k=xY (⟨zi7,zl8,zR9⟩:qy) by omega];exact dueY_row p hq)
           ·skip
            refine c_exit (t_x (t_x (b_x (b_n (t_n (zn (sp (.int .i64 i) (sw (zN i 1 rfl rfl qf (sp (.int .i64 (i+1)) (zo (xm (m' :=(x.length - ((i+1):Int)).toNat) qf ⟨_,i+1,due_51,x_due_51,F_due_51,uE6,?_,?_,rfl,(N.pick [1]),H.pick [1,2] [1,2,3,4,5,6,7,8,9,10,11,12,13]⟩))))))))))))
            · omega
            · first | exact D1.to (fun p q _ _=>dueC_skip ql p q) | exact D2.to (fun p q hp _=>by rw [show c_1=xB (⟨zi7,zl8,zR9⟩:qy)+1 from by omega];exact dueY_end q hp)
        ·skip
         have ei:i=((⟨zi7,zl8,zR9⟩:qy)).qx.length:=by omega
         rw [ei] at D1
         have dl:=D1.1
         refine zx4 (zcr (oF rfl (oL rfl (H.zu 3 rfl 0 rfl) (sw (zf H Tryz.underlying24 ti2 zi7.toNat rfl rfl qf qf qf fun b278 w279 H=>sp (Sv (some ⟨b278,0,none⟩) zi7.toNat zi7.toNat) (zjcc (sp (.int .i64 0) (zjn (qZ ?_)))))))))
         refine zU (fun m' ρ w280=>∃ (zl:Env) (c_1:Nat) (total:yLI),ρ=upd (upd (upd (upd (upd (upd (upd zl 5 (.pointer (some ⟨b32,0,none⟩))) 6 (.pointer (some ⟨b34,0,none⟩))) 11 (Sv a87 x.length c88)) 12 (.pointer (some ⟨b115,0,none⟩))) 14 (Sv a191 (yJ+1) c192)) 21 (Sv (some ⟨b278,0,none⟩) zi7.toNat zi7.toNat)) 22 (.int .i64 c_1)∧((c_1:Int)≤(yJ+1))∧(TotIs (xY (⟨zi7,zl8,zR9⟩:qy)) total (totC (⟨zi7,zl8,zR9⟩:qy) (⟨zm10,zL11,zl12⟩:qA) x (((⟨zi7,zl8,zR9⟩:qy)).qx.length) c_1))∧m' =((yJ+1) - (c_1:Int)).toNat∧Fresh w136.heap.size [Xw]∧St w136 w280 [rr (some ⟨b278,0,none⟩) zi7.toNat zi7.toNat 2 1 (total.map (Value.int .i64)),.box b189 [Sv a186 (0+zl12.length) c187] 24,rr a191 (yJ+1) c192 24 1 Xd] [qX true Xw Xd due_1,atF b115 0 [Sv ra107aAlive ((((xO (⟨zi7,zl8,zR9⟩:qy) (⟨zm10,zL11,zl12⟩:qA) x).1).qF).length) rc107aAlive,Sv ra107aBags ((((xO (⟨zi7,zl8,zR9⟩:qy) (⟨zm10,zL11,zl12⟩:qA) x).1).qG).length) rc107aBags,Sv ra107aAround ((((xO (⟨zi7,zl8,zR9⟩:qy) (⟨zm10,zL11,zl12⟩:qA) x).1).qH).length) rc107aAround],atF b34 0 [Sv ra21 zm10.length rc23,Sv ra24 zL11.length rc26,Sv ra29 zl12.length rc31],atF b32 0 [.int .i64 zi7,Sv ra13 zl8.length rc15,Sv ra16 zR9.length rc18],sF true G155 ra16 rc18 zR9,sF true G153 ra13 rc15 zl8,sF true G151 ra29 rc31 zl12,sF true G148 ra24 rc26 zL11,sF true G146 ra21 rc23 zm10,sF true G144 ra107aAround rc107aAround (((xO (⟨zi7,zl8,zR9⟩:qy) (⟨zm10,zL11,zl12⟩:qA) x).1).qH),sF true G141 ra107aBags rc107aBags (((xO (⟨zi7,zl8,zR9⟩:qy) (⟨zm10,zL11,zl12⟩:qA) x).1).qG),sF true G139 ra107aAlive rc107aAlive (((xO (⟨zi7,zl8,zR9⟩:qy) (⟨zm10,zL11,zl12⟩:qA) x).1).qF),sF true G89 a87 c88 x]) (((yJ+1) - (0:Int)).toNat) ⟨_,0,(List.replicate zi7.toNat (0:Int)),uE7,qf,(by exact TotIs.zeroM _ _),rfl,N,H⟩ ?_
         clear H N
         rintro m' ρ w281 ⟨zl,c_1,total,rfl,i0,T1,rfl,N,H⟩
         have hn_total:=H.vM 0 rfl
         have tl:=T1.1
         refine zcc (sps [.int .i64 c_1,Sv a191 (yJ+1) c192] (oN rfl (sp (Bv (decide ((c_1:Int) < (yJ+1)))) (zjn (cD rfl (fun h282=>?_) (fun h282=>?_))))))
         ·skip
          refine xe (t_n (zg (qZ (zcr (sp (.int .i64 0) (zjn (qZ ?_)))))))
          refine zU (fun m' ρ w283=>∃ (zl:Env) (k:Nat) (total_1:yLI),ρ=upd (upd (upd (upd (upd (upd (upd (upd zl 5 (.pointer (some ⟨b32,0,none⟩))) 6 (.pointer (some ⟨b34,0,none⟩))) 11 (Sv a87 x.length c88)) 12 (.pointer (some ⟨b115,0,none⟩))) 14 (Sv a191 (yJ+1) c192)) 21 (Sv (some ⟨b278,0,none⟩) zi7.toNat zi7.toNat)) 22 (.int .i64 c_1)) 23 (.int .i64 k)∧((k:Int)≤zi7.toNat)∧(TotIs (xY (⟨zi7,zl8,zR9⟩:qy)) total_1 (totK (⟨zi7,zl8,zR9⟩:qy) (⟨zm10,zL11,zl12⟩:qA) x (((⟨zi7,zl8,zR9⟩:qy)).qx.length) c_1 k))∧m' =(zi7.toNat - (k:Int)).toNat∧Fresh w136.heap.size [Xw]∧St w136 w283 [rr (some ⟨b278,0,none⟩) zi7.toNat zi7.toNat 2 1 (total_1.map (Value.int .i64)),.box b189 [Sv a186 (0+zl12.length) c187] 24,rr a191 (yJ+1) c192 24 1 Xd] [qX true Xw Xd due_1,atF b115 0 [Sv ra107aAlive ((((xO (⟨zi7,zl8,zR9⟩:qy) (⟨zm10,zL11,zl12⟩:qA) x).1).qF).length) rc107aAlive,Sv ra107aBags ((((xO (⟨zi7,zl8,zR9⟩:qy) (⟨zm10,zL11,zl12⟩:qA) x).1).qG).length) rc107aBags,Sv ra107aAround ((((xO (⟨zi7,zl8,zR9⟩:qy) (⟨zm10,zL11,zl12⟩:qA) x).1).qH).length) rc107aAround],atF b34 0 [Sv ra21 zm10.length rc23,Sv ra24 zL11.length rc26,Sv ra29 zl12.length rc31],atF b32 0 [.int .i64 zi7,Sv ra13 zl8.length rc15,Sv ra16 zR9.length rc18],sF true G155 ra16 rc18 zR9,sF true G153 ra13 rc15 zl8,sF true G151 ra29 rc31 zl12,sF true G148 ra24 rc26 zL11,sF true G146 ra21 rc23 zm10,sF true G144 ra107aAround rc107aAround (((xO (⟨zi7,zl8,zR9⟩:qy) (⟨zm10,zL11,zl12⟩:qA) x).1).qH),sF true G141 ra107aBags rc107aBags (((xO (⟨zi7,zl8,zR9⟩:qy) (⟨zm10,zL11,zl12⟩:qA) x).1).qG),sF true G139 ra107aAlive rc107aAlive (((xO (⟨zi7,zl8,zR9⟩:qy) (⟨zm10,zL11,zl12⟩:qA) x).1).qF),sF true G89 a87 c88 x]) ((zi7.toNat - (0:Int)).toNat) ⟨_,0,total,uE8,qf,(by exact T1.to (fun q _=>totK_0 _ _ q)),rfl,N,H⟩ ?_
          clear H N
          rintro m' ρ w284 ⟨zl,k,total_1,rfl,i0,T2,rfl,N,H⟩
          have hn_total:=H.vM 0 rfl
          have tl:=T2.1
          have dm:=D1.len (p:=c_1) qf
          refine zcc (sps [.int .i64 k,Sv (some ⟨b278,0,none⟩) zi7.toNat zi7.toNat] (oN rfl (sp (Bv (decide ((k:Int) < zi7.toNat))) (zjn (cD rfl (fun h285=>?_) (fun h285=>?_))))))
          ·skip
           have hk:k < xY (⟨zi7,zl8,zR9⟩:qy):=by omega
           have dv:=D1.at' (p:=c_1) qf hk
           have db:=Z.dueC_bd (m:=((⟨zi7,zl8,zR9⟩:qy)).qx.length) (p:=c_1) (q:=k) qf qf hk
           have tv:=T2.2 k hk
           have tb:=Z.totK_bd (m:=((⟨zi7,zl8,zR9⟩:qy)).qx.length) (n:=c_1) (k:=k) (q:=k) qf qf hk
           rw [← dv] at db
           rw [← tv] at tb
           refine xe (t_n (zg (qZ ?_)))
           refine Qe rfl H [1,2] fun H=>?_
           have S:=H.jG [1,2] [0,1,2,3,4,5,6,7,8,9,10,11,12]
           refine rtp 0 (Sv (some ⟨b278,0,none⟩) zi7.toNat zi7.toNat) S ?_
           refine rtp 1 (.int .i64 k) S ?_
           refine tI 2 rfl rfl rfl S ?_
           refine rtp 4 (Sv a191 (yJ+1) c192) S ?_
           refine rtp 5 (.int .i64 c_1) S ?_
           obtain ⟨b287,rfl⟩:=H.Qc 2 rfl qf
           refine tI 6 rfl rfl rfl (H.pick [1,2] [0,1,2,3,4,5,6,7,8,9,10,11,12]) ?_
           obtain ⟨a288,c289,hx290⟩:=H.innerHead 0 rfl c_1 qf
           have S:=H.jG [1,2] [0,1,2,3,4,5,6,7,8,9,10,11,12]
           refine tL 7 rfl rfl (fun _ h=>h.rowGet 1 rfl (by rw [show 0+(c_1:Int).toNat * 1=c_1 by omega];exact hx290)) S ?_
           refine rtp 8 (.int .i64 k) S ?_
           obtain ⟨b291,rfl⟩:=H.innerAddr 0 rfl c_1 qf hx290 qf
           have S:=H.jG [1,2] [0,1,2,3,4,5,6,7,8,9,10,11,12]
           refine tI 9 rfl rfl rfl S ?_
           refine tL 10 rfl rfl (fun _ h=>h.innerInt 0 rfl c_1 qf hx290 (iv:=k) (k:=k) qf qf) S ?_
           refine ro 3 rfl (zt (.int .i64 (total_1[k]!)) Tryz.isAgg2 rfl (H.rowInt 0 rfl (iv:=k) (i:=k) qf qf) (⟨H.pick [1,2] [0,1,2,3,4,5,6,7,8,9,10,11,12],?_⟩))
           have S:=H.jG [1,2] [0,1,2,3,4,5,6,7,8,9,10,11,12]
           refine rt 11 (.int .i64 ((total_1[k]!)+((due_1[c_1]!).l[k]!))) (y_add (total_1[k]!) ((due_1[c_1]!).l[k]!) rfl rfl qf) S ?_
           refine tI 12 rfl rfl rfl S ?_
           refine ro 13 rfl (Va H 0 rfl ((total_1[k]!)+((due_1[c_1]!).l[k]!)) Tryz.sizeOf2 rfl rfl (i:=k) qf qf fun w292 H=>⟨H.pick [1,2] [0,1,2,3,4,5,6,7,8,9,10,11,12],(xg qh (b_n (t_n (zn (sp (.int .i64 k) (sw (zN k 1 rfl rfl qf (sp (.int .i64 (k+1)) (zo (xm (m' :=(zi7.toNat - ((k+1):Int)).toNat) qf ⟨_,k+1,(total_1.set k ((total_1[k]!)+((due_1[c_1]!).l[k]!))),uE8,?_,?_,rfl,N,H⟩))))))))))⟩)
           · omega
           · rw [dv,tv];exact T2.put hk (fun q _=>totK_put q)
          ·skip
           refine c_exit (t_x (t_x (b_x (b_n (t_n (zn (sp (.int .i64 c_1) (sw (zN c_1 1 rfl rfl qf (sp (.int .i64 (c_1+1)) (zo (xm (m' :=((yJ+1) - ((c_1+1):Int)).toNat) qf ⟨_,c_1+1,total_1,uE7,?_,?_,rfl,N,H⟩))))))))))))
           · omega
           · exact T2.to (fun q hq=>by rw [show k=xY (⟨zi7,zl8,zR9⟩:qy) by omega];exact totK_end hq)
         ·skip
          refine zx4 (zcr (sw (zB [.int .i64 zi7,Sv ra13 zl8.length rc15,Sv ra16 zR9.length rc18] Tryz.isAgg27 Tryz.sizeOf27 rfl (qJ (H.get 3 rfl) 0 3) (sw (zB [Sv ra107aAlive ((((xO (⟨zi7,zl8,zR9⟩:qy) (⟨zm10,zL11,zl12⟩:qA) x).1).qF).length) rc107aAlive,Sv ra107aBags ((((xO (⟨zi7,zl8,zR9⟩:qy) (⟨zm10,zL11,zl12⟩:qA) x).1).qG).length) rc107aBags,Sv ra107aAround ((((xO (⟨zi7,zl8,zR9⟩:qy) (⟨zm10,zL11,zl12⟩:qA) x).1).qH).length) rc107aAround] Tryz.isAgg31 Tryz.sizeOf31 rfl (qJ (H.get 1 rfl) 0 3) ?_)))))
          have sz296:=H.base.size
          refine sw (oc (implTotal_ok _ (⟨zi7,zl8,zR9⟩:qy) ((xO (⟨zi7,zl8,zR9⟩:qy) (⟨zm10,zL11,zl12⟩:qA) x).1) (H.get 5 rfl).1 (H.get 4 rfl).1 (H.get 11 rfl).1 (H.get 10 rfl).1 (H.get 9 rfl).1 qg qg) ?_)
          rintro _ w294 ⟨ra293a,rn293a,rc293a,rfl,M,K⟩ _
          replace H:=H.merge K M
          obtain rfl:=H.vM 0 rfl
          refine sps [.tuple #[Sv ra293a ((QD ((xO (⟨zi7,zl8,zR9⟩:qy) (⟨zm10,zL11,zl12⟩:qA) x).1) (⟨zi7,zl8,zR9⟩:qy).qw.length).length) rc293a,.int .i64 0],Sv ra293a ((QD ((xO (⟨zi7,zl8,zR9⟩:qy) (⟨zm10,zL11,zl12⟩:qA) x).1) (⟨zi7,zl8,zR9⟩:qy).qw.length).length) rc293a,.int .i64 0,Sv ra293a ((QD ((xO (⟨zi7,zl8,zR9⟩:qy) (⟨zm10,zL11,zl12⟩:qA) x).1) (⟨zi7,zl8,zR9⟩:qy).qw.length).length) rc293a,.int .i64 0] (zjcc (sps [.int .i64 0,Bv false,Bv false] (qL 220 rfl rfl ?_)))
          refine sp (Sv ra293a ((QD ((xO (⟨zi7,zl8,zR9⟩:qy) (⟨zm10,zL11,zl12⟩:qA) x).1) (⟨zi7,zl8,zR9⟩:qy).qw.length).length) rc293a) (qL 220 rfl rfl (sp (Sv (some ⟨b278,0,none⟩) zi7.toNat zi7.toNat) (qL 220 rfl rfl ?_)))
          obtain ⟨G299,hn300,h301⟩:=H.rowIsI 0 rfl
          obtain ⟨G302,hn303,h304⟩:=H.rowIsI 1 rfl
          refine sw (oq (args_eq (by rw [← hn303]) (a2Same_ok _ (QD ((xO (⟨zi7,zl8,zR9⟩:qy) (⟨zm10,zL11,zl12⟩:qA) x).1) (⟨zi7,zl8,zR9⟩:qy).qw.length) total h301 (hn303▸h304))) H fun w306 H=>qL 220 rfl rfl (sps [Bv (!(decide ((QD ((xO (⟨zi7,zl8,zR9⟩:qy) (⟨zm10,zL11,zl12⟩:qA) x).1) (⟨zi7,zl8,zR9⟩:qy).qw.length)=total))),Bv (!(decide ((QD ((xO (⟨zi7,zl8,zR9⟩:qy) (⟨zm10,zL11,zl12⟩:qA) x).1) (⟨zi7,zl8,zR9⟩:qy).qw.length)=total)))] (zjn ?_)))
          refine xI (!(decide ((QD ((xO (⟨zi7,zl8,zR9⟩:qy) (⟨zm10,zL11,zl12⟩:qA) x).1) (⟨zi7,zl8,zR9⟩:qy).qw.length)=total))) rfl (fun h=>absurd (Z.total (T1.to (fun q _=>by rw [show c_1=xB (⟨zi7,zl8,zR9⟩:qy)+1 from by omega]))) (of_decide_eq_false (xC h))) (fun h308=>?_)
          replace h308:=xw h308
          replace h308:=of_decide_eq_true h308
          refine xe (t_n (zcc (sp (.int .i64 0) (zjn (qZ ?_)))))
          refine zU (fun m' ρ w309=>∃ (zl:Env) (c_51:Nat),ρ=upd (upd (upd (upd (upd (upd zl 5 (.pointer (some ⟨b32,0,none⟩))) 6 (.pointer (some ⟨b34,0,none⟩))) 11 (Sv a87 x.length c88)) 12 (.pointer (some ⟨b115,0,none⟩))) 14 (Sv a191 (yJ+1) c192)) 26 (.int .i64 c_51)∧((c_51:Int)≤zL11.length)∧m' =(zL11.length - (c_51:Int)).toNat∧Fresh w136.heap.size [Xw]∧St w136 w309 [rr ra293a ((QD ((xO (⟨zi7,zl8,zR9⟩:qy) (⟨zm10,zL11,zl12⟩:qA) x).1) (⟨zi7,zl8,zR9⟩:qy).qw.length).length) rc293a 2 1 ((QD ((xO (⟨zi7,zl8,zR9⟩:qy) (⟨zm10,zL11,zl12⟩:qA) x).1) (⟨zi7,zl8,zR9⟩:qy).qw.length).map (Value.int .i64)),rr (some ⟨b278,0,none⟩) zi7.toNat zi7.toNat 2 1 (total.map (Value.int .i64)),.box b189 [Sv a186 (0+zl12.length) c187] 24,rr a191 (yJ+1) c192 24 1 Xd] [qX true Xw Xd due_1,atF b115 0 [Sv ra107aAlive ((((xO (⟨zi7,zl8,zR9⟩:qy) (⟨zm10,zL11,zl12⟩:qA) x).1).qF).length) rc107aAlive,Sv ra107aBags ((((xO (⟨zi7,zl8,zR9⟩:qy) (⟨zm10,zL11,zl12⟩:qA) x).1).qG).length) rc107aBags,Sv ra107aAround ((((xO (⟨zi7,zl8,zR9⟩:qy) (⟨zm10,zL11,zl12⟩:qA) x).1).qH).length) rc107aAround],atF b34 0 [Sv ra21 zm10.length rc23,Sv ra24 zL11.length rc26,Sv ra29 zl12.length rc31],atF b32 0 [.int .i64 zi7,Sv ra13 zl8.length rc15,Sv ra16 zR9.length rc18],sF true G155 ra16 rc18 zR9,sF true G153 ra13 rc15 zl8,sF true G151 ra29 rc31 zl12,sF true G148 ra24 rc26 zL11,sF true G146 ra21 rc23 zm10,sF true G144 ra107aAround rc107aAround (((xO (⟨zi7,zl8,zR9⟩:qy) (⟨zm10,zL11,zl12⟩:qA) x).1).qH),sF true G141 ra107aBags rc107aBags (((xO (⟨zi7,zl8,zR9⟩:qy) (⟨zm10,zL11,zl12⟩:qA) x).1).qG),sF true G139 ra107aAlive rc107aAlive (((xO (⟨zi7,zl8,zR9⟩:qy) (⟨zm10,zL11,zl12⟩:qA) x).1).qF),sF true G89 a87 c88 x]) ((zL11.length - (0:Int)).toNat) ⟨_,0,uE6,qf,rfl,N,H⟩ ?_
          clear H N
          rintro m' ρ w310 ⟨zl,c_51,rfl,i0,rfl,N,H⟩
          refine zcc (sp (.int .i64 c_51) (oF rfl (oL rfl (H.zu 2 rfl 1 rfl) (oN rfl (sp (Bv (decide ((c_51:Int) < zL11.length))) (zjn (cD rfl (fun h311=>?_) (fun h311=>?_))))))))
          ·skip
           refine xe (t_n (zg (qZ (zcr (sp (Bv false) (zjcc (sp (.int .i64 0) (zjn (qZ ?_)))))))))
           refine zU (fun m' ρ w312=>∃ (zl:Env) (gone:Bool) (i_1:Nat),ρ=upd (upd (upd (upd (upd (upd (upd (upd zl 5 (.pointer (some ⟨b32,0,none⟩))) 6 (.pointer (some ⟨b34,0,none⟩))) 11 (Sv a87 x.length c88)) 12 (.pointer (some ⟨b115,0,none⟩))) 14 (Sv a191 (yJ+1) c192)) 26 (.int .i64 c_51)) 27 (Bv gone)) 28 (.int .i64 i_1)∧gone=(dec (yz (⟨zi7,zl8,zR9⟩:qy) x (c_51:Int) i_1))∧((i_1:Int)≤x.length)∧m' =(x.length - (i_1:Int)).toNat∧Fresh w136.heap.size [Xw]∧St w136 w312 [rr ra293a ((QD ((xO (⟨zi7,zl8,zR9⟩:qy) (⟨zm10,zL11,zl12⟩:qA) x).1) (⟨zi7,zl8,zR9⟩:qy).qw.length).length) rc293a 2 1 ((QD ((xO (⟨zi7,zl8,zR9⟩:qy) (⟨zm10,zL11,zl12⟩:qA) x).1) (⟨zi7,zl8,zR9⟩:qy).qw.length).map (Value.int .i64)),rr (some ⟨b278,0,none⟩) zi7.toNat zi7.toNat 2 1 (total.map (Value.int .i64)),.box b189 [Sv a186 (0+zl12.length) c187] 24,rr a191 (yJ+1) c192 24 1 Xd] [qX true Xw Xd due_1,atF b115 0 [Sv ra107aAlive ((((xO (⟨zi7,zl8,zR9⟩:qy) (⟨zm10,zL11,zl12⟩:qA) x).1).qF).length) rc107aAlive,Sv ra107aBags ((((xO (⟨zi7,zl8,zR9⟩:qy) (⟨zm10,zL11,zl12⟩:qA) x).1).qG).length) rc107aBags,Sv ra107aAround ((((xO (⟨zi7,zl8,zR9⟩:qy) (⟨zm10,zL11,zl12⟩:qA) x).1).qH).length) rc107aAround],atF b34 0 [Sv ra21 zm10.length rc23,Sv ra24 zL11.length rc26,Sv ra29 zl12.length rc31],atF b32 0 [.int .i64 zi7,Sv ra13 zl8.length rc15,Sv ra16 zR9.length rc18],sF true G155 ra16 rc18 zR9,sF true G153 ra13 rc15 zl8,sF true G151 ra29 rc31 zl12,sF true G148 ra24 rc26 zL11,sF true G146 ra21 rc23 zm10,sF true G144 ra107aAround rc107aAround (((xO (⟨zi7,zl8,zR9⟩:qy) (⟨zm10,zL11,zl12⟩:qA) x).1).qH),sF true G141 ra107aBags rc107aBags (((xO (⟨zi7,zl8,zR9⟩:qy) (⟨zm10,zL11,zl12⟩:qA) x).1).qG),sF true G139 ra107aAlive rc107aAlive (((xO (⟨zi7,zl8,zR9⟩:qy) (⟨zm10,zL11,zl12⟩:qA) x).1).qF),sF true G89 a87 c88 x]) ((x.length - (0:Int)).toNat) ⟨_,false,0,uE8,(by exact meltsTo_0 _ _ _),qf,rfl,N,H⟩ ?_
           clear H N
           rintro m' ρ w313 ⟨zl,gone,i_1,rfl,rfl,i0,rfl,N,H⟩
           refine zcc (sps [.int .i64 i_1,Sv a87 x.length c88] (oN rfl (sp (Bv (decide ((i_1:Int) < x.length))) (zjn (cD rfl (fun h314=>?_) (fun h314=>?_))))))
           ·skip
            refine xe (t_n (zg (qZ (zn (sps [Bv (dec (yz (⟨zi7,zl8,zR9⟩:qy) x (c_51:Int) i_1)),Bv (dec (yz (⟨zi7,zl8,zR9⟩:qy) x (c_51:Int) i_1))] ?_)))))
            cases h315:((dec (yz (⟨zi7,zl8,zR9⟩:qy) x (c_51:Int) i_1)))
            ·skip
             refine qL 240 rfl rfl (sp (Sv a87 x.length c88) (qL 240 rfl rfl (sp (.int .i64 i_1) (qL 240 rfl rfl ?_))))
             obtain ⟨b316,o317,rfl⟩:=H.addr 12 rfl qf
             refine oI rfl rfl (qL 240 rfl rfl (oL rfl (H.jg 12 rfl i_1 qf qf) (qL 240 rfl rfl (sp (Bv (decide ((x[i_1]! :Int) > 0))) (qL 240 rfl rfl (sp (Bv (decide ((x[i_1]! :Int) > 0))) ?_))))))
             cases h319:(decide ((x[i_1]! :Int) > 0))
             ·skip
              replace h319:=of_decide_eq_false h319
              refine xU [247,248,249,250,251,252] (qL 240 rfl rfl (sp (Bv false) (qL 240 rfl rfl (sp (Bv false) (xU [255,256,257,258,259,260,261,262] (qL 240 rfl rfl (sps [Bv false,Bv false,Bv false] (zo (b_n (t_n (zn (sp (.int .i64 i_1) (sw (zN i_1 1 rfl rfl qf (sp (.int .i64 (i_1+1)) (zo (xm (m' :=(x.length - ((i_1+1):Int)).toNat) qf ⟨_,false,i_1+1,uE8,?_,?_,rfl,N,H⟩)))))))))))))))))
              · first | exact meltsTo_on ql | exact meltsTo_a ql ql | exact meltsTo_b ql ql | exact meltsTo_c ql ql ql
              · omega
             ·skip
              replace h319:=of_decide_eq_true h319
              refine qL 246 rfl rfl (oF rfl (qL 246 rfl rfl (oL rfl (H.zu 3 rfl 2 rfl) (qL 246 rfl rfl (sp (.int .i64 i_1) (qL 246 rfl rfl ?_))))))
              obtain ⟨b320,o321,rfl⟩:=H.addr 4 rfl qf
              obtain ⟨ae323Need,ce323Need,Fe323Need,ae323Have,ce323Have,Fe323Have,ae323Lack,ce323Lack,Fe323Lack,ae323Here,ce323Here,Fe323Here,ae323Out,ce323Out,Fe323Out,ae323Into,ce323Into,Fe323Into,HB⟩:=HB.yY 5 rfl i_1 i_1 qf qf qf
              replace H:St w136 w313 [rr ra293a ((QD ((xO (⟨zi7,zl8,zR9⟩:qy) (⟨zm10,zL11,zl12⟩:qA) x).1) (⟨zi7,zl8,zR9⟩:qy).qw.length).length) rc293a 2 1 ((QD ((xO (⟨zi7,zl8,zR9⟩:qy) (⟨zm10,zL11,zl12⟩:qA) x).1) (⟨zi7,zl8,zR9⟩:qy).qw.length).map (Value.int .i64)),rr (some ⟨b278,0,none⟩) zi7.toNat zi7.toNat 2 1 (total.map (Value.int .i64)),.box b189 [Sv a186 (0+zl12.length) c187] 24,rr a191 (yJ+1) c192 24 1 Xd] [sF true Fe323Need ae323Need ce323Need ((zR9[i_1]!).xM),sF true Fe323Have ae323Have ce323Have ((zR9[i_1]!).zF),sF true Fe323Lack ae323Lack ce323Lack ((zR9[i_1]!).zD),sF true Fe323Here ae323Here ce323Here ((zR9[i_1]!).zC),sF true Fe323Out ae323Out ce323Out ((zR9[i_1]!).jI),sF true Fe323Into ae323Into ce323Into ((zR9[i_1]!).qO),atF b320 (o321+(i_1:Int).toNat * 9) [.int .i64 ((zR9[i_1]!).qE),.int .i64 ((zR9[i_1]!).vI),Sv ae323Need (((zR9[i_1]!).xM).length) ce323Need,Sv ae323Have (((zR9[i_1]!).zF).length) ce323Have,Sv ae323Lack (((zR9[i_1]!).zD).length) ce323Lack,Sv ae323Here (((zR9[i_1]!).zC).length) ce323Here,Sv ae323Out (((zR9[i_1]!).jI).length) ce323Out,Sv ae323Into (((zR9[i_1]!).qO).length) ce323Into,Bv ((zR9[i_1]!).zV)],qX true Xw Xd due_1,atF b115 0 [Sv ra107aAlive ((((xO (⟨zi7,zl8,zR9⟩:qy) (⟨zm10,zL11,zl12⟩:qA) x).1).qF).length) rc107aAlive,Sv ra107aBags ((((xO (⟨zi7,zl8,zR9⟩:qy) (⟨zm10,zL11,zl12⟩:qA) x).1).qG).length) rc107aBags,Sv ra107aAround ((((xO (⟨zi7,zl8,zR9⟩:qy) (⟨zm10,zL11,zl12⟩:qA) x).1).qH).length) rc107aAround],atF b34 0 [Sv ra21 zm10.length rc23,Sv ra24 zL11.length rc26,Sv ra29 zl12.length rc31],atF b32 0 [.int .i64 zi7,Sv ra13 zl8.length rc15,Sv (some ⟨b320,o321,none⟩) zR9.length rc18],sF true G155 (some ⟨b320,o321,none⟩) rc18 zR9,sF true G153 ra13 rc15 zl8,sF true G151 ra29 rc31 zl12,sF true G148 ra24 rc26 zL11,sF true G146 ra21 rc23 zm10,sF true G144 ra107aAround rc107aAround (((xO (⟨zi7,zl8,zR9⟩:qy) (⟨zm10,zL11,zl12⟩:qA) x).1).qH),sF true G141 ra107aBags rc107aBags (((xO (⟨zi7,zl8,zR9⟩:qy) (⟨zm10,zL11,zl12⟩:qA) x).1).qG),sF true G139 ra107aAlive rc107aAlive (((xO (⟨zi7,zl8,zR9⟩:qy) (⟨zm10,zL11,zl12⟩:qA) x).1).qF),sF true G89 (some ⟨b316,o317,none⟩) c88 x]:=H.oldies HB 7
              refine oI rfl rfl (qL 246 rfl rfl (oF rfl (qL 246 rfl rfl (oL rfl (H.zu 6 rfl 8 rfl) (qL 240 rfl rfl (sp (Bv ((zR9[i_1]!).zV)) (qL 240 rfl rfl (sp (Bv ((zR9[i_1]!).zV)) ?_))))))))
              cases h324:((zR9[i_1]!).zV)
              ·skip
               rw [h324] at H
               refine xU [255,256,257,258,259,260,261,262] (qL 240 rfl rfl (sps [Bv false,Bv false,Bv false] (zo (b_n (t_n (zn (sp (.int .i64 i_1) (sw (zN i_1 1 rfl rfl qf (sp (.int .i64 (i_1+1)) (zo (xm (m' :=(x.length - ((i_1+1):Int)).toNat) qf ⟨_,false,i_1+1,uE8,?_,?_,rfl,N,H.pick [0,1,2,3] [7,8,9,10,11,12,13,14,15,16,17,18,19]⟩))))))))))))
               · first | exact meltsTo_on ql | exact meltsTo_a ql ql | exact meltsTo_b ql ql | exact meltsTo_c ql ql ql
               · omega
              ·skip
               rw [h324] at H
               refine qL 254 rfl rfl (oF rfl (qL 254 rfl rfl (oL rfl (H.zu 10 rfl 2 rfl) (qL 254 rfl rfl (sp (.int .i64 i_1) (qL 254 rfl rfl (oI rfl rfl (qL 254 rfl rfl (oF rfl (qL 254 rfl rfl (oL rfl (H.zu 6 rfl 0 rfl) (qL 254 rfl rfl (sp (.int .i64 c_51) (qL 254 rfl rfl (sp (Bv (((zR9[i_1]!).qE:Int) == c_51)) (qL 240 rfl rfl (sps [Bv (((zR9[i_1]!).qE:Int) == c_51),Bv (((zR9[i_1]!).qE:Int) == c_51),Bv (((zR9[i_1]!).qE:Int) == c_51)] (zo (b_n (t_n (zn (sp (.int .i64 i_1) (sw (zN i_1 1 rfl rfl qf (sp (.int .i64 (i_1+1)) (zo ?_))))))))))))))))))))))))))
               refine xm (m' :=(x.length - ((i_1+1):Int)).toNat) qf ⟨_,((zR9[i_1]!).qE:Int) == c_51,i_1+1,uE8,?_,?_,rfl,N,H.pick [0,1,2,3] [7,8,9,10,11,12,13,14,15,16,17,18,19]⟩
               · first | exact meltsTo_on ql | exact meltsTo_a ql ql | exact meltsTo_b ql ql | exact meltsTo_c ql ql ql
               · omega
            ·skip
             refine xU [241,242,243,244,245,246,247,248,249,250,251,252,253,254,255,256,257,258,259,260,261,262,263] (sps [Bv true,Bv true] (zo (b_n (t_n (zn (sp (.int .i64 i_1) (sw (zN i_1 1 rfl rfl qf (sp (.int .i64 (i_1+1)) (zo (xm (m' :=(x.length - ((i_1+1):Int)).toNat) qf ⟨_,true,i_1+1,uE8,?_,?_,rfl,N,H⟩)))))))))))
             · first | exact meltsTo_on ql | exact meltsTo_a ql ql | exact meltsTo_b ql ql | exact meltsTo_c ql ql ql
             · omega
           ·skip
            have e7:i_1=((⟨zi7,zl8,zR9⟩:qy)).qx.length:=by omega
            have av:=Z.alive (c:=c_51) qf
            rw [← e7] at av
            have av1:zm10[c_51]! =true→(xO (⟨zi7,zl8,zR9⟩:qy) (⟨zm10,zL11,zl12⟩:qA) x).1.qF[c_51]! = !dec (yz (⟨zi7,zl8,zR9⟩:qy) x (c_51:Int) i_1):=fun h=>av.trans (by show (zm10[c_51]! && _)=_;rw [h];rfl)
            have av0:zm10[c_51]! =false→(xO (⟨zi7,zl8,zR9⟩:qy) (⟨zm10,zL11,zl12⟩:qA) x).1.qF[c_51]! =false:=fun h=>av.trans (by show (zm10[c_51]! && _)=_;rw [h];rfl)
            refine zx4 (zg ?_)
            refine yj rfl H fun H=>tF 0 rfl rfl H ?_
            refine tL 1 rfl rfl (fun _ h=>h.zu 1 rfl 0 rfl) H ?_
            refine rtp 2 (.int .i64 c_51) H ?_
            obtain ⟨b326,o327,rfl⟩:=H.addr 11 rfl qf
            refine tI 3 rfl rfl rfl H ?_
            refine tL 4 rfl rfl (fun _ h=>h.elemBoolN 11 rfl c_51 qf) H ?_
            refine tF 5 rfl rfl H ?_
            refine tL 6 rfl rfl (fun _ h=>h.zu 2 rfl 0 rfl) H ?_
            refine rtp 7 (.int .i64 c_51) H ?_
            obtain ⟨b329,o330,rfl⟩:=H.addr 8 rfl qf
            refine tI 8 rfl rfl rfl H ?_
            refine tL 9 rfl rfl (fun _ h=>h.elemBoolN 8 rfl c_51 qf) H ?_
            refine rtp 10 (Bv (zm10[c_51]!)) H ?_
            cases h332:(zm10[c_51]!)
            ·skip
             refine zL [11,12] 2 (H) (rtp 13 (Bv false) H ?_)
             refine rt 14 (Bv (((((xO (⟨zi7,zl8,zR9⟩:qy) (⟨zm10,zL11,zl12⟩:qA) x).1).qF)[c_51]!) != false)) (y_neB Tryz.underlying4 ((((xO (⟨zi7,zl8,zR9⟩:qy) (⟨zm10,zL11,zl12⟩:qA) x).1).qF)[c_51]!) false rfl rfl) H ?_
             refine rtp 15 (Bv (((((xO (⟨zi7,zl8,zR9⟩:qy) (⟨zm10,zL11,zl12⟩:qA) x).1).qF)[c_51]!) != false)) H ?_
             cases h333:(((((xO (⟨zi7,zl8,zR9⟩:qy) (⟨zm10,zL11,zl12⟩:qA) x).1).qF)[c_51]!) != false)
             ·skip
              replace h333:=zh h333
              refine rg 16 (.agg #[.int .i64 zi7,Sv ra13 zl8.length rc15,Sv ra16 zR9.length rc18]) 280 (yK (cs:=[.int .i64 zi7,Sv ra13 zl8.length rc15,Sv ra16 zR9.length rc18]) Tryz.isAgg27 Tryz.sizeOf27 rfl (fun _ h=>qJ (h.get 3 rfl) 0 3)) H ?_
              refine rgp 17 (Sv a87 x.length c88) 280 H ?_
              refine zH [18] qh qm (Xg rfl (e:=280) rfl rfl (oq (a2Melts_ok _ (⟨zi7,zl8,zR9⟩:qy) x (H.get 5 rfl).1 (H.get 4 rfl).1 (H.get 12 rfl).1 qg) H fun w335 H=>⟨H,(rgp 19 (Bv (!(dec (AnyMelt (⟨zi7,zl8,zR9⟩:qy) x (⟨zi7,zl8,zR9⟩:qy).qx.length)))) 280 H ?_)⟩) zI)
              refine rgp 20 (Bv (!(dec (AnyMelt (⟨zi7,zl8,zR9⟩:qy) x (⟨zi7,zl8,zR9⟩:qy).qx.length)))) 280 H ?_
              cases h337:(!(dec (AnyMelt (⟨zi7,zl8,zR9⟩:qy) x (⟨zi7,zl8,zR9⟩:qy).qx.length)))
              ·skip
               replace h337:=xw h337
               replace h337:=yB h337
               refine zL [21,22,23,24,25,26,27,28,29,30,31] 11 (H) (rgp 32 (Bv false) 280 H ?_)
               refine rtp 33 (Bv false) H ?_
               refine xg qh (t_n (xI false rfl (fun h=>absurd h qj) (fun _=>xe (b_n (t_n (zn (sp (.int .i64 c_51) (sw (zN c_51 1 rfl rfl qf (sp (.int .i64 (c_51+1)) (zo (xm (m' :=(zL11.length - ((c_51+1):Int)).toNat) qf ⟨_,c_51+1,uE6,?_,rfl,N,H⟩))))))))))))
               · omega
              ·skip
               replace h337:=xC h337
               replace h337:=zO h337
               refine gF 21 rfl rfl H ?_
               refine gL 22 rfl rfl (fun _ h=>h.zu 1 rfl 1 rfl) H ?_
               refine rgp 23 (.int .i64 c_51) 285 H ?_
               obtain ⟨b338,o339,rfl⟩:=H.addr 10 rfl qf
               obtain ⟨ae341,ce341,Fe341,HB⟩:=HB.jS 11 rfl c_51 c_51 qf qf qf
               replace H:St w136 w335 [rr ra293a ((QD ((xO (⟨zi7,zl8,zR9⟩:qy) (⟨zm10,zL11,zl12⟩:qA) x).1) (⟨zi7,zl8,zR9⟩:qy).qw.length).length) rc293a 2 1 ((QD ((xO (⟨zi7,zl8,zR9⟩:qy) (⟨zm10,zL11,zl12⟩:qA) x).1) (⟨zi7,zl8,zR9⟩:qy).qw.length).map (Value.int .i64)),rr (some ⟨b278,0,none⟩) zi7.toNat zi7.toNat 2 1 (total.map (Value.int .i64)),.box b189 [Sv a186 (0+zl12.length) c187] 24,rr a191 (yJ+1) c192 24 1 Xd] [sF true Fe341 ae341 ce341 ((((xO (⟨zi7,zl8,zR9⟩:qy) (⟨zm10,zL11,zl12⟩:qA) x).1).qG)[c_51]!),atF b338 (o339+(c_51:Int).toNat * 1) [Sv ae341 (((((xO (⟨zi7,zl8,zR9⟩:qy) (⟨zm10,zL11,zl12⟩:qA) x).1).qG)[c_51]!).length) ce341],qX true Xw Xd due_1,atF b115 0 [Sv (some ⟨b326,o327,none⟩) ((((xO (⟨zi7,zl8,zR9⟩:qy) (⟨zm10,zL11,zl12⟩:qA) x).1).qF).length) rc107aAlive,Sv (some ⟨b338,o339,none⟩) ((((xO (⟨zi7,zl8,zR9⟩:qy) (⟨zm10,zL11,zl12⟩:qA) x).1).qG).length) rc107aBags,Sv ra107aAround ((((xO (⟨zi7,zl8,zR9⟩:qy) (⟨zm10,zL11,zl12⟩:qA) x).1).qH).length) rc107aAround],atF b34 0 [Sv (some ⟨b329,o330,none⟩) zm10.length rc23,Sv ra24 zL11.length rc26,Sv ra29 zl12.length rc31],atF b32 0 [.int .i64 zi7,Sv ra13 zl8.length rc15,Sv ra16 zR9.length rc18],sF true G155 ra16 rc18 zR9,sF true G153 ra13 rc15 zl8,sF true G151 ra29 rc31 zl12,sF true G148 ra24 rc26 zL11,sF true G146 (some ⟨b329,o330,none⟩) rc23 zm10,sF true G144 ra107aAround rc107aAround (((xO (⟨zi7,zl8,zR9⟩:qy) (⟨zm10,zL11,zl12⟩:qA) x).1).qH),sF true G141 (some ⟨b338,o339,none⟩) rc107aBags (((xO (⟨zi7,zl8,zR9⟩:qy) (⟨zm10,zL11,zl12⟩:qA) x).1).qG),sF true G139 (some ⟨b326,o327,none⟩) rc107aAlive (((xO (⟨zi7,zl8,zR9⟩:qy) (⟨zm10,zL11,zl12⟩:qA) x).1).qF),sF true G89 a87 c88 x]:=H.oldies HB 2
               have S:=H.jG [0,1,2,3] [2,3,4,5,6,7,8,9,10,11,12,13,14]
               refine gI 24 rfl rfl rfl S ?_
               refine rgp 26 (Sv a191 (yJ+1) c192) 285 S ?_
               refine rgp 27 (.int .i64 c_51) 285 S ?_
               obtain ⟨b342,rfl⟩:=H.Qc 3 rfl qf
               refine gI 28 rfl rfl rfl (H.pick [0,1,2,3] [2,3,4,5,6,7,8,9,10,11,12,13,14]) ?_
               obtain ⟨a343,c344,hx345⟩:=H.innerHead 2 rfl c_51 qf
               refine gL 29 rfl rfl (fun _ h=>h.rowGet 3 rfl (by rw [show 0+(c_51:Int).toNat * 1=c_51 by omega];exact hx345)) (H.pick [0,1,2,3] [2,3,4,5,6,7,8,9,10,11,12,13,14]) ?_
               refine zH [25] qh qm (Xg rfl (e:=285) rfl rfl (zt (Sv ae341 (((((xO (⟨zi7,zl8,zR9⟩:qy) (⟨zm10,zL11,zl12⟩:qA) x).1).qG)[c_51]!).length) ce341) Tryz.isAgg24 rfl (H.zu 1 rfl 0 rfl) (⟨H.pick [0,1,2,3] [2,3,4,5,6,7,8,9,10,11,12,13,14],(zH [30] qh qm (Xg rfl (e:=285) rfl rfl ?_ zI))⟩)) zI)
               obtain ⟨G346,hn347,h348⟩:=H.innerRep 2 rfl c_51 qf hx345
               refine oq (a2Same_ok _ ((((xO (⟨zi7,zl8,zR9⟩:qy) (⟨zm10,zL11,zl12⟩:qA) x).1).qG)[c_51]!) ((due_1[c_51]!).l) (H.get 0 rfl).1 h348) H fun w350 H=>⟨H.pick [0,1,2,3] [2,3,4,5,6,7,8,9,10,11,12,13,14],?_⟩
               have S:=H.jG [0,1,2,3] [2,3,4,5,6,7,8,9,10,11,12,13,14]
               refine rgp 31 (Bv (!(decide (((((xO (⟨zi7,zl8,zR9⟩:qy) (⟨zm10,zL11,zl12⟩:qA) x).1).qG)[c_51]!)=((due_1[c_51]!).l))))) 285 S ?_
               refine rgp 32 (Bv (!(decide (((((xO (⟨zi7,zl8,zR9⟩:qy) (⟨zm10,zL11,zl12⟩:qA) x).1).qG)[c_51]!)=((due_1[c_51]!).l))))) 280 S ?_
               refine rtp 33 (Bv (!(decide (((((xO (⟨zi7,zl8,zR9⟩:qy) (⟨zm10,zL11,zl12⟩:qA) x).1).qG)[c_51]!)=((due_1[c_51]!).l))))) S ?_
               refine xg qh (t_n (xI (!(decide (((((xO (⟨zi7,zl8,zR9⟩:qy) (⟨zm10,zL11,zl12⟩:qA) x).1).qG)[c_51]!)=((due_1[c_51]!).l)))) rfl (fun h352=>?_) (fun h352=>?_)))
               ·skip
                replace h352:=xC h352
                replace h352:=of_decide_eq_false h352
                refine zcr (sp (Bv false) (zjr (zr5 (ret1 (Bv false) rfl rfl ⟨_,rfl,?_,(Ext.trans' B0 H.base)⟩))))
                exfalso;first | omega | contradiction | exact absurd (Z.bag D1 (anyMelt_no ql) (c:=c_51) qf) ql | exact absurd (av1 ql) ql | exact absurd (av0 ql) ql
               ·skip
                replace h352:=xw h352
                replace h352:=of_decide_eq_true h352
                refine xe (b_n (t_n (zn (sp (.int .i64 c_51) (sw (zN c_51 1 rfl rfl qf (sp (.int .i64 (c_51+1)) (zo (xm (m' :=(zL11.length - ((c_51+1):Int)).toNat) qf ⟨_,c_51+1,uE6,?_,rfl,N,H.pick [0,1,2,3] [2,3,4,5,6,7,8,9,10,11,12,13,14]⟩)))))))))
                · omega
             ·skip
              replace h333:=bne_iff_ne.1 h333
              refine zL [16,17,18,19,20,21,22,23,24,25,26,27,28,29,30,31,32] 17 (H) (rtp 33 (Bv true) H ?_)
              refine xg qh (t_n (xI true rfl (fun _=>zcr (sp (Bv false) (zjr (zr5 (ret1 (Bv false) rfl rfl ⟨_,rfl,?_,(Ext.trans' B0 H.base)⟩))))) (fun h=>absurd h qj)))
              exfalso;first | omega | contradiction | exact absurd (Z.bag D1 (anyMelt_no ql) (c:=c_51) qf) ql | exact absurd (av1 ql) ql | exact absurd (av0 ql) ql
            ·skip
             refine rgp 11 (Bv (dec (yz (⟨zi7,zl8,zR9⟩:qy) x (c_51:Int) i_1))) 275 H ?_
             refine rgp 12 (Bv (!(dec (yz (⟨zi7,zl8,zR9⟩:qy) x (c_51:Int) i_1)))) 275 H ?_
             refine rtp 13 (Bv (!(dec (yz (⟨zi7,zl8,zR9⟩:qy) x (c_51:Int) i_1)))) H ?_
             refine rt 14 (Bv (((((xO (⟨zi7,zl8,zR9⟩:qy) (⟨zm10,zL11,zl12⟩:qA) x).1).qF)[c_51]!) != (!(dec (yz (⟨zi7,zl8,zR9⟩:qy) x (c_51:Int) i_1))))) (y_neB Tryz.underlying4 ((((xO (⟨zi7,zl8,zR9⟩:qy) (⟨zm10,zL11,zl12⟩:qA) x).1).qF)[c_51]!) (!(dec (yz (⟨zi7,zl8,zR9⟩:qy) x (c_51:Int) i_1))) rfl rfl) H ?_
             refine rtp 15 (Bv (((((xO (⟨zi7,zl8,zR9⟩:qy) (⟨zm10,zL11,zl12⟩:qA) x).1).qF)[c_51]!) != (!(dec (yz (⟨zi7,zl8,zR9⟩:qy) x (c_51:Int) i_1))))) H ?_
             cases h353:(((((xO (⟨zi7,zl8,zR9⟩:qy) (⟨zm10,zL11,zl12⟩:qA) x).1).qF)[c_51]!) != (!(dec (yz (⟨zi7,zl8,zR9⟩:qy) x (c_51:Int) i_1))))
             ·skip
              replace h353:=zh h353
              refine rg 16 (.agg #[.int .i64 zi7,Sv ra13 zl8.length rc15,Sv ra16 zR9.length rc18]) 280 (yK (cs:=[.int .i64 zi7,Sv ra13 zl8.length rc15,Sv ra16 zR9.length rc18]) Tryz.isAgg27 Tryz.sizeOf27 rfl (fun _ h=>qJ (h.get 3 rfl) 0 3)) H ?_
              refine rgp 17 (Sv a87 x.length c88) 280 H ?_
              refine zH [18] qh qm (Xg rfl (e:=280) rfl rfl (oq (a2Melts_ok _ (⟨zi7,zl8,zR9⟩:qy) x (H.get 5 rfl).1 (H.get 4 rfl).1 (H.get 12 rfl).1 qg) H fun w355 H=>⟨H,(rgp 19 (Bv (!(dec (AnyMelt (⟨zi7,zl8,zR9⟩:qy) x (⟨zi7,zl8,zR9⟩:qy).qx.length)))) 280 H ?_)⟩) zI)
              refine rgp 20 (Bv (!(dec (AnyMelt (⟨zi7,zl8,zR9⟩:qy) x (⟨zi7,zl8,zR9⟩:qy).qx.length)))) 280 H ?_
              cases h357:(!(dec (AnyMelt (⟨zi7,zl8,zR9⟩:qy) x (⟨zi7,zl8,zR9⟩:qy).qx.length)))
              ·skip
               replace h357:=xw h357
               replace h357:=yB h357
               refine zL [21,22,23,24,25,26,27,28,29,30,31] 11 (H) (rgp 32 (Bv false) 280 H ?_)
               refine rtp 33 (Bv false) H ?_
               refine xg qh (t_n (xI false rfl (fun h=>absurd h qj) (fun _=>xe (b_n (t_n (zn (sp (.int .i64 c_51) (sw (zN c_51 1 rfl rfl qf (sp (.int .i64 (c_51+1)) (zo (xm (m' :=(zL11.length - ((c_51+1):Int)).toNat) qf ⟨_,c_51+1,uE6,?_,rfl,N,H⟩))))))))))))
               · omega
              ·skip
               replace h357:=xC h357
               replace h357:=zO h357
               refine gF 21 rfl rfl H ?_
               refine gL 22 rfl rfl (fun _ h=>h.zu 1 rfl 1 rfl) H ?_
               refine rgp 23 (.int .i64 c_51) 285 H ?_
               obtain ⟨b358,o359,rfl⟩:=H.addr 10 rfl qf
               obtain ⟨ae361,ce361,Fe361,HB⟩:=HB.jS 11 rfl c_51 c_51 qf qf qf
               replace H:St w136 w355 [rr ra293a ((QD ((xO (⟨zi7,zl8,zR9⟩:qy) (⟨zm10,zL11,zl12⟩:qA) x).1) (⟨zi7,zl8,zR9⟩:qy).qw.length).length) rc293a 2 1 ((QD ((xO (⟨zi7,zl8,zR9⟩:qy) (⟨zm10,zL11,zl12⟩:qA) x).1) (⟨zi7,zl8,zR9⟩:qy).qw.length).map (Value.int .i64)),rr (some ⟨b278,0,none⟩) zi7.toNat zi7.toNat 2 1 (total.map (Value.int .i64)),.box b189 [Sv a186 (0+zl12.length) c187] 24,rr a191 (yJ+1) c192 24 1 Xd] [sF true Fe361 ae361 ce361 ((((xO (⟨zi7,zl8,zR9⟩:qy) (⟨zm10,zL11,zl12⟩:qA) x).1).qG)[c_51]!),atF b358 (o359+(c_51:Int).toNat * 1) [Sv ae361 (((((xO (⟨zi7,zl8,zR9⟩:qy) (⟨zm10,zL11,zl12⟩:qA) x).1).qG)[c_51]!).length) ce361],qX true Xw Xd due_1,atF b115 0 [Sv (some ⟨b326,o327,none⟩) ((((xO (⟨zi7,zl8,zR9⟩:qy) (⟨zm10,zL11,zl12⟩:qA) x).1).qF).length) rc107aAlive,Sv (some ⟨b358,o359,none⟩) ((((xO (⟨zi7,zl8,zR9⟩:qy) (⟨zm10,zL11,zl12⟩:qA) x).1).qG).length) rc107aBags,Sv ra107aAround ((((xO (⟨zi7,zl8,zR9⟩:qy) (⟨zm10,zL11,zl12⟩:qA) x).1).qH).length) rc107aAround],atF b34 0 [Sv (some ⟨b329,o330,none⟩) zm10.length rc23,Sv ra24 zL11.length rc26,Sv ra29 zl12.length rc31],atF b32 0 [.int .i64 zi7,Sv ra13 zl8.length rc15,Sv ra16 zR9.length rc18],sF true G155 ra16 rc18 zR9,sF true G153 ra13 rc15 zl8,sF true G151 ra29 rc31 zl12,sF true G148 ra24 rc26 zL11,sF true G146 (some ⟨b329,o330,none⟩) rc23 zm10,sF true G144 ra107aAround rc107aAround (((xO (⟨zi7,zl8,zR9⟩:qy) (⟨zm10,zL11,zl12⟩:qA) x).1).qH),sF true G141 (some ⟨b358,o359,none⟩) rc107aBags (((xO (⟨zi7,zl8,zR9⟩:qy) (⟨zm10,zL11,zl12⟩:qA) x).1).qG),sF true G139 (some ⟨b326,o327,none⟩) rc107aAlive (((xO (⟨zi7,zl8,zR9⟩:qy) (⟨zm10,zL11,zl12⟩:qA) x).1).qF),sF true G89 a87 c88 x]:=H.oldies HB 2
               have S:=H.jG [0,1,2,3] [2,3,4,5,6,7,8,9,10,11,12,13,14]
               refine gI 24 rfl rfl rfl S ?_
               refine rgp 26 (Sv a191 (yJ+1) c192) 285 S ?_
               refine rgp 27 (.int .i64 c_51) 285 S ?_
               obtain ⟨b362,rfl⟩:=H.Qc 3 rfl qf
               refine gI 28 rfl rfl rfl (H.pick [0,1,2,3] [2,3,4,5,6,7,8,9,10,11,12,13,14]) ?_
               obtain ⟨a363,c364,hx365⟩:=H.innerHead 2 rfl c_51 qf
               refine gL 29 rfl rfl (fun _ h=>h.rowGet 3 rfl (by rw [show 0+(c_51:Int).toNat * 1=c_51 by omega];exact hx365)) (H.pick [0,1,2,3] [2,3,4,5,6,7,8,9,10,11,12,13,14]) ?_
               refine zH [25] qh qm (Xg rfl (e:=285) rfl rfl (zt (Sv ae361 (((((xO (⟨zi7,zl8,zR9⟩:qy) (⟨zm10,zL11,zl12⟩:qA) x).1).qG)[c_51]!).length) ce361) Tryz.isAgg24 rfl (H.zu 1 rfl 0 rfl) (⟨H.pick [0,1,2,3] [2,3,4,5,6,7,8,9,10,11,12,13,14],(zH [30] qh qm (Xg rfl (e:=285) rfl rfl ?_ zI))⟩)) zI)
               obtain ⟨G366,hn367,h368⟩:=H.innerRep 2 rfl c_51 qf hx365
               refine oq (a2Same_ok _ ((((xO (⟨zi7,zl8,zR9⟩:qy) (⟨zm10,zL11,zl12⟩:qA) x).1).qG)[c_51]!) ((due_1[c_51]!).l) (H.get 0 rfl).1 h368) H fun w370 H=>⟨H.pick [0,1,2,3] [2,3,4,5,6,7,8,9,10,11,12,13,14],?_⟩
               have S:=H.jG [0,1,2,3] [2,3,4,5,6,7,8,9,10,11,12,13,14]
               refine rgp 31 (Bv (!(decide (((((xO (⟨zi7,zl8,zR9⟩:qy) (⟨zm10,zL11,zl12⟩:qA) x).1).qG)[c_51]!)=((due_1[c_51]!).l))))) 285 S ?_
               refine rgp 32 (Bv (!(decide (((((xO (⟨zi7,zl8,zR9⟩:qy) (⟨zm10,zL11,zl12⟩:qA) x).1).qG)[c_51]!)=((due_1[c_51]!).l))))) 280 S ?_
               refine rtp 33 (Bv (!(decide (((((xO (⟨zi7,zl8,zR9⟩:qy) (⟨zm10,zL11,zl12⟩:qA) x).1).qG)[c_51]!)=((due_1[c_51]!).l))))) S ?_
               refine xg qh (t_n (xI (!(decide (((((xO (⟨zi7,zl8,zR9⟩:qy) (⟨zm10,zL11,zl12⟩:qA) x).1).qG)[c_51]!)=((due_1[c_51]!).l)))) rfl (fun h372=>?_) (fun h372=>?_)))
               ·skip
                replace h372:=xC h372
                replace h372:=of_decide_eq_false h372
                refine zcr (sp (Bv false) (zjr (zr5 (ret1 (Bv false) rfl rfl ⟨_,rfl,?_,(Ext.trans' B0 H.base)⟩))))
                exfalso;first | omega | contradiction | exact absurd (Z.bag D1 (anyMelt_no ql) (c:=c_51) qf) ql | exact absurd (av1 ql) ql | exact absurd (av0 ql) ql
               ·skip
                replace h372:=xw h372
                replace h372:=of_decide_eq_true h372
                refine xe (b_n (t_n (zn (sp (.int .i64 c_51) (sw (zN c_51 1 rfl rfl qf (sp (.int .i64 (c_51+1)) (zo (xm (m' :=(zL11.length - ((c_51+1):Int)).toNat) qf ⟨_,c_51+1,uE6,?_,rfl,N,H.pick [0,1,2,3] [2,3,4,5,6,7,8,9,10,11,12,13,14]⟩)))))))))
                · omega
             ·skip
              replace h353:=bne_iff_ne.1 h353
              refine zL [16,17,18,19,20,21,22,23,24,25,26,27,28,29,30,31,32] 17 (H) (rtp 33 (Bv true) H ?_)
              refine xg qh (t_n (xI true rfl (fun _=>zcr (sp (Bv false) (zjr (zr5 (ret1 (Bv false) rfl rfl ⟨_,rfl,?_,(Ext.trans' B0 H.base)⟩))))) (fun h=>absurd h qj)))
              exfalso;first | omega | contradiction | exact absurd (Z.bag D1 (anyMelt_no ql) (c:=c_51) qf) ql | exact absurd (av1 ql) ql | exact absurd (av0 ql) ql
          ·skip
           refine zx4 (zg ?_)
           refine yj rfl H fun H=>tF 0 rfl rfl H ?_
           refine tL 1 rfl rfl (fun _ h=>h.zu 1 rfl 2 rfl) H ?_
           refine rtp 2 (Sv a191 (yJ+1) c192) H ?_
           refine tF 3 rfl rfl H ?_
           refine tL 4 rfl rfl (fun _ h=>h.zu 2 rfl 1 rfl) H ?_
           refine tN 5 rfl rfl H ?_
           obtain ⟨b374,rfl⟩:=H.Qc 3 rfl qf
           refine tI 6 rfl rfl rfl H ?_
           obtain ⟨a375,c376,hx377⟩:=H.innerHead 0 rfl zL11.length qf
           refine tL 7 rfl rfl (fun _ h=>h.rowGet 3 rfl (by rw [show 0+(zL11.length:Int).toNat * 1=zL11.length by omega];exact hx377)) H ?_
           refine ro 8 rfl ?_
           obtain ⟨G378,hn379,h380⟩:=H.innerRep 0 rfl zL11.length qf hx377
           refine oq (a2Same_ok _ (((xO (⟨zi7,zl8,zR9⟩:qy) (⟨zm10,zL11,zl12⟩:qA) x).1).qH) ((due_1[zL11.length]!).l) (H.get 9 rfl).1 h380) H fun w382 H=>⟨H,(rtp 9 (Bv (decide ((((xO (⟨zi7,zl8,zR9⟩:qy) (⟨zm10,zL11,zl12⟩:qA) x).1).qH)=((due_1[zL11.length]!).l)))) H ?_)⟩
           refine xg qh (t_n (c_ret (ret1 (Bv (decide ((((xO (⟨zi7,zl8,zR9⟩:qy) (⟨zm10,zL11,zl12⟩:qA) x).1).qH)=((due_1[zL11.length]!).l)))) rfl rfl ⟨_,rfl,?_,(Ext.trans' B0 H.base)⟩)))
           rw [decide_eq_true (by rw [show zL11.length=xB (⟨zi7,zl8,zR9⟩:qy) by omega];exact Z.rim D1)]
      ·skip
       replace h119:=bne_iff_ne.1 h119
       refine xU [82,83,84,85] (sp (Bv true) (zjn (xI true rfl (fun _=>zcr (sp (Bv false) (zjr (t_r (ret1 (Bv false) rfl rfl ⟨_,rfl,?_,H.base⟩))))) (fun h=>absurd h qj))))
       exfalso;first | omega | contradiction | exact absurd (Z.bag D1 (anyMelt_no ql) (c:=c_51) qf) ql | exact absurd (av1 ql) ql | exact absurd (av0 ql) ql
     ·skip
      replace h118:=bne_iff_ne.1 h118
      refine xU [74,75,76,77,78,79] (sps [Bv true,Bv true] (xU [82,83,84,85] (sp (Bv true) (zjn (xI true rfl (fun _=>zcr (sp (Bv false) (zjr (t_r (ret1 (Bv false) rfl rfl ⟨_,rfl,?_,H.base⟩))))) (fun h=>absurd h qj))))))
      exfalso;first | omega | contradiction | exact absurd (Z.bag D1 (anyMelt_no ql) (c:=c_51) qf) ql | exact absurd (av1 ql) ql | exact absurd (av0 ql) ql
 ·skip
  replace h1:=of_decide_eq_true h1
  refine xU [9,10,11] (sps [Bv true,Bv true] (zjr (ret1 (Bv true) rfl rfl ⟨_,rfl,(zjn (xI true rfl (fun _=>zcr (sp (Bv true) (zjr (t_r (ret1 (Bv true) rfl rfl ⟨_,rfl,?_,H.base⟩))))) (fun h=>absurd h qj)))⟩)))
  rfl
end
section
open Go.ChangeShapes Go.WideShapes Go.ChangeAt Go.RowKit Go.Joins
set_option linter.unusedVariables false
set_option linter.unusedSimpArgs false
def Reads (P:Program) (t:TypeId) (α:Type) [qU α]:Prop:=
  ∀ {H:Type} {enc:TypeId×Value→H} {w:World} {spare:Nat→Bool} {held:Bool} {fuel:Nat} {cs:List Value} {x:DataW H×List MemPlace},
    DataW.trod enc P w 0 spare held fuel t cs=some x→∃ F,∃ y:α,qU.rep w F cs y

theorem cell_spot {w:World} {a:Addr} {v:Value} (h:w.cell? a=some v):a.spot=none:=by
  unfold World.cell? at h
  split at h
  · split at h
    · cases h
    · rename_i hs;simpa using hs
  · cases h

theorem reads_slice {α:Type} [qU α] {P:Program} {t e:TypeId} (hu:P.underlying t=some (.slice e)) (hc:P.cellsOf e=qU.size α) (hz:0 < qU.size α) (he:Reads P e α):Reads P t (List α):=by
  intro H enc w spare held fuel cs x h
  rcases DataW.trod_slice hu h with ⟨rfl,_⟩ | ⟨a,len,cap,elems,rest,n,_,rfl,_,_,hlc,hcm,hel,hget,_⟩
  · exact ⟨[],[],none,0,rfl,by simp,Or.inl ⟨rfl,rfl⟩⟩
  · have hm:cap≤9223372036854775807:=by unfold maxLen at hcm;omega
    rcases Nat.eq_zero_or_pos len with h0 | h0
    · subst h0
      exact ⟨[],[],some a,cap,rfl,by simp,Or.inl ⟨rfl,rfl⟩⟩
    · have hone:∀ i,i < len→∃ ci Fi,∃ y:α,w.cells? 0 (a.add (i * qU.size α)) (qU.size α)=some ci∧qU.rep w Fi ci y:=by
        intro i hi
        have hg:=hget i hi
        rw [hc] at hg
        have hs:elems[i]? =some (elems[i]'(by omega)):=List.getElem?_eq_getElem qf
        rw [hs] at hg
        obtain ⟨ci,h1,h2⟩:=Option.bind_eq_some_iff.1 hg
        obtain ⟨Fi,y,hr⟩:=he h2
        exact ⟨ci,Fi,y,h1,hr⟩
      have hsp:a.spot=none:=by
        obtain ⟨ci,Fi,y,h1,_⟩:=hone 0 h0
        obtain ⟨_,hl,hcell⟩:=World.cells?_some h1
        have:=hcell 0 hz
        rw [List.getElem?_eq_getElem (show 0 < ci.length by omega)] at this
        have:=cell_spot this
        simpa [Addr.add] using this
      obtain ⟨b,off,sp⟩:=a
      simp only at hsp
      subst hsp
      have hadd:∀ i j:Nat,((⟨b,off,none⟩:Addr).add (i * qU.size α)).add j=⟨b,off+i * qU.size α+j,none⟩:=fun i j=>by simp [Addr.add_mid]
      have hall:∀ m,m≤len→∃ F vs,∃ l:List α,l.length=m∧reps w F vs l∧jQ w b off vs:=by
        intro m
        induction m with
        | zero=>exact fun _=>⟨[],[],[],rfl,⟨rfl,rfl⟩,fun i v hv=>by simp at hv⟩
        | succ m ih=>
          intro hm'
          obtain ⟨F,vs,l,hl,hr,hcl⟩:=ih qf
          obtain ⟨ci,Fi,y,h1,h2⟩:=hone m qf
          obtain ⟨_,hcl2,hcell⟩:=World.cells?_some h1
          refine ⟨F++Fi,vs++ci,l++[y],by simp [hl],y8 hr (reps_one h2),fun i v hv=>?_⟩
          have hvl:=XV hr
          rw [hl] at hvl
          rcases Nat.lt_or_ge i vs.length with hi | hi
          · rw [List.getElem?_append_left hi] at hv
            exact hcl i v hv
          · rw [List.getElem?_append_right hi] at hv
            have hi2:i - vs.length < ci.length:=by
              rcases Nat.lt_or_ge (i - vs.length) ci.length with h | h
              · exact h
              · simp [h] at hv
            have:=hcell (i - vs.length) qf
            rw [hadd,hv] at this
            rw [← this]
            congr 1
            rw [show off+i=off+m * qU.size α+(i - vs.length) by omega]
      obtain ⟨F,vs,l,hl,hr,hcl⟩:=hall len (Nat.le_refl _)
      have hb:b < w.heap.size:=by
        have h1:0 < vs.length:=by rw [XV hr,hl];exact Nat.mul_pos h0 hz
        exact World.block_lt_of_cell? w _ (hcl 0 _ (List.getElem?_eq_getElem h1))
      subst hl
      exact ⟨b :: F,l,some ⟨b,off,none⟩,cap,rfl,⟨by omega,hlc⟩,Or.inr ⟨b,off,F,vs,rfl,rfl,hb,hr,hcl⟩⟩

theorem arg_slice {P:Program} {α:Type} [qU α] {H:Type} {enc:TypeId×Value→H} {w:World} {spare:Nat→Bool} {held:Bool} {b0:Nat} {t e:TypeId} {v:Value} {d:DataW H} {p:List MemPlace} (hu:P.underlying t=some (.slice e)) (hr:Reads P t (List α))
    (hv:Value.okWide P w .any b0 t v) (h:DataW.Trod enc P w 0 spare held t v d p):∃ (a:yOA) (c:Nat) (F:yLN) (l:List α),v=Sv a l.length c∧qU.rep w F [Sv a l.length c] l:=by
  obtain ⟨a,m,c,rfl⟩:=okWide_slice hu hv
  obtain ⟨fuel,hf⟩:=h
  obtain ⟨F,l,hl⟩:=hr hf
  have hcs:(Value.slice a m c).cells.toList=[Sv a m c]:=rfl
  rw [hcs] at hl
  obtain ⟨a',c',hc,hx⟩:=id hl
  simp only [List.cons.injEq,Value.slice.injEq,and_true] at hc
  obtain ⟨rfl,rfl,rfl⟩:=hc
  exact ⟨a,c,F,l,rfl,hl⟩
section
variable {H : Type} {enc : TypeId × Value → H} {P : Program}

theorem trodAll_below (hl:laidOutB P=true) {W W' :World} (hb:Below W.heap.size W W'):
    ∀ (ts:List TypeId) (vs:List Value) (ds:List (DataW H)) (ps:List MemPlace),(∀ t∈ts,P.readableRec t=true∧t < P.types.size)→
      DataW.TrodAll enc P W 0 (fun _=>true) true ts vs ds ps→(∀ x∈ps,x.block < W.heap.size)→
      DataW.TrodAll enc P W' 0 (fun b=>decide (b < W.heap.size)) true ts vs ds ps
  | [],vs,ds,ps,_,h,_=>by
    obtain ⟨rfl,rfl,rfl⟩:=trodAll_nil h
    exact trodAll_mk0
  | t :: ts,vs,ds,ps,hr,h,hp=>by
    obtain ⟨v,vs',d,ds',p,q,rfl,rfl,rfl,h0,h1⟩:=trodAll_cons h
    have ht:=hr t (List.mem_cons_self ..)
    exact trodAll_cons_mk (Below.trod hl ht.1 ht.2 h0 hb (fun x hx=>hp x (List.mem_append_left _ hx)))
      (trodAll_below hl hb ts vs' ds' q (fun t' ht' =>hr t' (List.mem_cons_of_mem _ ht')) h1 (fun x hx=>hp x (List.mem_append_right _ hx)))

theorem post_law {f:Func} {s:ChangeSpec} {W W' :World} {args:Array Value} {tb:TypeId} {ds gs:List (DataW H)} {before:List MemPlace}
    (hW:DataW.Whole enc P f.params.toList s.vars false W args.toList ds gs before) (hv:s.vars=[])
    (hs:s.fn H (ds++[])={ results:=[.lit (.bool true)],args:=ds }) (hr:f.resultTypes=#[tb]) (hu:P.underlying tb=some .bool)
    (hl:laidOutB P=true) (hts:∀ t∈f.params.toList,P.readableRec t=true∧t < P.types.size) (hb:Below W.heap.size W W'):
    s.post enc P f false true false false W args (Bv true) W' :=by
  have hW' :=hW
  obtain ⟨p,q,hA,hV,rfl,hz,hn⟩:=hW
  rw [hv] at hV
  obtain ⟨rfl,rfl⟩:=trodVars_none hV
  have hlt:∀ x∈p++[],x.block < W.heap.size:=fun x hx=>hW'.lt x hx
  refine ⟨ds,[],p++[],[],p,[],hW',?_,?_,?_,World.keptBut_mono (fun x hx=>⟨hx,Or.inr (Or.inl (by simpa using hx))⟩) (hb.frame (·∈p++[])),fun h=>by cases h⟩
  · rw [hs,hr]
    simp only [Value.resultList]
    exact trodAll_mk1 (shut_bool hu true)
  · rw [hs]
    exact trodAll_below hl hb _ _ _ _ hts hA (fun x hx=>hlt x (by simpa using hx))
  · rw [hv,hs]
    exact rfl
end
theorem reads_byte {P:Program} {t:TypeId} (hu:P.underlying t=some (.int .u8)):Reads P t UInt8:=fun h=>by
  obtain ⟨n,rfl,_,hw⟩:=DataW.trod_int hu h
  have hb:0≤n∧n≤255:=by
    simp [Lit.wf,IntKind.min,IntKind.max,IntKind.signed,IntKind.bits] at hw
    omega
  refine ⟨[],UInt8.ofNat n.toNat,rfl,?_⟩
  have e:(UInt8.ofNat n.toNat).toNat=n.toNat:=by
    simp
    omega
  rw [e,Int.toNat_of_nonneg hb.1]
end
end Go.Proofs.YtcpnclokildllaaGreat
