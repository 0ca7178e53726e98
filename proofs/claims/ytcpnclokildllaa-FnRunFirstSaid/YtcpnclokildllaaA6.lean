/- Walks and laws, printed by program and by hand: what each function comes to, for all arguments, part 6. -/
import Derived.Test.YtcpnclokildllaaA5
import Derived.Test.YtcpnclokildllaaRows
import Derived.ProofKit
import Derived.OpenShut
import Derived.Carry
import Derived.BigQuiet
import Derived.Lib.SmallJoins
namespace Go.Proofs.Ytcpnclokildllaa
set_option linter.unusedVariables false
set_option linter.unusedSimpArgs false
open Go.Proofs.Ytcpnclokildllaa.Tot (tot)
open Go.Proofs.Ytcpnclokildllaa.Mark (cnt mrk mkd mkd_mark cnt_mark)
section
open Go.RowKit
set_option linter.unusedVariables false
set_option linter.unusedSimpArgs false
set_option maxRecDepth 100000
set_option maxHeartbeats 4000000
variable {caAlive caBags XA cbAlive cbBags Xz : Nat}
theorem dSystem_ok {W0 w:World} {ps:List Prv} {Γ:List Fact} {Ns:List yLN} (code:List UInt8) (ip:Int) (sd:Int) (bs:Nat) (ac:yOA) (cc:Nat) (Fc:yLN) (H:St W0 w ((.box bs [.slice ac code.length cc,.int .i64 ip,.int .u64 sd] 95) :: ps) ((sF false Fc ac cc code) :: Γ)) (N:Fresh W0.heap.size (Ns)) (K0:Kept Ns Γ) (q0:0≤ip∧ip≤50000):Calls Try.prog 27 #[.pointer (some ⟨bs,0,none⟩)] w (fun e w' =>∃ v,e=.returned v∧∃ (ip_:Int) (sd_:Int) (kk_:Int) (par_:yLI) (rules_:List jq) (raq:yOA) (rnq:Nat) (rcq:Nat) (raS:yOA) (rnS:Nat) (rcS:Nat) (rxS:List Value) (rFS:yLN),(ip≤ip_∧ip_≤ip+2000)∧(SysDr kk_ par_ rules_)∧v=.agg #[.int .i64 kk_,.slice raq rnq rcq,.slice raS rnS rcS]∧Fresh W0.heap.size (rFS :: Ns)∧St W0 w' ((.box bs [.slice ac code.length cc,.int .i64 ip_,.int .u64 sd_] 95) :: (rr raq rnq rcq 2 1 (par_.map (Value.int .i64))) :: (rr raS rnS rcS 51 9 rxS) :: ps) ((sF false Fc ac cc code) :: (xf true rFS rxS rules_) :: Γ)):=by
 refine en Try.func27 Try.ntmps27 ?_
 have ncode:=qP (H.get 0 rfl).1
 refine zcr (sw (xq H ti27 [.int .i64 0,.slice none 0 0,.slice none 0 0] fun b1 w2 H=>zjc (sp (.pointer (some ⟨bs,0,none⟩)) ?_)))
 have H1:St W0 w2 ((.box bs [.slice ac code.length cc,.int .i64 ip,.int .u64 sd] 95) :: (.box b1 [.int .i64 0,.slice none 0 0,.slice none 0 0] 27) :: ps) ((sF false Fc ac cc code) :: Γ):=H.xC 2 1 [1,0] [0] qo qo
 have N1:Fresh _ (Ns):=N
 have K1:Kept (Ns) (Γ):=K0.behind 0 rfl
 refine sw (xH #[.pointer (some ⟨bs,0,none⟩),.int .i64 3] rfl rfl Try.call62 (jG code ip sd bs ac cc Fc (3:Int) H1 N1 K1 qg) ?_)
 clear H H1 N1 K1
 rintro _ w3 ⟨zi7,zi8,zi9,hx5,hx6,rfl,N,H⟩
 refine sw (zX 1 zi9 rfl rfl qf (sw (vF H Try.underlying24 ti2 [.int .i64 (-1)] fun b10 w11 H=>sw (xJ [.int .i64 (1+zi9),.slice (some ⟨b10,0,none⟩) 1 1,.slice none 0 0] [(0,.int .i64 (1+zi9)),(1,.slice (some ⟨b10,0,none⟩) 1 1)] (sw (xq H ti27 [.int .i64 0,.slice none 0 0,.slice none 0 0] fun b12 w13 H=>sw (qQ H 0 [.int .i64 (1+zi9),.slice (some ⟨b10,0,none⟩) 1 1,.slice none 0 0] Try.sizeOf27 fun w14 H=>?_)))))))
 try dsimp only [List.set] at H
 refine zjcc (sp (.pointer (some ⟨bs,0,none⟩)) ?_)
 have H1:St W0 w14 ((.box bs [.slice ac code.length cc,.int .i64 zi7,.int .u64 zi8] 95) :: (.box b12 [.int .i64 (1+zi9),.slice (some ⟨b10,0,none⟩) 1 1,.slice none 0 0] 27) :: (.box b10 [.int .i64 (-1)] 2) :: (.box b1 [.int .i64 0,.slice none 0 0,.slice none 0 0] 27) :: ps) ((sF false Fc ac cc code) :: Γ):=H.xC 4 1 [2,0,1,3] [0] qo qo
 have N1:Fresh _ (Ns):=N
 have K1:Kept (Ns) (Γ):=K0.behind 0 rfl
 refine sw (xH #[.pointer (some ⟨bs,0,none⟩),.int .i64 3] rfl rfl Try.call62 (jG code zi7 zi8 bs ac cc Fc (3:Int) H1 N1 K1 qg) ?_)
 clear H H1 N1 K1
 rintro _ w15 ⟨zi19,zi20,zi21,hx17,hx18,rfl,N,H⟩
 refine sp (.int .i64 zi21) (zjn (xw ?_))
 replace H:=H.boxRowI 2 [(-1)] 1
 try dsimp only [List.set] at H
 refine vJ (fun m' ρ w22=>∃ (zB:Env) (c:Int) (s_at:Int) (s_seed:Int) (zy:yOA) (xU:Nat) (zx:Nat) (y_Parents:yLI),ρ=upd (upd (upd (upd zB 0 (.pointer (some ⟨bs,0,none⟩))) 2 (.pointer (some ⟨b1,0,none⟩))) 3 (.pointer (some ⟨b12,0,none⟩))) 4 (.int .i64 c)∧(ip≤s_at∧s_at+2 * c≤ip+8)∧(0≤c∧(y_Parents.length:Int)+c≤3)∧(ParDr y_Parents)∧m' =c.toNat∧Fresh W0.heap.size (Ns)∧St W0 w22 ((.box bs [.slice ac code.length cc,.int .i64 s_at,.int .u64 s_seed] 95) :: (.box b12 [.int .i64 (1+zi9),.slice zy xU zx,.slice none 0 0] 27) :: (rr zy xU zx 2 1 (y_Parents.map (Value.int .i64))) :: (.box b1 [.int .i64 0,.slice none 0 0,.slice none 0 0] 27) :: ps) ((sF false Fc ac cc code) :: Γ)) (zi21.toNat) ⟨_,zi21,zi19,zi20,(some ⟨b10,0,none⟩),1,1,[(-1)],uE4,qf,(by simp;omega),(by exact ParDr.one),rfl,N,H⟩ ?_
 clear H N
 rintro m' ρ w23 ⟨zB,c,s_at,s_seed,zy,xU,zx,y_Parents,rfl,i1,i2,i3,rfl,N,H⟩
 have hn_y_Parents:=H.zS 2 rfl
 have i4:=i3.1
 refine zcc (sps [.int .i64 c,.bool (decide ((c:Int) > 0))] (zjn (cD rfl (fun h24=>?_) (fun h24=>?_))))
 ·skip
  refine xx (t_n (zn (xw ?_)))
  refine c_cut (fun ρ w30=>∃ (zB:Env) (zi25:Int) (zi26:Int) (zi27:Int) (a28:yOA) (c29:Nat),ρ=upd (upd (upd (upd zB 0 (.pointer (some ⟨bs,0,none⟩))) 2 (.pointer (some ⟨b1,0,none⟩))) 3 (.pointer (some ⟨b12,0,none⟩))) 4 (.int .i64 c)∧(s_at≤zi25∧zi25≤s_at+2)∧(0≤zi26∧(zi26 < xU∨zi26=0))∧Fresh W0.heap.size (Ns)∧St W0 w30 ((.box bs [.slice ac code.length cc,.int .i64 zi25,.int .u64 zi27] 95) :: (.box b12 [.int .i64 (1+zi9),.slice a28 (xU+1) c29,.slice none 0 0] 27) :: (rr a28 (xU+1) c29 2 1 ((y_Parents++[zi26]).map (Value.int .i64))) :: (.box b1 [.int .i64 0,.slice none 0 0,.slice none 0 0] 27) :: ps) ((sF false Fc ac cc code) :: Γ)) ?_ ?_
  ·skip
   refine c_drawK2 rfl H [3] [0] fun H=>?_
   have S:=H.jR [3] [0]
   refine tF 0 rfl rfl S ?_
   refine rtp 2 (.pointer (some ⟨bs,0,none⟩)) S ?_
   refine tF 3 rfl rfl S ?_
   refine zH [1,4] qh qm (vz rfl ?_ (vz rfl ?_ zI))
   ·skip
    refine zh (.slice zy xU zx) Try.isAgg24 rfl (H.cell 1 rfl rfl) (⟨H.pick [3] [0],(ro 4 rfl (zh (.slice zy xU zx) Try.isAgg24 rfl (H.cell 1 rfl rfl) (⟨H.pick [3] [0],(tN 5 rfl rfl (H.pick [3] [0]) ?_)⟩)))⟩)
    refine ro 6 rfl ?_
    have H1:St W0 w23.drew ((.box bs [.slice ac code.length cc,.int .i64 s_at,.int .u64 s_seed] 95) :: (.box b12 [.int .i64 (1+zi9),.slice zy xU zx,.slice none 0 0] 27) :: (rr zy xU zx 2 1 (y_Parents.map (Value.int .i64))) :: (.box b1 [.int .i64 0,.slice none 0 0,.slice none 0 0] 27) :: ps) ((sF false Fc ac cc code) :: Γ):=H.xC 4 1 [0,1,2,3] [0] qo qo
    have N1:Fresh _ (Ns):=N
    have K1:Kept (Ns) (Γ):=K0.behind 0 rfl
    refine xH #[.pointer (some ⟨bs,0,none⟩),.int .i64 xU] rfl rfl Try.call62 (jG code s_at s_seed bs ac cc Fc xU H1 N1 K1 qg) ?_
    clear H H1 N1 K1
    rintro _ w32 ⟨zi36,zi37,zi38,hx34,hx35,rfl,N,H⟩
    refine ⟨H.pick [3] [0],(ro 7 rfl (vF H Try.underlying24 ti2 [.int .i64 zi38] fun b39 w40 H=>⟨H.pick [4] [0],(ro 8 rfl (vP H 3 rfl 0 rfl Try.underlying24 ti2 rfl qj rfl rfl rfl (by simp [Value.oneCell',Value.cells]) qp qf fun a41 c42 w43 H=>?_))⟩))⟩
    rw [snocI] at H
    try dsimp only [List.set] at H
    refine ⟨H.pick [4] [0],(tF 9 rfl rfl (H.pick [4] [0]) ?_)⟩
    refine ro 10 rfl (zQ H 2 [.int .i64 (1+zi9),.slice a41 (xU+1) c42,.slice none 0 0] Try.sizeOf24 fun w44 H=>?_)
    try dsimp only [List.set] at H
    refine ⟨H.pick [4] [0],(qZ qh ((meet ⟨_,zi36,zi38,zi37,a41,c42,uE4,hx34,hx35,N,H.xC 5 1 [1,2,3,4] [0] qo qo⟩)))⟩
   ·skip
    refine zh (.slice zy xU zx) Try.isAgg24 rfl (H.cell 1 rfl rfl) (⟨H.pick [3] [0],(tN 5 rfl rfl (H.pick [3] [0]) ?_)⟩)
    refine zH [1,6] qh qm (vz rfl ?_ (vz rfl ?_ zI))
    ·skip
     refine zh (.slice zy xU zx) Try.isAgg24 rfl (H.cell 1 rfl rfl) (⟨H.pick [3] [0],(ro 6 rfl ?_)⟩)
     have H1:St W0 w23.drew ((.box bs [.slice ac code.length cc,.int .i64 s_at,.int .u64 s_seed] 95) :: (.box b12 [.int .i64 (1+zi9),.slice zy xU zx,.slice none 0 0] 27) :: (rr zy xU zx 2 1 (y_Parents.map (Value.int .i64))) :: (.box b1 [.int .i64 0,.slice none 0 0,.slice none 0 0] 27) :: ps) ((sF false Fc ac cc code) :: Γ):=H.xC 4 1 [0,1,2,3] [0] qo qo
     have N1:Fresh _ (Ns):=N
     have K1:Kept (Ns) (Γ):=K0.behind 0 rfl
     refine xH #[.pointer (some ⟨bs,0,none⟩),.int .i64 xU] rfl rfl Try.call62 (jG code s_at s_seed bs ac cc Fc xU H1 N1 K1 qg) ?_
     clear H H1 N1 K1
     rintro _ w45 ⟨zi49,zi50,zi51,hx47,hx48,rfl,N,H⟩
     refine ⟨H.pick [3] [0],(ro 7 rfl (vF H Try.underlying24 ti2 [.int .i64 zi51] fun b52 w53 H=>⟨H.pick [4] [0],(ro 8 rfl (vP H 3 rfl 0 rfl Try.underlying24 ti2 rfl qj rfl rfl rfl (by simp [Value.oneCell',Value.cells]) qp qf fun a54 c55 w56 H=>?_))⟩))⟩
     rw [snocI] at H
     try dsimp only [List.set] at H
     refine ⟨H.pick [4] [0],(tF 9 rfl rfl (H.pick [4] [0]) ?_)⟩
     refine ro 10 rfl (zQ H 2 [.int .i64 (1+zi9),.slice a54 (xU+1) c55,.slice none 0 0] Try.sizeOf24 fun w57 H=>?_)
     try dsimp only [List.set] at H
     refine ⟨H.pick [4] [0],(qZ qh ((meet ⟨_,zi49,zi51,zi50,a54,c55,uE4,hx47,hx48,N,H.xC 5 1 [1,2,3,4] [0] qo qo⟩)))⟩
    ·skip
     have H1:St W0 w23.drew ((.box bs [.slice ac code.length cc,.int .i64 s_at,.int .u64 s_seed] 95) :: (.box b12 [.int .i64 (1+zi9),.slice zy xU zx,.slice none 0 0] 27) :: (rr zy xU zx 2 1 (y_Parents.map (Value.int .i64))) :: (.box b1 [.int .i64 0,.slice none 0 0,.slice none 0 0] 27) :: ps) ((sF false Fc ac cc code) :: Γ):=H.xC 4 1 [0,1,2,3] [0] qo qo
     have N1:Fresh _ (Ns):=N
     have K1:Kept (Ns) (Γ):=K0.behind 0 rfl
     refine xH #[.pointer (some ⟨bs,0,none⟩),.int .i64 xU] rfl rfl Try.call62 (jG code s_at s_seed bs ac cc Fc xU H1 N1 K1 qg) ?_
     clear H H1 N1 K1
     rintro _ w58 ⟨zi62,zi63,zi64,hx60,hx61,rfl,N,H⟩
     refine ⟨H.pick [3] [0],(zH [1,7] qh qm (vz rfl ?_ (vz rfl ?_ zI)))⟩
     ·skip
      refine zh (.slice zy xU zx) Try.isAgg24 rfl (H.cell 1 rfl rfl) (⟨H.pick [3] [0],(ro 7 rfl (vF H Try.underlying24 ti2 [.int .i64 zi64] fun b65 w66 H=>⟨H.pick [4] [0],(ro 8 rfl (vP H 3 rfl 0 rfl Try.underlying24 ti2 rfl qj rfl rfl rfl (by simp [Value.oneCell',Value.cells]) qp qf fun a67 c68 w69 H=>?_))⟩))⟩)
      rw [snocI] at H
      try dsimp only [List.set] at H
      refine ⟨H.pick [4] [0],(tF 9 rfl rfl (H.pick [4] [0]) ?_)⟩
      refine ro 10 rfl (zQ H 2 [.int .i64 (1+zi9),.slice a67 (xU+1) c68,.slice none 0 0] Try.sizeOf24 fun w70 H=>?_)
      try dsimp only [List.set] at H
      refine ⟨H.pick [4] [0],(qZ qh ((meet ⟨_,zi62,zi64,zi63,a67,c68,uE4,hx60,hx61,N,H.xC 5 1 [1,2,3,4] [0] qo qo⟩)))⟩
     ·skip
      refine vF H Try.underlying24 ti2 [.int .i64 zi64] fun b71 w72 H=>⟨H.pick [4] [0],(ro 1 rfl (zh (.slice zy xU zx) Try.isAgg24 rfl (H.cell 2 rfl rfl) (⟨H.pick [4] [0],(ro 8 rfl (vP H 3 rfl 0 rfl Try.underlying24 ti2 rfl qj rfl rfl rfl (by simp [Value.oneCell',Value.cells]) qp qf fun a73 c74 w75 H=>?_))⟩)))⟩
      rw [snocI] at H
      try dsimp only [List.set] at H
      refine ⟨H.pick [4] [0],(tF 9 rfl rfl (H.pick [4] [0]) ?_)⟩
      refine ro 10 rfl (zQ H 2 [.int .i64 (1+zi9),.slice a73 (xU+1) c74,.slice none 0 0] Try.sizeOf24 fun w76 H=>?_)
      try dsimp only [List.set] at H
      refine ⟨H.pick [4] [0],(qZ qh ((meet ⟨_,zi62,zi64,zi63,a73,c74,uE4,hx60,hx61,N,H.xC 5 1 [1,2,3,4] [0] qo qo⟩)))⟩
  ·skip
   clear H N
   rintro ρ w77 ⟨zB,zi25,zi26,zi27,a28,c29,rfl,hx78,hx79,N,H⟩
   refine b_n (t_n (zk (sp (.int .i64 c) (sw (o_sub c 1 rfl rfl qf (sp (.int .i64 (c - 1)) (zt (xu (m' :=(c - 1).toNat) qf ⟨_,c - 1,zi25,zi27,a28,xU+1,c29,(y_Parents++[zi26]),uE4,?_,?_,?_,rfl,N,H⟩))))))))
   · omega
   · simp;omega
   · exact i3.snoc (by have:=i3.1;omega)
 ·skip
  refine zx4 (zcc (sp (.pointer (some ⟨bs,0,none⟩)) ?_))
  have H1:St W0 w23 ((.box bs [.slice ac code.length cc,.int .i64 s_at,.int .u64 s_seed] 95) :: (.box b12 [.int .i64 (1+zi9),.slice zy xU zx,.slice none 0 0] 27) :: (rr zy xU zx 2 1 (y_Parents.map (Value.int .i64))) :: (.box b1 [.int .i64 0,.slice none 0 0,.slice none 0 0] 27) :: ps) ((sF false Fc ac cc code) :: Γ):=H.xC 4 1 [0,1,2,3] [0] qo qo
  have N1:Fresh _ (Ns):=N
  have K1:Kept (Ns) (Γ):=K0.behind 0 rfl
  refine sw (xH #[.pointer (some ⟨bs,0,none⟩),.int .i64 6] rfl rfl Try.call62 (jG code s_at s_seed bs ac cc Fc (6:Int) H1 N1 K1 qg) ?_)
  clear H H1 N1 K1
  rintro _ w80 ⟨zi84,zi85,zi86,hx82,hx83,rfl,N,H⟩
  refine sp (.int .i64 zi86) (zjn (xw ?_))
  replace H:=H.nilRow 51 9
  replace H:=H.Qv (α:=jq)
  refine vJ (fun m' ρ w87=>∃ (zB:Env) (k:Int) (s_at_1:Int) (s_seed_1:Int) (Qr:yOA) (jY:Nat) (Qq:Nat) (y_Rules:List jq) (xP:List Value) (xE:yLN),ρ=upd (upd (upd (upd zB 0 (.pointer (some ⟨bs,0,none⟩))) 2 (.pointer (some ⟨b1,0,none⟩))) 3 (.pointer (some ⟨b12,0,none⟩))) 5 (.int .i64 k)∧(ip≤s_at_1∧s_at_1+300 * k≤ip+1600)∧(0≤k∧(y_Rules.length:Int)+k≤5)∧(jC (1+zi9) y_Parents y_Rules)∧m' =k.toNat∧Fresh W0.heap.size (xE :: Ns)∧St W0 w87 ((rr Qr jY Qq 51 9 xP) :: (.box bs [.slice ac code.length cc,.int .i64 s_at_1,.int .u64 s_seed_1] 95) :: (.box b12 [.int .i64 (1+zi9),.slice zy xU zx,.slice Qr jY Qq] 27) :: (rr zy xU zx 2 1 (y_Parents.map (Value.int .i64))) :: (.box b1 [.int .i64 0,.slice none 0 0,.slice none 0 0] 27) :: ps) ((xf true xE xP y_Rules) :: (sF false Fc ac cc code) :: Γ)) (zi86.toNat) ⟨_,zi86,zi84,zi85,none,0,0,([]:List jq),[],[],uE4,qf,(by simp;omega),(by exact jC.nil _ _),rfl,N.emp,H⟩ ?_
  clear H N
  rintro m' ρ w88 ⟨zB,k,s_at_1,s_seed_1,Qr,jY,Qq,y_Rules,xP,xE,rfl,j1,j2,j3,rfl,N,H⟩
  have hn_y_Rules:=H.zi (α:=jq) 0 rfl 0 rfl qj
  refine zcc (sps [.int .i64 k,.bool (decide ((k:Int) > 0))] (zjn (cD rfl (fun h89=>?_) (fun h89=>?_))))
  ·skip
   refine xx (t_n (zn (xw ?_)))
   refine c_cut (fun ρ w121=>∃ (zB:Env) (zi90:Int) (zi91:Int) (zi92:Int) (zl93:yLI) (zl94:yLI) (zl95:yLI) (zl96:yLI) (zl97:yLI) (zI98:List Q8) (zb99:Bool) (zi100:Int) (a101:yOA) (c102:Nat) (ra103:yOA) (rc104:Nat) (ra105:yOA) (rc106:Nat) (ra107:yOA) (rc108:Nat) (ra109:yOA) (rc110:Nat) (ra111:yOA) (rc112:Nat) (ra113:yOA) (rc114:Nat) (G115:yLN) (G116:yLN) (G117:yLN) (G118:yLN) (G119:yLN) (G120:yLN),ρ=upd (upd (upd (upd zB 0 (.pointer (some ⟨bs,0,none⟩))) 2 (.pointer (some ⟨b1,0,none⟩))) 3 (.pointer (some ⟨b12,0,none⟩))) 5 (.int .i64 k)∧(s_at_1≤zi90∧zi90≤s_at_1+300)∧(RuleDr (1+zi9) y_Parents ⟨zi91,zi92,zl93,zl94,zl95,zl96,zl97,zI98,zb99⟩)∧Fresh W0.heap.size ((xE++(G115++G116++G117++G118++G119++G120)) :: Ns)∧St W0 w121 ((.box bs [.slice ac code.length cc,.int .i64 zi90,.int .u64 zi100] 95) :: (.box b12 [.int .i64 (1+zi9),.slice zy xU zx,.slice a101 (jY+1) c102] 27) :: (rr zy xU zx 2 1 (y_Parents.map (Value.int .i64))) :: (rr a101 (jY+1) c102 51 9 (xP++[.int .i64 zi91,.int .i64 zi92,.slice ra103 zl93.length rc104,.slice ra105 zl94.length rc106,.slice ra107 zl95.length rc108,.slice ra109 zl96.length rc110,.slice ra111 zl97.length rc112,.slice ra113 zI98.length rc114,.bool zb99])) :: (.box b1 [.int .i64 0,.slice none 0 0,.slice none 0 0] 27) :: ps) ((xf true (xE++(G115++G116++G117++G118++G119++G120)) (xP++[.int .i64 zi91,.int .i64 zi92,.slice ra103 zl93.length rc104,.slice ra105 zl94.length rc106,.slice ra107 zl95.length rc108,.slice ra109 zl96.length rc110,.slice ra111 zl97.length rc112,.slice ra113 zI98.length rc114,.bool zb99]) (y_Rules++[(⟨zi91,zi92,zl93,zl94,zl95,zl96,zl97,zI98,zb99⟩:jq)])) :: (sF true G120 ra113 rc114 zI98) :: (sF true G119 ra111 rc112 zl97) :: (sF true G118 ra109 rc110 zl96) :: (sF true G117 ra107 rc108 zl95) :: (sF true G116 ra105 rc106 zl94) :: (sF true G115 ra103 rc104 zl93) :: (sF false Fc ac cc code) :: Γ)) ?_ ?_
   ·skip
    refine c_drawK2 rfl H [3,4] [0,1] fun H=>?_
    have S:=H.jR [3,4] [0,1]
    refine tF 0 rfl rfl S ?_
    refine rtp 2 (.pointer (some ⟨bs,0,none⟩)) S ?_
    refine zH [1,3] qh qm (vz rfl ?_ (vz rfl ?_ zI))
    ·skip
     refine zh (.slice Qr jY Qq) Try.isAgg25 rfl (H.cell 2 rfl rfl) (⟨H.pick [3,4] [0,1],(ro 3 rfl ?_)⟩)
     have f0:jE (⟨1+zi9,y_Parents,y_Rules⟩:qy):=frame_of i3 qf qf
     have H1:St W0 w88.drew ((.box bs [.slice ac code.length cc,.int .i64 s_at_1,.int .u64 s_seed_1] 95) :: (.box b12 [.int .i64 (1+zi9),.slice zy xU zx,.slice Qr jY Qq] 27) :: (rr zy xU zx 2 1 (y_Parents.map (Value.int .i64))) :: (rr Qr jY Qq 51 9 xP) :: (.box b1 [.int .i64 0,.slice none 0 0,.slice none 0 0] 27) :: ps) ((sF false Fc ac cc code) :: (xf true xE xP y_Rules) :: Γ):=H.xC 5 2 [1,2,3,0,4] [1,0] qo qo
     have N1:Fresh _ (xE :: Ns):=N
     have K1:Kept (Ns) (Γ):=K0.behind 0 rfl
     refine xH #[.pointer (some ⟨bs,0,none⟩),.pointer (some ⟨b12,0,none⟩)] rfl rfl Try.call63 (dRule_ok code s_at_1 s_seed_1 bs ac cc Fc (1+zi9) y_Parents y_Rules b12 zy xU zx Qr jY Qq xP xE H1 N1 K1 qg qg) ?_
     clear H H1 N1 K1
     rintro _ w123 ⟨zi127,zi128,zi129,zi130,zl131,zl132,zl133,zl134,zl135,zI136,zb137,ra138,rn139,rc140,ra141,rn142,rc143,ra144,rn145,rc146,ra147,rn148,rc149,ra150,rn151,rc152,ra153,rn154,rc155,rx156,rF157,hx125,hx126,rfl,N,H⟩
     obtain rfl:=H.zS 4 rfl
     obtain rfl:=H.zS 5 rfl
     obtain rfl:=H.zS 6 rfl
     obtain rfl:=H.zS 7 rfl
     obtain rfl:=H.zS 8 rfl
     obtain rfl:=H.zi (α:=Q8) 9 rfl 2 rfl qj
     refine ⟨H.pick [2,10] [1,0],(ro 4 rfl (vF H Try.underlying25 ti51 [.int .i64 zi129,.int .i64 zi130,.slice ra138 zl131.length rc140,.slice ra141 zl132.length rc143,.slice ra144 zl133.length rc146,.slice ra147 zl134.length rc149,.slice ra150 zl135.length rc152,.slice ra153 zI136.length rc155,.bool zb137] fun b158 w159 H=>⟨H.pick [3,11] [1,0],(ro 5 rfl ?_)⟩))⟩
     obtain ⟨G163,N,hn164,H⟩:=H.zT 5 rfl N (fun F hF b hb=>(List.mem_append.1 (show F∈[xE,rF157]++Ns from hF)).elim (fun h=>(H.yG (L:=[xE,rF157]) [1,2]) F h b hb) fun h=>H.Xt (K0.behind 3 rfl) F h b hb)
     try dsimp only [List.set] at H
     obtain ⟨G165,N,hn166,H⟩:=H.zT 6 rfl N (fun F hF b hb=>(List.mem_append.1 (show F∈[G163,xE,rF157]++Ns from hF)).elim (fun h=>(H.yG (L:=[G163,xE,rF157]) [0,2,3]) F h b hb) fun h=>H.Xt (K0.behind 4 rfl) F h b hb)
     try dsimp only [List.set] at H
     obtain ⟨G167,N,hn168,H⟩:=H.zT 7 rfl N (fun F hF b hb=>(List.mem_append.1 (show F∈[G165,G163,xE,rF157]++Ns from hF)).elim (fun h=>(H.yG (L:=[G165,G163,xE,rF157]) [0,1,3,4]) F h b hb) fun h=>H.Xt (K0.behind 5 rfl) F h b hb)
     try dsimp only [List.set] at H
     obtain ⟨G169,N,hn170,H⟩:=H.zT 8 rfl N (fun F hF b hb=>(List.mem_append.1 (show F∈[G167,G165,G163,xE,rF157]++Ns from hF)).elim (fun h=>(H.yG (L:=[G167,G165,G163,xE,rF157]) [0,1,2,4,5]) F h b hb) fun h=>H.Xt (K0.behind 6 rfl) F h b hb)
     try dsimp only [List.set] at H
     obtain ⟨G171,N,hn172,H⟩:=H.zT 9 rfl N (fun F hF b hb=>(List.mem_append.1 (show F∈[G169,G167,G165,G163,xE,rF157]++Ns from hF)).elim (fun h=>(H.yG (L:=[G169,G167,G165,G163,xE,rF157]) [0,1,2,3,5,6]) F h b hb) fun h=>H.Xt (K0.behind 7 rfl) F h b hb)
     try dsimp only [List.set] at H
     have H0:=H
     obtain ⟨G173,hg175,hn174,H⟩:=H.freezeR (α:=Q8) 10 rfl 7 rfl qj
     replace N:Fresh W0.heap.size (G173 :: G171 :: G169 :: G167 :: G165 :: G163 :: xE :: Ns):=Fresh.ice (N.xC 7 [6,0,1,2,3,4,5] qo) H0 10 hg175.1 hg175.2 (fun F hF b hb=>(List.mem_append.1 (show F∈[G171,G169,G167,G165,G163,xE]++Ns from hF)).elim (fun h=>(H0.yG (L:=[G171,G169,G167,G165,G163,xE]) [0,1,2,3,4,6]) F h b hb) fun h=>H0.Xt (K0.behind 8 rfl) F h b hb)
     clear H0
     try dsimp only [List.set] at H
     refine vP H 4 rfl 0 rfl Try.underlying25 ti51 rfl qj rfl rfl rfl (by simp [Value.oneCell',Value.cells]) qp qf fun a160 c161 w162 H=>?_
     try dsimp only [List.set] at H
     replace H:=H.snoc_RuleD 7 rfl zi129 zi130 5 rfl 4 rfl 3 rfl 2 rfl 1 rfl 0 rfl zb137
     replace N:Fresh W0.heap.size ((xE++(G163++G165++G167++G169++G171++G173)) :: Ns):=(N.xC 7 [5,4,3,2,1,0,6] qo).join.join.join.join.join.swap.join
     refine ⟨H.pick [3,11] [8,7],(tF 6 rfl rfl (H.pick [3,11] [8,7]) ?_)⟩
     refine ro 7 rfl (zQ H 2 [.int .i64 (1+zi9),.slice zy xU zx,.slice a160 (jY+1) c161] Try.sizeOf25 fun w176 H=>?_)
     try dsimp only [List.set] at H
     refine ⟨H.pick [3,11] [8,7],(qZ qh ((meet ⟨_,zi127,zi129,zi130,zl131,zl132,zl133,zl134,zl135,zI136,zb137,zi128,a160,c161,ra138,rc140,ra141,rc143,ra144,rc146,ra147,rc149,ra150,rc152,ra153,rc155,G163,G165,G167,G169,G171,G173,uE4,hx125,hx126,N,H.xC 12 10 [1,2,3,4,11] [0,1,2,3,4,5,6,7] qo qo⟩)))⟩
    ·skip
     have f0:jE (⟨1+zi9,y_Parents,y_Rules⟩:qy):=frame_of i3 qf qf
     have H1:St W0 w88.drew ((.box bs [.slice ac code.length cc,.int .i64 s_at_1,.int .u64 s_seed_1] 95) :: (.box b12 [.int .i64 (1+zi9),.slice zy xU zx,.slice Qr jY Qq] 27) :: (rr zy xU zx 2 1 (y_Parents.map (Value.int .i64))) :: (rr Qr jY Qq 51 9 xP) :: (.box b1 [.int .i64 0,.slice none 0 0,.slice none 0 0] 27) :: ps) ((sF false Fc ac cc code) :: (xf true xE xP y_Rules) :: Γ):=H.xC 5 2 [1,2,3,0,4] [1,0] qo qo
     have N1:Fresh _ (xE :: Ns):=N
     have K1:Kept (Ns) (Γ):=K0.behind 0 rfl
     refine xH #[.pointer (some ⟨bs,0,none⟩),.pointer (some ⟨b12,0,none⟩)] rfl rfl Try.call63 (dRule_ok code s_at_1 s_seed_1 bs ac cc Fc (1+zi9) y_Parents y_Rules b12 zy xU zx Qr jY Qq xP xE H1 N1 K1 qg qg) ?_
     clear H H1 N1 K1
     rintro _ w177 ⟨zi181,zi182,zi183,zi184,zl185,zl186,zl187,zl188,zl189,zI190,zb191,ra192,rn193,rc194,ra195,rn196,rc197,ra198,rn199,rc200,ra201,rn202,rc203,ra204,rn205,rc206,ra207,rn208,rc209,rx210,rF211,hx179,hx180,rfl,N,H⟩
     obtain rfl:=H.zS 4 rfl
     obtain rfl:=H.zS 5 rfl
     obtain rfl:=H.zS 6 rfl
     obtain rfl:=H.zS 7 rfl
     obtain rfl:=H.zS 8 rfl
     obtain rfl:=H.zi (α:=Q8) 9 rfl 2 rfl qj
     refine ⟨H.pick [2,10] [1,0],(zH [1,4] qh qm (vz rfl ?_ (vz rfl ?_ zI)))⟩
     ·skip
      refine zh (.slice Qr jY Qq) Try.isAgg25 rfl (H.cell 1 rfl rfl) (⟨H.pick [2,10] [1,0],(ro 4 rfl (vF H Try.underlying25 ti51 [.int .i64 zi183,.int .i64 zi184,.slice ra192 zl185.length rc194,.slice ra195 zl186.length rc197,.slice ra198 zl187.length rc200,.slice ra201 zl188.length rc203,.slice ra204 zl189.length rc206,.slice ra207 zI190.length rc209,.bool zb191] fun b212 w213 H=>⟨H.pick [3,11] [1,0],(ro 5 rfl ?_)⟩))⟩)
      obtain ⟨G217,N,hn218,H⟩:=H.zT 5 rfl N (fun F hF b hb=>(List.mem_append.1 (show F∈[xE,rF211]++Ns from hF)).elim (fun h=>(H.yG (L:=[xE,rF211]) [1,2]) F h b hb) fun h=>H.Xt (K0.behind 3 rfl) F h b hb)
      try dsimp only [List.set] at H
      obtain ⟨G219,N,hn220,H⟩:=H.zT 6 rfl N (fun F hF b hb=>(List.mem_append.1 (show F∈[G217,xE,rF211]++Ns from hF)).elim (fun h=>(H.yG (L:=[G217,xE,rF211]) [0,2,3]) F h b hb) fun h=>H.Xt (K0.behind 4 rfl) F h b hb)
      try dsimp only [List.set] at H
      obtain ⟨G221,N,hn222,H⟩:=H.zT 7 rfl N (fun F hF b hb=>(List.mem_append.1 (show F∈[G219,G217,xE,rF211]++Ns from hF)).elim (fun h=>(H.yG (L:=[G219,G217,xE,rF211]) [0,1,3,4]) F h b hb) fun h=>H.Xt (K0.behind 5 rfl) F h b hb)
      try dsimp only [List.set] at H
      obtain ⟨G223,N,hn224,H⟩:=H.zT 8 rfl N (fun F hF b hb=>(List.mem_append.1 (show F∈[G221,G219,G217,xE,rF211]++Ns from hF)).elim (fun h=>(H.yG (L:=[G221,G219,G217,xE,rF211]) [0,1,2,4,5]) F h b hb) fun h=>H.Xt (K0.behind 6 rfl) F h b hb)
      try dsimp only [List.set] at H
      obtain ⟨G225,N,hn226,H⟩:=H.zT 9 rfl N (fun F hF b hb=>(List.mem_append.1 (show F∈[G223,G221,G219,G217,xE,rF211]++Ns from hF)).elim (fun h=>(H.yG (L:=[G223,G221,G219,G217,xE,rF211]) [0,1,2,3,5,6]) F h b hb) fun h=>H.Xt (K0.behind 7 rfl) F h b hb)
      try dsimp only [List.set] at H
      have H0:=H
      obtain ⟨G227,hg229,hn228,H⟩:=H.freezeR (α:=Q8) 10 rfl 7 rfl qj
      replace N:Fresh W0.heap.size (G227 :: G225 :: G223 :: G221 :: G219 :: G217 :: xE :: Ns):=Fresh.ice (N.xC 7 [6,0,1,2,3,4,5] qo) H0 10 hg229.1 hg229.2 (fun F hF b hb=>(List.mem_append.1 (show F∈[G225,G223,G221,G219,G217,xE]++Ns from hF)).elim (fun h=>(H0.yG (L:=[G225,G223,G221,G219,G217,xE]) [0,1,2,3,4,6]) F h b hb) fun h=>H0.Xt (K0.behind 8 rfl) F h b hb)
      clear H0
      try dsimp only [List.set] at H
      refine vP H 4 rfl 0 rfl Try.underlying25 ti51 rfl qj rfl rfl rfl (by simp [Value.oneCell',Value.cells]) qp qf fun a214 c215 w216 H=>?_
      try dsimp only [List.set] at H
      replace H:=H.snoc_RuleD 7 rfl zi183 zi184 5 rfl 4 rfl 3 rfl 2 rfl 1 rfl 0 rfl zb191
      replace N:Fresh W0.heap.size ((xE++(G217++G219++G221++G223++G225++G227)) :: Ns):=(N.xC 7 [5,4,3,2,1,0,6] qo).join.join.join.join.join.swap.join
      refine ⟨H.pick [3,11] [8,7],(tF 6 rfl rfl (H.pick [3,11] [8,7]) ?_)⟩
      refine ro 7 rfl (zQ H 2 [.int .i64 (1+zi9),.slice zy xU zx,.slice a214 (jY+1) c215] Try.sizeOf25 fun w230 H=>?_)
      try dsimp only [List.set] at H
      refine ⟨H.pick [3,11] [8,7],(qZ qh ((meet ⟨_,zi181,zi183,zi184,zl185,zl186,zl187,zl188,zl189,zI190,zb191,zi182,a214,c215,ra192,rc194,ra195,rc197,ra198,rc200,ra201,rc203,ra204,rc206,ra207,rc209,G217,G219,G221,G223,G225,G227,uE4,hx179,hx180,N,H.xC 12 10 [1,2,3,4,11] [0,1,2,3,4,5,6,7] qo qo⟩)))⟩
     ·skip
      refine vF H Try.underlying25 ti51 [.int .i64 zi183,.int .i64 zi184,.slice ra192 zl185.length rc194,.slice ra195 zl186.length rc197,.slice ra198 zl187.length rc200,.slice ra201 zl188.length rc203,.slice ra204 zl189.length rc206,.slice ra207 zI190.length rc209,.bool zb191] fun b231 w232 H=>⟨H.pick [3,11] [1,0],(ro 1 rfl (zh (.slice Qr jY Qq) Try.isAgg25 rfl (H.cell 2 rfl rfl) (⟨H.pick [3,11] [1,0],(ro 5 rfl ?_)⟩)))⟩
      obtain ⟨G236,N,hn237,H⟩:=H.zT 5 rfl N (fun F hF b hb=>(List.mem_append.1 (show F∈[xE,rF211]++Ns from hF)).elim (fun h=>(H.yG (L:=[xE,rF211]) [1,2]) F h b hb) fun h=>H.Xt (K0.behind 3 rfl) F h b hb)
      try dsimp only [List.set] at H
      obtain ⟨G238,N,hn239,H⟩:=H.zT 6 rfl N (fun F hF b hb=>(List.mem_append.1 (show F∈[G236,xE,rF211]++Ns from hF)).elim (fun h=>(H.yG (L:=[G236,xE,rF211]) [0,2,3]) F h b hb) fun h=>H.Xt (K0.behind 4 rfl) F h b hb)
      try dsimp only [List.set] at H
      obtain ⟨G240,N,hn241,H⟩:=H.zT 7 rfl N (fun F hF b hb=>(List.mem_append.1 (show F∈[G238,G236,xE,rF211]++Ns from hF)).elim (fun h=>(H.yG (L:=[G238,G236,xE,rF211]) [0,1,3,4]) F h b hb) fun h=>H.Xt (K0.behind 5 rfl) F h b hb)
      try dsimp only [List.set] at H
      obtain ⟨G242,N,hn243,H⟩:=H.zT 8 rfl N (fun F hF b hb=>(List.mem_append.1 (show F∈[G240,G238,G236,xE,rF211]++Ns from hF)).elim (fun h=>(H.yG (L:=[G240,G238,G236,xE,rF211]) [0,1,2,4,5]) F h b hb) fun h=>H.Xt (K0.behind 6 rfl) F h b hb)
      try dsimp only [List.set] at H
      obtain ⟨G244,N,hn245,H⟩:=H.zT 9 rfl N (fun F hF b hb=>(List.mem_append.1 (show F∈[G242,G240,G238,G236,xE,rF211]++Ns from hF)).elim (fun h=>(H.yG (L:=[G242,G240,G238,G236,xE,rF211]) [0,1,2,3,5,6]) F h b hb) fun h=>H.Xt (K0.behind 7 rfl) F h b hb)
      try dsimp only [List.set] at H
      have H0:=H
      obtain ⟨G246,hg248,hn247,H⟩:=H.freezeR (α:=Q8) 10 rfl 7 rfl qj
      replace N:Fresh W0.heap.size (G246 :: G244 :: G242 :: G240 :: G238 :: G236 :: xE :: Ns):=Fresh.ice (N.xC 7 [6,0,1,2,3,4,5] qo) H0 10 hg248.1 hg248.2 (fun F hF b hb=>(List.mem_append.1 (show F∈[G244,G242,G240,G238,G236,xE]++Ns from hF)).elim (fun h=>(H0.yG (L:=[G244,G242,G240,G238,G236,xE]) [0,1,2,3,4,6]) F h b hb) fun h=>H0.Xt (K0.behind 8 rfl) F h b hb)
      clear H0
      try dsimp only [List.set] at H
      refine vP H 4 rfl 0 rfl Try.underlying25 ti51 rfl qj rfl rfl rfl (by simp [Value.oneCell',Value.cells]) qp qf fun a233 c234 w235 H=>?_
      try dsimp only [List.set] at H
      replace H:=H.snoc_RuleD 7 rfl zi183 zi184 5 rfl 4 rfl 3 rfl 2 rfl 1 rfl 0 rfl zb191
      replace N:Fresh W0.heap.size ((xE++(G236++G238++G240++G242++G244++G246)) :: Ns):=(N.xC 7 [5,4,3,2,1,0,6] qo).join.join.join.join.join.swap.join
      refine ⟨H.pick [3,11] [8,7],(tF 6 rfl rfl (H.pick [3,11] [8,7]) ?_)⟩
      refine ro 7 rfl (zQ H 2 [.int .i64 (1+zi9),.slice zy xU zx,.slice a233 (jY+1) c234] Try.sizeOf25 fun w249 H=>?_)
      try dsimp only [List.set] at H
      refine ⟨H.pick [3,11] [8,7],(qZ qh ((meet ⟨_,zi181,zi183,zi184,zl185,zl186,zl187,zl188,zl189,zI190,zb191,zi182,a233,c234,ra192,rc194,ra195,rc197,ra198,rc200,ra201,rc203,ra204,rc206,ra207,rc209,G236,G238,G240,G242,G244,G246,uE4,hx179,hx180,N,H.xC 12 10 [1,2,3,4,11] [0,1,2,3,4,5,6,7] qo qo⟩)))⟩
   ·skip
    clear H N
    rintro ρ w250 ⟨zB,zi90,zi91,zi92,zl93,zl94,zl95,zl96,zl97,zI98,zb99,zi100,a101,c102,ra103,rc104,ra105,rc106,ra107,rc108,ra109,rc110,ra111,rc112,ra113,rc114,G115,G116,G117,G118,G119,G120,rfl,hx251,hx252,N,H⟩
    refine b_n (t_n (zk (sp (.int .i64 k) (sw (o_sub k 1 rfl rfl qf (sp (.int .i64 (k - 1)) (zt ?_)))))))
    refine xu (m' :=(k - 1).toNat) qf ⟨_,k - 1,zi90,zi100,a101,jY+1,c102,(y_Rules++[(⟨zi91,zi92,zl93,zl94,zl95,zl96,zl97,zI98,zb99⟩:jq)]),(xP++[Value.int .i64 zi91,Value.int .i64 zi92,Value.slice ra103 zl93.length rc104,Value.slice ra105 zl94.length rc106,Value.slice ra107 zl95.length rc108,Value.slice ra109 zl96.length rc110,Value.slice ra111 zl97.length rc112,Value.slice ra113 zI98.length rc114,Value.bool zb99]:List Value),(xE++(G115++G116++G117++G118++G119++G120)),uE4,?_,?_,?_,rfl,N,H.xC 5 8 [3,0,1,2,4] [0,7] qo qo⟩
    · omega
    · simp;omega
    · exact j3.snoc ql
  ·skip
   refine zx4 (zcr (sw (zu [.int .i64 (1+zi9),.slice zy xU zx,.slice Qr jY Qq] Try.isAgg27 Try.sizeOf27 rfl (qH (H.cells 2 rfl) 0 3) (sw (qQ H 4 [.int .i64 (1+zi9),.slice zy xU zx,.slice Qr jY Qq] Try.sizeOf27 fun w253 H=>?_)))))
   try dsimp only [List.set] at H
   refine zjr (retC H 4 rfl rfl Try.isAgg27 Try.sizeOf27 rfl ⟨_,rfl,(⟨s_at_1,s_seed_1,1+zi9,y_Parents,y_Rules,zy,xU,zx,Qr,jY,Qq,xP,xE,qf,(by exact sysDr_of i3 qf qf qf j3),rfl,N,H.xC 5 2 [1,3,0] [1,0] qo qo⟩)⟩)

theorem dState_ok {W0 w:World} {ps:List Prv} {Γ:List Fact} {Ns:List yLN} (code:List UInt8) (ip:Int) (sd:Int) (bs:Nat) (ac:yOA) (cc:Nat) (Fc:yLN) (kk:Int) (par:yLI) (rules:List jq) (bY:Nat) (rap:yOA) (rnp:Nat) (rcp:Nat) (raR:yOA) (rnR:Nat) (rcR:Nat) (rxR:List Value) (rFR:yLN) (frR:Bool) (most:Int) (H:St W0 w ((.box bs [.slice ac code.length cc,.int .i64 ip,.int .u64 sd] 95) :: (.box bY [.int .i64 kk,.slice rap rnp rcp,.slice raR rnR rcR] 27) :: (rr rap rnp rcp 2 1 (par.map (Value.int .i64))) :: (rr raR rnR rcR 51 9 rxR) :: ps) ((sF false Fc ac cc code) :: (xf frR rFR rxR rules) :: Γ)) (N:Fresh W0.heap.size (Ns)) (K0:Kept Ns Γ) (q0:0≤ip∧ip≤40000) (f0:jE (⟨kk,par,rules⟩:qy)) (q2:1≤most∧most≤6):Calls Try.prog 28 #[.pointer (some ⟨bs,0,none⟩),.pointer (some ⟨bY,0,none⟩),.int .i64 most] w (fun e w' =>∃ v,e=.returned v∧∃ (ip_:Int) (sd_:Int) (alive_:List Bool) (bags_:yLL) (around_:yLI) (raA:yOA) (rnA:Nat) (rcA:Nat) (raB:yOA) (rnB:Nat) (rcB:Nat) (rxB:List Value) (rFB:yLN) (raD:yOA) (rnD:Nat) (rcD:Nat),(ip≤ip_∧ip_≤ip+200)∧(StDr kk par.length most alive_ bags_ around_)∧v=.agg #[.slice raA rnA rcA,.slice raB rnB rcB,.slice raD rnD rcD]∧Fresh W0.heap.size (rFB :: Ns)∧St W0 w' ((.box bs [.slice ac code.length cc,.int .i64 ip_,.int .u64 sd_] 95) :: (.box bY [.int .i64 kk,.slice rap rnp rcp,.slice raR rnR rcR] 27) :: (rr rap rnp rcp 2 1 (par.map (Value.int .i64))) :: (rr raR rnR rcR 51 9 rxR) :: (rr raA rnA rcA 4 1 (alive_.map (Value.bool))) :: (rr raB rnB rcB 24 1 rxB) :: (rr raD rnD rcD 2 1 (around_.map (Value.int .i64))) :: ps) ((sF false Fc ac cc code) :: (xf frR rFR rxR rules) :: (xf true rFB rxB bags_) :: Γ)):=by
 refine en Try.func28 Try.ntmps28 ?_
 have ncode:=qP (H.get 0 rfl).1
 obtain rfl:=H.zS 2 rfl
 obtain rfl:=H.zi (α:=jq) 3 rfl 1 rfl qj
 have f1:1≤kk∧kk≤8:=f0.1
 have f2:1≤par.length∧par.length≤6:=f0.2.1
 refine zcr (sw (xq H ti31 [.slice none 0 0,.slice none 0 0,.slice none 0 0] fun b1 w2 H=>zjc (sps [.pointer (some ⟨bY,0,none⟩),.pointer (some ⟨bY,0,none⟩)] (oF rfl (oL rfl (H.cell 2 rfl rfl) (sw (x8 H Try.underlying24 ti2 kk.toNat rfl rfl qf qf qf fun b3 w4 H=>sw (xJ [.slice none 0 0,.slice none 0 0,.slice (some ⟨b3,0,none⟩) kk.toNat kk.toNat] [(2,.slice (some ⟨b3,0,none⟩) kk.toNat kk.toNat)] (sw (xq H ti31 [.slice none 0 0,.slice none 0 0,.slice none 0 0] fun b5 w6 H=>?_))))))))))
 refine sw (qQ H 0 [.slice none 0 0,.slice none 0 0,.slice (some ⟨b3,0,none⟩) kk.toNat kk.toNat] Try.sizeOf31 fun w7 H=>?_)
 try dsimp only [List.set] at H
 refine zjcc (sp (.int .i64 0) (zjn (xw ?_)))
 replace H:=H.nilRowB 4
 replace H:=H.nilRow 24 1
 replace H:=H.Qv (α:=yLI)
 refine vJ (fun m' ρ w8=>∃ (zB:Env) (c:Nat) (s_at:Int) (s_seed:Int) (yA:yOA) (jd:Nat) (yz:Nat) (t_Alive:List Bool) (yU:yOA) (jF:Nat) (yP:Nat) (t_Bags:yLL) (yL:List Value) (vW:yLN),ρ=upd (upd (upd (upd (upd (upd zB 0 (.pointer (some ⟨bs,0,none⟩))) 1 (.pointer (some ⟨bY,0,none⟩))) 2 (.int .i64 most)) 6 (.pointer (some ⟨b1,0,none⟩))) 7 (.pointer (some ⟨b5,0,none⟩))) 8 (.int .i64 c)∧((c:Int)≤par.length)∧(ip≤s_at∧s_at≤ip+22 * c)∧(StTo kk most c t_Alive t_Bags)∧m' =(par.length - (c:Int)).toNat∧Fresh W0.heap.size (vW :: Ns)∧St W0 w8 ((rr yU jF yP 24 1 yL) :: (rr yA jd yz 4 1 (t_Alive.map (Value.bool))) :: (.box b5 [.slice yA jd yz,.slice yU jF yP,.slice (some ⟨b3,0,none⟩) kk.toNat kk.toNat] 31) :: (rr (some ⟨b3,0,none⟩) kk.toNat kk.toNat 2 1 ((List.replicate kk.toNat (0:Int)).map (Value.int .i64))) :: (.box b1 [.slice none 0 0,.slice none 0 0,.slice none 0 0] 31) :: (.box bs [.slice ac code.length cc,.int .i64 s_at,.int .u64 s_seed] 95) :: (.box bY [.int .i64 kk,.slice rap par.length rcp,.slice raR rules.length rcR] 27) :: (rr rap par.length rcp 2 1 (par.map (Value.int .i64))) :: (rr raR rules.length rcR 51 9 rxR) :: ps) ((xf true vW yL t_Bags) :: (sF false Fc ac cc code) :: (xf frR rFR rxR rules) :: Γ)) ((par.length - (0:Int)).toNat) ⟨_,0,ip,sd,none,0,0,[],none,0,0,([]:yLL),[],[],uE6,qf,qf,(by exact StTo.nil _ _),rfl,N.emp,H⟩ ?_
 clear H N
 rintro m' ρ w9 ⟨zB,c,s_at,s_seed,yA,jd,yz,t_Alive,yU,jF,yP,t_Bags,yL,vW,rfl,i0,i1,i2,rfl,N,H⟩
 have hn_t_Alive:=H.Q7 1 rfl
 have hn_t_Bags:=H.zi (α:=yLI) 0 rfl 0 rfl qj
 have i3:=i2.la
 have i4:=i2.lb
 refine zcc (sps [.int .i64 c,.pointer (some ⟨bY,0,none⟩),.pointer (some ⟨bY,0,none⟩)] (oF rfl (oL rfl (H.cell 6 rfl rfl) (oN rfl (sp (.bool (decide ((c:Int) < par.length))) (zjn (cD rfl (fun h10=>?_) (fun h10=>?_))))))))
 ·skip
  refine xx (t_n (zn (xw (zcr (sps [.int .i64 c,.bool ((c:Int) == 0),.bool ((c:Int) == 0)] ?_)))))
  cases h11:((c:Int) == 0)
  ·skip
   replace h11:=ne_of_beq_false h11
   refine qK 28 rfl rfl (sp (.pointer (some ⟨bs,0,none⟩)) (qK 28 rfl rfl ?_))
   have H1:St W0 w9 ((.box bs [.slice ac code.length cc,.int .i64 s_at,.int .u64 s_seed] 95) :: (rr yU jF yP 24 1 yL) :: (rr yA jd yz 4 1 (t_Alive.map (Value.bool))) :: (.box b5 [.slice yA jd yz,.slice yU jF yP,.slice (some ⟨b3,0,none⟩) kk.toNat kk.toNat] 31) :: (rr (some ⟨b3,0,none⟩) kk.toNat kk.toNat 2 1 ((List.replicate kk.toNat (0:Int)).map (Value.int .i64))) :: (.box b1 [.slice none 0 0,.slice none 0 0,.slice none 0 0] 31) :: (.box bY [.int .i64 kk,.slice rap par.length rcp,.slice raR rules.length rcR] 27) :: (rr rap par.length rcp 2 1 (par.map (Value.int .i64))) :: (rr raR rules.length rcR 51 9 rxR) :: ps) ((sF false Fc ac cc code) :: (xf true vW yL t_Bags) :: (xf frR rFR rxR rules) :: Γ):=H.xC 9 3 [5,0,1,2,3,4,6,7,8] [1,0,2] qo qo
   have N1:Fresh _ (vW :: Ns):=N
   have K1:Kept (Ns) ((xf true vW yL t_Bags) :: (xf frR rFR rxR rules) :: Γ):=K0.behind 2 rfl
   replace K1:=K1.cons (F:=vW) 0 rfl rfl
   refine sw (xH #[.pointer (some ⟨bs,0,none⟩),.int .i64 8] rfl rfl Try.call64 (dOne_ok code s_at s_seed bs ac cc Fc (8:Int) H1 N1 K1 qg) ?_)
   clear H H1 N1 K1
   rintro _ w12 ⟨zi15,zi16,zb17,hx14,rfl,N,H⟩
   refine qK 28 rfl rfl (sps [.bool !zb17,.bool !zb17,.bool !zb17] (zjc (sps [.pointer (some ⟨bY,0,none⟩),.pointer (some ⟨bY,0,none⟩)] (oF rfl (oL rfl (H.cell 6 rfl rfl) (sw (x8 H Try.underlying24 ti2 kk.toNat rfl rfl qf qf qf fun b18 w19 H=>sp (.slice (some ⟨b18,0,none⟩) kk.toNat kk.toNat) (zjcc (sp (.bool !zb17) (zjn (xW (!zb17) rfl (fun h20=>?_) (fun h20=>?_))))))))))))
   ·skip
    replace h20:=xB h20
    refine zk (sps [.pointer (some ⟨bs,0,none⟩),.pointer (some ⟨bY,0,none⟩),.pointer (some ⟨bY,0,none⟩)] (oF rfl (oL rfl (H.cell 7 rfl rfl) (sp (.int .i64 most) ?_))))
    have H1:St W0 w19 ((.box bs [.slice ac code.length cc,.int .i64 zi15,.int .u64 zi16] 95) :: (rr (some ⟨b18,0,none⟩) kk.toNat kk.toNat 2 1 ((List.replicate kk.toNat (0:Int)).map (Value.int .i64))) :: (rr yU jF yP 24 1 yL) :: (rr yA jd yz 4 1 (t_Alive.map (Value.bool))) :: (.box b5 [.slice yA jd yz,.slice yU jF yP,.slice (some ⟨b3,0,none⟩) kk.toNat kk.toNat] 31) :: (rr (some ⟨b3,0,none⟩) kk.toNat kk.toNat 2 1 ((List.replicate kk.toNat (0:Int)).map (Value.int .i64))) :: (.box b1 [.slice none 0 0,.slice none 0 0,.slice none 0 0] 31) :: (.box bY [.int .i64 kk,.slice rap par.length rcp,.slice raR rules.length rcR] 27) :: (rr rap par.length rcp 2 1 (par.map (Value.int .i64))) :: (rr raR rules.length rcR 51 9 rxR) :: ps) ((sF false Fc ac cc code) :: (xf true vW yL t_Bags) :: (xf frR rFR rxR rules) :: Γ):=H.xC 10 3 [1,0,2,3,4,5,6,7,8,9] [0,1,2] qo qo
    have N1:Fresh _ (vW :: Ns):=N
    have K1:Kept (Ns) ((xf true vW yL t_Bags) :: (xf frR rFR rxR rules) :: Γ):=K0.behind 2 rfl
    replace K1:=K1.cons (F:=vW) 0 rfl rfl
    refine sw (xH #[.pointer (some ⟨bs,0,none⟩),.int .i64 kk,.int .i64 most] rfl rfl Try.call65 (dFew_ok code zi15 zi16 bs ac cc Fc kk most H1 N1 K1 qg qg qg) ?_)
    clear H H1 N1 K1
    rintro _ w21 ⟨zi25,zi26,zl27,ra28,rn29,rc30,hx23,hx24,rfl,N,H⟩
    obtain rfl:=H.zS 1 rfl
    refine sp (.slice ra28 zl27.length rc30) (zjc (oF rfl (oL rfl (H.cell 5 rfl rfl) (sp (.bool !zb17) (sw (vF H Try.underlying28 ti4 [.bool !zb17] fun b31 w32 H=>sw (vP H 5 rfl 0 rfl Try.underlying28 ti4 rfl qj rfl rfl rfl (by simp [Value.oneCell',Value.cells]) qp qf fun a33 c34 w35 H=>?_)))))))
    rw [snocB] at H
    try dsimp only [List.set] at H
    refine oF rfl (sw (zQ H 6 [.slice a33 (jd+1) c34,.slice yU jF yP,.slice (some ⟨b3,0,none⟩) kk.toNat kk.toNat] Try.sizeOf28 fun w36 H=>?_))
    try dsimp only [List.set] at H
    refine zjn (zk (oF rfl (oL rfl (H.cell 6 rfl rfl) (sp (.slice ra28 zl27.length rc30) (sw (vF H Try.underlying29 ti24 [.slice ra28 zl27.length rc30] fun b37 w38 H=>?_))))))
    obtain ⟨G42,N,hn43,H⟩:=H.zT 3 rfl N (fun F hF b hb=>(List.mem_append.1 (show F∈[vW]++Ns from hF)).elim (fun h=>(H.yG (L:=[vW]) [1]) F h b hb) fun h=>H.Xt (K0.behind 3 rfl) F h b hb)
    try dsimp only [List.set] at H
    refine sw (vP H 5 rfl 0 rfl Try.underlying29 ti24 rfl qj rfl rfl rfl (by simp [Value.oneCell',Value.cells]) qp qf fun a39 c40 w41 H=>?_)
    try dsimp only [List.set] at H
    replace H:=H.Q5 2 rfl 0 rfl
    replace N:Fresh W0.heap.size ((vW++G42) :: Ns):=(N.xC 2 [1,0] qo).join
    refine oF rfl (sw (zQ H 7 [.slice a33 (jd+1) c34,.slice a39 (jF+1) c40,.slice (some ⟨b3,0,none⟩) kk.toNat kk.toNat] Try.sizeOf29 fun w44 H=>?_))
    try dsimp only [List.set] at H
    refine zt (b_n (t_n (zk (sp (.int .i64 c) (sw (zX c 1 rfl rfl qf (sp (.int .i64 (c+1)) (zt (xu (m' :=(par.length - ((c+1):Int)).toNat) qf ⟨_,c+1,zi25,zi26,a33,jd+1,c34,(t_Alive++[!zb17]),a39,jF+1,c40,(t_Bags++[zl27]),(yL++[Value.slice ra28 zl27.length rc30]:List Value),(vW++G42),uE6,?_,?_,?_,rfl,N,H.xC 13 5 [5,6,7,8,9,2,10,11,12] [0,2,4] qo qo⟩)))))))))
    · omega
    · omega
    · first | exact i2.snoc (fun _=>rfl) ql (fun h=>by cases h) | exact i2.snoc (fun h=>by omega) ql (fun h=>by simp_all) | exact i2.snoc (fun h=>by omega) (zV.zero qf qf) (fun _=>sum_zeros _)
   ·skip
    replace h20:=xm h20
    refine xx (t_n (zcr (oF rfl (oL rfl (H.cell 4 rfl rfl) (sp (.bool !zb17) (sw (vF H Try.underlying28 ti4 [.bool !zb17] fun b45 w46 H=>sw (vP H 4 rfl 0 rfl Try.underlying28 ti4 rfl qj rfl rfl rfl (by simp [Value.oneCell',Value.cells]) qp qf fun a47 c48 w49 H=>?_))))))))
    rw [snocB] at H
    try dsimp only [List.set] at H
    refine oF rfl (sw (zQ H 5 [.slice a47 (jd+1) c48,.slice yU jF yP,.slice (some ⟨b3,0,none⟩) kk.toNat kk.toNat] Try.sizeOf28 fun w50 H=>?_))
    try dsimp only [List.set] at H
    refine zjn (zk (oF rfl (oL rfl (H.cell 5 rfl rfl) (sp (.slice (some ⟨b18,0,none⟩) kk.toNat kk.toNat) (sw (vF H Try.underlying29 ti24 [.slice (some ⟨b18,0,none⟩) kk.toNat kk.toNat] fun b51 w52 H=>?_))))))
    obtain ⟨G56,N,hn57,H⟩:=H.zT 2 rfl N (fun F hF b hb=>(List.mem_append.1 (show F∈[vW]++Ns from hF)).elim (fun h=>(H.yG (L:=[vW]) [1]) F h b hb) fun h=>H.Xt (K0.behind 3 rfl) F h b hb)
    try dsimp only [List.set] at H
    refine sw (vP H 4 rfl 0 rfl Try.underlying29 ti24 rfl qj rfl rfl rfl (by simp [Value.oneCell',Value.cells]) qp qf fun a53 c54 w55 H=>?_)
    try dsimp only [List.set] at H
    replace H:=H.Q5 2 rfl 0 rfl
    replace N:Fresh W0.heap.size ((vW++G56) :: Ns):=(N.xC 2 [1,0] qo).join
    refine oF rfl (sw (zQ H 6 [.slice a47 (jd+1) c48,.slice a53 (jF+1) c54,.slice (some ⟨b3,0,none⟩) kk.toNat kk.toNat] Try.sizeOf29 fun w58 H=>?_))
    try dsimp only [List.set] at H
    refine zt (b_n (t_n (zk (sp (.int .i64 c) (sw (zX c 1 rfl rfl qf (sp (.int .i64 (c+1)) (zt (xu (m' :=(par.length - ((c+1):Int)).toNat) qf ⟨_,c+1,zi15,zi16,a47,jd+1,c48,(t_Alive++[!zb17]),a53,jF+1,c54,(t_Bags++[(List.replicate kk.toNat (0:Int))]),(yL++[Value.slice (some ⟨b18,0,none⟩) kk.toNat kk.toNat]:List Value),(vW++G56),uE6,?_,?_,?_,rfl,N,H.xC 12 5 [4,5,6,7,8,3,9,10,11] [0,2,4] qo qo⟩)))))))))
    · omega
    · omega
    · first | exact i2.snoc (fun _=>rfl) ql (fun h=>by cases h) | exact i2.snoc (fun h=>by omega) ql (fun h=>by simp_all) | exact i2.snoc (fun h=>by omega) (zV.zero qf qf) (fun _=>sum_zeros _)
  ·skip
   replace h11:=eq_of_beq h11
   refine xK [29,30,31] (sps [.bool true,.bool true] (zjc (sps [.pointer (some ⟨bY,0,none⟩),.pointer (some ⟨bY,0,none⟩)] (oF rfl (oL rfl (H.cell 6 rfl rfl) (sw (x8 H Try.underlying24 ti2 kk.toNat rfl rfl qf qf qf fun b59 w60 H=>sp (.slice (some ⟨b59,0,none⟩) kk.toNat kk.toNat) (zjcc (sp (.bool true) (zjn (xW true rfl (fun _=>zk (sps [.pointer (some ⟨bs,0,none⟩),.pointer (some ⟨bY,0,none⟩),.pointer (some ⟨bY,0,none⟩)] (oF rfl (oL rfl (H.cell 7 rfl rfl) (sp (.int .i64 most) ?_))))) (fun h=>absurd h qj))))))))))))
   have H1:St W0 w60 ((.box bs [.slice ac code.length cc,.int .i64 s_at,.int .u64 s_seed] 95) :: (rr (some ⟨b59,0,none⟩) kk.toNat kk.toNat 2 1 ((List.replicate kk.toNat (0:Int)).map (Value.int .i64))) :: (rr yU jF yP 24 1 yL) :: (rr yA jd yz 4 1 (t_Alive.map (Value.bool))) :: (.box b5 [.slice yA jd yz,.slice yU jF yP,.slice (some ⟨b3,0,none⟩) kk.toNat kk.toNat] 31) :: (rr (some ⟨b3,0,none⟩) kk.toNat kk.toNat 2 1 ((List.replicate kk.toNat (0:Int)).map (Value.int .i64))) :: (.box b1 [.slice none 0 0,.slice none 0 0,.slice none 0 0] 31) :: (.box bY [.int .i64 kk,.slice rap par.length rcp,.slice raR rules.length rcR] 27) :: (rr rap par.length rcp 2 1 (par.map (Value.int .i64))) :: (rr raR rules.length rcR 51 9 rxR) :: ps) ((sF false Fc ac cc code) :: (xf true vW yL t_Bags) :: (xf frR rFR rxR rules) :: Γ):=H.xC 10 3 [6,0,1,2,3,4,5,7,8,9] [1,0,2] qo qo
   have N1:Fresh _ (vW :: Ns):=N
   have K1:Kept (Ns) ((xf true vW yL t_Bags) :: (xf frR rFR rxR rules) :: Γ):=K0.behind 2 rfl
   replace K1:=K1.cons (F:=vW) 0 rfl rfl
   refine sw (xH #[.pointer (some ⟨bs,0,none⟩),.int .i64 kk,.int .i64 most] rfl rfl Try.call65 (dFew_ok code s_at s_seed bs ac cc Fc kk most H1 N1 K1 qg qg qg) ?_)
   clear H H1 N1 K1
   rintro _ w61 ⟨zi65,zi66,zl67,ra68,rn69,rc70,hx63,hx64,rfl,N,H⟩
   obtain rfl:=H.zS 1 rfl
   refine sp (.slice ra68 zl67.length rc70) (zjc (oF rfl (oL rfl (H.cell 5 rfl rfl) (sp (.bool true) (sw (vF H Try.underlying28 ti4 [.bool true] fun b71 w72 H=>sw (vP H 5 rfl 0 rfl Try.underlying28 ti4 rfl qj rfl rfl rfl (by simp [Value.oneCell',Value.cells]) qp qf fun a73 c74 w75 H=>?_)))))))
   rw [snocB] at H
   try dsimp only [List.set] at H
   refine oF rfl (sw (zQ H 6 [.slice a73 (jd+1) c74,.slice yU jF yP,.slice (some ⟨b3,0,none⟩) kk.toNat kk.toNat] Try.sizeOf28 fun w76 H=>?_))
   try dsimp only [List.set] at H
   refine zjn (zk (oF rfl (oL rfl (H.cell 6 rfl rfl) (sp (.slice ra68 zl67.length rc70) (sw (vF H Try.underlying29 ti24 [.slice ra68 zl67.length rc70] fun b77 w78 H=>?_))))))
   obtain ⟨G82,N,hn83,H⟩:=H.zT 3 rfl N (fun F hF b hb=>(List.mem_append.1 (show F∈[vW]++Ns from hF)).elim (fun h=>(H.yG (L:=[vW]) [1]) F h b hb) fun h=>H.Xt (K0.behind 3 rfl) F h b hb)
   try dsimp only [List.set] at H
   refine sw (vP H 5 rfl 0 rfl Try.underlying29 ti24 rfl qj rfl rfl rfl (by simp [Value.oneCell',Value.cells]) qp qf fun a79 c80 w81 H=>?_)
   try dsimp only [List.set] at H
   replace H:=H.Q5 2 rfl 0 rfl
   replace N:Fresh W0.heap.size ((vW++G82) :: Ns):=(N.xC 2 [1,0] qo).join
   refine oF rfl (sw (zQ H 7 [.slice a73 (jd+1) c74,.slice a79 (jF+1) c80,.slice (some ⟨b3,0,none⟩) kk.toNat kk.toNat] Try.sizeOf29 fun w84 H=>?_))
   try dsimp only [List.set] at H
   refine zt (b_n (t_n (zk (sp (.int .i64 c) (sw (zX c 1 rfl rfl qf (sp (.int .i64 (c+1)) (zt (xu (m' :=(par.length - ((c+1):Int)).toNat) qf ⟨_,c+1,zi65,zi66,a73,jd+1,c74,(t_Alive++[true]),a79,jF+1,c80,(t_Bags++[zl67]),(yL++[Value.slice ra68 zl67.length rc70]:List Value),(vW++G82),uE6,?_,?_,?_,rfl,N,H.xC 13 5 [5,6,7,8,9,2,10,11,12] [0,2,4] qo qo⟩)))))))))
   · omega
   · omega
   · first | exact i2.snoc (fun _=>rfl) ql (fun h=>by cases h) | exact i2.snoc (fun h=>by omega) ql (fun h=>by simp_all) | exact i2.snoc (fun h=>by omega) (zV.zero qf qf) (fun _=>sum_zeros _)
 ·skip
  refine zx4 (zcc (sp (.pointer (some ⟨bs,0,none⟩)) ?_))
  have H1:St W0 w9 ((.box bs [.slice ac code.length cc,.int .i64 s_at,.int .u64 s_seed] 95) :: (rr yU jF yP 24 1 yL) :: (rr yA jd yz 4 1 (t_Alive.map (Value.bool))) :: (.box b5 [.slice yA jd yz,.slice yU jF yP,.slice (some ⟨b3,0,none⟩) kk.toNat kk.toNat] 31) :: (rr (some ⟨b3,0,none⟩) kk.toNat kk.toNat 2 1 ((List.replicate kk.toNat (0:Int)).map (Value.int .i64))) :: (.box b1 [.slice none 0 0,.slice none 0 0,.slice none 0 0] 31) :: (.box bY [.int .i64 kk,.slice rap par.length rcp,.slice raR rules.length rcR] 27) :: (rr rap par.length rcp 2 1 (par.map (Value.int .i64))) :: (rr raR rules.length rcR 51 9 rxR) :: ps) ((sF false Fc ac cc code) :: (xf true vW yL t_Bags) :: (xf frR rFR rxR rules) :: Γ):=H.xC 9 3 [5,0,1,2,3,4,6,7,8] [1,0,2] qo qo
  have N1:Fresh _ (vW :: Ns):=N
  have K1:Kept (Ns) ((xf true vW yL t_Bags) :: (xf frR rFR rxR rules) :: Γ):=K0.behind 2 rfl
  replace K1:=K1.cons (F:=vW) 0 rfl rfl
  refine sw (xH #[.pointer (some ⟨bs,0,none⟩),.int .i64 3] rfl rfl Try.call64 (dOne_ok code s_at s_seed bs ac cc Fc (3:Int) H1 N1 K1 qg) ?_)
  clear H H1 N1 K1
  rintro _ w85 ⟨zi88,zi89,zb90,hx87,rfl,N,H⟩
  refine zjn (xW (zb90) rfl (fun h91=>?_) (fun h91=>?_))
  ·skip
   refine zk (sps [.pointer (some ⟨bs,0,none⟩),.pointer (some ⟨bY,0,none⟩),.pointer (some ⟨bY,0,none⟩)] (oF rfl (oL rfl (H.cell 6 rfl rfl) ?_)))
   have H1:St W0 w85 ((.box bs [.slice ac code.length cc,.int .i64 zi88,.int .u64 zi89] 95) :: (rr yU jF yP 24 1 yL) :: (rr yA jd yz 4 1 (t_Alive.map (Value.bool))) :: (.box b5 [.slice yA jd yz,.slice yU jF yP,.slice (some ⟨b3,0,none⟩) kk.toNat kk.toNat] 31) :: (rr (some ⟨b3,0,none⟩) kk.toNat kk.toNat 2 1 ((List.replicate kk.toNat (0:Int)).map (Value.int .i64))) :: (.box b1 [.slice none 0 0,.slice none 0 0,.slice none 0 0] 31) :: (.box bY [.int .i64 kk,.slice rap par.length rcp,.slice raR rules.length rcR] 27) :: (rr rap par.length rcp 2 1 (par.map (Value.int .i64))) :: (rr raR rules.length rcR 51 9 rxR) :: ps) ((sF false Fc ac cc code) :: (xf true vW yL t_Bags) :: (xf frR rFR rxR rules) :: Γ):=H.xC 9 3 [0,1,2,3,4,5,6,7,8] [0,1,2] qo qo
   have N1:Fresh _ (vW :: Ns):=N
   have K1:Kept (Ns) ((xf true vW yL t_Bags) :: (xf frR rFR rxR rules) :: Γ):=K0.behind 2 rfl
   replace K1:=K1.cons (F:=vW) 0 rfl rfl
   refine sw (xH #[.pointer (some ⟨bs,0,none⟩),.int .i64 kk,.int .i64 2] rfl rfl Try.call65 (dFew_ok code zi88 zi89 bs ac cc Fc kk (2:Int) H1 N1 K1 qg qg qg) ?_)
   clear H H1 N1 K1
   rintro _ w92 ⟨zi96,zi97,zl98,ra99,rn100,rc101,hx94,hx95,rfl,N,H⟩
   obtain rfl:=H.zS 1 rfl
   refine oF rfl (sw (zQ H 4 [.slice yA jd yz,.slice yU jF yP,.slice ra99 zl98.length rc101] Try.sizeOf24 fun w102 H=>?_))
   try dsimp only [List.set] at H
   refine zjc (sw (zu [.slice yA jd yz,.slice yU jF yP,.slice ra99 zl98.length rc101] Try.isAgg31 Try.sizeOf31 rfl (qH (H.cells 4 rfl) 0 3) (sw (qQ H 6 [.slice yA jd yz,.slice yU jF yP,.slice ra99 zl98.length rc101] Try.sizeOf31 fun w103 H=>?_))))
   try dsimp only [List.set] at H
   refine zjr (retC H 6 rfl rfl Try.isAgg31 Try.sizeOf31 rfl ⟨_,rfl,?_⟩)
   obtain rfl:c=par.length:=by omega
   exact ⟨zi96,zi97,t_Alive,t_Bags,zl98,yA,jd,yz,yU,jF,yP,yL,vW,ra99,zl98.length,rc101,qf,(by first | exact ⟨i2.la,i2.lb,i2.skin qf,by assumption,i2.bags⟩ | exact ⟨i2.la,i2.lb,i2.skin qf,zV.zero qf qf,i2.bags⟩),rfl,N,H.xC 10 3 [0,7,8,9,3,2,1] [0,2,1] qo qo⟩
  ·skip
   refine xx (t_n (zcr (sw (zu [.slice yA jd yz,.slice yU jF yP,.slice (some ⟨b3,0,none⟩) kk.toNat kk.toNat] Try.isAgg31 Try.sizeOf31 rfl (qH (H.cells 3 rfl) 0 3) (sw (qQ H 5 [.slice yA jd yz,.slice yU jF yP,.slice (some ⟨b3,0,none⟩) kk.toNat kk.toNat] Try.sizeOf31 fun w104 H=>?_))))))
   try dsimp only [List.set] at H
   refine zjr (retC H 5 rfl rfl Try.isAgg31 Try.sizeOf31 rfl ⟨_,rfl,?_⟩)
   obtain rfl:c=par.length:=by omega
   exact ⟨zi88,zi89,t_Alive,t_Bags,(List.replicate kk.toNat (0:Int)),yA,jd,yz,yU,jF,yP,yL,vW,(some ⟨b3,0,none⟩),kk.toNat,kk.toNat,qf,(by first | exact ⟨i2.la,i2.lb,i2.skin qf,by assumption,i2.bags⟩ | exact ⟨i2.la,i2.lb,i2.skin qf,zV.zero qf qf,i2.bags⟩),rfl,N,H.xC 9 3 [0,6,7,8,2,1,4] [0,2,1] qo qo⟩
theorem dShrink_ok {W0 w:World} {ps:List Prv} {Γ:List Fact} {Ns:List yLN} (code:List UInt8) (ip:Int) (sd:Int) (bs:Nat) (ac:yOA) (cc:Nat) (Fc:yLN) (H:St W0 w ((.box bs [.slice ac code.length cc,.int .i64 ip,.int .u64 sd] 95) :: ps) ((sF false Fc ac cc code) :: Γ)) (N:Fresh W0.heap.size (Ns)) (K0:Kept Ns Γ) (q0:0≤ip∧ip≤30000):Calls Try.prog 52 #[.pointer (some ⟨bs,0,none⟩)] w (fun e w' =>∃ v,e=.returned v∧∃ (ip_:Int) (sd_:Int) (kk_:Int) (par_:yLI) (rules_:List jq) (alive_:List Bool) (bags_:yLL) (around_:yLI) (raq:yOA) (rnq:Nat) (rcq:Nat) (raS:yOA) (rnS:Nat) (rcS:Nat) (rxS:List Value) (rFS:yLN) (raA:yOA) (rnA:Nat) (rcA:Nat) (raB:yOA) (rnB:Nat) (rcB:Nat) (rxB:List Value) (rFB:yLN) (raD:yOA) (rnD:Nat) (rcD:Nat),(ip≤ip_∧ip_≤ip+5000)∧(SysDr kk_ par_ rules_)∧(StDr kk_ par_.length 4 alive_ bags_ around_)∧v=.tuple #[.agg #[.int .i64 kk_,.slice raq rnq rcq,.slice raS rnS rcS],.agg #[.slice raA rnA rcA,.slice raB rnB rcB,.slice raD rnD rcD]]∧Fresh W0.heap.size (rFB :: Ns)∧St W0 w' ((.box bs [.slice ac code.length cc,.int .i64 ip_,.int .u64 sd_] 95) :: (rr raq rnq rcq 2 1 (par_.map (Value.int .i64))) :: (rr raS rnS rcS 51 9 rxS) :: (rr raA rnA rcA 4 1 (alive_.map (Value.bool))) :: (rr raB rnB rcB 24 1 rxB) :: (rr raD rnD rcD 2 1 (around_.map (Value.int .i64))) :: ps) ((sF false Fc ac cc code) :: (xf false rFS rxS rules_) :: (xf true rFB rxB bags_) :: Γ)):=by
 refine en Try.func52 Try.ntmps52 ?_
 have ncode:=qP (H.get 0 rfl).1
 refine zcr (sw (xq H ti27 [.int .i64 0,.slice none 0 0,.slice none 0 0] fun b1 w2 H=>sw (xq H ti31 [.slice none 0 0,.slice none 0 0,.slice none 0 0] fun b3 w4 H=>zjc (sp (.pointer (some ⟨bs,0,none⟩)) ?_))))
 have H1:St W0 w4 ((.box bs [.slice ac code.length cc,.int .i64 ip,.int .u64 sd] 95) :: (.box b3 [.slice none 0 0,.slice none 0 0,.slice none 0 0] 31) :: (.box b1 [.int .i64 0,.slice none 0 0,.slice none 0 0] 27) :: ps) ((sF false Fc ac cc code) :: Γ):=H.xC 3 1 [2,0,1] [0] qo qo
 have N1:Fresh _ (Ns):=N
 have K1:Kept (Ns) (Γ):=K0.behind 0 rfl
 refine sw (xH #[.pointer (some ⟨bs,0,none⟩)] rfl rfl Try.call27 (dSystem_ok code ip sd bs ac cc Fc H1 N1 K1 qg) ?_)
 clear H H1 N1 K1
 rintro _ w5 ⟨zi9,zi10,zi11,zl12,zR13,ra14,rn15,rc16,ra17,rn18,rc19,rx20,rF21,hx7,hx8,rfl,N,H⟩
 obtain rfl:=H.zS 1 rfl
 obtain rfl:=H.zi (α:=jq) 2 rfl 1 rfl qj
 have k1:=(‹SysDr _ _ _›).kinds
 have k3:=(‹SysDr _ _ _›).few
 have k4:=(‹SysDr _ _ _›).rules
 refine sw (xq H ti27 [.int .i64 0,.slice none 0 0,.slice none 0 0] fun b22 w23 H=>sw (qQ H 0 [.int .i64 zi11,.slice ra14 zl12.length rc16,.slice ra17 zR13.length rc19] Try.sizeOf27 fun w24 H=>?_))
 try dsimp only [List.set] at H
 refine zjcc (sp (.int .i64 0) (zjn (xw ?_)))
 replace H:=H.unfree 1 rfl
 refine vJ (fun m' ρ w25=>∃ (zB:Env) (i:Nat) (s_at:Int) (s_seed:Int) (y_Rules:List jq) (xP:List Value) (xE:yLN),ρ=upd (upd (upd (upd (upd zB 0 (.pointer (some ⟨bs,0,none⟩))) 2 (.pointer (some ⟨b1,0,none⟩))) 3 (.pointer (some ⟨b3,0,none⟩))) 4 (.pointer (some ⟨b22,0,none⟩))) 5 (.int .i64 i)∧((i:Int)≤zR13.length)∧(ip≤s_at∧s_at≤ip+2000+100 * i)∧(y_Rules.length≤5∧jC zi11 zl12 y_Rules)∧m' =(zR13.length - (i:Int)).toNat∧Fresh W0.heap.size (Ns)∧St W0 w25 ((.box b22 [.int .i64 zi11,.slice ra14 zl12.length rc16,.slice ra17 zR13.length rc19] 27) :: (.box bs [.slice ac code.length cc,.int .i64 s_at,.int .u64 s_seed] 95) :: (rr ra14 zl12.length rc16 2 1 (zl12.map (Value.int .i64))) :: (rr ra17 zR13.length rc19 51 9 xP) :: (.box b3 [.slice none 0 0,.slice none 0 0,.slice none 0 0] 31) :: (.box b1 [.int .i64 0,.slice none 0 0,.slice none 0 0] 27) :: ps) ((sF false Fc ac cc code) :: (xf false xE xP y_Rules) :: Γ)) ((zR13.length - (0:Int)).toNat) ⟨_,0,zi9,zi10,zR13,rx20,rF21,uE5,qf,qf,(by exact ⟨by omega,k4⟩),rfl,(N.xC 1 [] qo),H.xC 6 3 [0,1,2,3,4,5] [1,0] qo qo⟩ ?_
 clear H N
 rintro m' ρ w26 ⟨zB,i,s_at,s_seed,y_Rules,xP,xE,rfl,i0,j1,j2,rfl,N,H⟩
 have hn_y_Rules:=H.zi (α:=jq) 3 rfl 1 rfl qj
 refine zcc (sp (.int .i64 i) (oF rfl (oL rfl (H.cell 0 rfl rfl) (oN rfl (sp (.bool (decide ((i:Int) < zR13.length))) (zjn (cD rfl (fun h27=>?_) (fun h27=>?_))))))))
 ·skip
  refine xx (t_n (zn (xw (zcr (oF rfl (oL rfl (H.cell 0 rfl rfl) (sp (.int .i64 i) ?_)))))))
  obtain ⟨b28,rfl⟩:=H.QP 3 rfl qf
  obtain ⟨yD,jv,y9,jB,jy,Qc,jA,jw,Qa,ae29Here,ce29Here,Fe29Here,y5,yZ,QI,jI,jH,Qb,hx30,H⟩:=H.rowel_RuleD 3 rfl 1 rfl (iv:=i) i qf qf
  refine oI rfl rfl (sp (.pointer (some ⟨b28,0+(i:Int).toNat * 9,none⟩)) (zjcc (sp (.pointer (some ⟨bs,0,none⟩)) ?_)))
  have H1:St W0 w26 ((.box bs [.slice ac code.length cc,.int .i64 s_at,.int .u64 s_seed] 95) :: (.box b22 [.int .i64 zi11,.slice ra14 zl12.length rc16,.slice (some ⟨b28,0,none⟩) zR13.length rc19] 27) :: (rr ra14 zl12.length rc16 2 1 (zl12.map (Value.int .i64))) :: (rr (some ⟨b28,0,none⟩) zR13.length rc19 51 9 xP) :: (.box b3 [.slice none 0 0,.slice none 0 0,.slice none 0 0] 31) :: (.box b1 [.int .i64 0,.slice none 0 0,.slice none 0 0] 27) :: ps) ((sF false Fc ac cc code) :: (sF false y9 yD jv ((y_Rules[i]!).xy)) :: (sF false Qc jB jy ((y_Rules[i]!).xZ)) :: (sF false Qa jA jw ((y_Rules[i]!).xY)) :: (sF false Fe29Here ae29Here ce29Here ((y_Rules[i]!).x9)) :: (sF false QI y5 yZ ((y_Rules[i]!).ja)) :: (sF false Qb jI jH ((y_Rules[i]!).qM)) :: (xf false xE xP y_Rules) :: Γ):=H.xC 6 8 [1,0,2,3,4,5] [6,0,1,2,3,4,5,7] qo qo
  have N1:Fresh _ (Ns):=N
  have K1:Kept (Ns) ((sF false y9 yD jv ((y_Rules[i]!).xy)) :: (sF false Qc jB jy ((y_Rules[i]!).xZ)) :: (sF false Qa jA jw ((y_Rules[i]!).xY)) :: (sF false Fe29Here ae29Here ce29Here ((y_Rules[i]!).x9)) :: (sF false QI y5 yZ ((y_Rules[i]!).ja)) :: (sF false Qb jI jH ((y_Rules[i]!).qM)) :: (xf false xE xP y_Rules) :: Γ):=K0.behind 7 rfl
  refine sw (xH #[.pointer (some ⟨bs,0,none⟩),.int .i64 8] rfl rfl Try.call64 (dOne_ok code s_at s_seed bs ac cc Fc (8:Int) H1 N1 K1 qg) ?_)
  clear H H1 N1 K1
  rintro _ w31 ⟨zi34,zi35,zb36,hx33,rfl,N,H⟩
  refine zjn (xW (zb36) rfl (fun h37=>?_) (fun h37=>?_))
  ·skip
   refine c_exit (t_x (b_x (t_n (zk (sp (.int .i64 i) (sw (zX i 1 rfl rfl qf (sp (.int .i64 (i+1)) (zt (xu (m' :=(zR13.length - ((i+1):Int)).toNat) qf ⟨_,i+1,zi34,zi35,y_Rules,xP,xE,uE5,?_,?_,?_,rfl,N,H.xC 6 8 [1,0,2,3,4,5] [0,7] qo qo⟩))))))))))
   · omega
   · omega
   · exact ⟨by (try simp only [List.length_set]);omega,by have q2:=j2.2;(repeat' (first | assumption | exact k2.1 | exact zV.zero qf qf | (simp only [List.length_set];omega) | omega | apply jC.here | apply jC.out | apply jC.into))⟩
  ·skip
   refine xx (t_n (zcr (sp (.pointer (some ⟨b28,0+(i:Int).toNat * 9,none⟩)) (oF rfl (oL rfl (H.cell 1 rfl rfl) (sw (x8 H Try.underlying24 ti2 zi11.toNat rfl rfl qf qf qf fun b38 w39 H=>sp (.pointer (some ⟨b28,0+(i:Int).toNat * 9,none⟩)) (oF rfl (sw (o_storePart H 4 rfl (.slice (some ⟨b38,0,none⟩) zi11.toNat zi11.toNat) Try.sizeOf24 rfl rfl rfl (part_lt (hx30 5 _ rfl)) fun w40 H=>?_))))))))))
   have hx41:=part_get (cells:=[.int .i64 ((y_Rules[i]!).qE),.int .i64 ((y_Rules[i]!).vC),.slice yD (((y_Rules[i]!).xy).length) jv,.slice jB (((y_Rules[i]!).xZ).length) jy,.slice jA (((y_Rules[i]!).xY).length) jw,.slice ae29Here (((y_Rules[i]!).x9).length) ce29Here,.slice y5 (((y_Rules[i]!).ja).length) yZ,.slice jI (((y_Rules[i]!).qM).length) jH,.bool ((y_Rules[i]!).zW)]) hx30 5 (.slice (some ⟨b38,0,none⟩) zi11.toNat zi11.toNat) (Nat.le_of_ble_eq_true rfl)
   replace hx41:∀ (q:Nat) (v:Value),([.int .i64 ((y_Rules[i]!).qE),.int .i64 ((y_Rules[i]!).vC),.slice yD (((y_Rules[i]!).xy).length) jv,.slice jB (((y_Rules[i]!).xZ).length) jy,.slice jA (((y_Rules[i]!).xY).length) jw,.slice (some ⟨b38,0,none⟩) zi11.toNat zi11.toNat,.slice y5 (((y_Rules[i]!).ja).length) yZ,.slice jI (((y_Rules[i]!).qM).length) jH,.bool ((y_Rules[i]!).zW)]:List Value)[q]? =some v→(xP.set (0+(i:Int).toNat * 9+5) (.slice (some ⟨b38,0,none⟩) zi11.toNat zi11.toNat))[0+(i:Int).toNat * 9+q]? =some v:=hx41
   try dsimp only [List.set] at H
   refine zjcc (sp (.int .i64 1) (zjn (xw ?_)))
   have k7:=(j2.2 i qf).need.1.len qf
   refine vJ (fun m' ρ w42=>∃ (zB:Env) (k:Nat) (s_at_1:Int) (s_seed_1:Int) (r18:yLI),ρ=upd (upd (upd (upd (upd (upd (upd zB 0 (.pointer (some ⟨bs,0,none⟩))) 2 (.pointer (some ⟨b1,0,none⟩))) 3 (.pointer (some ⟨b3,0,none⟩))) 4 (.pointer (some ⟨b22,0,none⟩))) 5 (.int .i64 i)) 6 (.pointer (some ⟨b28,0+(i:Int).toNat * 9,none⟩))) 7 (.int .i64 k)∧((k:Int)≤zi11)∧(ip≤s_at_1∧s_at_1≤ip+2002+100 * i+4 * k)∧(HereTo zi11 k r18)∧(1≤(k:Int))∧m' =(zi11 - (k:Int)).toNat∧Fresh W0.heap.size (Ns)∧St W0 w42 ((rr (some ⟨b38,0,none⟩) zi11.toNat zi11.toNat 2 1 (r18.map (Value.int .i64))) :: (.box bs [.slice ac code.length cc,.int .i64 s_at_1,.int .u64 s_seed_1] 95) :: (.box b22 [.int .i64 zi11,.slice ra14 zl12.length rc16,.slice (some ⟨b28,0,none⟩) zR13.length rc19] 27) :: (rr ra14 zl12.length rc16 2 1 (zl12.map (Value.int .i64))) :: (rr (some ⟨b28,0,none⟩) zR13.length rc19 51 9 (xP.set (0+(i:Int).toNat * 9+5) (.slice (some ⟨b38,0,none⟩) zi11.toNat zi11.toNat))) :: (.box b3 [.slice none 0 0,.slice none 0 0,.slice none 0 0] 31) :: (.box b1 [.int .i64 0,.slice none 0 0,.slice none 0 0] 27) :: ps) ((sF false Fc ac cc code) :: (sF false y9 yD jv ((y_Rules[i]!).xy)) :: (sF false Qc jB jy ((y_Rules[i]!).xZ)) :: (sF false Qa jA jw ((y_Rules[i]!).xY)) :: (sF false QI y5 yZ ((y_Rules[i]!).ja)) :: (sF false Qb jI jH ((y_Rules[i]!).qM)) :: (xf false xE xP y_Rules) :: Γ)) ((zi11 - (1:Int)).toNat) ⟨_,1,zi34,zi35,(List.replicate zi11.toNat (0:Int)),uE7,qf,qf,(by exact HereTo.zero qf),qf,rfl,N,H.xC 7 8 [0,1,2,3,4,5,6] [0,1,2,3,5,6,7] qo qo⟩ ?_
   clear H N
   rintro m' ρ w43 ⟨zB,k,s_at_1,s_seed_1,r18,rfl,i0,k0,k2,k6,rfl,N,H⟩
   have hn_r18:=H.zS 0 rfl
   refine zcc (sp (.int .i64 k) (oF rfl (oL rfl (H.cell 2 rfl rfl) (sp (.bool (decide ((k:Int) < zi11))) (zjn (cD rfl (fun h44=>?_) (fun h44=>?_)))))))
   ·skip
    refine xx (t_n (zn (xw (zcr (sps [.pointer (some ⟨b28,0+(i:Int).toNat * 9,none⟩),.pointer (some ⟨b28,0+(i:Int).toNat * 9,none⟩)] (oF rfl (oL rfl (H.rowGet 4 rfl (hx41 2 _ rfl)) (sp (.int .i64 k) ?_))))))))
    obtain ⟨b45,o46,rfl⟩:=H.addr 1 rfl qf
    refine oI rfl rfl (oL rfl (H.yE 1 rfl k qf qf) (sps [.bool (decide ((((y_Rules[i]!).xy)[k]! :Int) > 0)),.bool (decide ((((y_Rules[i]!).xy)[k]! :Int) > 0))] ?_))
    cases h48:(decide ((((y_Rules[i]!).xy)[k]! :Int) > 0))
    ·skip
     replace h48:=of_decide_eq_false h48
     refine xK [44,45] (sp (.bool false) (zjn (xW false rfl (fun h=>absurd h qj) (fun _=>xx (b_n (t_n (zk (sp (.int .i64 k) (sw (zX k 1 rfl rfl qf (sp (.int .i64 (k+1)) (zt (xu (m' :=(zi11 - ((k+1):Int)).toNat) qf ⟨_,k+1,s_at_1,s_seed_1,r18,uE7,?_,?_,?_,?_,rfl,N,H⟩)))))))))))))
     · omega
     · omega
     · first | exact k2.go | exact k2.put qf qf qf
     · omega
    ·skip
     replace h48:=of_decide_eq_true h48
     refine qK 43 rfl rfl (sp (.pointer (some ⟨bs,0,none⟩)) (qK 43 rfl rfl ?_))
     have H1:St W0 w43 ((.box bs [.slice ac code.length cc,.int .i64 s_at_1,.int .u64 s_seed_1] 95) :: (rr (some ⟨b38,0,none⟩) zi11.toNat zi11.toNat 2 1 (r18.map (Value.int .i64))) :: (.box b22 [.int .i64 zi11,.slice ra14 zl12.length rc16,.slice (some ⟨b28,0,none⟩) zR13.length rc19] 27) :: (rr ra14 zl12.length rc16 2 1 (zl12.map (Value.int .i64))) :: (rr (some ⟨b28,0,none⟩) zR13.length rc19 51 9 (xP.set (0+(i:Int).toNat * 9+5) (.slice (some ⟨b38,0,none⟩) zi11.toNat zi11.toNat))) :: (.box b3 [.slice none 0 0,.slice none 0 0,.slice none 0 0] 31) :: (.box b1 [.int .i64 0,.slice none 0 0,.slice none 0 0] 27) :: ps) ((sF false Fc ac cc code) :: (sF false y9 (some ⟨b45,o46,none⟩) jv ((y_Rules[i]!).xy)) :: (sF false Qc jB jy ((y_Rules[i]!).xZ)) :: (sF false Qa jA jw ((y_Rules[i]!).xY)) :: (sF false QI y5 yZ ((y_Rules[i]!).ja)) :: (sF false Qb jI jH ((y_Rules[i]!).qM)) :: (xf false xE xP y_Rules) :: Γ):=H.xC 7 7 [1,0,2,3,4,5,6] [0,1,2,3,4,5,6] qo qo
     have N1:Fresh _ (Ns):=N
     have K1:Kept (Ns) ((sF false y9 (some ⟨b45,o46,none⟩) jv ((y_Rules[i]!).xy)) :: (sF false Qc jB jy ((y_Rules[i]!).xZ)) :: (sF false Qa jA jw ((y_Rules[i]!).xY)) :: (sF false QI y5 yZ ((y_Rules[i]!).ja)) :: (sF false Qb jI jH ((y_Rules[i]!).qM)) :: (xf false xE xP y_Rules) :: Γ):=K0.behind 6 rfl
     refine sw (xH #[.pointer (some ⟨bs,0,none⟩),.int .i64 2] rfl rfl Try.call64 (dOne_ok code s_at_1 s_seed_1 bs ac cc Fc (2:Int) H1 N1 K1 qg) ?_)
     clear H H1 N1 K1
     rintro _ w49 ⟨zi52,zi53,zb54,hx51,rfl,N,H⟩
     refine sp (.bool zb54) (zjn (xW (zb54) rfl (fun h55=>?_) (fun h55=>?_)))
     ·skip
      refine c_cut (fun ρ w59=>∃ (zB:Env) (zi56:Int) (zi57:Int) (zi58:Int),ρ=upd (upd (upd (upd (upd (upd (upd (upd (upd zB 0 (.pointer (some ⟨bs,0,none⟩))) 2 (.pointer (some ⟨b1,0,none⟩))) 3 (.pointer (some ⟨b3,0,none⟩))) 4 (.pointer (some ⟨b22,0,none⟩))) 5 (.int .i64 i)) 6 (.pointer (some ⟨b28,0+(i:Int).toNat * 9,none⟩))) 7 (.int .i64 k)) 44 (.pointer (some ⟨bs,0,none⟩))) 45 (.bool zb54)∧(zi52≤zi56∧zi56≤zi52+2)∧(0≤zi57∧(zi57 < (3:Int)∨zi57=0))∧Fresh W0.heap.size (Ns)∧St W0 w59 ((.box bs [.slice ac code.length cc,.int .i64 zi56,.int .u64 zi58] 95) :: (rr (some ⟨b38,0,none⟩) zi11.toNat zi11.toNat 2 1 ((r18.set ((k - 1:Int).toNat) ((r18[(k - 1:Int).toNat]!)+zi57)).map (Value.int .i64))) :: (.box b22 [.int .i64 zi11,.slice ra14 zl12.length rc16,.slice (some ⟨b28,0,none⟩) zR13.length rc19] 27) :: (rr ra14 zl12.length rc16 2 1 (zl12.map (Value.int .i64))) :: (rr (some ⟨b28,0,none⟩) zR13.length rc19 51 9 (xP.set (0+(i:Int).toNat * 9+5) (.slice (some ⟨b38,0,none⟩) zi11.toNat zi11.toNat))) :: (.box b3 [.slice none 0 0,.slice none 0 0,.slice none 0 0] 31) :: (.box b1 [.int .i64 0,.slice none 0 0,.slice none 0 0] 27) :: ps) ((sF false Fc ac cc code) :: (sF false y9 (some ⟨b45,o46,none⟩) jv ((y_Rules[i]!).xy)) :: (sF false Qc jB jy ((y_Rules[i]!).xZ)) :: (sF false Qa jA jw ((y_Rules[i]!).xY)) :: (sF false QI y5 yZ ((y_Rules[i]!).ja)) :: (sF false Qb jI jH ((y_Rules[i]!).qM)) :: (xf false xE xP y_Rules) :: Γ)) ?_ ?_
      ·skip
       refine c_drawK2 rfl H [2,3,4,5,6] [0,1,2,3,4,5,6] fun H=>?_
       have S:=H.jR [2,3,4,5,6] [0,1,2,3,4,5,6]
       refine rtp 0 (.pointer (some ⟨b28,0+(i:Int).toNat * 9,none⟩)) S ?_
       refine rtp 1 (.pointer (some ⟨b28,0+(i:Int).toNat * 9,none⟩)) S ?_
       refine tF 2 rfl rfl S ?_
       refine tL 3 rfl rfl (fun _ h=>h.rowGet 2 rfl (hx41 5 _ rfl)) S ?_
       refine rtp 4 (.int .i64 k) S ?_
       refine rt 5 (.int .i64 (k - 1)) (y_sub k 1 rfl rfl qf) S ?_
       refine tI 6 rfl rfl rfl S ?_
       refine rtp 8 (.pointer (some ⟨bs,0,none⟩)) S ?_
       refine zH [7,9] qh qm (vz rfl ?_ (vz rfl ?_ zI))
       ·skip
        refine zh (.int .i64 (r18[(k - 1:Int).toNat]!)) Try.isAgg2 rfl (H.rowInt 1 rfl (iv:=k - 1) (i:=((k - 1:Int).toNat)) qf qf) (⟨H.pick [2,3,4,5,6] [0,1,2,3,4,5,6],(ro 9 rfl ?_)⟩)
        have H1:St W0 w49.drew ((.box bs [.slice ac code.length cc,.int .i64 zi52,.int .u64 zi53] 95) :: (rr (some ⟨b38,0,none⟩) zi11.toNat zi11.toNat 2 1 (r18.map (Value.int .i64))) :: (.box b22 [.int .i64 zi11,.slice ra14 zl12.length rc16,.slice (some ⟨b28,0,none⟩) zR13.length rc19] 27) :: (rr ra14 zl12.length rc16 2 1 (zl12.map (Value.int .i64))) :: (rr (some ⟨b28,0,none⟩) zR13.length rc19 51 9 (xP.set (0+(i:Int).toNat * 9+5) (.slice (some ⟨b38,0,none⟩) zi11.toNat zi11.toNat))) :: (.box b3 [.slice none 0 0,.slice none 0 0,.slice none 0 0] 31) :: (.box b1 [.int .i64 0,.slice none 0 0,.slice none 0 0] 27) :: ps) ((sF false Fc ac cc code) :: (sF false y9 (some ⟨b45,o46,none⟩) jv ((y_Rules[i]!).xy)) :: (sF false Qc jB jy ((y_Rules[i]!).xZ)) :: (sF false Qa jA jw ((y_Rules[i]!).xY)) :: (sF false QI y5 yZ ((y_Rules[i]!).ja)) :: (sF false Qb jI jH ((y_Rules[i]!).qM)) :: (xf false xE xP y_Rules) :: Γ):=H.xC 7 7 [0,1,2,3,4,5,6] [0,1,2,3,4,5,6] qo qo
        have N1:Fresh _ (Ns):=N
        have K1:Kept (Ns) ((sF false y9 (some ⟨b45,o46,none⟩) jv ((y_Rules[i]!).xy)) :: (sF false Qc jB jy ((y_Rules[i]!).xZ)) :: (sF false Qa jA jw ((y_Rules[i]!).xY)) :: (sF false QI y5 yZ ((y_Rules[i]!).ja)) :: (sF false Qb jI jH ((y_Rules[i]!).qM)) :: (xf false xE xP y_Rules) :: Γ):=K0.behind 6 rfl
        refine xH #[.pointer (some ⟨bs,0,none⟩),.int .i64 3] rfl rfl Try.call62 (jG code zi52 zi53 bs ac cc Fc (3:Int) H1 N1 K1 qg) ?_
        clear H H1 N1 K1
        rintro _ w61 ⟨zi65,zi66,zi67,hx63,hx64,rfl,N,H⟩
        have k5:=k2.2 (k - 1:Int).toNat qf qf
        refine ⟨H.pick [2,3,4,5,6] [0,1,2,3,4,5,6],?_⟩
        have S:=H.jR [2,3,4,5,6] [0,1,2,3,4,5,6]
        refine rt 10 (.int .i64 ((r18[(k - 1:Int).toNat]!)+zi67)) (y_add (r18[(k - 1:Int).toNat]!) zi67 rfl rfl qf) S ?_
        refine tI 11 rfl rfl rfl S ?_
        refine ro 12 rfl (o_storeInt H 1 rfl ((r18[(k - 1:Int).toNat]!)+zi67) Try.sizeOf2 rfl rfl (i:=((k - 1:Int).toNat)) qf qf fun w68 H=>?_)
        try dsimp only [List.set] at H
        refine ⟨H.pick [2,3,4,5,6] [0,1,2,3,4,5,6],(qZ qh ((meet ⟨_,zi65,zi67,zi66,uE9,hx63,hx64,N,H⟩)))⟩
       ·skip
        have H1:St W0 w49.drew ((.box bs [.slice ac code.length cc,.int .i64 zi52,.int .u64 zi53] 95) :: (rr (some ⟨b38,0,none⟩) zi11.toNat zi11.toNat 2 1 (r18.map (Value.int .i64))) :: (.box b22 [.int .i64 zi11,.slice ra14 zl12.length rc16,.slice (some ⟨b28,0,none⟩) zR13.length rc19] 27) :: (rr ra14 zl12.length rc16 2 1 (zl12.map (Value.int .i64))) :: (rr (some ⟨b28,0,none⟩) zR13.length rc19 51 9 (xP.set (0+(i:Int).toNat * 9+5) (.slice (some ⟨b38,0,none⟩) zi11.toNat zi11.toNat))) :: (.box b3 [.slice none 0 0,.slice none 0 0,.slice none 0 0] 31) :: (.box b1 [.int .i64 0,.slice none 0 0,.slice none 0 0] 27) :: ps) ((sF false Fc ac cc code) :: (sF false y9 (some ⟨b45,o46,none⟩) jv ((y_Rules[i]!).xy)) :: (sF false Qc jB jy ((y_Rules[i]!).xZ)) :: (sF false Qa jA jw ((y_Rules[i]!).xY)) :: (sF false QI y5 yZ ((y_Rules[i]!).ja)) :: (sF false Qb jI jH ((y_Rules[i]!).qM)) :: (xf false xE xP y_Rules) :: Γ):=H.xC 7 7 [0,1,2,3,4,5,6] [0,1,2,3,4,5,6] qo qo
        have N1:Fresh _ (Ns):=N
        have K1:Kept (Ns) ((sF false y9 (some ⟨b45,o46,none⟩) jv ((y_Rules[i]!).xy)) :: (sF false Qc jB jy ((y_Rules[i]!).xZ)) :: (sF false Qa jA jw ((y_Rules[i]!).xY)) :: (sF false QI y5 yZ ((y_Rules[i]!).ja)) :: (sF false Qb jI jH ((y_Rules[i]!).qM)) :: (xf false xE xP y_Rules) :: Γ):=K0.behind 6 rfl
        refine xH #[.pointer (some ⟨bs,0,none⟩),.int .i64 3] rfl rfl Try.call62 (jG code zi52 zi53 bs ac cc Fc (3:Int) H1 N1 K1 qg) ?_
        clear H H1 N1 K1
        rintro _ w69 ⟨zi73,zi74,zi75,hx71,hx72,rfl,N,H⟩
        have k5:=k2.2 (k - 1:Int).toNat qf qf
        refine ⟨H.pick [2,3,4,5,6] [0,1,2,3,4,5,6],(ro 7 rfl (zh (.int .i64 (r18[(k - 1:Int).toNat]!)) Try.isAgg2 rfl (H.rowInt 1 rfl (iv:=k - 1) (i:=((k - 1:Int).toNat)) qf qf) (⟨H.pick [2,3,4,5,6] [0,1,2,3,4,5,6],?_⟩)))⟩
        have S:=H.jR [2,3,4,5,6] [0,1,2,3,4,5,6]
        refine rt 10 (.int .i64 ((r18[(k - 1:Int).toNat]!)+zi75)) (y_add (r18[(k - 1:Int).toNat]!) zi75 rfl rfl qf) S ?_
        refine tI 11 rfl rfl rfl S ?_
        refine ro 12 rfl (o_storeInt H 1 rfl ((r18[(k - 1:Int).toNat]!)+zi75) Try.sizeOf2 rfl rfl (i:=((k - 1:Int).toNat)) qf qf fun w76 H=>?_)
        try dsimp only [List.set] at H
        refine ⟨H.pick [2,3,4,5,6] [0,1,2,3,4,5,6],(qZ qh ((meet ⟨_,zi73,zi75,zi74,uE9,hx71,hx72,N,H⟩)))⟩
      ·skip
       clear H N
       rintro ρ w77 ⟨zB,zi56,zi57,zi58,rfl,hx78,hx79,N,H⟩
       refine b_n (t_n (zk (sp (.int .i64 k) (sw (zX k 1 rfl rfl qf (sp (.int .i64 (k+1)) (zt (xu (m' :=(zi11 - ((k+1):Int)).toNat) qf ⟨_,k+1,zi56,zi58,(r18.set ((k - 1:Int).toNat) ((r18[(k - 1:Int).toNat]!)+zi57)),uE7,?_,?_,?_,?_,rfl,N,H.xC 7 7 [1,0,2,3,4,5,6] [0,1,2,3,4,5,6] qo qo⟩))))))))
       · omega
       · omega
       · first | exact k2.go | exact k2.put qf qf qf
       · omega
     ·skip
      refine xx (b_n (t_n (zk (sp (.int .i64 k) (sw (zX k 1 rfl rfl qf (sp (.int .i64 (k+1)) (zt (xu (m' :=(zi11 - ((k+1):Int)).toNat) qf ⟨_,k+1,zi52,zi53,r18,uE7,?_,?_,?_,?_,rfl,N,H.xC 7 7 [1,0,2,3,4,5,6] [0,1,2,3,4,5,6] qo qo⟩)))))))))
      · omega
      · omega
      · first | exact k2.go | exact k2.put qf qf qf
      · omega
   ·skip
    refine zx4 (zcc (sp (.pointer (some ⟨bs,0,none⟩)) ?_))
    have H1:St W0 w43 ((.box bs [.slice ac code.length cc,.int .i64 s_at_1,.int .u64 s_seed_1] 95) :: (rr (some ⟨b38,0,none⟩) zi11.toNat zi11.toNat 2 1 (r18.map (Value.int .i64))) :: (.box b22 [.int .i64 zi11,.slice ra14 zl12.length rc16,.slice (some ⟨b28,0,none⟩) zR13.length rc19] 27) :: (rr ra14 zl12.length rc16 2 1 (zl12.map (Value.int .i64))) :: (rr (some ⟨b28,0,none⟩) zR13.length rc19 51 9 (xP.set (0+(i:Int).toNat * 9+5) (.slice (some ⟨b38,0,none⟩) zi11.toNat zi11.toNat))) :: (.box b3 [.slice none 0 0,.slice none 0 0,.slice none 0 0] 31) :: (.box b1 [.int .i64 0,.slice none 0 0,.slice none 0 0] 27) :: ps) ((sF false Fc ac cc code) :: (sF false y9 yD jv ((y_Rules[i]!).xy)) :: (sF false Qc jB jy ((y_Rules[i]!).xZ)) :: (sF false Qa jA jw ((y_Rules[i]!).xY)) :: (sF false QI y5 yZ ((y_Rules[i]!).ja)) :: (sF false Qb jI jH ((y_Rules[i]!).qM)) :: (xf false xE xP y_Rules) :: Γ):=H.xC 7 7 [1,0,2,3,4,5,6] [0,1,2,3,4,5,6] qo qo
    have N1:Fresh _ (Ns):=N
    have K1:Kept (Ns) ((sF false y9 yD jv ((y_Rules[i]!).xy)) :: (sF false Qc jB jy ((y_Rules[i]!).xZ)) :: (sF false Qa jA jw ((y_Rules[i]!).xY)) :: (sF false QI y5 yZ ((y_Rules[i]!).ja)) :: (sF false Qb jI jH ((y_Rules[i]!).qM)) :: (xf false xE xP y_Rules) :: Γ):=K0.behind 6 rfl
    refine sw (xH #[.pointer (some ⟨bs,0,none⟩),.int .i64 2] rfl rfl Try.call64 (dOne_ok code s_at_1 s_seed_1 bs ac cc Fc (2:Int) H1 N1 K1 qg) ?_)
    clear H H1 N1 K1
    rintro _ w80 ⟨zi83,zi84,zb85,hx82,rfl,N,H⟩
    refine zjn (xW (zb85) rfl (fun h86=>?_) (fun h86=>?_))
    ·skip
     refine zk (sp (.pointer (some ⟨b28,0+(i:Int).toNat * 9,none⟩)) (oF rfl (oL rfl (H.cell 2 rfl rfl) (sw (x8 H Try.underlying24 ti2 zi11.toNat rfl rfl qf qf qf fun b87 w88 H=>sp (.pointer (some ⟨b28,0+(i:Int).toNat * 9,none⟩)) (oF rfl ?_))))))
     obtain ⟨G89,N,hn90,H⟩:=H.zT 2 rfl N (fun F hF b hb=>(List.mem_append.1 (show F∈[]++Ns from hF)).elim (fun h=>(H.yG (L:=[]) []) F h b hb) fun h=>H.Xt (K0.behind 7 rfl) F h b hb)
     try dsimp only [List.set] at H
     obtain ⟨F91,H⟩:=H.part_5 7 rfl 0 rfl (iv:=i) i qf (by first | omega | (simp only [List.length_set];omega))
     try dsimp only [List.set] at H
     refine sw (o_storePart H 5 rfl (.slice (some ⟨b87,0,none⟩) zi11.toNat zi11.toNat) Try.sizeOf24 rfl rfl rfl (part_lt (hx41 6 _ rfl)) fun w92 H=>?_)
     have hx93:=part_get (cells:=[.int .i64 ((y_Rules[i]!).qE),.int .i64 ((y_Rules[i]!).vC),.slice yD (((y_Rules[i]!).xy).length) jv,.slice jB (((y_Rules[i]!).xZ).length) jy,.slice jA (((y_Rules[i]!).xY).length) jw,.slice (some ⟨b38,0,none⟩) zi11.toNat zi11.toNat,.slice y5 (((y_Rules[i]!).ja).length) yZ,.slice jI (((y_Rules[i]!).qM).length) jH,.bool ((y_Rules[i]!).zW)]) hx41 6 (.slice (some ⟨b87,0,none⟩) zi11.toNat zi11.toNat) (Nat.le_of_ble_eq_true rfl)
     replace hx93:∀ (q:Nat) (v:Value),([.int .i64 ((y_Rules[i]!).qE),.int .i64 ((y_Rules[i]!).vC),.slice yD (((y_Rules[i]!).xy).length) jv,.slice jB (((y_Rules[i]!).xZ).length) jy,.slice jA (((y_Rules[i]!).xY).length) jw,.slice (some ⟨b38,0,none⟩) zi11.toNat zi11.toNat,.slice (some ⟨b87,0,none⟩) zi11.toNat zi11.toNat,.slice jI (((y_Rules[i]!).qM).length) jH,.bool ((y_Rules[i]!).zW)]:List Value)[q]? =some v→((xP.set (0+(i:Int).toNat * 9+5) (.slice (some ⟨b38,0,none⟩) zi11.toNat zi11.toNat)).set (0+(i:Int).toNat * 9+6) (.slice (some ⟨b87,0,none⟩) zi11.toNat zi11.toNat))[0+(i:Int).toNat * 9+q]? =some v:=hx93
     try dsimp only [List.set] at H
     refine zjc (sp (.pointer (some ⟨bs,0,none⟩)) ?_)
     have H1:St W0 w92 ((.box bs [.slice ac code.length cc,.int .i64 zi83,.int .u64 zi84] 95) :: (rr (some ⟨b87,0,none⟩) zi11.toNat zi11.toNat 2 1 ((List.replicate zi11.toNat (0:Int)).map (Value.int .i64))) :: (rr none 0 0 0 1 []) :: (.box b22 [.int .i64 zi11,.slice ra14 zl12.length rc16,.slice (some ⟨b28,0,none⟩) zR13.length rc19] 27) :: (rr ra14 zl12.length rc16 2 1 (zl12.map (Value.int .i64))) :: (rr (some ⟨b28,0,none⟩) zR13.length rc19 51 9 ((xP.set (0+(i:Int).toNat * 9+5) (.slice (some ⟨b38,0,none⟩) zi11.toNat zi11.toNat)).set (0+(i:Int).toNat * 9+6) (.slice (some ⟨b87,0,none⟩) zi11.toNat zi11.toNat))) :: (.box b3 [.slice none 0 0,.slice none 0 0,.slice none 0 0] 31) :: (.box b1 [.int .i64 0,.slice none 0 0,.slice none 0 0] 27) :: ps) ((sF false Fc ac cc code) :: (xf false F91 (xP.set (0+(i:Int).toNat * 9+5) (.slice (some ⟨b38,0,none⟩) zi11.toNat zi11.toNat)) (y_Rules.set i { y_Rules[i]! with x9:=r18 })) :: (isF true G89 (.slice (some ⟨b38,0,none⟩) zi11.toNat zi11.toNat) r18) :: (sF false y9 yD jv ((y_Rules[i]!).xy)) :: (sF false Qc jB jy ((y_Rules[i]!).xZ)) :: (sF false Qa jA jw ((y_Rules[i]!).xY)) :: (sF false QI y5 yZ ((y_Rules[i]!).ja)) :: (sF false Qb jI jH ((y_Rules[i]!).qM)) :: (xf false xE xP y_Rules) :: Γ):=H.xC 8 9 [1,0,2,3,4,5,6,7] [2,0,1,3,4,5,6,7,8] qo qo
     have N1:Fresh _ (G89 :: Ns):=N
     have K1:Kept (Ns) ((xf false F91 (xP.set (0+(i:Int).toNat * 9+5) (.slice (some ⟨b38,0,none⟩) zi11.toNat zi11.toNat)) (y_Rules.set i { y_Rules[i]! with x9:=r18 })) :: (isF true G89 (.slice (some ⟨b38,0,none⟩) zi11.toNat zi11.toNat) r18) :: (sF false y9 yD jv ((y_Rules[i]!).xy)) :: (sF false Qc jB jy ((y_Rules[i]!).xZ)) :: (sF false Qa jA jw ((y_Rules[i]!).xY)) :: (sF false QI y5 yZ ((y_Rules[i]!).ja)) :: (sF false Qb jI jH ((y_Rules[i]!).qM)) :: (xf false xE xP y_Rules) :: Γ):=K0.behind 8 rfl
     replace K1:=K1.cons (F:=G89) 1 rfl rfl
     refine sw (xH #[.pointer (some ⟨bs,0,none⟩),.int .i64 2] rfl rfl Try.call64 (dOne_ok code zi83 zi84 bs ac cc Fc (2:Int) H1 N1 K1 qg) ?_)
     clear H H1 N1 K1
     rintro _ w94 ⟨zi97,zi98,zb99,hx96,rfl,N,H⟩
     refine zjn (xW (zb99) rfl (fun h100=>?_) (fun h100=>?_))
     ·skip
      refine zk (sp (.pointer (some ⟨b28,0+(i:Int).toNat * 9,none⟩)) (sw (QQ H Try.underlying49 ti121 fun b101 w102 H=>sp (.pointer (some ⟨b28,0+(i:Int).toNat * 9,none⟩)) (oF rfl ?_))))
      obtain ⟨G103,N,hn104,H⟩:=H.zT 2 rfl N (fun F hF b hb=>(List.mem_append.1 (show F∈[G89]++Ns from hF)).elim (fun h=>(H.yG (L:=[G89]) [2]) F h b hb) fun h=>H.Xt (K0.behind 9 rfl) F h b hb)
      try dsimp only [List.set] at H
      obtain ⟨F105,H⟩:=H.part_6 2 rfl 0 rfl (iv:=i) i qf (by first | omega | (simp only [List.length_set];omega))
      try dsimp only [List.set] at H
      refine sw (o_storePart H 6 rfl (.slice (some ⟨b101,0,none⟩) 0 0) Try.sizeOf49 rfl rfl rfl (part_lt (hx93 7 _ rfl)) fun w106 H=>?_)
      have hx107:=part_get (cells:=[.int .i64 ((y_Rules[i]!).qE),.int .i64 ((y_Rules[i]!).vC),.slice yD (((y_Rules[i]!).xy).length) jv,.slice jB (((y_Rules[i]!).xZ).length) jy,.slice jA (((y_Rules[i]!).xY).length) jw,.slice (some ⟨b38,0,none⟩) zi11.toNat zi11.toNat,.slice (some ⟨b87,0,none⟩) zi11.toNat zi11.toNat,.slice jI (((y_Rules[i]!).qM).length) jH,.bool ((y_Rules[i]!).zW)]) hx93 7 (.slice (some ⟨b101,0,none⟩) 0 0) (Nat.le_of_ble_eq_true rfl)
      replace hx107:∀ (q:Nat) (v:Value),([.int .i64 ((y_Rules[i]!).qE),.int .i64 ((y_Rules[i]!).vC),.slice yD (((y_Rules[i]!).xy).length) jv,.slice jB (((y_Rules[i]!).xZ).length) jy,.slice jA (((y_Rules[i]!).xY).length) jw,.slice (some ⟨b38,0,none⟩) zi11.toNat zi11.toNat,.slice (some ⟨b87,0,none⟩) zi11.toNat zi11.toNat,.slice (some ⟨b101,0,none⟩) 0 0,.bool ((y_Rules[i]!).zW)]:List Value)[q]? =some v→(((xP.set (0+(i:Int).toNat * 9+5) (.slice (some ⟨b38,0,none⟩) zi11.toNat zi11.toNat)).set (0+(i:Int).toNat * 9+6) (.slice (some ⟨b87,0,none⟩) zi11.toNat zi11.toNat)).set (0+(i:Int).toNat * 9+7) (.slice (some ⟨b101,0,none⟩) 0 0))[0+(i:Int).toNat * 9+q]? =some v:=hx107
      try dsimp only [List.set] at H
      refine zt (b_n (t_n (zk (sp (.int .i64 i) (sw (zX i 1 rfl rfl qf (sp (.int .i64 (i+1)) (zt ?_))))))))
      replace H:=H.boxRow 0 rfl 2 0 rfl qj
      try dsimp only [List.set] at H
      replace H:=H.Qv (α:=Q8)
      replace H:St _ _ ((rr (some ⟨b101,0,none⟩) 0 0 121 2 []) :: (.box bs [.slice ac code.length cc,.int .i64 zi97,.int .u64 zi98] 95) :: (rr none 0 0 0 1 []) :: (rr none 0 0 0 1 []) :: (.box b22 [.int .i64 zi11,.slice ra14 zl12.length rc16,.slice (some ⟨b28,0,none⟩) zR13.length rc19] 27) :: (rr ra14 zl12.length rc16 2 1 (zl12.map (Value.int .i64))) :: (rr (some ⟨b28,0,none⟩) zR13.length rc19 51 9 (((xP.set (0+(i:Int).toNat * 9+5) (.slice (some ⟨b38,0,none⟩) zi11.toNat zi11.toNat)).set (0+(i:Int).toNat * 9+6) (.slice (some ⟨b87,0,none⟩) zi11.toNat zi11.toNat)).set (0+(i:Int).toNat * 9+7) (.slice (some ⟨b101,0,none⟩) 0 0))) :: (.box b3 [.slice none 0 0,.slice none 0 0,.slice none 0 0] 31) :: (.box b1 [.int .i64 0,.slice none 0 0,.slice none 0 0] 27) :: ps) ((xf true [] [] ([]:List Q8)) :: (xf false F105 ((xP.set (0+(i:Int).toNat * 9+5) (.slice (some ⟨b38,0,none⟩) zi11.toNat zi11.toNat)).set (0+(i:Int).toNat * 9+6) (.slice (some ⟨b87,0,none⟩) zi11.toNat zi11.toNat)) ((y_Rules.set i { y_Rules[i]! with x9:=r18 }).set i { (y_Rules.set i { y_Rules[i]! with x9:=r18 })[i]! with ja:=(List.replicate zi11.toNat (0:Int))})) :: (isF true G103 (.slice (some ⟨b87,0,none⟩) zi11.toNat zi11.toNat) (List.replicate zi11.toNat (0:Int))) :: (sF false Fc ac cc code) :: (xf false F91 (xP.set (0+(i:Int).toNat * 9+5) (.slice (some ⟨b38,0,none⟩) zi11.toNat zi11.toNat)) (y_Rules.set i { y_Rules[i]! with x9:=r18 })) :: (isF true G89 (.slice (some ⟨b38,0,none⟩) zi11.toNat zi11.toNat) r18) :: (sF false y9 yD jv ((y_Rules[i]!).xy)) :: (sF false Qc jB jy ((y_Rules[i]!).xZ)) :: (sF false Qa jA jw ((y_Rules[i]!).xY)) :: (sF false QI y5 yZ ((y_Rules[i]!).ja)) :: (sF false Qb jI jH ((y_Rules[i]!).qM)) :: (xf false xE xP y_Rules) :: Γ):=H
      have H0:=H
      obtain ⟨G108,hg110,hn109,H⟩:=H.freezeR (α:=Q8) 0 rfl 0 rfl qj
      replace N:Fresh W0.heap.size (G108 :: G103 :: G89 :: Ns):=Fresh.ice N.emp H0 0 hg110.1 hg110.2 (fun F hF b hb=>(List.mem_append.1 (show F∈[G103,G89]++Ns from hF)).elim (fun h=>(H0.yG (L:=[G103,G89]) [2,5]) F h b hb) fun h=>H0.Xt (K0.behind 12 rfl) F h b hb)
      clear H0
      try dsimp only [List.set] at H
      obtain ⟨F111,H⟩:=H.part_7 2 rfl 0 rfl (iv:=i) i qf (by first | omega | (simp only [List.length_set];omega))
      try dsimp only [List.set] at H
      refine xu (m' :=(zR13.length - ((i+1):Int)).toNat) qf ⟨_,i+1,zi97,zi98,(((y_Rules.set i { y_Rules[i]! with x9:=r18 }).set i { (y_Rules.set i { y_Rules[i]! with x9:=r18 })[i]! with ja:=(List.replicate zi11.toNat (0:Int))}).set i { ((y_Rules.set i { y_Rules[i]! with x9:=r18 }).set i { (y_Rules.set i { y_Rules[i]! with x9:=r18 })[i]! with ja:=(List.replicate zi11.toNat (0:Int))})[i]! with qM:=[]}),(((xP.set (0+(i:Int).toNat * 9+5) (.slice (some ⟨b38,0,none⟩) zi11.toNat zi11.toNat)).set (0+(i:Int).toNat * 9+6) (.slice (some ⟨b87,0,none⟩) zi11.toNat zi11.toNat)).set (0+(i:Int).toNat * 9+7) (.slice (some ⟨b101,0,none⟩) 0 0)),F111,uE5,?_,?_,?_,rfl,(N.xC 3 [] qo),H.xC 9 14 [4,1,5,6,7,8] [5,0] qo qo⟩
      · omega
      · omega
      · exact ⟨by (try simp only [List.length_set]);omega,by have q2:=j2.2;(repeat' (first | assumption | exact k2.1 | exact zV.zero qf qf | (simp only [List.length_set];omega) | omega | apply jC.here | apply jC.out | apply jC.into))⟩
     ·skip
      refine xx (b_n (t_n (zk (sp (.int .i64 i) (sw (zX i 1 rfl rfl qf (sp (.int .i64 (i+1)) (zt ?_))))))))
      obtain ⟨G112,N,hn113,H⟩:=H.zT 1 rfl N (fun F hF b hb=>(List.mem_append.1 (show F∈[G89]++Ns from hF)).elim (fun h=>(H.yG (L:=[G89]) [2]) F h b hb) fun h=>H.Xt (K0.behind 9 rfl) F h b hb)
      try dsimp only [List.set] at H
      obtain ⟨F114,H⟩:=H.part_6 2 rfl 0 rfl (iv:=i) i qf (by first | omega | (simp only [List.length_set];omega))
      try dsimp only [List.set] at H
      refine xu (m' :=(zR13.length - ((i+1):Int)).toNat) qf ⟨_,i+1,zi97,zi98,((y_Rules.set i { y_Rules[i]! with x9:=r18 }).set i { (y_Rules.set i { y_Rules[i]! with x9:=r18 })[i]! with ja:=(List.replicate zi11.toNat (0:Int))}),((xP.set (0+(i:Int).toNat * 9+5) (.slice (some ⟨b38,0,none⟩) zi11.toNat zi11.toNat)).set (0+(i:Int).toNat * 9+6) (.slice (some ⟨b87,0,none⟩) zi11.toNat zi11.toNat)),F114,uE5,?_,?_,?_,rfl,(N.xC 2 [] qo),H.xC 8 11 [3,0,4,5,6,7] [2,0] qo qo⟩
      · omega
      · omega
      · exact ⟨by (try simp only [List.length_set]);omega,by have q2:=j2.2;(repeat' (first | assumption | exact k2.1 | exact zV.zero qf qf | (simp only [List.length_set];omega) | omega | apply jC.here | apply jC.out | apply jC.into))⟩
    ·skip
     refine xx (t_n (zcr (sp (.pointer (some ⟨bs,0,none⟩)) ?_)))
     have H1:St W0 w80 ((.box bs [.slice ac code.length cc,.int .i64 zi83,.int .u64 zi84] 95) :: (rr (some ⟨b38,0,none⟩) zi11.toNat zi11.toNat 2 1 (r18.map (Value.int .i64))) :: (.box b22 [.int .i64 zi11,.slice ra14 zl12.length rc16,.slice (some ⟨b28,0,none⟩) zR13.length rc19] 27) :: (rr ra14 zl12.length rc16 2 1 (zl12.map (Value.int .i64))) :: (rr (some ⟨b28,0,none⟩) zR13.length rc19 51 9 (xP.set (0+(i:Int).toNat * 9+5) (.slice (some ⟨b38,0,none⟩) zi11.toNat zi11.toNat))) :: (.box b3 [.slice none 0 0,.slice none 0 0,.slice none 0 0] 31) :: (.box b1 [.int .i64 0,.slice none 0 0,.slice none 0 0] 27) :: ps) ((sF false Fc ac cc code) :: (sF false y9 yD jv ((y_Rules[i]!).xy)) :: (sF false Qc jB jy ((y_Rules[i]!).xZ)) :: (sF false Qa jA jw ((y_Rules[i]!).xY)) :: (sF false QI y5 yZ ((y_Rules[i]!).ja)) :: (sF false Qb jI jH ((y_Rules[i]!).qM)) :: (xf false xE xP y_Rules) :: Γ):=H.xC 7 7 [0,1,2,3,4,5,6] [0,1,2,3,4,5,6] qo qo
     have N1:Fresh _ (Ns):=N
     have K1:Kept (Ns) ((sF false y9 yD jv ((y_Rules[i]!).xy)) :: (sF false Qc jB jy ((y_Rules[i]!).xZ)) :: (sF false Qa jA jw ((y_Rules[i]!).xY)) :: (sF false QI y5 yZ ((y_Rules[i]!).ja)) :: (sF false Qb jI jH ((y_Rules[i]!).qM)) :: (xf false xE xP y_Rules) :: Γ):=K0.behind 6 rfl
     refine sw (xH #[.pointer (some ⟨bs,0,none⟩),.int .i64 2] rfl rfl Try.call64 (dOne_ok code zi83 zi84 bs ac cc Fc (2:Int) H1 N1 K1 qg) ?_)
     clear H H1 N1 K1
     rintro _ w115 ⟨zi118,zi119,zb120,hx117,rfl,N,H⟩
     refine zjn (xW (zb120) rfl (fun h121=>?_) (fun h121=>?_))
     ·skip
      refine zk (sp (.pointer (some ⟨b28,0+(i:Int).toNat * 9,none⟩)) (sw (QQ H Try.underlying49 ti121 fun b122 w123 H=>sp (.pointer (some ⟨b28,0+(i:Int).toNat * 9,none⟩)) (oF rfl ?_))))
      obtain ⟨G124,N,hn125,H⟩:=H.zT 2 rfl N (fun F hF b hb=>(List.mem_append.1 (show F∈[]++Ns from hF)).elim (fun h=>(H.yG (L:=[]) []) F h b hb) fun h=>H.Xt (K0.behind 7 rfl) F h b hb)
      try dsimp only [List.set] at H
      obtain ⟨F126,H⟩:=H.part_5 7 rfl 0 rfl (iv:=i) i qf (by first | omega | (simp only [List.length_set];omega))
      try dsimp only [List.set] at H
      refine sw (o_storePart H 5 rfl (.slice (some ⟨b122,0,none⟩) 0 0) Try.sizeOf49 rfl rfl rfl (part_lt (hx41 7 _ rfl)) fun w127 H=>?_)
      have hx128:=part_get (cells:=[.int .i64 ((y_Rules[i]!).qE),.int .i64 ((y_Rules[i]!).vC),.slice yD (((y_Rules[i]!).xy).length) jv,.slice jB (((y_Rules[i]!).xZ).length) jy,.slice jA (((y_Rules[i]!).xY).length) jw,.slice (some ⟨b38,0,none⟩) zi11.toNat zi11.toNat,.slice y5 (((y_Rules[i]!).ja).length) yZ,.slice jI (((y_Rules[i]!).qM).length) jH,.bool ((y_Rules[i]!).zW)]) hx41 7 (.slice (some ⟨b122,0,none⟩) 0 0) (Nat.le_of_ble_eq_true rfl)
      replace hx128:∀ (q:Nat) (v:Value),([.int .i64 ((y_Rules[i]!).qE),.int .i64 ((y_Rules[i]!).vC),.slice yD (((y_Rules[i]!).xy).length) jv,.slice jB (((y_Rules[i]!).xZ).length) jy,.slice jA (((y_Rules[i]!).xY).length) jw,.slice (some ⟨b38,0,none⟩) zi11.toNat zi11.toNat,.slice y5 (((y_Rules[i]!).ja).length) yZ,.slice (some ⟨b122,0,none⟩) 0 0,.bool ((y_Rules[i]!).zW)]:List Value)[q]? =some v→((xP.set (0+(i:Int).toNat * 9+5) (.slice (some ⟨b38,0,none⟩) zi11.toNat zi11.toNat)).set (0+(i:Int).toNat * 9+7) (.slice (some ⟨b122,0,none⟩) 0 0))[0+(i:Int).toNat * 9+q]? =some v:=hx128
      try dsimp only [List.set] at H
      refine zt (b_n (t_n (zk (sp (.int .i64 i) (sw (zX i 1 rfl rfl qf (sp (.int .i64 (i+1)) (zt ?_))))))))
      replace H:=H.boxRow 0 rfl 2 0 rfl qj
      try dsimp only [List.set] at H
      replace H:=H.Qv (α:=Q8)
      replace H:St _ _ ((rr (some ⟨b122,0,none⟩) 0 0 121 2 []) :: (.box bs [.slice ac code.length cc,.int .i64 zi118,.int .u64 zi119] 95) :: (rr none 0 0 0 1 []) :: (.box b22 [.int .i64 zi11,.slice ra14 zl12.length rc16,.slice (some ⟨b28,0,none⟩) zR13.length rc19] 27) :: (rr ra14 zl12.length rc16 2 1 (zl12.map (Value.int .i64))) :: (rr (some ⟨b28,0,none⟩) zR13.length rc19 51 9 ((xP.set (0+(i:Int).toNat * 9+5) (.slice (some ⟨b38,0,none⟩) zi11.toNat zi11.toNat)).set (0+(i:Int).toNat * 9+7) (.slice (some ⟨b122,0,none⟩) 0 0))) :: (.box b3 [.slice none 0 0,.slice none 0 0,.slice none 0 0] 31) :: (.box b1 [.int .i64 0,.slice none 0 0,.slice none 0 0] 27) :: ps) ((xf true [] [] ([]:List Q8)) :: (xf false F126 (xP.set (0+(i:Int).toNat * 9+5) (.slice (some ⟨b38,0,none⟩) zi11.toNat zi11.toNat)) (y_Rules.set i { y_Rules[i]! with x9:=r18 })) :: (isF true G124 (.slice (some ⟨b38,0,none⟩) zi11.toNat zi11.toNat) r18) :: (sF false Fc ac cc code) :: (sF false y9 yD jv ((y_Rules[i]!).xy)) :: (sF false Qc jB jy ((y_Rules[i]!).xZ)) :: (sF false Qa jA jw ((y_Rules[i]!).xY)) :: (sF false QI y5 yZ ((y_Rules[i]!).ja)) :: (sF false Qb jI jH ((y_Rules[i]!).qM)) :: (xf false xE xP y_Rules) :: Γ):=H
      have H0:=H
      obtain ⟨G129,hg131,hn130,H⟩:=H.freezeR (α:=Q8) 0 rfl 0 rfl qj
      replace N:Fresh W0.heap.size (G129 :: G124 :: Ns):=Fresh.ice N.emp H0 0 hg131.1 hg131.2 (fun F hF b hb=>(List.mem_append.1 (show F∈[G124]++Ns from hF)).elim (fun h=>(H0.yG (L:=[G124]) [2]) F h b hb) fun h=>H0.Xt (K0.behind 10 rfl) F h b hb)
      clear H0
      try dsimp only [List.set] at H
      obtain ⟨F132,H⟩:=H.part_7 2 rfl 0 rfl (iv:=i) i qf (by first | omega | (simp only [List.length_set];omega))
      try dsimp only [List.set] at H
      refine xu (m' :=(zR13.length - ((i+1):Int)).toNat) qf ⟨_,i+1,zi118,zi119,((y_Rules.set i { y_Rules[i]! with x9:=r18 }).set i { (y_Rules.set i { y_Rules[i]! with x9:=r18 })[i]! with qM:=[]}),((xP.set (0+(i:Int).toNat * 9+5) (.slice (some ⟨b38,0,none⟩) zi11.toNat zi11.toNat)).set (0+(i:Int).toNat * 9+7) (.slice (some ⟨b122,0,none⟩) 0 0)),F132,uE5,?_,?_,?_,rfl,(N.xC 2 [] qo),H.xC 8 12 [3,1,4,5,6,7] [5,0] qo qo⟩
      · omega
      · omega
      · exact ⟨by (try simp only [List.length_set]);omega,by have q2:=j2.2;(repeat' (first | assumption | exact k2.1 | exact zV.zero qf qf | (simp only [List.length_set];omega) | omega | apply jC.here | apply jC.out | apply jC.into))⟩
     ·skip
      refine xx (b_n (t_n (zk (sp (.int .i64 i) (sw (zX i 1 rfl rfl qf (sp (.int .i64 (i+1)) (zt ?_))))))))
      obtain ⟨G133,N,hn134,H⟩:=H.zT 1 rfl N (fun F hF b hb=>(List.mem_append.1 (show F∈[]++Ns from hF)).elim (fun h=>(H.yG (L:=[]) []) F h b hb) fun h=>H.Xt (K0.behind 7 rfl) F h b hb)
      try dsimp only [List.set] at H
      obtain ⟨F135,H⟩:=H.part_5 7 rfl 0 rfl (iv:=i) i qf (by first | omega | (simp only [List.length_set];omega))
      try dsimp only [List.set] at H
      refine xu (m' :=(zR13.length - ((i+1):Int)).toNat) qf ⟨_,i+1,zi118,zi119,(y_Rules.set i { y_Rules[i]! with x9:=r18 }),(xP.set (0+(i:Int).toNat * 9+5) (.slice (some ⟨b38,0,none⟩) zi11.toNat zi11.toNat)),F135,uE5,?_,?_,?_,rfl,(N.xC 1 [] qo),H.xC 7 9 [2,0,3,4,5,6] [2,0] qo qo⟩
      · omega
      · omega
      · exact ⟨by (try simp only [List.length_set]);omega,by have q2:=j2.2;(repeat' (first | assumption | exact k2.1 | exact zV.zero qf qf | (simp only [List.length_set];omega) | omega | apply jC.here | apply jC.out | apply jC.into))⟩
 ·skip
  refine zx4 (zn ?_)
  refine c_drawK2 rfl H [0,2,3] [0,1] fun H=>?_
  have S:=H.jR [0,2,3] [0,1]
  refine rt 0 (.agg #[.int .i64 zi11,.slice ra14 zl12.length rc16,.slice ra17 zR13.length rc19]) (QC (cs:=[.int .i64 zi11,.slice ra14 zl12.length rc16,.slice ra17 zR13.length rc19]) Try.isAgg27 Try.sizeOf27 rfl (fun _ h=>qH (h.cells 0 rfl) 0 3)) S ?_
  refine rtp 1 (.pointer (some ⟨bs,0,none⟩)) S ?_
  refine ro 2 rfl ?_
  have sd:=(‹SysDr _ _ _›).with j2.1 j2.2
  have f0:jE (⟨zi11,zl12,y_Rules⟩:qy):=sd.frame
  have H1:St W0 w26.drew ((.box bs [.slice ac code.length cc,.int .i64 s_at,.int .u64 s_seed] 95) :: (.box b22 [.int .i64 zi11,.slice ra14 zl12.length rc16,.slice ra17 zR13.length rc19] 27) :: (rr ra14 zl12.length rc16 2 1 (zl12.map (Value.int .i64))) :: (rr ra17 zR13.length rc19 51 9 xP) :: (.box b3 [.slice none 0 0,.slice none 0 0,.slice none 0 0] 31) :: (.box b1 [.int .i64 0,.slice none 0 0,.slice none 0 0] 27) :: ps) ((sF false Fc ac cc code) :: (xf false xE xP y_Rules) :: Γ):=H.xC 6 2 [1,0,2,3,4,5] [0,1] qo qo
  have N1:Fresh _ (Ns):=N
  have K1:Kept (Ns) (Γ):=K0.behind 0 rfl
  refine xH #[.pointer (some ⟨bs,0,none⟩),.pointer (some ⟨b22,0,none⟩),.int .i64 4] rfl rfl Try.call28 (dState_ok code s_at s_seed bs ac cc Fc zi11 zl12 y_Rules b22 ra14 zl12.length rc16 ra17 zR13.length rc19 xP xE false (4:Int) H1 N1 K1 qg qg qg) ?_
  clear H H1 N1 K1
  rintro _ w137 ⟨zi141,zi142,zm143,zL144,zl145,ra146,rn147,rc148,ra149,rn150,rc151,rx152,rF153,ra154,rn155,rc156,hx139,hx140,rfl,N,H⟩
  obtain rfl:=H.Q7 4 rfl
  obtain rfl:=H.zi (α:=yLI) 5 rfl 2 rfl qj
  obtain rfl:=H.zS 6 rfl
  refine ⟨H.pick [1,2,3] [0,1],(ro 3 rfl (qQ H 8 [.int .i64 zi11,.slice ra14 zl12.length rc16,.slice ra17 zR13.length rc19] Try.sizeOf27 fun w157 H=>?_))⟩
  try dsimp only [List.set] at H
  refine ⟨H.pick [1,2,3] [0,1],(ro 4 rfl (qQ H 7 [.slice ra146 zm143.length rc148,.slice ra149 zL144.length rc151,.slice ra154 zl145.length rc156] Try.sizeOf31 fun w158 H=>?_))⟩
  try dsimp only [List.set] at H
  refine ⟨H.pick [1,2,3] [0,1],(qZ qh (t_n (c_ret (retCC H 8 rfl 7 rfl rfl Try.isAgg27 Try.sizeOf27 Try.isAgg31 Try.sizeOf31 rfl rfl ⟨_,rfl,(⟨zi141,zi142,zi11,zl12,y_Rules,zm143,zL144,zl145,ra14,zl12.length,rc16,ra17,zR13.length,rc19,xP,xE,ra146,zm143.length,rc148,ra149,zL144.length,rc151,rx152,rF153,ra154,zl145.length,rc156,qf,ql,ql,rfl,N,H.xC 9 3 [0,2,3,4,5,6] [0,1,2] qo qo⟩)⟩))))⟩

theorem a2Given_ok {W0 w:World} {ps:List Prv} {Γ:List Fact} {Ns:List yLN} (code:List UInt8) (ac:yOA) (cc:Nat) (Fc:yLN) (H:St W0 w (ps) ((sF false Fc ac cc code) :: Γ)) (N:Fresh W0.heap.size (Ns)) (K0:Kept Ns Γ):Calls Try.prog 21 #[.slice ac code.length cc] w (fun e w' =>∃ v,e=.returned v∧∃ (kk_:Int) (par_:yLI) (rules_:List jq) (alive_:List Bool) (bags_:yLL) (around_:yLI) (raq:yOA) (rnq:Nat) (rcq:Nat) (raS:yOA) (rnS:Nat) (rcS:Nat) (rxS:List Value) (rFS:yLN) (raA:yOA) (rnA:Nat) (rcA:Nat) (raB:yOA) (rnB:Nat) (rcB:Nat) (rxB:List Value) (rFB:yLN) (raD:yOA) (rnD:Nat) (rcD:Nat),(SysDr kk_ par_ rules_)∧(StDr kk_ par_.length 4 alive_ bags_ around_)∧v=.tuple #[.agg #[.int .i64 kk_,.slice raq rnq rcq,.slice raS rnS rcS],.agg #[.slice raA rnA rcA,.slice raB rnB rcB,.slice raD rnD rcD]]∧Fresh W0.heap.size (rFB :: Ns)∧St W0 w' ((rr raq rnq rcq 2 1 (par_.map (Value.int .i64))) :: (rr raS rnS rcS 51 9 rxS) :: (rr raA rnA rcA 4 1 (alive_.map (Value.bool))) :: (rr raB rnB rcB 24 1 rxB) :: (rr raD rnD rcD 2 1 (around_.map (Value.int .i64))) :: ps) ((sF false Fc ac cc code) :: (xf false rFS rxS rules_) :: (xf true rFB rxB bags_) :: Γ)):=by
 refine en Try.func21 Try.ntmps21 ?_
 have ncode:=qP (H.get 0 rfl).1
 refine zcr (sw (xq H ti27 [.int .i64 0,.slice none 0 0,.slice none 0 0] fun b1 w2 H=>sw (xq H ti31 [.slice none 0 0,.slice none 0 0,.slice none 0 0] fun b3 w4 H=>zjc (sp (.slice ac code.length cc) (sw (Qg #[.slice ac code.length cc] rfl rfl Try.call26 (en Try.func26 Try.ntmps26 ?_)))))))
 refine zcr (sp (.pointer none) (zjc (sp (.slice ac code.length cc) (sw (xJ [.slice ac code.length cc,.int .i64 0,.int .u64 0] [(0,.slice ac code.length cc)] (sw (yK H [.slice ac code.length cc,.int .i64 0,.int .u64 0] fun b5 w6 H=>sp (.pointer (some ⟨b5,0,none⟩)) (zjr (ret1 (.pointer (some ⟨b5,0,none⟩)) rfl rfl ⟨_,rfl,?_⟩)))))))))
 have H1:St W0 w6 ((.box b5 [.slice ac code.length cc,.int .i64 0,.int .u64 0] 95) :: (.box b3 [.slice none 0 0,.slice none 0 0,.slice none 0 0] 31) :: (.box b1 [.int .i64 0,.slice none 0 0,.slice none 0 0] 27) :: ps) ((sF false Fc ac cc code) :: Γ):=H.xC 3 1 [0,1,2] [0] qo qo
 have N1:Fresh _ (Ns):=N
 have K1:Kept (Ns) (Γ):=K0.behind 0 rfl
 refine sw (xH #[.pointer (some ⟨b5,0,none⟩)] rfl rfl Try.call52 (dShrink_ok code (0:Int) 0 b5 ac cc Fc H1 N1 K1 qg) ?_)
 clear H H1 N1 K1
 rintro _ w7 ⟨zi12,zi13,zi14,zl15,zR16,zm17,zL18,zl19,ra20,rn21,rc22,ra23,rn24,rc25,rx26,rF27,ra28,rn29,rc30,ra31,rn32,rc33,rx34,rF35,ra36,rn37,rc38,hx9,hx10,hx11,rfl,N,H⟩
 obtain rfl:=H.zS 1 rfl
 obtain rfl:=H.zi (α:=jq) 2 rfl 1 rfl qj
 obtain rfl:=H.Q7 3 rfl
 obtain rfl:=H.zi (α:=yLI) 4 rfl 2 rfl qj
 obtain rfl:=H.zS 5 rfl
 refine sps [.agg #[.int .i64 zi14,.slice ra20 zl15.length rc22,.slice ra23 zR16.length rc25],.agg #[.slice ra28 zm17.length rc30,.slice ra31 zL18.length rc33,.slice ra36 zl19.length rc38]] (sw (qQ H 7 [.int .i64 zi14,.slice ra20 zl15.length rc22,.slice ra23 zR16.length rc25] Try.sizeOf27 fun w39 H=>?_))
 try dsimp only [List.set] at H
 refine sw (qQ H 6 [.slice ra28 zm17.length rc30,.slice ra31 zL18.length rc33,.slice ra36 zl19.length rc38] Try.sizeOf31 fun w40 H=>?_)
 try dsimp only [List.set] at H
 refine zjr (retCC H 7 rfl 6 rfl rfl Try.isAgg27 Try.sizeOf27 Try.isAgg31 Try.sizeOf31 rfl rfl ⟨_,rfl,(⟨zi14,zl15,zR16,zm17,zL18,zl19,ra20,zl15.length,rc22,ra23,zR16.length,rc25,rx26,rF27,ra28,zm17.length,rc30,ra31,zL18.length,rc33,rx34,rF35,ra36,zl19.length,rc38,ql,ql,rfl,N,H.xC 8 3 [1,2,3,4,5] [0,1,2] qo qo⟩)⟩)
theorem a2At_ok (w:World) (code:List UInt8) (q:Int) (n:Int) {acode:yOA} {ccode:Nat} {Fcode:yLN} (hcode:qU.rep w Fcode [.slice acode code.length ccode] code) (p0:0≤q):Calls Try.prog 11 #[.slice acode code.length ccode,.int .i64 q,.int .i64 n] w (Ret (fun v w' =>v=.int .i64 (atV code q n)) w):=by
 refine en Try.func11 Try.ntmps11 ?_
 have H:=(St.start w).arg hcode
 have nhcode:=qP hcode
 clear hcode
 have N:=Fresh.nil w.heap.size
 refine zcr (sp (.int .i64 0) (zjcc (sps [.int .i64 q,.slice acode code.length ccode] (oN rfl (sps [.bool (decide ((q:Int)≥code.length)),.bool (decide ((q:Int)≥code.length))] ?_)))))
 cases h1:(decide ((q:Int)≥code.length))
 ·skip
  replace h1:=of_decide_eq_false h1
  refine qK 11 rfl rfl (sp (.int .i64 n) (qK 11 rfl rfl (sps [.bool (decide ((n:Int) < 1)),.bool (decide ((n:Int) < 1))] (zjn (cD rfl (fun h2=>?_) (fun h2=>?_))))))
  ·skip
   refine zcr (sp (.int .i64 0) (zjr (t_r (ret1 (.int .i64 0) rfl rfl ⟨_,rfl,?_,H.base⟩))))
   rw [atV_no qf]
  ·skip
   have rm:=fun (x:Int)=>Int.emod_nonneg x (show n≠0 by omega)
   have rl:=fun (x:Int)=>Int.emod_lt_of_pos x (show 0 < n by omega)
   refine xx (t_n (zcr (sps [.slice acode code.length ccode,.int .i64 q] ?_)))
   obtain ⟨b3,o4,rfl⟩:=H.addr 0 rfl qf
   refine oI rfl rfl ?_
   have hb6:=byte_lt (code[q.toNat]!)
   refine oL rfl (H.elemByte 0 rfl q q.toNat qf qf qf) (sw (o_convI (((code[q.toNat]!).toNat:Nat):Int) Try.underlying5 Try.underlying2 rfl qf (sp (.int .i64 n) (sw (o_rem (((code[q.toNat]!).toNat:Nat):Int) n rfl rfl qf qf qf (sp (.int .i64 ((((code[q.toNat]!).toNat:Nat):Int) % n)) (zjr (ret1 (.int .i64 ((((code[q.toNat]!).toNat:Nat):Int) % n)) rfl rfl ⟨_,rfl,?_,H.base⟩))))))))
   rw [atV_yes ‹_› ‹_›]
 ·skip
  replace h1:=of_decide_eq_true h1
  refine xK [12,13] (sp (.bool true) (zjn (xW true rfl (fun _=>zcr (sp (.int .i64 0) (zjr (t_r (ret1 (.int .i64 0) rfl rfl ⟨_,rfl,?_,H.base⟩))))) (fun h=>absurd h qj))))
  rw [atV_no qf]

theorem l00Same_ok (w:World) (a:yLI) (b:yLI) {aa:yOA} {ca:Nat} {Fa:yLN} {ab:yOA} {cb:Nat} {Fb:yLN} (ha:qU.rep w Fa [.slice aa a.length ca] a) (hb:qU.rep w Fb [.slice ab b.length cb] b):Calls Try.prog 102 #[.slice aa a.length ca,.slice ab b.length cb] w (Ret (fun v w' =>v=.bool (decide (a=b))) w):=by
 refine en Try.func102 Try.ntmps102 ?_
 have H:=((St.start w).arg hb).arg ha
 have nha:=qP ha
 have nhb:=qP hb
 clear ha hb
 have N:=Fresh.nil w.heap.size
 refine zcr (sp (.bool false) (zjcc (sp (.slice aa a.length ca) (oN rfl (sp (.slice ab b.length cb) (oN rfl (sp (.bool ((a.length:Int) != b.length)) (zjn (xW ((a.length:Int) != b.length) rfl (fun h1=>?_) (fun h1=>?_))))))))))
 ·skip
  replace h1:=bne_iff_ne.1 h1
  refine zcr (sp (.bool false) (zjr (t_r (ret1 (.bool false) rfl rfl ⟨_,rfl,?_,H.base⟩))))
  first | rw [decide_eq_false (fun e=>by subst e;omega)] | rw [decide_eq_false (ne_of_get (k:=i) ‹_›)] | rw [decide_eq_false (ne_of_get (k:=i) (by simpa using ‹_›))]
 ·skip
  replace h1:=zL h1
  refine xx (t_n (zcc (sp (.int .i64 0) (zjn (xw ?_)))))
  refine vJ (fun m' ρ w2=>∃ (zB:Env) (i:Nat),ρ=upd (upd (upd zB 0 (.slice aa a.length ca)) 1 (.slice ab b.length cb)) 5 (.int .i64 i)∧((i:Int)≤a.length)∧(a.take i=b.take i)∧m' =(a.length - (i:Int)).toNat∧Fresh w.heap.size []∧St w w2 [] [sF false Fa aa ca a,sF false Fb ab cb b]) ((a.length - (0:Int)).toNat) ⟨_,0,uE3,qf,(by rfl),rfl,N,H⟩ ?_
  clear H N
  rintro m' ρ w3 ⟨zB,i,rfl,i0,i1,rfl,N,H⟩
  refine zcc (sps [.int .i64 i,.slice aa a.length ca] (oN rfl (sp (.bool (decide ((i:Int) < a.length))) (zjn (cD rfl (fun h4=>?_) (fun h4=>?_))))))
  ·skip
   refine xx (t_n (zn (xw (zn ?_))))
   refine yF rfl H fun H=>rtp 0 (.slice aa a.length ca) H ?_
   refine rtp 1 (.int .i64 i) H ?_
   obtain ⟨b6,o7,rfl⟩:=H.addr 0 rfl qf
   refine tI 2 rfl rfl rfl H ?_
   refine tL 3 rfl rfl (fun _ h=>h.Qs 0 rfl i qf) H ?_
   refine rtp 4 (.slice ab b.length cb) H ?_
   refine rtp 5 (.int .i64 i) H ?_
   obtain ⟨b9,o10,rfl⟩:=H.addr 1 rfl qf
   refine tI 6 rfl rfl rfl H ?_
   refine tL 7 rfl rfl (fun _ h=>h.Qs 1 rfl i qf) H ?_
   refine rtp 8 (.bool ((a[i]! :Int) != (b[i]!))) H ?_
   refine qZ qh (t_n (xW ((a[i]! :Int) != (b[i]!)) rfl (fun h12=>?_) (fun h12=>?_)))
   ·skip
    replace h12:=bne_iff_ne.1 h12
    refine zcr (sp (.bool false) (zjr (zr5 (ret1 (.bool false) rfl rfl ⟨_,rfl,?_,H.base⟩))))
    first | rw [decide_eq_false (fun e=>by subst e;omega)] | rw [decide_eq_false (ne_of_get (k:=i) ‹_›)] | rw [decide_eq_false (ne_of_get (k:=i) (by simpa using ‹_›))]
   ·skip
    replace h12:=zL h12
    refine xx (b_n (t_n (zk (sp (.int .i64 i) (sw (zX i 1 rfl rfl qf (sp (.int .i64 (i+1)) (zt (xu (m' :=(a.length - ((i+1):Int)).toNat) qf ⟨_,i+1,uE3,?_,?_,rfl,N,H⟩)))))))))
    · omega
    · exact eqTo_succ qf qf i1 qg
  ·skip
   refine zx4 (zcr (sp (.bool true) (zjr (ret1 (.bool true) rfl rfl ⟨_,rfl,?_,H.base⟩))))
   rw [decide_eq_true (eq_of_take (k:=i) qf qf i1)]

theorem l02Same_ok (w:World) (a:qG) (b:qG) {ba oa:Nat} {aaAlive:yOA} {FaAlive:yLN} {aaBags:yOA} {FaBags:yLN} {XC:yOA} {FaAround:yLN} {bb ob:Nat} {abAlive:yOA} {FbAlive:yLN} {abBags:yOA} {FbBags:yLN} {XB:yOA} {FbAround:yLN} (ha:vV w ba oa [.slice aaAlive a.qC.length caAlive,.slice aaBags a.qI.length caBags,.slice XC a.qF.length XA]) (haAlive:qU.rep w FaAlive [.slice aaAlive a.qC.length caAlive] a.qC) (haBags:qU.rep w FaBags [.slice aaBags a.qI.length caBags] a.qI) (haAround:qU.rep w FaAround [.slice XC a.qF.length XA] a.qF) (hb:vV w bb ob [.slice abAlive b.qC.length cbAlive,.slice abBags b.qI.length cbBags,.slice XB b.qF.length Xz]) (hbAlive:qU.rep w FbAlive [.slice abAlive b.qC.length cbAlive] b.qC) (hbBags:qU.rep w FbBags [.slice abBags b.qI.length cbBags] b.qI) (hbAround:qU.rep w FbAround [.slice XB b.qF.length Xz] b.qF):Calls Try.prog 61 #[.pointer (some ⟨ba,oa,none⟩),.pointer (some ⟨bb,ob,none⟩)] w (Ret (fun v w' =>v=.bool (decide (a=b))) w):=by
 refine en Try.func61 Try.ntmps61 ?_
 have H:=((((((((St.start w).arg hbAround).arg hbBags).arg hbAlive).argAt hb).arg haAround).arg haBags).arg haAlive).argAt ha
 have nhaAlive:=qP haAlive
 have nhaBags:=qP haBags
 have nhaAround:=qP haAround
 have nhbAlive:=qP hbAlive
 have nhbBags:=qP hbBags
 have nhbAround:=qP hbAround
 clear ha haAlive haBags haAround hb hbAlive hbBags hbAround
 have N:=Fresh.nil w.heap.size
 refine zcr (sp (.bool false) (zjn (zn (zn ?_))))
 refine yF rfl H fun H=>rtp 0 (.pointer (some ⟨ba,oa,none⟩)) H ?_
 refine rtp 1 (.pointer (some ⟨ba,oa,none⟩)) H ?_
 refine tF 2 rfl rfl H ?_
 refine tL 3 rfl rfl (fun _ h=>h.xX 0 rfl 0 rfl) H ?_
 refine tN 4 rfl rfl H ?_
 refine rtp 5 (.pointer (some ⟨bb,ob,none⟩)) H ?_
 refine rtp 6 (.pointer (some ⟨bb,ob,none⟩)) H ?_
 refine tF 7 rfl rfl H ?_
 refine tL 8 rfl rfl (fun _ h=>h.xX 4 rfl 0 rfl) H ?_
 refine tN 9 rfl rfl H ?_
 refine rtp 10 (.bool ((a.qC.length:Int) != b.qC.length)) H ?_
 refine rtp 11 (.bool ((a.qC.length:Int) != b.qC.length)) H ?_
 cases h2:((a.qC.length:Int) != b.qC.length)
 ·skip
  replace h2:=zL h2
  refine rgp 12 (.pointer (some ⟨ba,oa,none⟩)) 18 H ?_
  refine rgp 13 (.pointer (some ⟨ba,oa,none⟩)) 18 H ?_
  refine gF 14 rfl rfl H ?_
  refine gL 15 rfl rfl (fun _ h=>h.xX 0 rfl 1 rfl) H ?_
  refine gN 16 rfl rfl H ?_
  refine rgp 17 (.pointer (some ⟨bb,ob,none⟩)) 18 H ?_
  refine rgp 18 (.pointer (some ⟨bb,ob,none⟩)) 18 H ?_
  refine gF 19 rfl rfl H ?_
  refine gL 20 rfl rfl (fun _ h=>h.xX 4 rfl 1 rfl) H ?_
  refine gN 21 rfl rfl H ?_
  refine rgp 22 (.bool ((a.qI.length:Int) != b.qI.length)) 18 H ?_
  refine rtp 23 (.bool ((a.qI.length:Int) != b.qI.length)) H ?_
  refine rtp 24 (.bool ((a.qI.length:Int) != b.qI.length)) H ?_
  cases h3:((a.qI.length:Int) != b.qI.length)
  ·skip
   replace h3:=zL h3
   refine rgp 25 (.pointer (some ⟨ba,oa,none⟩)) 31 H ?_
   refine rgp 26 (.pointer (some ⟨ba,oa,none⟩)) 31 H ?_
   refine gF 27 rfl rfl H ?_
   refine gL 28 rfl rfl (fun _ h=>h.xX 0 rfl 2 rfl) H ?_
   refine rgp 29 (.pointer (some ⟨bb,ob,none⟩)) 31 H ?_
   refine rgp 30 (.pointer (some ⟨bb,ob,none⟩)) 31 H ?_
   refine gF 31 rfl rfl H ?_
   refine gL 32 rfl rfl (fun _ h=>h.xX 4 rfl 2 rfl) H ?_
   refine zH [33] qh qm (r_opG rfl (e:=31) rfl rfl (oq (l00Same_ok _ a.qF b.qF (H.get 3 rfl).1 (H.get 7 rfl).1) H fun w5 H=>⟨H,(rgp 34 (.bool (!(decide (a.qF=b.qF)))) 31 H ?_)⟩) zI)
   refine rtp 35 (.bool (!(decide (a.qF=b.qF)))) H ?_
   refine qZ qh (t_n (xW (!(decide (a.qF=b.qF))) rfl (fun h7=>?_) (fun h7=>?_)))
   ·skip
    replace h7:=xB h7
    replace h7:=of_decide_eq_false h7
    refine zcr (sp (.bool false) (zjr (t_r (ret1 (.bool false) rfl rfl ⟨_,rfl,?_,H.base⟩))))
    rw [decide_eq_false (fun e=>by subst e;first | omega | exact absurd rfl ql | simp_all)]
   ·skip
    replace h7:=xm h7
    replace h7:=of_decide_eq_true h7
    refine xx (t_n (zcc (sp (.int .i64 0) (zjn (xw ?_)))))
    refine vJ (fun m' ρ w8=>∃ (zB:Env) (c:Nat),ρ=upd (upd (upd zB 0 (.pointer (some ⟨ba,oa,none⟩))) 1 (.pointer (some ⟨bb,ob,none⟩))) 5 (.int .i64 c)∧((c:Int)≤a.qC.length)∧(a.qC.take c=b.qC.take c)∧m' =(a.qC.length - (c:Int)).toNat∧Fresh w.heap.size []∧St w w8 [] [atF ba oa [.slice aaAlive a.qC.length caAlive,.slice aaBags a.qI.length caBags,.slice XC a.qF.length XA],sF false FaAlive aaAlive caAlive a.qC,sF false FaBags aaBags caBags a.qI,sF false FaAround XC XA a.qF,atF bb ob [.slice abAlive b.qC.length cbAlive,.slice abBags b.qI.length cbBags,.slice XB b.qF.length Xz],sF false FbAlive abAlive cbAlive b.qC,sF false FbBags abBags cbBags b.qI,sF false FbAround XB Xz b.qF]) ((a.qC.length - (0:Int)).toNat) ⟨_,0,uE3,qf,(by rfl),rfl,N,H⟩ ?_
    clear H N
    rintro m' ρ w9 ⟨zB,c,rfl,i0,i1,rfl,N,H⟩
    refine zcc (sps [.int .i64 c,.pointer (some ⟨ba,oa,none⟩),.pointer (some ⟨ba,oa,none⟩)] (oF rfl (oL rfl (H.xX 0 rfl 0 rfl) (oN rfl (sp (.bool (decide ((c:Int) < a.qC.length))) (zjn (cD rfl (fun h10=>?_) (fun h10=>?_))))))))
    ·skip
     refine xx (t_n (zn (xw (zn ?_))))
     refine yF rfl H fun H=>rtp 0 (.pointer (some ⟨ba,oa,none⟩)) H ?_
     refine rtp 1 (.pointer (some ⟨ba,oa,none⟩)) H ?_
     refine tF 2 rfl rfl H ?_
     refine tL 3 rfl rfl (fun _ h=>h.xX 0 rfl 0 rfl) H ?_
     refine rtp 4 (.int .i64 c) H ?_
     obtain ⟨b12,o13,rfl⟩:=H.addr 1 rfl qf
     refine tI 5 rfl rfl rfl H ?_
     refine tL 6 rfl rfl (fun _ h=>h.elemBoolN 1 rfl c qf) H ?_
     refine rtp 7 (.pointer (some ⟨bb,ob,none⟩)) H ?_
     refine rtp 8 (.pointer (some ⟨bb,ob,none⟩)) H ?_
     refine tF 9 rfl rfl H ?_
     refine tL 10 rfl rfl (fun _ h=>h.xX 4 rfl 0 rfl) H ?_
     refine rtp 11 (.int .i64 c) H ?_
     obtain ⟨b15,o16,rfl⟩:=H.addr 5 rfl qf
     refine tI 12 rfl rfl rfl H ?_
     refine tL 13 rfl rfl (fun _ h=>h.elemBoolN 5 rfl c qf) H ?_
     refine rt 14 (.bool ((a.qC[c]!) != (b.qC[c]!))) (y_neB Try.underlying4 (a.qC[c]!) (b.qC[c]!) rfl rfl) H ?_
     refine qZ qh (t_n (xW ((a.qC[c]!) != (b.qC[c]!)) rfl (fun h18=>?_) (fun h18=>?_)))
     ·skip
      replace h18:=bne_iff_ne.1 h18
      refine zcr (sp (.bool false) (zjr (zr5 (ret1 (.bool false) rfl rfl ⟨_,rfl,?_,H.base⟩))))
      rw [decide_eq_false (fun e=>by subst e;first | omega | exact absurd rfl ql | simp_all)]
     ·skip
      replace h18:=zL h18
      refine xx (b_n (t_n (zk (sp (.int .i64 c) (sw (zX c 1 rfl rfl qf (sp (.int .i64 (c+1)) (zt (xu (m' :=(a.qC.length - ((c+1):Int)).toNat) qf ⟨_,c+1,uE3,?_,?_,rfl,N,H⟩)))))))))
      · omega
      · exact eqTo_succ qf qf i1 qg
    ·skip
     refine zx4 (zcc (sp (.int .i64 0) (zjn (xw ?_))))
     refine vJ (fun m' ρ w19=>∃ (zB:Env) (c_1:Nat),ρ=upd (upd (upd zB 0 (.pointer (some ⟨ba,oa,none⟩))) 1 (.pointer (some ⟨bb,ob,none⟩))) 6 (.int .i64 c_1)∧((c_1:Int)≤a.qI.length)∧(a.qI.take c_1=b.qI.take c_1)∧m' =(a.qI.length - (c_1:Int)).toNat∧Fresh w.heap.size []∧St w w19 [] [atF ba oa [.slice aaAlive a.qC.length caAlive,.slice aaBags a.qI.length caBags,.slice XC a.qF.length XA],sF false FaAlive aaAlive caAlive a.qC,sF false FaBags aaBags caBags a.qI,sF false FaAround XC XA a.qF,atF bb ob [.slice abAlive b.qC.length cbAlive,.slice abBags b.qI.length cbBags,.slice XB b.qF.length Xz],sF false FbAlive abAlive cbAlive b.qC,sF false FbBags abBags cbBags b.qI,sF false FbAround XB Xz b.qF]) ((a.qI.length - (0:Int)).toNat) ⟨_,0,uE3,qf,(by rfl),rfl,N,H⟩ ?_
     clear H N
     rintro m' ρ w20 ⟨zB,c_1,rfl,i0,i2,rfl,N,H⟩
     refine zcc (sps [.int .i64 c_1,.pointer (some ⟨ba,oa,none⟩),.pointer (some ⟨ba,oa,none⟩)] (oF rfl (oL rfl (H.xX 0 rfl 1 rfl) (oN rfl (sp (.bool (decide ((c_1:Int) < a.qI.length))) (zjn (cD rfl (fun h21=>?_) (fun h21=>?_))))))))
     ·skip
      refine xx (t_n (zn (xw (zn ?_))))
      obtain ⟨b22,o23,rfl⟩:=H.addr 2 rfl qf
      obtain ⟨b25,o26,rfl⟩:=H.addr 6 rfl qf
      refine c_cut (fun ρ w34=>∃ (zB:Env) (F28:yLN) (a29:yOA) (c30:Nat) (F31:yLN) (a32:yOA) (c33:Nat),ρ=upd (upd (upd (upd zB 0 (.pointer (some ⟨ba,oa,none⟩))) 1 (.pointer (some ⟨bb,ob,none⟩))) 6 (.int .i64 c_1)) 91 (.bool (!(decide ((a.qI[c_1]!)=(b.qI[c_1]!)))))∧Fresh w.heap.size []∧St w w34 [] [sF false F28 a29 c30 (b.qI[c_1]!),atF b25 (o26+(c_1:Int).toNat * 1) [.slice a29 ((b.qI[c_1]!).length) c30],sF false F31 a32 c33 (a.qI[c_1]!),atF b22 (o23+(c_1:Int).toNat * 1) [.slice a32 ((a.qI[c_1]!).length) c33],atF ba oa [.slice aaAlive a.qC.length caAlive,.slice (some ⟨b22,o23,none⟩) a.qI.length caBags,.slice XC a.qF.length XA],sF false FaAlive aaAlive caAlive a.qC,sF false FaBags (some ⟨b22,o23,none⟩) caBags a.qI,sF false FaAround XC XA a.qF,atF bb ob [.slice abAlive b.qC.length cbAlive,.slice (some ⟨b25,o26,none⟩) b.qI.length cbBags,.slice XB b.qF.length Xz],sF false FbAlive abAlive cbAlive b.qC,sF false FbBags (some ⟨b25,o26,none⟩) cbBags b.qI,sF false FbAround XB Xz b.qF]) ?_ ?_
      ·skip
       refine yF rfl H fun H=>rtp 0 (.pointer (some ⟨ba,oa,none⟩)) H ?_
       refine rtp 1 (.pointer (some ⟨ba,oa,none⟩)) H ?_
       refine tF 2 rfl rfl H ?_
       refine tL 3 rfl rfl (fun _ h=>h.xX 0 rfl 1 rfl) H ?_
       refine rtp 4 (.int .i64 c_1) H ?_
       obtain ⟨ae36,ce36,Fe36,H⟩:=H.QL 2 rfl c_1 c_1 qf qf qf
       have S:=H.jR [] [2,3,4,5,6,7,8,9]
       refine tI 5 rfl rfl rfl S ?_
       refine rtp 7 (.pointer (some ⟨bb,ob,none⟩)) S ?_
       refine rtp 8 (.pointer (some ⟨bb,ob,none⟩)) S ?_
       refine tF 9 rfl rfl S ?_
       refine tL 10 rfl rfl (fun _ h=>h.xX 4 rfl 1 rfl) S ?_
       refine rtp 11 (.int .i64 c_1) S ?_
       obtain ⟨ae37,ce37,Fe37,H⟩:=H.QL 8 rfl c_1 c_1 qf qf qf
       refine tI 12 rfl rfl rfl (H.pick [] [4,5,6,7,8,9,10,11]) ?_
       refine zH [6,13] qh qm (vz rfl ?_ (vz rfl ?_ zI))
       ·skip
        refine zh (.slice ae36 ((a.qI[c_1]!).length) ce36) Try.isAgg24 rfl (H.xX 3 rfl 0 rfl) (⟨H.pick [] [4,5,6,7,8,9,10,11],(ro 13 rfl (zh (.slice ae37 ((b.qI[c_1]!).length) ce37) Try.isAgg24 rfl (H.xX 1 rfl 0 rfl) (⟨H.pick [] [4,5,6,7,8,9,10,11],(ro 14 rfl (oq (l00Same_ok _ (a.qI[c_1]!) (b.qI[c_1]!) (H.get 2 rfl).1 (H.get 0 rfl).1) H fun w39 H=>⟨H.pick [] [4,5,6,7,8,9,10,11],(rtp 15 (.bool (!(decide ((a.qI[c_1]!)=(b.qI[c_1]!))))) (H.pick [] [4,5,6,7,8,9,10,11]) ?_)⟩))⟩)))⟩)
        refine qZ qh ((meet ⟨_,Fe37,ae37,ce37,Fe36,ae36,ce36,uE4,N,H⟩))
       ·skip
        refine zh (.slice ae37 ((b.qI[c_1]!).length) ce37) Try.isAgg24 rfl (H.xX 1 rfl 0 rfl) (⟨H.pick [] [4,5,6,7,8,9,10,11],(ro 6 rfl (zh (.slice ae36 ((a.qI[c_1]!).length) ce36) Try.isAgg24 rfl (H.xX 3 rfl 0 rfl) (⟨H.pick [] [4,5,6,7,8,9,10,11],(ro 14 rfl (oq (l00Same_ok _ (a.qI[c_1]!) (b.qI[c_1]!) (H.get 2 rfl).1 (H.get 0 rfl).1) H fun w42 H=>⟨H.pick [] [4,5,6,7,8,9,10,11],(rtp 15 (.bool (!(decide ((a.qI[c_1]!)=(b.qI[c_1]!))))) (H.pick [] [4,5,6,7,8,9,10,11]) ?_)⟩))⟩)))⟩)
        refine qZ qh ((meet ⟨_,Fe37,ae37,ce37,Fe36,ae36,ce36,uE4,N,H⟩))
      ·skip
       clear H N
       rintro ρ w44 ⟨zB,F28,a29,c30,F31,a32,c33,rfl,N,H⟩
       refine t_n (xW (!(decide ((a.qI[c_1]!)=(b.qI[c_1]!)))) rfl (fun h45=>?_) (fun h45=>?_))
       ·skip
        replace h45:=xB h45
        replace h45:=of_decide_eq_false h45
        refine zcr (sp (.bool false) (zjr (zr5 (ret1 (.bool false) rfl rfl ⟨_,rfl,?_,H.base⟩))))
        rw [decide_eq_false (fun e=>by subst e;first | omega | exact absurd rfl ql | simp_all)]
       ·skip
        replace h45:=xm h45
        replace h45:=of_decide_eq_true h45
        refine xx (b_n (t_n (zk (sp (.int .i64 c_1) (sw (zX c_1 1 rfl rfl qf (sp (.int .i64 (c_1+1)) (zt (xu (m' :=(a.qI.length - ((c_1+1):Int)).toNat) qf ⟨_,c_1+1,uE3,?_,?_,rfl,N,H.pick [] [4,5,6,7,8,9,10,11]⟩)))))))))
        · omega
        · exact eqTo_succ qf qf i2 ql
     ·skip
      refine zx4 (zcr (sp (.bool true) (zjr (ret1 (.bool true) rfl rfl ⟨_,rfl,?_,H.base⟩))))
      rw [decide_eq_true (state_eq (eq_of_take (k:=c) qf qf i1) (eq_of_take (k:=c_1) qf qf i2) ql)]
  ·skip
   replace h3:=bne_iff_ne.1 h3
   refine zC [25,26,27,28,29,30,31,32,33,34] 10 (H) (rtp 35 (.bool true) H ?_)
   refine qZ qh (t_n (xW true rfl (fun _=>zcr (sp (.bool false) (zjr (t_r (ret1 (.bool false) rfl rfl ⟨_,rfl,?_,H.base⟩))))) (fun h=>absurd h qj)))
   rw [decide_eq_false (fun e=>by subst e;first | omega | exact absurd rfl ql | simp_all)]
 ·skip
  replace h2:=bne_iff_ne.1 h2
  refine zC [12,13,14,15,16,17,18,19,20,21,22] 11 (H) (rtp 23 (.bool true) H ?_)
  refine rtp 24 (.bool true) H ?_
  refine zC [25,26,27,28,29,30,31,32,33,34] 10 (H) (rtp 35 (.bool true) H ?_)
  refine qZ qh (t_n (xW true rfl (fun _=>zcr (sp (.bool false) (zjr (t_r (ret1 (.bool false) rfl rfl ⟨_,rfl,?_,H.base⟩))))) (fun h=>absurd h qj)))
  rw [decide_eq_false (fun e=>by subst e;first | omega | exact absurd rfl ql | simp_all)]

theorem specSame_ok (w:World) (a:qG) (b:qG) {aaAlive:yOA} {FaAlive:yLN} {aaBags:yOA} {FaBags:yLN} {XC:yOA} {FaAround:yLN} {abAlive:yOA} {FbAlive:yLN} {abBags:yOA} {FbBags:yLN} {XB:yOA} {FbAround:yLN} (haAlive:qU.rep w FaAlive [.slice aaAlive a.qC.length caAlive] a.qC) (haBags:qU.rep w FaBags [.slice aaBags a.qI.length caBags] a.qI) (haAround:qU.rep w FaAround [.slice XC a.qF.length XA] a.qF) (hbAlive:qU.rep w FbAlive [.slice abAlive b.qC.length cbAlive] b.qC) (hbBags:qU.rep w FbBags [.slice abBags b.qI.length cbBags] b.qI) (hbAround:qU.rep w FbAround [.slice XB b.qF.length Xz] b.qF):Calls Try.prog 25 #[.agg #[.slice aaAlive a.qC.length caAlive,.slice aaBags a.qI.length caBags,.slice XC a.qF.length XA],.agg #[.slice abAlive b.qC.length cbAlive,.slice abBags b.qI.length cbBags,.slice XB b.qF.length Xz]] w (Ret (fun v w' =>v=.bool (decide (a=b))) w):=by
 refine en Try.func25 Try.ntmps25 ?_
 have H:=((((((St.start w).arg hbAround).arg hbBags).arg hbAlive).arg haAround).arg haBags).arg haAlive
 have nhaAlive:=qP haAlive
 have nhaBags:=qP haBags
 have nhaAround:=qP haAround
 have nhbAlive:=qP hbAlive
 have nhbBags:=qP hbBags
 have nhbAround:=qP hbAround
 clear haAlive haBags haAround hbAlive hbBags hbAround
 have N:=Fresh.nil w.heap.size
 refine zcr (sw (yK H [.slice aaAlive a.qC.length caAlive,.slice aaBags a.qI.length caBags,.slice XC a.qF.length XA] fun b1 w2 H=>sw (yK H [.slice abAlive b.qC.length cbAlive,.slice abBags b.qI.length cbBags,.slice XB b.qF.length Xz] fun b3 w4 H=>sp (.bool false) (zjc (sw (oq (l02Same_ok _ a b (qH (H.cells 1 rfl) 0 3) (H.get 0 rfl).1 (H.get 1 rfl).1 (H.get 2 rfl).1 (qH (H.cells 0 rfl) 0 3) (H.get 3 rfl).1 (H.get 4 rfl).1 (H.get 5 rfl).1) H fun w6 H=>sp (.bool (decide (a=b))) (zjr (ret1 (.bool (decide (a=b))) rfl rfl ⟨_,rfl,?_,H.base⟩))))))))
 rfl

theorem isHalted_ok (w:World) (s:qy) (t:qG) {qB:yOA} {qA:Nat} {xe:yLN} {qL:yOA} {qJ:Nat} {xI:yLN} {qX:yOA} {qR:Nat} {zg:yLN} {xG:yOA} {xA:Nat} {zO:yLN} {qO:yOA} {qN:Nat} {xN:yLN} (qV:qU.rep w xe [.slice qB s.qx.length qA] s.qx) (xF:qU.rep w xI [.slice qL s.qw.length qJ] s.qw) (zf:qU.rep w zg [.slice qX t.qC.length qR] t.qC) (zK:qU.rep w zO [.slice xG t.qI.length xA] t.qI) (xO:qU.rep w xN [.slice qO t.qF.length qN] t.qF) (p0:yH s∧zl s t):Calls Try.prog 24 #[.agg #[.int .i64 s.xn,.slice qB s.qx.length qA,.slice qL s.qw.length qJ],.agg #[.slice qX t.qC.length qR,.slice xG t.qI.length xA,.slice qO t.qF.length qN]] w (Ret (fun v w' =>v=.tuple #[.bool (dec (Halted s t)),.int .i64 0]) w):=by
 refine en Try.func24 Try.ntmps24 ?_
 have H:=(((((St.start w).arg xO).arg zK).arg zf).arg xF).arg qV
 have vG:=qP qV
 have jM:=qP xF
 have Qh:=qP zf
 have QR:=qP zK
 have yO:=qP xO
 clear qV xF zf zK xO
 have N:=Fresh.nil w.heap.size
 have p1:=p0.1
 have p2:=p0.2
 refine zcr (sw (yK H [.int .i64 s.xn,.slice qB s.qx.length qA,.slice qL s.qw.length qJ] fun b1 w2 H=>sw (yK H [.slice qX t.qC.length qR,.slice xG t.qI.length xA,.slice qO t.qF.length qN] fun b3 w4 H=>sps [.bool false,.int .i64 0] (zjcc (sw (zu [.int .i64 s.xn,.slice qB s.qx.length qA,.slice qL s.qw.length qJ] Try.isAgg27 Try.sizeOf27 rfl (qH (H.cells 1 rfl) 0 3) ?_))))))
 refine sw (zu [.slice qX t.qC.length qR,.slice xG t.qI.length xA,.slice qO t.qF.length qN] Try.isAgg31 Try.sizeOf31 rfl (qH (H.cells 0 rfl) 0 3) (sw (oq (validState_ok _ s t (H.get 0 rfl).1 (H.get 1 rfl).1 (H.get 2 rfl).1 (H.get 3 rfl).1 (H.get 4 rfl).1) H fun w6 H=>sp (.bool (!(dec (yH s∧zl s t)))) (zjn (cQ rfl (fun h8=>?_) (fun h8=>?_))))))
 ·skip
  exact absurd p0 h8
 ·skip
  refine xx (t_n (zcr (sw (zu [.int .i64 s.xn,.slice qB s.qx.length qA,.slice qL s.qw.length qJ] Try.isAgg27 Try.sizeOf27 rfl (qH (H.cells 1 rfl) 0 3) (sw (zu [.slice qX t.qC.length qR,.slice xG t.qI.length xA,.slice qO t.qF.length qN] Try.isAgg31 Try.sizeOf31 rfl (qH (H.cells 0 rfl) 0 3) ?_))))))
  have sz12:=H.base.size
  refine sw (oc (applicable_ok _ s t (H.get 0 rfl).1 (H.get 1 rfl).1 (H.get 2 rfl).1 (H.get 3 rfl).1 (H.get 4 rfl).1 qg qg) ?_)
  rintro _ w10 ⟨ra9,rn9,rc9,rfl,M,K⟩ _
  replace H:=H.merge K M
  obtain rfl:=H.zS 0 rfl
  refine oN rfl (sps [.bool (((appls s t).length:Int) == 0),.bool (((appls s t).length:Int) == 0),.int .i64 0] (zjr (ret2 (.bool (((appls s t).length:Int) == 0)) (.int .i64 0) rfl rfl rfl ⟨_,rfl,?_,H.base⟩)))
  rw [halt_eq]
theorem law_FnRunFirst (w:World) (code:List UInt8) (more:List UInt8) (acode:yOA) (ccode:Nat) (Fcode:yLN) (amore:yOA) (cmore:Nat) (Fmore:yLN) (hcode:qU.rep w Fcode [.slice acode code.length ccode] code) (hmore:qU.rep w Fmore [.slice amore more.length cmore] more):Calls Try.prog 5 #[.slice acode code.length ccode,.slice amore more.length cmore] w (Ret (fun v w' =>v=.bool true) w):=by
 refine en Try.func5 Try.ntmps5 ?_
 have H:=((St.start w).arg hmore).arg hcode
 have nhcode:=qP hcode
 have nhmore:=qP hmore
 clear hcode hmore
 have N:=Fresh.nil w.heap.size
 refine zcr (sp (.bool false) (zjcc (sps [.slice acode code.length ccode,.slice amore more.length cmore] (sw (Qg #[.slice acode code.length ccode,.slice amore more.length cmore] rfl rfl Try.call6 (en Try.func6 Try.ntmps6 ?_))))))
 refine zcr (sp (.bool false) (zjc (sp (.slice acode code.length ccode) (oN rfl (sps [.bool (decide ((code.length:Int) > 3000)),.bool (decide ((code.length:Int) > 3000))] ?_)))))
 cases h1:(decide ((code.length:Int) > 3000))
 ·skip
  replace h1:=of_decide_eq_false h1
  refine qK 8 rfl rfl (sp (.slice amore more.length cmore) (qK 8 rfl rfl (oN rfl (qK 8 rfl rfl (sps [.bool (decide ((more.length:Int) > 3000)),.bool (decide ((more.length:Int) > 3000)),.bool (decide ((more.length:Int) > 3000))] (zjr (ret1 (.bool (decide ((more.length:Int) > 3000))) rfl rfl ⟨_,rfl,(zjn (cD rfl (fun h2=>?_) (fun h2=>?_)))⟩)))))))
  ·skip
   refine zcr (sp (.bool true) (zjr (t_r (ret1 (.bool true) rfl rfl ⟨_,rfl,?_,H.base⟩))))
   rfl
  ·skip
   refine xx (t_n (zcr (sp (.slice acode code.length ccode) ?_)))
   have H1:St w w [] [sF false Fcode acode ccode code,sF false Fmore amore cmore more]:=H.pick [] [0,1]
   have N1:Fresh _ []:=N
   have K1:Kept [] [sF false Fmore amore cmore more]:=Kept.nil _
   refine sw (xH #[.slice acode code.length ccode] rfl rfl Try.call21 (a2Given_ok code acode ccode Fcode H1 N1 K1 ) ?_)
   clear H H1 N1 K1
   rintro _ w3 ⟨zi7,zl8,zR9,zm10,zL11,zl12,ra13,rn14,rc15,ra16,rn17,rc18,rx19,rF20,ra21,rn22,rc23,ra24,rn25,rc26,rx27,rF28,ra29,rn30,rc31,hx5,hx6,rfl,N,H⟩
   obtain rfl:=H.zS 0 rfl
   obtain rfl:=H.zi (α:=jq) 1 rfl 1 rfl qj
   obtain rfl:=H.Q7 2 rfl
   obtain rfl:=H.zi (α:=yLI) 3 rfl 2 rfl qj
   obtain rfl:=H.zS 4 rfl
   have sd:=(‹SysDr _ _ _›)
   have td:=(‹StDr _ _ _ _ _ _›)
   have k0:yH (⟨zi7,zl8,zR9⟩:qy)∧zl (⟨zi7,zl8,zR9⟩:qy) (⟨zm10,zL11,zl12⟩:qG):=⟨sd.ok,td.ok sd qf⟩
   have ba:=atV_bd more 0 (n:=6) qf
   have bb:=atV_bd more 1 (n:=6) qf
   refine sps [.tuple #[.agg #[.int .i64 zi7,.slice ra13 zl8.length rc15,.slice ra16 zR9.length rc18],.agg #[.slice ra21 zm10.length rc23,.slice ra24 zL11.length rc26,.slice ra29 zl12.length rc31]],.agg #[.int .i64 zi7,.slice ra13 zl8.length rc15,.slice ra16 zR9.length rc18],.agg #[.slice ra21 zm10.length rc23,.slice ra24 zL11.length rc26,.slice ra29 zl12.length rc31]] (sw (xq H ti27 [.int .i64 0,.slice none 0 0,.slice none 0 0] fun b32 w33 H=>sw (xq H ti31 [.slice none 0 0,.slice none 0 0,.slice none 0 0] fun b34 w35 H=>sw (qQ H 1 [.int .i64 zi7,.slice ra13 zl8.length rc15,.slice ra16 zR9.length rc18] Try.sizeOf27 fun w36 H=>?_))))
   refine sw (qQ H 0 [.slice ra21 zm10.length rc23,.slice ra24 zL11.length rc26,.slice ra29 zl12.length rc31] Try.sizeOf31 fun w37 H=>zjc (sp (.slice amore more.length cmore) (sw (oq (a2At_ok _ more 0 6 (H.get 3 rfl).1 qg) H fun w39 H=>sp (.int .i64 (atV more 0 6)) (zjc (sp (.slice amore more.length cmore) (sw (oq (a2At_ok _ more 1 6 (H.get 3 rfl).1 qg) H fun w42 H=>sp (.int .i64 (atV more 1 6)) (zjc ?_)))))))))
   refine sw (zu [.int .i64 zi7,.slice ra13 zl8.length rc15,.slice ra16 zR9.length rc18] Try.isAgg27 Try.sizeOf27 rfl (qH (H.cells 1 rfl) 0 3) (sw (zu [.slice ra21 zm10.length rc23,.slice ra24 zL11.length rc26,.slice ra29 zl12.length rc31] Try.isAgg31 Try.sizeOf31 rfl (qH (H.cells 0 rfl) 0 3) (sps [.int .i64 (atV more 0 6),.int .i64 (atV more 1 6)] (sw (zX (atV more 0 6) (atV more 1 6) rfl rfl qf ?_))))))
   obtain ⟨G44,hn45,h46⟩:=H.Ql 2 rfl
   obtain ⟨G47,hn48,h49⟩:=H.QN (α:=jq) 3 rfl 1 rfl qj
   obtain ⟨G50,hn51,h52⟩:=H.XG 4 rfl
   obtain ⟨G53,hn54,h55⟩:=H.QN (α:=yLI) 5 rfl 2 rfl qj
   obtain ⟨G56,hn57,h58⟩:=H.Ql 6 rfl
   have sz62:=H.base.size
   have lt63:=H.ltN (L:=[rF28]) [2]
   refine sw (oc (specRun_ok _ (⟨zi7,zl8,zR9⟩:qy) (⟨zm10,zL11,zl12⟩:qG) ((atV more 0 6)+(atV more 1 6)) h46 h49 h52 h55 h58) ?_)
   rintro _ w60 ⟨ra59aAlive,rn59aAlive,rc59aAlive,ra59aBags,rn59aBags,rc59aBags,rx59aBags,rF59aBags,ra59aAround,rn59aAround,rc59aAround,rfl,M,K⟩ _
   replace N:=N.merge sz62 lt63 M
   replace H:=H.merge K M
   obtain rfl:=H.Q7 0 rfl
   obtain rfl:=H.zi (α:=yLI) 1 rfl 0 rfl qj
   obtain rfl:=H.zS 2 rfl
   refine sps [.tuple #[.agg #[.slice ra59aAlive ((((xk (⟨zi7,zl8,zR9⟩:qy) (⟨zm10,zL11,zl12⟩:qG) ((atV more 0 6)+(atV more 1 6))).1).qC).length) rc59aAlive,.slice ra59aBags ((((xk (⟨zi7,zl8,zR9⟩:qy) (⟨zm10,zL11,zl12⟩:qG) ((atV more 0 6)+(atV more 1 6))).1).qI).length) rc59aBags,.slice ra59aAround ((((xk (⟨zi7,zl8,zR9⟩:qy) (⟨zm10,zL11,zl12⟩:qG) ((atV more 0 6)+(atV more 1 6))).1).qF).length) rc59aAround],.int .i64 ((xk (⟨zi7,zl8,zR9⟩:qy) (⟨zm10,zL11,zl12⟩:qG) ((atV more 0 6)+(atV more 1 6))).2.1),.int .i64 ((xk (⟨zi7,zl8,zR9⟩:qy) (⟨zm10,zL11,zl12⟩:qG) ((atV more 0 6)+(atV more 1 6))).2.2)],.agg #[.slice ra59aAlive ((((xk (⟨zi7,zl8,zR9⟩:qy) (⟨zm10,zL11,zl12⟩:qG) ((atV more 0 6)+(atV more 1 6))).1).qC).length) rc59aAlive,.slice ra59aBags ((((xk (⟨zi7,zl8,zR9⟩:qy) (⟨zm10,zL11,zl12⟩:qG) ((atV more 0 6)+(atV more 1 6))).1).qI).length) rc59aBags,.slice ra59aAround ((((xk (⟨zi7,zl8,zR9⟩:qy) (⟨zm10,zL11,zl12⟩:qG) ((atV more 0 6)+(atV more 1 6))).1).qF).length) rc59aAround],.int .i64 ((xk (⟨zi7,zl8,zR9⟩:qy) (⟨zm10,zL11,zl12⟩:qG) ((atV more 0 6)+(atV more 1 6))).2.1),.int .i64 ((xk (⟨zi7,zl8,zR9⟩:qy) (⟨zm10,zL11,zl12⟩:qG) ((atV more 0 6)+(atV more 1 6))).2.2)] ?_
   refine sw (xq H ti31 [.slice none 0 0,.slice none 0 0,.slice none 0 0] fun b67 w68 H=>sw (qQ H 0 [.slice ra59aAlive ((((xk (⟨zi7,zl8,zR9⟩:qy) (⟨zm10,zL11,zl12⟩:qG) ((atV more 0 6)+(atV more 1 6))).1).qC).length) rc59aAlive,.slice ra59aBags ((((xk (⟨zi7,zl8,zR9⟩:qy) (⟨zm10,zL11,zl12⟩:qG) ((atV more 0 6)+(atV more 1 6))).1).qI).length) rc59aBags,.slice ra59aAround ((((xk (⟨zi7,zl8,zR9⟩:qy) (⟨zm10,zL11,zl12⟩:qG) ((atV more 0 6)+(atV more 1 6))).1).qF).length) rc59aAround] Try.sizeOf31 fun w69 H=>?_))
   refine sps [.int .i64 ((xk (⟨zi7,zl8,zR9⟩:qy) (⟨zm10,zL11,zl12⟩:qG) ((atV more 0 6)+(atV more 1 6))).2.1),.int .i64 ((xk (⟨zi7,zl8,zR9⟩:qy) (⟨zm10,zL11,zl12⟩:qG) ((atV more 0 6)+(atV more 1 6))).2.2)] (zjc (sw (zu [.int .i64 zi7,.slice ra13 zl8.length rc15,.slice ra16 zR9.length rc18] Try.isAgg27 Try.sizeOf27 rfl (qH (H.cells 5 rfl) 0 3) (sw (zu [.slice ra21 zm10.length rc23,.slice ra24 zL11.length rc26,.slice ra29 zl12.length rc31] Try.isAgg31 Try.sizeOf31 rfl (qH (H.cells 4 rfl) 0 3) (sps [.int .i64 (atV more 0 6),.int .i64 (atV more 1 6)] ?_))))))
   refine sw (zX (atV more 0 6) (atV more 1 6) rfl rfl qf ?_)
   obtain ⟨G70,hn71,h72⟩:=H.Ql 6 rfl
   obtain ⟨G73,hn74,h75⟩:=H.QN (α:=jq) 7 rfl 2 rfl qj
   obtain ⟨G76,hn77,h78⟩:=H.XG 8 rfl
   obtain ⟨G79,hn80,h81⟩:=H.QN (α:=yLI) 9 rfl 3 rfl qj
   obtain ⟨G82,hn83,h84⟩:=H.Ql 10 rfl
   have sz88:=H.base.size
   have lt89:=H.ltN (L:=[rF59aBags,rF28]) [0,3]
   refine sw (oc (implRun_ok _ (⟨zi7,zl8,zR9⟩:qy) (⟨zm10,zL11,zl12⟩:qG) ((atV more 0 6)+(atV more 1 6)) h72 h75 h78 h81 h84) ?_)
   rintro _ w86 ⟨ra85aAlive,rn85aAlive,rc85aAlive,ra85aBags,rn85aBags,rc85aBags,rx85aBags,rF85aBags,ra85aAround,rn85aAround,rc85aAround,rfl,M,K⟩ _
   replace N:=N.merge sz88 lt89 M
   replace H:=H.merge K M
   obtain rfl:=H.Q7 0 rfl
   obtain rfl:=H.zi (α:=yLI) 1 rfl 0 rfl qj
   obtain rfl:=H.zS 2 rfl
   refine sps [.tuple #[.agg #[.slice ra85aAlive ((((xk (⟨zi7,zl8,zR9⟩:qy) (⟨zm10,zL11,zl12⟩:qG) ((atV more 0 6)+(atV more 1 6))).1).qC).length) rc85aAlive,.slice ra85aBags ((((xk (⟨zi7,zl8,zR9⟩:qy) (⟨zm10,zL11,zl12⟩:qG) ((atV more 0 6)+(atV more 1 6))).1).qI).length) rc85aBags,.slice ra85aAround ((((xk (⟨zi7,zl8,zR9⟩:qy) (⟨zm10,zL11,zl12⟩:qG) ((atV more 0 6)+(atV more 1 6))).1).qF).length) rc85aAround],.int .i64 ((xk (⟨zi7,zl8,zR9⟩:qy) (⟨zm10,zL11,zl12⟩:qG) ((atV more 0 6)+(atV more 1 6))).2.1),.int .i64 ((xk (⟨zi7,zl8,zR9⟩:qy) (⟨zm10,zL11,zl12⟩:qG) ((atV more 0 6)+(atV more 1 6))).2.2)],.agg #[.slice ra85aAlive ((((xk (⟨zi7,zl8,zR9⟩:qy) (⟨zm10,zL11,zl12⟩:qG) ((atV more 0 6)+(atV more 1 6))).1).qC).length) rc85aAlive,.slice ra85aBags ((((xk (⟨zi7,zl8,zR9⟩:qy) (⟨zm10,zL11,zl12⟩:qG) ((atV more 0 6)+(atV more 1 6))).1).qI).length) rc85aBags,.slice ra85aAround ((((xk (⟨zi7,zl8,zR9⟩:qy) (⟨zm10,zL11,zl12⟩:qG) ((atV more 0 6)+(atV more 1 6))).1).qF).length) rc85aAround],.int .i64 ((xk (⟨zi7,zl8,zR9⟩:qy) (⟨zm10,zL11,zl12⟩:qG) ((atV more 0 6)+(atV more 1 6))).2.1),.int .i64 ((xk (⟨zi7,zl8,zR9⟩:qy) (⟨zm10,zL11,zl12⟩:qG) ((atV more 0 6)+(atV more 1 6))).2.2)] ?_
   refine sw (xq H ti31 [.slice none 0 0,.slice none 0 0,.slice none 0 0] fun b93 w94 H=>sw (qQ H 0 [.slice ra85aAlive ((((xk (⟨zi7,zl8,zR9⟩:qy) (⟨zm10,zL11,zl12⟩:qG) ((atV more 0 6)+(atV more 1 6))).1).qC).length) rc85aAlive,.slice ra85aBags ((((xk (⟨zi7,zl8,zR9⟩:qy) (⟨zm10,zL11,zl12⟩:qG) ((atV more 0 6)+(atV more 1 6))).1).qI).length) rc85aBags,.slice ra85aAround ((((xk (⟨zi7,zl8,zR9⟩:qy) (⟨zm10,zL11,zl12⟩:qG) ((atV more 0 6)+(atV more 1 6))).1).qF).length) rc85aAround] Try.sizeOf31 fun w95 H=>?_))
   refine sps [.int .i64 ((xk (⟨zi7,zl8,zR9⟩:qy) (⟨zm10,zL11,zl12⟩:qG) ((atV more 0 6)+(atV more 1 6))).2.1),.int .i64 ((xk (⟨zi7,zl8,zR9⟩:qy) (⟨zm10,zL11,zl12⟩:qG) ((atV more 0 6)+(atV more 1 6))).2.2)] (zjcc ?_)
   refine sps [.int .i64 ((xk (⟨zi7,zl8,zR9⟩:qy) (⟨zm10,zL11,zl12⟩:qG) ((atV more 0 6)+(atV more 1 6))).2.2),.int .i64 ((xk (⟨zi7,zl8,zR9⟩:qy) (⟨zm10,zL11,zl12⟩:qG) ((atV more 0 6)+(atV more 1 6))).2.2),.bool (((xk (⟨zi7,zl8,zR9⟩:qy) (⟨zm10,zL11,zl12⟩:qG) ((atV more 0 6)+(atV more 1 6))).2.2:Int) != ((xk (⟨zi7,zl8,zR9⟩:qy) (⟨zm10,zL11,zl12⟩:qG) ((atV more 0 6)+(atV more 1 6))).2.2))] (zjn ?_)
   refine xW (((xk (⟨zi7,zl8,zR9⟩:qy) (⟨zm10,zL11,zl12⟩:qG) ((atV more 0 6)+(atV more 1 6))).2.2:Int) != ((xk (⟨zi7,zl8,zR9⟩:qy) (⟨zm10,zL11,zl12⟩:qG) ((atV more 0 6)+(atV more 1 6))).2.2)) rfl (fun h=>absurd rfl (bne_iff_ne.1 h)) (fun h96=>?_)
   replace h96:=zL h96
   refine xx (t_n (zcc (sps [.int .i64 ((xk (⟨zi7,zl8,zR9⟩:qy) (⟨zm10,zL11,zl12⟩:qG) ((atV more 0 6)+(atV more 1 6))).2.2),.bool (((xk (⟨zi7,zl8,zR9⟩:qy) (⟨zm10,zL11,zl12⟩:qG) ((atV more 0 6)+(atV more 1 6))).2.2:Int) != 0)] (zjn (xW (((xk (⟨zi7,zl8,zR9⟩:qy) (⟨zm10,zL11,zl12⟩:qG) ((atV more 0 6)+(atV more 1 6))).2.2:Int) != 0) rfl (fun h97=>?_) (fun h97=>?_))))))
   ·skip
    replace h97:=bne_iff_ne.1 h97
    refine zcr (sp (.bool true) (zjr (t_r (ret1 (.bool true) rfl rfl ⟨_,rfl,?_,H.base⟩))))
    rfl
   ·skip
    replace h97:=zL h97
    obtain ⟨z1,z2,z3,z4,z5,z6,z7⟩:=run_two k0 ba bb qf
    have y1:=run_bd (s:=(⟨zi7,zl8,zR9⟩:qy)) (t:=(⟨zm10,zL11,zl12⟩:qG)) (n:=atV more 0 6)
    have y2:=run_bd (s:=(⟨zi7,zl8,zR9⟩:qy)) (t:=(xk (⟨zi7,zl8,zR9⟩:qy) (⟨zm10,zL11,zl12⟩:qG) (atV more 0 6)).1) (n:=atV more 1 6)
    refine xx (t_n (zcr (sw (zu [.int .i64 zi7,.slice ra13 zl8.length rc15,.slice ra16 zR9.length rc18] Try.isAgg27 Try.sizeOf27 rfl (qH (H.cells 9 rfl) 0 3) (sw (zu [.slice ra21 zm10.length rc23,.slice ra24 zL11.length rc26,.slice ra29 zl12.length rc31] Try.isAgg31 Try.sizeOf31 rfl (qH (H.cells 8 rfl) 0 3) (sp (.int .i64 (atV more 0 6)) ?_)))))))
    obtain ⟨G98,hn99,h100⟩:=H.Ql 10 rfl
    obtain ⟨G101,hn102,h103⟩:=H.QN (α:=jq) 11 rfl 3 rfl qj
    obtain ⟨G104,hn105,h106⟩:=H.XG 12 rfl
    obtain ⟨G107,hn108,h109⟩:=H.QN (α:=yLI) 13 rfl 4 rfl qj
    obtain ⟨G110,hn111,h112⟩:=H.Ql 14 rfl
    have sz116:=H.base.size
    have lt117:=H.ltN (L:=[rF85aBags,rF59aBags,rF28]) [0,1,4]
    refine sw (oc (implRun_ok _ (⟨zi7,zl8,zR9⟩:qy) (⟨zm10,zL11,zl12⟩:qG) (atV more 0 6) h100 h103 h106 h109 h112) ?_)
    rintro _ w114 ⟨ra113aAlive,rn113aAlive,rc113aAlive,ra113aBags,rn113aBags,rc113aBags,rx113aBags,rF113aBags,ra113aAround,rn113aAround,rc113aAround,rfl,M,K⟩ _
    replace N:=N.merge sz116 lt117 M
    replace H:=H.merge K M
    obtain rfl:=H.Q7 0 rfl
    obtain rfl:=H.zi (α:=yLI) 1 rfl 0 rfl qj
    obtain rfl:=H.zS 2 rfl
    refine sps [.tuple #[.agg #[.slice ra113aAlive ((((xk (⟨zi7,zl8,zR9⟩:qy) (⟨zm10,zL11,zl12⟩:qG) (atV more 0 6)).1).qC).length) rc113aAlive,.slice ra113aBags ((((xk (⟨zi7,zl8,zR9⟩:qy) (⟨zm10,zL11,zl12⟩:qG) (atV more 0 6)).1).qI).length) rc113aBags,.slice ra113aAround ((((xk (⟨zi7,zl8,zR9⟩:qy) (⟨zm10,zL11,zl12⟩:qG) (atV more 0 6)).1).qF).length) rc113aAround],.int .i64 ((xk (⟨zi7,zl8,zR9⟩:qy) (⟨zm10,zL11,zl12⟩:qG) (atV more 0 6)).2.1),.int .i64 ((xk (⟨zi7,zl8,zR9⟩:qy) (⟨zm10,zL11,zl12⟩:qG) (atV more 0 6)).2.2)],.agg #[.slice ra113aAlive ((((xk (⟨zi7,zl8,zR9⟩:qy) (⟨zm10,zL11,zl12⟩:qG) (atV more 0 6)).1).qC).length) rc113aAlive,.slice ra113aBags ((((xk (⟨zi7,zl8,zR9⟩:qy) (⟨zm10,zL11,zl12⟩:qG) (atV more 0 6)).1).qI).length) rc113aBags,.slice ra113aAround ((((xk (⟨zi7,zl8,zR9⟩:qy) (⟨zm10,zL11,zl12⟩:qG) (atV more 0 6)).1).qF).length) rc113aAround],.int .i64 ((xk (⟨zi7,zl8,zR9⟩:qy) (⟨zm10,zL11,zl12⟩:qG) (atV more 0 6)).2.1),.int .i64 ((xk (⟨zi7,zl8,zR9⟩:qy) (⟨zm10,zL11,zl12⟩:qG) (atV more 0 6)).2.2)] ?_
    refine sw (xq H ti31 [.slice none 0 0,.slice none 0 0,.slice none 0 0] fun b121 w122 H=>sw (qQ H 0 [.slice ra113aAlive ((((xk (⟨zi7,zl8,zR9⟩:qy) (⟨zm10,zL11,zl12⟩:qG) (atV more 0 6)).1).qC).length) rc113aAlive,.slice ra113aBags ((((xk (⟨zi7,zl8,zR9⟩:qy) (⟨zm10,zL11,zl12⟩:qG) (atV more 0 6)).1).qI).length) rc113aBags,.slice ra113aAround ((((xk (⟨zi7,zl8,zR9⟩:qy) (⟨zm10,zL11,zl12⟩:qG) (atV more 0 6)).1).qF).length) rc113aAround] Try.sizeOf31 fun w123 H=>?_))
    refine sps [.int .i64 ((xk (⟨zi7,zl8,zR9⟩:qy) (⟨zm10,zL11,zl12⟩:qG) (atV more 0 6)).2.1),.int .i64 ((xk (⟨zi7,zl8,zR9⟩:qy) (⟨zm10,zL11,zl12⟩:qG) (atV more 0 6)).2.2)] (zjc (sw (zu [.int .i64 zi7,.slice ra13 zl8.length rc15,.slice ra16 zR9.length rc18] Try.isAgg27 Try.sizeOf27 rfl (qH (H.cells 13 rfl) 0 3) ?_)))
    refine sw (zu [.slice ra113aAlive ((((xk (⟨zi7,zl8,zR9⟩:qy) (⟨zm10,zL11,zl12⟩:qG) (atV more 0 6)).1).qC).length) rc113aAlive,.slice ra113aBags ((((xk (⟨zi7,zl8,zR9⟩:qy) (⟨zm10,zL11,zl12⟩:qG) (atV more 0 6)).1).qI).length) rc113aBags,.slice ra113aAround ((((xk (⟨zi7,zl8,zR9⟩:qy) (⟨zm10,zL11,zl12⟩:qG) (atV more 0 6)).1).qF).length) rc113aAround] Try.isAgg31 Try.sizeOf31 rfl (qH (H.cells 0 rfl) 0 3) (sp (.int .i64 (atV more 1 6)) ?_))
    obtain ⟨G124,hn125,h126⟩:=H.Ql 14 rfl
    obtain ⟨G127,hn128,h129⟩:=H.QN (α:=jq) 15 rfl 4 rfl qj
    obtain ⟨G130,hn131,h132⟩:=H.XG 1 rfl
    obtain ⟨G133,hn134,h135⟩:=H.QN (α:=yLI) 2 rfl 0 rfl qj
    obtain ⟨G136,hn137,h138⟩:=H.Ql 3 rfl
    have sz142:=H.base.size
    have lt143:=H.ltN (L:=[rF113aBags,rF85aBags,rF59aBags,rF28]) [0,1,2,5]
    refine sw (oc (implRun_ok _ (⟨zi7,zl8,zR9⟩:qy) ((xk (⟨zi7,zl8,zR9⟩:qy) (⟨zm10,zL11,zl12⟩:qG) (atV more 0 6)).1) (atV more 1 6) h126 h129 h132 h135 h138) ?_)
    rintro _ w140 ⟨ra139aAlive,rn139aAlive,rc139aAlive,ra139aBags,rn139aBags,rc139aBags,rx139aBags,rF139aBags,ra139aAround,rn139aAround,rc139aAround,rfl,M,K⟩ _
    replace N:=N.merge sz142 lt143 M
    replace H:=H.merge K M
    obtain rfl:=H.Q7 0 rfl
    obtain rfl:=H.zi (α:=yLI) 1 rfl 0 rfl qj
    obtain rfl:=H.zS 2 rfl
    refine sps [.tuple #[.agg #[.slice ra139aAlive ((((xk (⟨zi7,zl8,zR9⟩:qy) ((xk (⟨zi7,zl8,zR9⟩:qy) (⟨zm10,zL11,zl12⟩:qG) (atV more 0 6)).1) (atV more 1 6)).1).qC).length) rc139aAlive,.slice ra139aBags ((((xk (⟨zi7,zl8,zR9⟩:qy) ((xk (⟨zi7,zl8,zR9⟩:qy) (⟨zm10,zL11,zl12⟩:qG) (atV more 0 6)).1) (atV more 1 6)).1).qI).length) rc139aBags,.slice ra139aAround ((((xk (⟨zi7,zl8,zR9⟩:qy) ((xk (⟨zi7,zl8,zR9⟩:qy) (⟨zm10,zL11,zl12⟩:qG) (atV more 0 6)).1) (atV more 1 6)).1).qF).length) rc139aAround],.int .i64 ((xk (⟨zi7,zl8,zR9⟩:qy) ((xk (⟨zi7,zl8,zR9⟩:qy) (⟨zm10,zL11,zl12⟩:qG) (atV more 0 6)).1) (atV more 1 6)).2.1),.int .i64 ((xk (⟨zi7,zl8,zR9⟩:qy) ((xk (⟨zi7,zl8,zR9⟩:qy) (⟨zm10,zL11,zl12⟩:qG) (atV more 0 6)).1) (atV more 1 6)).2.2)],.agg #[.slice ra139aAlive ((((xk (⟨zi7,zl8,zR9⟩:qy) ((xk (⟨zi7,zl8,zR9⟩:qy) (⟨zm10,zL11,zl12⟩:qG) (atV more 0 6)).1) (atV more 1 6)).1).qC).length) rc139aAlive,.slice ra139aBags ((((xk (⟨zi7,zl8,zR9⟩:qy) ((xk (⟨zi7,zl8,zR9⟩:qy) (⟨zm10,zL11,zl12⟩:qG) (atV more 0 6)).1) (atV more 1 6)).1).qI).length) rc139aBags,.slice ra139aAround ((((xk (⟨zi7,zl8,zR9⟩:qy) ((xk (⟨zi7,zl8,zR9⟩:qy) (⟨zm10,zL11,zl12⟩:qG) (atV more 0 6)).1) (atV more 1 6)).1).qF).length) rc139aAround],.int .i64 ((xk (⟨zi7,zl8,zR9⟩:qy) ((xk (⟨zi7,zl8,zR9⟩:qy) (⟨zm10,zL11,zl12⟩:qG) (atV more 0 6)).1) (atV more 1 6)).2.1),.int .i64 ((xk (⟨zi7,zl8,zR9⟩:qy) ((xk (⟨zi7,zl8,zR9⟩:qy) (⟨zm10,zL11,zl12⟩:qG) (atV more 0 6)).1) (atV more 1 6)).2.2)] ?_
    refine sw (xq H ti31 [.slice none 0 0,.slice none 0 0,.slice none 0 0] fun b147 w148 H=>?_)
    refine sw (qQ H 0 [.slice ra139aAlive ((((xk (⟨zi7,zl8,zR9⟩:qy) ((xk (⟨zi7,zl8,zR9⟩:qy) (⟨zm10,zL11,zl12⟩:qG) (atV more 0 6)).1) (atV more 1 6)).1).qC).length) rc139aAlive,.slice ra139aBags ((((xk (⟨zi7,zl8,zR9⟩:qy) ((xk (⟨zi7,zl8,zR9⟩:qy) (⟨zm10,zL11,zl12⟩:qG) (atV more 0 6)).1) (atV more 1 6)).1).qI).length) rc139aBags,.slice ra139aAround ((((xk (⟨zi7,zl8,zR9⟩:qy) ((xk (⟨zi7,zl8,zR9⟩:qy) (⟨zm10,zL11,zl12⟩:qG) (atV more 0 6)).1) (atV more 1 6)).1).qF).length) rc139aAround] Try.sizeOf31 fun w149 H=>?_)
    refine sps [.int .i64 ((xk (⟨zi7,zl8,zR9⟩:qy) ((xk (⟨zi7,zl8,zR9⟩:qy) (⟨zm10,zL11,zl12⟩:qG) (atV more 0 6)).1) (atV more 1 6)).2.1),.int .i64 ((xk (⟨zi7,zl8,zR9⟩:qy) ((xk (⟨zi7,zl8,zR9⟩:qy) (⟨zm10,zL11,zl12⟩:qG) (atV more 0 6)).1) (atV more 1 6)).2.2)] (zjc (sw (zu [.int .i64 zi7,.slice ra13 zl8.length rc15,.slice ra16 zR9.length rc18] Try.isAgg27 Try.sizeOf27 rfl (qH (H.cells 17 rfl) 0 3) ?_)))
    refine sw (zu [.slice ra85aAlive ((((xk (⟨zi7,zl8,zR9⟩:qy) (⟨zm10,zL11,zl12⟩:qG) ((atV more 0 6)+(atV more 1 6))).1).qC).length) rc85aAlive,.slice ra85aBags ((((xk (⟨zi7,zl8,zR9⟩:qy) (⟨zm10,zL11,zl12⟩:qG) ((atV more 0 6)+(atV more 1 6))).1).qI).length) rc85aBags,.slice ra85aAround ((((xk (⟨zi7,zl8,zR9⟩:qy) (⟨zm10,zL11,zl12⟩:qG) ((atV more 0 6)+(atV more 1 6))).1).qF).length) rc85aAround] Try.isAgg31 Try.sizeOf31 rfl (qH (H.cells 8 rfl) 0 3) ?_)
    obtain ⟨G150,hn151,h152⟩:=H.Ql 18 rfl
    obtain ⟨G153,hn154,h155⟩:=H.QN (α:=jq) 19 rfl 5 rfl qj
    obtain ⟨G156,hn157,h158⟩:=H.XG 9 rfl
    obtain ⟨G159,hn160,h161⟩:=H.QN (α:=yLI) 10 rfl 2 rfl qj
    obtain ⟨G162,hn163,h164⟩:=H.Ql 11 rfl
    have k3:=And.intro k0.1 z4
    refine sw (oq (isHalted_ok _ (⟨zi7,zl8,zR9⟩:qy) ((xk (⟨zi7,zl8,zR9⟩:qy) (⟨zm10,zL11,zl12⟩:qG) ((atV more 0 6)+(atV more 1 6))).1) h152 h155 h158 h161 h164 qg) H fun w166 H=>?_)
    refine sps [.tuple #[.bool (dec (Halted (⟨zi7,zl8,zR9⟩:qy) ((xk (⟨zi7,zl8,zR9⟩:qy) (⟨zm10,zL11,zl12⟩:qG) ((atV more 0 6)+(atV more 1 6))).1))),.int .i64 0],.bool (dec (Halted (⟨zi7,zl8,zR9⟩:qy) ((xk (⟨zi7,zl8,zR9⟩:qy) (⟨zm10,zL11,zl12⟩:qG) ((atV more 0 6)+(atV more 1 6))).1))),.int .i64 0,.bool (dec (Halted (⟨zi7,zl8,zR9⟩:qy) ((xk (⟨zi7,zl8,zR9⟩:qy) (⟨zm10,zL11,zl12⟩:qG) ((atV more 0 6)+(atV more 1 6))).1))),.int .i64 0] (zjc ?_)
    refine sps [.int .i64 ((xk (⟨zi7,zl8,zR9⟩:qy) (⟨zm10,zL11,zl12⟩:qG) (atV more 0 6)).2.2),.bool (((xk (⟨zi7,zl8,zR9⟩:qy) (⟨zm10,zL11,zl12⟩:qG) (atV more 0 6)).2.2:Int) == 0),.bool (((xk (⟨zi7,zl8,zR9⟩:qy) (⟨zm10,zL11,zl12⟩:qG) (atV more 0 6)).2.2:Int) == 0)] ?_
    cases h168:(((xk (⟨zi7,zl8,zR9⟩:qy) (⟨zm10,zL11,zl12⟩:qG) (atV more 0 6)).2.2:Int) == 0)
    ·skip
     replace h168:=ne_of_beq_false h168
     refine xK [85,86] (sps [.bool false,.bool false] (xK [89,90] (sps [.bool false,.bool false] (xK [93,94,95] (sps [.bool false,.bool false] (xK [98,99,100,101,102] (sps [.bool false,.bool false] (xK [105,106,107,108,109,110,111,112] (sps [.bool false,.bool false] (zjr (ret1 (.bool false) rfl rfl ⟨_,rfl,?_,H.base⟩)))))))))))
     exfalso;first | omega | contradiction | exact ‹¬ _=_› z5.symm | exact h168 ql
    ·skip
     replace h168:=eq_of_beq h168
     refine qK 84 rfl rfl (sp (.int .i64 ((xk (⟨zi7,zl8,zR9⟩:qy) ((xk (⟨zi7,zl8,zR9⟩:qy) (⟨zm10,zL11,zl12⟩:qG) (atV more 0 6)).1) (atV more 1 6)).2.2)) (qK 84 rfl rfl ?_))
     refine sps [.bool (((xk (⟨zi7,zl8,zR9⟩:qy) ((xk (⟨zi7,zl8,zR9⟩:qy) (⟨zm10,zL11,zl12⟩:qG) (atV more 0 6)).1) (atV more 1 6)).2.2:Int) == 0),.bool (((xk (⟨zi7,zl8,zR9⟩:qy) ((xk (⟨zi7,zl8,zR9⟩:qy) (⟨zm10,zL11,zl12⟩:qG) (atV more 0 6)).1) (atV more 1 6)).2.2:Int) == 0),.bool (((xk (⟨zi7,zl8,zR9⟩:qy) ((xk (⟨zi7,zl8,zR9⟩:qy) (⟨zm10,zL11,zl12⟩:qG) (atV more 0 6)).1) (atV more 1 6)).2.2:Int) == 0)] ?_
     cases h169:(((xk (⟨zi7,zl8,zR9⟩:qy) ((xk (⟨zi7,zl8,zR9⟩:qy) (⟨zm10,zL11,zl12⟩:qG) (atV more 0 6)).1) (atV more 1 6)).2.2:Int) == 0)
     ·skip
      replace h169:=ne_of_beq_false h169
      refine xK [89,90] (sps [.bool false,.bool false] (xK [93,94,95] (sps [.bool false,.bool false] (xK [98,99,100,101,102] (sps [.bool false,.bool false] (xK [105,106,107,108,109,110,111,112] (sps [.bool false,.bool false] (zjr (ret1 (.bool false) rfl rfl ⟨_,rfl,?_,H.base⟩)))))))))
      exfalso;first | omega | contradiction | exact ‹¬ _=_› z5.symm | exact h169 ql
     ·skip
      replace h169:=eq_of_beq h169
      refine qK 88 rfl rfl (sp (.int .i64 0) (qK 88 rfl rfl (sps [.bool true,.bool true,.bool true] (qK 92 rfl rfl (sw (zu [.slice ra85aAlive ((((xk (⟨zi7,zl8,zR9⟩:qy) (⟨zm10,zL11,zl12⟩:qG) ((atV more 0 6)+(atV more 1 6))).1).qC).length) rc85aAlive,.slice ra85aBags ((((xk (⟨zi7,zl8,zR9⟩:qy) (⟨zm10,zL11,zl12⟩:qG) ((atV more 0 6)+(atV more 1 6))).1).qI).length) rc85aBags,.slice ra85aAround ((((xk (⟨zi7,zl8,zR9⟩:qy) (⟨zm10,zL11,zl12⟩:qG) ((atV more 0 6)+(atV more 1 6))).1).qF).length) rc85aAround] Try.isAgg31 Try.sizeOf31 rfl (qH (H.cells 8 rfl) 0 3) (qK 92 rfl rfl ?_)))))))
      refine sw (zu [.slice ra139aAlive ((((xk (⟨zi7,zl8,zR9⟩:qy) ((xk (⟨zi7,zl8,zR9⟩:qy) (⟨zm10,zL11,zl12⟩:qG) (atV more 0 6)).1) (atV more 1 6)).1).qC).length) rc139aAlive,.slice ra139aBags ((((xk (⟨zi7,zl8,zR9⟩:qy) ((xk (⟨zi7,zl8,zR9⟩:qy) (⟨zm10,zL11,zl12⟩:qG) (atV more 0 6)).1) (atV more 1 6)).1).qI).length) rc139aBags,.slice ra139aAround ((((xk (⟨zi7,zl8,zR9⟩:qy) ((xk (⟨zi7,zl8,zR9⟩:qy) (⟨zm10,zL11,zl12⟩:qG) (atV more 0 6)).1) (atV more 1 6)).1).qF).length) rc139aAround] Try.isAgg31 Try.sizeOf31 rfl (qH (H.cells 0 rfl) 0 3) (qK 92 rfl rfl ?_))
      obtain ⟨G170,hn171,h172⟩:=H.XG 9 rfl
      obtain ⟨G173,hn174,h175⟩:=H.QN (α:=yLI) 10 rfl 2 rfl qj
      obtain ⟨G176,hn177,h178⟩:=H.Ql 11 rfl
      obtain ⟨G179,hn180,h181⟩:=H.XG 1 rfl
      obtain ⟨G182,hn183,h184⟩:=H.QN (α:=yLI) 2 rfl 0 rfl qj
      obtain ⟨G185,hn186,h187⟩:=H.Ql 3 rfl
      refine sw (oq (specSame_ok _ ((xk (⟨zi7,zl8,zR9⟩:qy) (⟨zm10,zL11,zl12⟩:qG) ((atV more 0 6)+(atV more 1 6))).1) ((xk (⟨zi7,zl8,zR9⟩:qy) ((xk (⟨zi7,zl8,zR9⟩:qy) (⟨zm10,zL11,zl12⟩:qG) (atV more 0 6)).1) (atV more 1 6)).1) h172 h175 h178 h181 h184 h187) H fun w189 H=>?_)
      refine sps [.bool (decide (((xk (⟨zi7,zl8,zR9⟩:qy) (⟨zm10,zL11,zl12⟩:qG) ((atV more 0 6)+(atV more 1 6))).1)=((xk (⟨zi7,zl8,zR9⟩:qy) ((xk (⟨zi7,zl8,zR9⟩:qy) (⟨zm10,zL11,zl12⟩:qG) (atV more 0 6)).1) (atV more 1 6)).1))),.bool (decide (((xk (⟨zi7,zl8,zR9⟩:qy) (⟨zm10,zL11,zl12⟩:qG) ((atV more 0 6)+(atV more 1 6))).1)=((xk (⟨zi7,zl8,zR9⟩:qy) ((xk (⟨zi7,zl8,zR9⟩:qy) (⟨zm10,zL11,zl12⟩:qG) (atV more 0 6)).1) (atV more 1 6)).1)))] ?_
      cases h191:(decide (((xk (⟨zi7,zl8,zR9⟩:qy) (⟨zm10,zL11,zl12⟩:qG) ((atV more 0 6)+(atV more 1 6))).1)=((xk (⟨zi7,zl8,zR9⟩:qy) ((xk (⟨zi7,zl8,zR9⟩:qy) (⟨zm10,zL11,zl12⟩:qG) (atV more 0 6)).1) (atV more 1 6)).1)))
      ·skip
       replace h191:=of_decide_eq_false h191
       refine xK [98,99,100,101,102] (sps [.bool false,.bool false] (xK [105,106,107,108,109,110,111,112] (sps [.bool false,.bool false] (zjr (ret1 (.bool false) rfl rfl ⟨_,rfl,?_,H.base⟩)))))
       exfalso;first | omega | contradiction | exact ‹¬ _=_› z5.symm
      ·skip
       replace h191:=of_decide_eq_true h191
       refine qK 97 rfl rfl (sp (.int .i64 ((xk (⟨zi7,zl8,zR9⟩:qy) (⟨zm10,zL11,zl12⟩:qG) ((atV more 0 6)+(atV more 1 6))).2.1)) (qK 97 rfl rfl (sp (.int .i64 ((xk (⟨zi7,zl8,zR9⟩:qy) (⟨zm10,zL11,zl12⟩:qG) (atV more 0 6)).2.1)) (qK 97 rfl rfl (sp (.int .i64 ((xk (⟨zi7,zl8,zR9⟩:qy) ((xk (⟨zi7,zl8,zR9⟩:qy) (⟨zm10,zL11,zl12⟩:qG) (atV more 0 6)).1) (atV more 1 6)).2.1)) (qK 97 rfl rfl ?_))))))
       refine sw (zX ((xk (⟨zi7,zl8,zR9⟩:qy) (⟨zm10,zL11,zl12⟩:qG) (atV more 0 6)).2.1) ((xk (⟨zi7,zl8,zR9⟩:qy) ((xk (⟨zi7,zl8,zR9⟩:qy) (⟨zm10,zL11,zl12⟩:qG) (atV more 0 6)).1) (atV more 1 6)).2.1) rfl rfl qf (qK 97 rfl rfl ?_))
       refine sps [.bool (((xk (⟨zi7,zl8,zR9⟩:qy) (⟨zm10,zL11,zl12⟩:qG) ((atV more 0 6)+(atV more 1 6))).2.1:Int) == (((xk (⟨zi7,zl8,zR9⟩:qy) (⟨zm10,zL11,zl12⟩:qG) (atV more 0 6)).2.1)+((xk (⟨zi7,zl8,zR9⟩:qy) ((xk (⟨zi7,zl8,zR9⟩:qy) (⟨zm10,zL11,zl12⟩:qG) (atV more 0 6)).1) (atV more 1 6)).2.1))),.bool (((xk (⟨zi7,zl8,zR9⟩:qy) (⟨zm10,zL11,zl12⟩:qG) ((atV more 0 6)+(atV more 1 6))).2.1:Int) == (((xk (⟨zi7,zl8,zR9⟩:qy) (⟨zm10,zL11,zl12⟩:qG) (atV more 0 6)).2.1)+((xk (⟨zi7,zl8,zR9⟩:qy) ((xk (⟨zi7,zl8,zR9⟩:qy) (⟨zm10,zL11,zl12⟩:qG) (atV more 0 6)).1) (atV more 1 6)).2.1))),.bool (((xk (⟨zi7,zl8,zR9⟩:qy) (⟨zm10,zL11,zl12⟩:qG) ((atV more 0 6)+(atV more 1 6))).2.1:Int) == (((xk (⟨zi7,zl8,zR9⟩:qy) (⟨zm10,zL11,zl12⟩:qG) (atV more 0 6)).2.1)+((xk (⟨zi7,zl8,zR9⟩:qy) ((xk (⟨zi7,zl8,zR9⟩:qy) (⟨zm10,zL11,zl12⟩:qG) (atV more 0 6)).1) (atV more 1 6)).2.1)))] ?_
       cases h192:(((xk (⟨zi7,zl8,zR9⟩:qy) (⟨zm10,zL11,zl12⟩:qG) ((atV more 0 6)+(atV more 1 6))).2.1:Int) == (((xk (⟨zi7,zl8,zR9⟩:qy) (⟨zm10,zL11,zl12⟩:qG) (atV more 0 6)).2.1)+((xk (⟨zi7,zl8,zR9⟩:qy) ((xk (⟨zi7,zl8,zR9⟩:qy) (⟨zm10,zL11,zl12⟩:qG) (atV more 0 6)).1) (atV more 1 6)).2.1)))
       ·skip
        replace h192:=ne_of_beq_false h192
        refine xK [105,106,107,108,109,110,111,112] (sps [.bool false,.bool false] (zjr (ret1 (.bool false) rfl rfl ⟨_,rfl,?_,H.base⟩)))
        exfalso;first | omega | contradiction | exact ‹¬ _=_› z5.symm | exact h192 ql
       ·skip
        replace h192:=eq_of_beq h192
        refine qK 104 rfl rfl (sp (.int .i64 ((xk (⟨zi7,zl8,zR9⟩:qy) (⟨zm10,zL11,zl12⟩:qG) ((atV more 0 6)+(atV more 1 6))).2.1)) (qK 104 rfl rfl (sp (.int .i64 (atV more 0 6)) (qK 104 rfl rfl (sp (.int .i64 (atV more 1 6)) (qK 104 rfl rfl (sw (zX (atV more 0 6) (atV more 1 6) rfl rfl qf (qK 104 rfl rfl (sp (.bool (((xk (⟨zi7,zl8,zR9⟩:qy) (⟨zm10,zL11,zl12⟩:qG) ((atV more 0 6)+(atV more 1 6))).2.1:Int) == ((atV more 0 6)+(atV more 1 6)))) (qK 104 rfl rfl ?_)))))))))))
        refine sp (.bool (((xk (⟨zi7,zl8,zR9⟩:qy) (⟨zm10,zL11,zl12⟩:qG) ((atV more 0 6)+(atV more 1 6))).2.1:Int) == ((atV more 0 6)+(atV more 1 6)))) ?_
        cases h193:(((xk (⟨zi7,zl8,zR9⟩:qy) (⟨zm10,zL11,zl12⟩:qG) ((atV more 0 6)+(atV more 1 6))).2.1:Int) == ((atV more 0 6)+(atV more 1 6)))
        ·skip
         replace h193:=ne_of_beq_false h193
         refine qK 110 rfl rfl (sp (.bool (dec (Halted (⟨zi7,zl8,zR9⟩:qy) ((xk (⟨zi7,zl8,zR9⟩:qy) (⟨zm10,zL11,zl12⟩:qG) ((atV more 0 6)+(atV more 1 6))).1)))) (qK 104 rfl rfl (sps [.bool (dec (Halted (⟨zi7,zl8,zR9⟩:qy) ((xk (⟨zi7,zl8,zR9⟩:qy) (⟨zm10,zL11,zl12⟩:qG) ((atV more 0 6)+(atV more 1 6))).1))),.bool (dec (Halted (⟨zi7,zl8,zR9⟩:qy) ((xk (⟨zi7,zl8,zR9⟩:qy) (⟨zm10,zL11,zl12⟩:qG) ((atV more 0 6)+(atV more 1 6))).1))),.bool (dec (Halted (⟨zi7,zl8,zR9⟩:qy) ((xk (⟨zi7,zl8,zR9⟩:qy) (⟨zm10,zL11,zl12⟩:qG) ((atV more 0 6)+(atV more 1 6))).1)))] ?_)))
         refine zjr (ret1 (.bool (dec (Halted (⟨zi7,zl8,zR9⟩:qy) ((xk (⟨zi7,zl8,zR9⟩:qy) (⟨zm10,zL11,zl12⟩:qG) ((atV more 0 6)+(atV more 1 6))).1)))) rfl rfl ⟨_,rfl,?_,H.base⟩)
         rw [yC (z7.resolve_left ‹_›)]
        ·skip
         replace h193:=eq_of_beq h193
         refine xK [111] (qK 104 rfl rfl (sps [.bool true,.bool true,.bool true] (zjr (ret1 (.bool true) rfl rfl ⟨_,rfl,?_,H.base⟩))))
         rfl
 ·skip
  replace h1:=of_decide_eq_true h1
  refine xK [9,10,11] (sps [.bool true,.bool true] (zjr (ret1 (.bool true) rfl rfl ⟨_,rfl,(zjn (xW true rfl (fun _=>zcr (sp (.bool true) (zjr (t_r (ret1 (.bool true) rfl rfl ⟨_,rfl,?_,H.base⟩))))) (fun h=>absurd h qj)))⟩)))
  rfl
end
section
open Go.ChangeShapes Go.WideShapes Go.ChangeAt Go.RowKit Go.Joins
set_option linter.unusedVariables false
set_option linter.unusedSimpArgs false
def Reads (P:Program) (t:TypeId) (α:Type) [qU α]:Prop:=
  ∀ {H:Type} {enc:TypeId×Value→H} {w:World} {spare:Nat→Bool} {held:Bool} {fuel:Nat} {cs:List Value} {x:DataW H×List MemPlace},
    DataW.trod enc P w 0 spare held fuel t cs=some x→∃ F,∃ y:α,qU.rep w F cs y

theorem cell_spot {w:World} {a:Addr} {v:Value} (h:w.cell? a=some v):a.spot=none:=by
  unfold World.cell? at h
  split at h
  · split at h
    · cases h
    · rename_i hs;simpa using hs
  · cases h

theorem reads_slice {α:Type} [qU α] {P:Program} {t e:TypeId} (hu:P.underlying t=some (.slice e)) (hc:P.cellsOf e=qU.size α) (hz:0 < qU.size α) (he:Reads P e α):Reads P t (List α):=by
  intro H enc w spare held fuel cs x h
  rcases DataW.trod_slice hu h with ⟨rfl,_⟩ | ⟨a,len,cap,elems,rest,n,_,rfl,_,_,hlc,hcm,hel,hget,_⟩
  · exact ⟨[],[],none,0,rfl,by simp,Or.inl ⟨rfl,rfl⟩⟩
  · have hm:cap≤9223372036854775807:=by unfold maxLen at hcm;omega
    rcases Nat.eq_zero_or_pos len with h0 | h0
    · subst h0
      exact ⟨[],[],some a,cap,rfl,by simp,Or.inl ⟨rfl,rfl⟩⟩
    · have hone:∀ i,i < len→∃ ci Fi,∃ y:α,w.cells? 0 (a.add (i * qU.size α)) (qU.size α)=some ci∧qU.rep w Fi ci y:=by
        intro i hi
        have hg:=hget i hi
        rw [hc] at hg
        have hs:elems[i]? =some (elems[i]'(by omega)):=List.getElem?_eq_getElem qf
        rw [hs] at hg
        obtain ⟨ci,h1,h2⟩:=Option.bind_eq_some_iff.1 hg
        obtain ⟨Fi,y,hr⟩:=he h2
        exact ⟨ci,Fi,y,h1,hr⟩
      have hsp:a.spot=none:=by
        obtain ⟨ci,Fi,y,h1,_⟩:=hone 0 h0
        obtain ⟨_,hl,hcell⟩:=World.cells?_some h1
        have:=hcell 0 hz
        rw [List.getElem?_eq_getElem (show 0 < ci.length by omega)] at this
        have:=cell_spot this
        simpa [Addr.add] using this
      obtain ⟨b,off,sp⟩:=a
      simp only at hsp
      subst hsp
      have hadd:∀ i j:Nat,((⟨b,off,none⟩:Addr).add (i * qU.size α)).add j=⟨b,off+i * qU.size α+j,none⟩:=fun i j=>by simp [Addr.add_mid]
      have hall:∀ m,m≤len→∃ F vs,∃ l:List α,l.length=m∧reps w F vs l∧vV w b off vs:=by
        intro m
        induction m with
        | zero=>exact fun _=>⟨[],[],[],rfl,⟨rfl,rfl⟩,fun i v hv=>by simp at hv⟩
        | succ m ih=>
          intro hm'
          obtain ⟨F,vs,l,hl,hr,hcl⟩:=ih qf
          obtain ⟨ci,Fi,y,h1,h2⟩:=hone m qf
          obtain ⟨_,hcl2,hcell⟩:=World.cells?_some h1
          refine ⟨F++Fi,vs++ci,l++[y],by simp [hl],QD hr (reps_one h2),fun i v hv=>?_⟩
          have hvl:=reps_len hr
          rw [hl] at hvl
          rcases Nat.lt_or_ge i vs.length with hi | hi
          · rw [List.getElem?_append_left hi] at hv
            exact hcl i v hv
          · rw [List.getElem?_append_right hi] at hv
            have hi2:i - vs.length < ci.length:=by
              rcases Nat.lt_or_ge (i - vs.length) ci.length with h | h
              · exact h
              · simp [h] at hv
            have:=hcell (i - vs.length) qf
            rw [hadd,hv] at this
            rw [← this]
            congr 1
            rw [show off+i=off+m * qU.size α+(i - vs.length) by omega]
      obtain ⟨F,vs,l,hl,hr,hcl⟩:=hall len (Nat.le_refl _)
      have hb:b < w.heap.size:=by
        have h1:0 < vs.length:=by rw [reps_len hr,hl];exact Nat.mul_pos h0 hz
        exact World.block_lt_of_cell? w _ (hcl 0 _ (List.getElem?_eq_getElem h1))
      subst hl
      exact ⟨b :: F,l,some ⟨b,off,none⟩,cap,rfl,⟨by omega,hlc⟩,Or.inr ⟨b,off,F,vs,rfl,rfl,hb,hr,hcl⟩⟩

theorem arg_slice {P:Program} {α:Type} [qU α] {H:Type} {enc:TypeId×Value→H} {w:World} {spare:Nat→Bool} {held:Bool} {b0:Nat} {t e:TypeId} {v:Value} {d:DataW H} {p:List MemPlace} (hu:P.underlying t=some (.slice e)) (hr:Reads P t (List α))
    (hv:Value.okWide P w .any b0 t v) (h:DataW.Trod enc P w 0 spare held t v d p):∃ (a:yOA) (c:Nat) (F:yLN) (l:List α),v=.slice a l.length c∧qU.rep w F [.slice a l.length c] l:=by
  obtain ⟨a,m,c,rfl⟩:=okWide_slice hu hv
  obtain ⟨fuel,hf⟩:=h
  obtain ⟨F,l,hl⟩:=hr hf
  have hcs:(Value.slice a m c).cells.toList=[.slice a m c]:=rfl
  rw [hcs] at hl
  obtain ⟨a',c',hc,hx⟩:=id hl
  simp only [List.cons.injEq,Value.slice.injEq,and_true] at hc
  obtain ⟨rfl,rfl,rfl⟩:=hc
  exact ⟨a,c,F,l,rfl,hl⟩
section
variable {H : Type} {enc : TypeId × Value → H} {P : Program}

theorem trodAll_below (hl:laidOutB P=true) {W W' :World} (hb:Below W.heap.size W W'):
    ∀ (ts:List TypeId) (vs:List Value) (ds:List (DataW H)) (ps:List MemPlace),(∀ t∈ts,P.readableRec t=true∧t < P.types.size)→
      DataW.TrodAll enc P W 0 (fun _=>true) true ts vs ds ps→(∀ x∈ps,x.block < W.heap.size)→
      DataW.TrodAll enc P W' 0 (fun b=>decide (b < W.heap.size)) true ts vs ds ps
  | [],vs,ds,ps,_,h,_=>by
    obtain ⟨rfl,rfl,rfl⟩:=trodAll_nil h
    exact trodAll_mk0
  | t :: ts,vs,ds,ps,hr,h,hp=>by
    obtain ⟨v,vs',d,ds',p,q,rfl,rfl,rfl,h0,h1⟩:=trodAll_cons h
    have ht:=hr t (List.mem_cons_self ..)
    exact trodAll_cons_mk (Below.trod hl ht.1 ht.2 h0 hb (fun x hx=>hp x (List.mem_append_left _ hx)))
      (trodAll_below hl hb ts vs' ds' q (fun t' ht' =>hr t' (List.mem_cons_of_mem _ ht')) h1 (fun x hx=>hp x (List.mem_append_right _ hx)))

theorem post_law {f:Func} {s:ChangeSpec} {W W' :World} {args:Array Value} {tb:TypeId} {ds gs:List (DataW H)} {before:List MemPlace}
    (hW:DataW.Whole enc P f.params.toList s.vars false W args.toList ds gs before) (hv:s.vars=[])
    (hs:s.fn H (ds++[])={ results:=[.lit (.bool true)],args:=ds }) (hr:f.resultTypes=#[tb]) (hu:P.underlying tb=some .bool)
    (hl:laidOutB P=true) (hts:∀ t∈f.params.toList,P.readableRec t=true∧t < P.types.size) (hb:Below W.heap.size W W'):
    s.post enc P f false true false false W args (.bool true) W' :=by
  have hW' :=hW
  obtain ⟨p,q,hA,hV,rfl,hz,hn⟩:=hW
  rw [hv] at hV
  obtain ⟨rfl,rfl⟩:=trodVars_none hV
  have hlt:∀ x∈p++[],x.block < W.heap.size:=fun x hx=>hW'.lt x hx
  refine ⟨ds,[],p++[],[],p,[],hW',?_,?_,?_,World.keptBut_mono (fun x hx=>⟨hx,Or.inr (Or.inl (by simpa using hx))⟩) (hb.frame (·∈p++[])),fun h=>by cases h⟩
  · rw [hs,hr]
    simp only [Value.resultList]
    exact trodAll_mk1 (shut_bool hu true)
  · rw [hs]
    exact trodAll_below hl hb _ _ _ _ hts hA (fun x hx=>hlt x (by simpa using hx))
  · rw [hv,hs]
    exact rfl
end
theorem reads_byte {P:Program} {t:TypeId} (hu:P.underlying t=some (.int .u8)):Reads P t UInt8:=fun h=>by
  obtain ⟨n,rfl,_,hw⟩:=DataW.trod_int hu h
  have hb:0≤n∧n≤255:=by
    simp [Lit.wf,IntKind.min,IntKind.max,IntKind.signed,IntKind.bits] at hw
    omega
  refine ⟨[],UInt8.ofNat n.toNat,rfl,?_⟩
  have e:(UInt8.ofNat n.toNat).toNat=n.toNat:=by
    simp
    omega
  rw [e,Int.toNat_of_nonneg hb.1]
end
end Go.Proofs.Ytcpnclokildllaa
