/- Walks and laws, printed by program and by hand: what each function comes to, for all arguments, part 4. -/
import Derived.Test.YtcpnclokildllaaA3
import Derived.Test.YtcpnclokildllaaRows
import Derived.ProofKit
import Derived.OpenShut
import Derived.Carry
import Derived.BigQuiet
import Derived.Lib.SmallJoins
namespace Go.Proofs.Ytcpnclokildllaa
set_option linter.unusedVariables false
set_option linter.unusedSimpArgs false
open Go.Proofs.Ytcpnclokildllaa.Tot (tot)
open Go.Proofs.Ytcpnclokildllaa.Mark (cnt mrk mkd mkd_mark cnt_mark)
section
open Go.RowKit
set_option linter.unusedVariables false
set_option linter.unusedSimpArgs false
set_option maxRecDepth 100000
set_option maxHeartbeats 4000000
variable {ca cb cl qy qI xI xZ xw : Nat}
theorem dSystem_ok {W0 w:World} {ps:List Prv} {Γ:List Fact} {Ns:List yLN} (code:List UInt8) (ip:Int) (sd:Int) (bs:Nat) (ac:yOA) (cc:Nat) (Fc:yLN) (H:St W0 w ((.box bs [.slice ac code.length cc,.int .i64 ip,.int .u64 sd] 95) :: ps) ((sF false Fc ac cc code) :: Γ)) (N:Fresh W0.heap.size (Ns)) (K0:Kept Ns Γ) (q0:0≤ip∧ip≤50000):Calls Try.prog 27 #[.pointer (some ⟨bs,0,none⟩)] w (fun e w' =>∃ v,e=.returned v∧∃ (ip_:Int) (sd_:Int) (kk_:Int) (par_:yLI) (rules_:List zM) (raq:yOA) (rnq:Nat) (rcq:Nat) (raS:yOA) (rnS:Nat) (rcS:Nat) (rxS:List Value) (rFS:yLN),(ip≤ip_∧ip_≤ip+2000)∧(SysDr kk_ par_ rules_)∧v=.agg #[.int .i64 kk_,.slice raq rnq rcq,.slice raS rnS rcS]∧Fresh W0.heap.size (rFS :: Ns)∧St W0 w' ((.box bs [.slice ac code.length cc,.int .i64 ip_,.int .u64 sd_] 95) :: (rr raq rnq rcq 2 1 (par_.map (Value.int .i64))) :: (rr raS rnS rcS 51 9 rxS) :: ps) ((sF false Fc ac cc code) :: (qM true rFS rxS rules_) :: Γ)):=by
 refine en Try.func27 Try.ntmps27 ?_
 have ncode:=qV (H.get 0 rfl).1
 refine zcr (sw (xk H ti27 [.int .i64 0,.slice none 0 0,.slice none 0 0] fun b1 w2 H=>zjc (sp (.pointer (some ⟨bs,0,none⟩)) ?_)))
 have H1:St W0 w2 ((.box bs [.slice ac code.length cc,.int .i64 ip,.int .u64 sd] 95) :: (.box b1 [.int .i64 0,.slice none 0 0,.slice none 0 0] 27) :: ps) ((sF false Fc ac cc code) :: Γ):=H.qW 2 1 [1,0] [0] ql ql
 have N1:Fresh _ (Ns):=N
 have K1:Kept (Ns) (Γ):=K0.behind 0 rfl
 refine sw (xf #[.pointer (some ⟨bs,0,none⟩),.int .i64 3] rfl rfl Try.call62 (zN code ip sd bs ac cc Fc (3:Int) H1 N1 K1 qf) ?_)
 clear H H1 N1 K1
 rintro _ w3 ⟨zi7,zi8,zi9,hx5,hx6,rfl,N,H⟩
 refine sw (vN 1 zi9 rfl rfl qc (sw (zS H Try.underlying24 ti2 [.int .i64 (-1)] fun b10 w11 H=>sw (xm [.int .i64 (1+zi9),.slice (some ⟨b10,0,none⟩) 1 1,.slice none 0 0] [(0,.int .i64 (1+zi9)),(1,.slice (some ⟨b10,0,none⟩) 1 1)] (sw (xk H ti27 [.int .i64 0,.slice none 0 0,.slice none 0 0] fun b12 w13 H=>sw (qL H 0 [.int .i64 (1+zi9),.slice (some ⟨b10,0,none⟩) 1 1,.slice none 0 0] Try.sizeOf27 fun w14 H=>?_)))))))
 try dsimp only [List.set] at H
 refine zjcc (sp (.pointer (some ⟨bs,0,none⟩)) ?_)
 have H1:St W0 w14 ((.box bs [.slice ac code.length cc,.int .i64 zi7,.int .u64 zi8] 95) :: (.box b12 [.int .i64 (1+zi9),.slice (some ⟨b10,0,none⟩) 1 1,.slice none 0 0] 27) :: (.box b10 [.int .i64 (-1)] 2) :: (.box b1 [.int .i64 0,.slice none 0 0,.slice none 0 0] 27) :: ps) ((sF false Fc ac cc code) :: Γ):=H.qW 4 1 [2,0,1,3] [0] ql ql
 have N1:Fresh _ (Ns):=N
 have K1:Kept (Ns) (Γ):=K0.behind 0 rfl
 refine sw (xf #[.pointer (some ⟨bs,0,none⟩),.int .i64 3] rfl rfl Try.call62 (zN code zi7 zi8 bs ac cc Fc (3:Int) H1 N1 K1 qf) ?_)
 clear H H1 N1 K1
 rintro _ w15 ⟨zi19,zi20,zi21,hx17,hx18,rfl,N,H⟩
 refine sp (.int .i64 zi21) (zjn (xE ?_))
 replace H:=H.boxRowI 2 [(-1)] 1
 try dsimp only [List.set] at H
 refine vT (fun m' ρ w22=>∃ (zX:Env) (c:Int) (s_at:Int) (s_seed:Int) (xG:yOA) (xg:Nat) (xF:Nat) (y_Parents:yLI),ρ=upd (upd (upd (upd zX 0 (.pointer (some ⟨bs,0,none⟩))) 2 (.pointer (some ⟨b1,0,none⟩))) 3 (.pointer (some ⟨b12,0,none⟩))) 4 (.int .i64 c)∧(ip≤s_at∧s_at+2 * c≤ip+8)∧(0≤c∧(y_Parents.length:Int)+c≤3)∧(ParDr y_Parents)∧m' =c.toNat∧Fresh W0.heap.size (Ns)∧St W0 w22 ((.box bs [.slice ac code.length cc,.int .i64 s_at,.int .u64 s_seed] 95) :: (.box b12 [.int .i64 (1+zi9),.slice xG xg xF,.slice none 0 0] 27) :: (rr xG xg xF 2 1 (y_Parents.map (Value.int .i64))) :: (.box b1 [.int .i64 0,.slice none 0 0,.slice none 0 0] 27) :: ps) ((sF false Fc ac cc code) :: Γ)) (zi21.toNat) ⟨_,zi21,zi19,zi20,(some ⟨b10,0,none⟩),1,1,[(-1)],uE4,qc,(by simp;omega),(by exact ParDr.one),rfl,N,H⟩ ?_
 clear H N
 rintro m' ρ w23 ⟨zX,c,s_at,s_seed,xG,xg,xF,y_Parents,rfl,i1,i2,i3,rfl,N,H⟩
 have hn_y_Parents:=H.zo 2 rfl
 have i4:=i3.1
 refine zcc (sps [.int .i64 c,.bool (decide ((c:Int) > 0))] (zjn (cD rfl (fun h24=>?_) (fun h24=>?_))))
 ·skip
  refine xn (t_n (zF (xE ?_)))
  refine c_cut (fun ρ w30=>∃ (zX:Env) (zi25:Int) (zi26:Int) (zi27:Int) (a28:yOA) (c29:Nat),ρ=upd (upd (upd (upd zX 0 (.pointer (some ⟨bs,0,none⟩))) 2 (.pointer (some ⟨b1,0,none⟩))) 3 (.pointer (some ⟨b12,0,none⟩))) 4 (.int .i64 c)∧(s_at≤zi25∧zi25≤s_at+2)∧(0≤zi26∧(zi26 < xg∨zi26=0))∧Fresh W0.heap.size (Ns)∧St W0 w30 ((.box bs [.slice ac code.length cc,.int .i64 zi25,.int .u64 zi27] 95) :: (.box b12 [.int .i64 (1+zi9),.slice a28 (xg+1) c29,.slice none 0 0] 27) :: (rr a28 (xg+1) c29 2 1 ((y_Parents++[zi26]).map (Value.int .i64))) :: (.box b1 [.int .i64 0,.slice none 0 0,.slice none 0 0] 27) :: ps) ((sF false Fc ac cc code) :: Γ)) ?_ ?_
  ·skip
   refine c_drawK2 rfl H [3] [0] fun H=>?_
   have S:=H.pickC [3] [0]
   refine tF 0 rfl rfl S ?_
   refine rtp 2 (.pointer (some ⟨bs,0,none⟩)) S ?_
   refine tF 3 rfl rfl S ?_
   refine zl [1,4] qg qj (zC rfl ?_ (zC rfl ?_ zn))
   ·skip
    refine ve (.slice xG xg xF) Try.isAgg24 rfl (H.cell 1 rfl rfl) (⟨H.pick [3] [0],(ro 4 rfl (ve (.slice xG xg xF) Try.isAgg24 rfl (H.cell 1 rfl rfl) (⟨H.pick [3] [0],(tN 5 rfl rfl (H.pick [3] [0]) ?_)⟩)))⟩)
    refine ro 6 rfl ?_
    have H1:St W0 w23.drew ((.box bs [.slice ac code.length cc,.int .i64 s_at,.int .u64 s_seed] 95) :: (.box b12 [.int .i64 (1+zi9),.slice xG xg xF,.slice none 0 0] 27) :: (rr xG xg xF 2 1 (y_Parents.map (Value.int .i64))) :: (.box b1 [.int .i64 0,.slice none 0 0,.slice none 0 0] 27) :: ps) ((sF false Fc ac cc code) :: Γ):=H.qW 4 1 [0,1,2,3] [0] ql ql
    have N1:Fresh _ (Ns):=N
    have K1:Kept (Ns) (Γ):=K0.behind 0 rfl
    refine xf #[.pointer (some ⟨bs,0,none⟩),.int .i64 xg] rfl rfl Try.call62 (zN code s_at s_seed bs ac cc Fc xg H1 N1 K1 qf) ?_
    clear H H1 N1 K1
    rintro _ w32 ⟨zi36,zi37,zi38,hx34,hx35,rfl,N,H⟩
    refine ⟨H.pick [3] [0],(ro 7 rfl (zS H Try.underlying24 ti2 [.int .i64 zi38] fun b39 w40 H=>⟨H.pick [4] [0],(ro 8 rfl (zV H 3 rfl 0 rfl Try.underlying24 ti2 rfl qh rfl rfl rfl (by simp [Value.oneCell',Value.cells]) qm qc fun a41 c42 w43 H=>?_))⟩))⟩
    rw [snocI] at H
    try dsimp only [List.set] at H
    refine ⟨H.pick [4] [0],(tF 9 rfl rfl (H.pick [4] [0]) ?_)⟩
    refine ro 10 rfl (zh H 2 [.int .i64 (1+zi9),.slice a41 (xg+1) c42,.slice none 0 0] Try.sizeOf24 fun w44 H=>?_)
    try dsimp only [List.set] at H
    refine ⟨H.pick [4] [0],(qZ qg ((meet ⟨_,zi36,zi38,zi37,a41,c42,uE4,hx34,hx35,N,H.qW 5 1 [1,2,3,4] [0] ql ql⟩)))⟩
   ·skip
    refine ve (.slice xG xg xF) Try.isAgg24 rfl (H.cell 1 rfl rfl) (⟨H.pick [3] [0],(tN 5 rfl rfl (H.pick [3] [0]) ?_)⟩)
    refine zl [1,6] qg qj (zC rfl ?_ (zC rfl ?_ zn))
    ·skip
     refine ve (.slice xG xg xF) Try.isAgg24 rfl (H.cell 1 rfl rfl) (⟨H.pick [3] [0],(ro 6 rfl ?_)⟩)
     have H1:St W0 w23.drew ((.box bs [.slice ac code.length cc,.int .i64 s_at,.int .u64 s_seed] 95) :: (.box b12 [.int .i64 (1+zi9),.slice xG xg xF,.slice none 0 0] 27) :: (rr xG xg xF 2 1 (y_Parents.map (Value.int .i64))) :: (.box b1 [.int .i64 0,.slice none 0 0,.slice none 0 0] 27) :: ps) ((sF false Fc ac cc code) :: Γ):=H.qW 4 1 [0,1,2,3] [0] ql ql
     have N1:Fresh _ (Ns):=N
     have K1:Kept (Ns) (Γ):=K0.behind 0 rfl
     refine xf #[.pointer (some ⟨bs,0,none⟩),.int .i64 xg] rfl rfl Try.call62 (zN code s_at s_seed bs ac cc Fc xg H1 N1 K1 qf) ?_
     clear H H1 N1 K1
     rintro _ w45 ⟨zi49,zi50,zi51,hx47,hx48,rfl,N,H⟩
     refine ⟨H.pick [3] [0],(ro 7 rfl (zS H Try.underlying24 ti2 [.int .i64 zi51] fun b52 w53 H=>⟨H.pick [4] [0],(ro 8 rfl (zV H 3 rfl 0 rfl Try.underlying24 ti2 rfl qh rfl rfl rfl (by simp [Value.oneCell',Value.cells]) qm qc fun a54 c55 w56 H=>?_))⟩))⟩
     rw [snocI] at H
     try dsimp only [List.set] at H
     refine ⟨H.pick [4] [0],(tF 9 rfl rfl (H.pick [4] [0]) ?_)⟩
     refine ro 10 rfl (zh H 2 [.int .i64 (1+zi9),.slice a54 (xg+1) c55,.slice none 0 0] Try.sizeOf24 fun w57 H=>?_)
     try dsimp only [List.set] at H
     refine ⟨H.pick [4] [0],(qZ qg ((meet ⟨_,zi49,zi51,zi50,a54,c55,uE4,hx47,hx48,N,H.qW 5 1 [1,2,3,4] [0] ql ql⟩)))⟩
    ·skip
     have H1:St W0 w23.drew ((.box bs [.slice ac code.length cc,.int .i64 s_at,.int .u64 s_seed] 95) :: (.box b12 [.int .i64 (1+zi9),.slice xG xg xF,.slice none 0 0] 27) :: (rr xG xg xF 2 1 (y_Parents.map (Value.int .i64))) :: (.box b1 [.int .i64 0,.slice none 0 0,.slice none 0 0] 27) :: ps) ((sF false Fc ac cc code) :: Γ):=H.qW 4 1 [0,1,2,3] [0] ql ql
     have N1:Fresh _ (Ns):=N
     have K1:Kept (Ns) (Γ):=K0.behind 0 rfl
     refine xf #[.pointer (some ⟨bs,0,none⟩),.int .i64 xg] rfl rfl Try.call62 (zN code s_at s_seed bs ac cc Fc xg H1 N1 K1 qf) ?_
     clear H H1 N1 K1
     rintro _ w58 ⟨zi62,zi63,zi64,hx60,hx61,rfl,N,H⟩
     refine ⟨H.pick [3] [0],(zl [1,7] qg qj (zC rfl ?_ (zC rfl ?_ zn)))⟩
     ·skip
      refine ve (.slice xG xg xF) Try.isAgg24 rfl (H.cell 1 rfl rfl) (⟨H.pick [3] [0],(ro 7 rfl (zS H Try.underlying24 ti2 [.int .i64 zi64] fun b65 w66 H=>⟨H.pick [4] [0],(ro 8 rfl (zV H 3 rfl 0 rfl Try.underlying24 ti2 rfl qh rfl rfl rfl (by simp [Value.oneCell',Value.cells]) qm qc fun a67 c68 w69 H=>?_))⟩))⟩)
      rw [snocI] at H
      try dsimp only [List.set] at H
      refine ⟨H.pick [4] [0],(tF 9 rfl rfl (H.pick [4] [0]) ?_)⟩
      refine ro 10 rfl (zh H 2 [.int .i64 (1+zi9),.slice a67 (xg+1) c68,.slice none 0 0] Try.sizeOf24 fun w70 H=>?_)
      try dsimp only [List.set] at H
      refine ⟨H.pick [4] [0],(qZ qg ((meet ⟨_,zi62,zi64,zi63,a67,c68,uE4,hx60,hx61,N,H.qW 5 1 [1,2,3,4] [0] ql ql⟩)))⟩
     ·skip
      refine zS H Try.underlying24 ti2 [.int .i64 zi64] fun b71 w72 H=>⟨H.pick [4] [0],(ro 1 rfl (ve (.slice xG xg xF) Try.isAgg24 rfl (H.cell 2 rfl rfl) (⟨H.pick [4] [0],(ro 8 rfl (zV H 3 rfl 0 rfl Try.underlying24 ti2 rfl qh rfl rfl rfl (by simp [Value.oneCell',Value.cells]) qm qc fun a73 c74 w75 H=>?_))⟩)))⟩
      rw [snocI] at H
      try dsimp only [List.set] at H
      refine ⟨H.pick [4] [0],(tF 9 rfl rfl (H.pick [4] [0]) ?_)⟩
      refine ro 10 rfl (zh H 2 [.int .i64 (1+zi9),.slice a73 (xg+1) c74,.slice none 0 0] Try.sizeOf24 fun w76 H=>?_)
      try dsimp only [List.set] at H
      refine ⟨H.pick [4] [0],(qZ qg ((meet ⟨_,zi62,zi64,zi63,a73,c74,uE4,hx60,hx61,N,H.qW 5 1 [1,2,3,4] [0] ql ql⟩)))⟩
  ·skip
   clear H N
   rintro ρ w77 ⟨zX,zi25,zi26,zi27,a28,c29,rfl,hx78,hx79,N,H⟩
   refine b_n (t_n (zT (sp (.int .i64 c) (sw (o_sub c 1 rfl rfl qc (sp (.int .i64 (c - 1)) (vg (xJ (m' :=(c - 1).toNat) qc ⟨_,c - 1,zi25,zi27,a28,xg+1,c29,(y_Parents++[zi26]),uE4,?_,?_,?_,rfl,N,H⟩))))))))
   · omega
   · simp;omega
   · exact i3.snoc (by have:=i3.1;omega)
 ·skip
  refine zx4 (zcc (sp (.pointer (some ⟨bs,0,none⟩)) ?_))
  have H1:St W0 w23 ((.box bs [.slice ac code.length cc,.int .i64 s_at,.int .u64 s_seed] 95) :: (.box b12 [.int .i64 (1+zi9),.slice xG xg xF,.slice none 0 0] 27) :: (rr xG xg xF 2 1 (y_Parents.map (Value.int .i64))) :: (.box b1 [.int .i64 0,.slice none 0 0,.slice none 0 0] 27) :: ps) ((sF false Fc ac cc code) :: Γ):=H.qW 4 1 [0,1,2,3] [0] ql ql
  have N1:Fresh _ (Ns):=N
  have K1:Kept (Ns) (Γ):=K0.behind 0 rfl
  refine sw (xf #[.pointer (some ⟨bs,0,none⟩),.int .i64 6] rfl rfl Try.call62 (zN code s_at s_seed bs ac cc Fc (6:Int) H1 N1 K1 qf) ?_)
  clear H H1 N1 K1
  rintro _ w80 ⟨zi84,zi85,zi86,hx82,hx83,rfl,N,H⟩
  refine sp (.int .i64 zi86) (zjn (xE ?_))
  replace H:=H.nilRow 51 9
  replace H:=H.repsNil (α:=zM)
  refine vT (fun m' ρ w87=>∃ (zX:Env) (k:Int) (s_at_1:Int) (s_seed_1:Int) (vZ:yOA) (zW:Nat) (vX:Nat) (y_Rules:List zM) (jE:List Value) (xu:yLN),ρ=upd (upd (upd (upd zX 0 (.pointer (some ⟨bs,0,none⟩))) 2 (.pointer (some ⟨b1,0,none⟩))) 3 (.pointer (some ⟨b12,0,none⟩))) 5 (.int .i64 k)∧(ip≤s_at_1∧s_at_1+300 * k≤ip+1600)∧(0≤k∧(y_Rules.length:Int)+k≤5)∧(jc (1+zi9) y_Parents y_Rules)∧m' =k.toNat∧Fresh W0.heap.size (xu :: Ns)∧St W0 w87 ((rr vZ zW vX 51 9 jE) :: (.box bs [.slice ac code.length cc,.int .i64 s_at_1,.int .u64 s_seed_1] 95) :: (.box b12 [.int .i64 (1+zi9),.slice xG xg xF,.slice vZ zW vX] 27) :: (rr xG xg xF 2 1 (y_Parents.map (Value.int .i64))) :: (.box b1 [.int .i64 0,.slice none 0 0,.slice none 0 0] 27) :: ps) ((qM true xu jE y_Rules) :: (sF false Fc ac cc code) :: Γ)) (zi86.toNat) ⟨_,zi86,zi84,zi85,none,0,0,([]:List zM),[],[],uE4,qc,(by simp;omega),(by exact jc.nil _ _),rfl,N.emp,H⟩ ?_
  clear H N
  rintro m' ρ w88 ⟨zX,k,s_at_1,s_seed_1,vZ,zW,vX,y_Rules,jE,xu,rfl,j1,j2,j3,rfl,N,H⟩
  have hn_y_Rules:=H.jf (α:=zM) 0 rfl 0 rfl qh
  refine zcc (sps [.int .i64 k,.bool (decide ((k:Int) > 0))] (zjn (cD rfl (fun h89=>?_) (fun h89=>?_))))
  ·skip
   refine xn (t_n (zF (xE ?_)))
   refine c_cut (fun ρ w121=>∃ (zX:Env) (zi90:Int) (zi91:Int) (zi92:Int) (zl93:yLI) (zl94:yLI) (zl95:yLI) (zl96:yLI) (zl97:yLI) (zI98:List IntoD) (zb99:Bool) (zi100:Int) (a101:yOA) (c102:Nat) (ra103:yOA) (rc104:Nat) (ra105:yOA) (rc106:Nat) (ra107:yOA) (rc108:Nat) (ra109:yOA) (rc110:Nat) (ra111:yOA) (rc112:Nat) (ra113:yOA) (rc114:Nat) (G115:yLN) (G116:yLN) (G117:yLN) (G118:yLN) (G119:yLN) (G120:yLN),ρ=upd (upd (upd (upd zX 0 (.pointer (some ⟨bs,0,none⟩))) 2 (.pointer (some ⟨b1,0,none⟩))) 3 (.pointer (some ⟨b12,0,none⟩))) 5 (.int .i64 k)∧(s_at_1≤zi90∧zi90≤s_at_1+300)∧(RuleDr (1+zi9) y_Parents ⟨zi91,zi92,zl93,zl94,zl95,zl96,zl97,zI98,zb99⟩)∧Fresh W0.heap.size ((xu++(G115++G116++G117++G118++G119++G120)) :: Ns)∧St W0 w121 ((.box bs [.slice ac code.length cc,.int .i64 zi90,.int .u64 zi100] 95) :: (.box b12 [.int .i64 (1+zi9),.slice xG xg xF,.slice a101 (zW+1) c102] 27) :: (rr xG xg xF 2 1 (y_Parents.map (Value.int .i64))) :: (rr a101 (zW+1) c102 51 9 (jE++[.int .i64 zi91,.int .i64 zi92,.slice ra103 zl93.length rc104,.slice ra105 zl94.length rc106,.slice ra107 zl95.length rc108,.slice ra109 zl96.length rc110,.slice ra111 zl97.length rc112,.slice ra113 zI98.length rc114,.bool zb99])) :: (.box b1 [.int .i64 0,.slice none 0 0,.slice none 0 0] 27) :: ps) ((qM true (xu++(G115++G116++G117++G118++G119++G120)) (jE++[.int .i64 zi91,.int .i64 zi92,.slice ra103 zl93.length rc104,.slice ra105 zl94.length rc106,.slice ra107 zl95.length rc108,.slice ra109 zl96.length rc110,.slice ra111 zl97.length rc112,.slice ra113 zI98.length rc114,.bool zb99]) (y_Rules++[(⟨zi91,zi92,zl93,zl94,zl95,zl96,zl97,zI98,zb99⟩:zM)])) :: (sF true G120 ra113 rc114 zI98) :: (sF true G119 ra111 rc112 zl97) :: (sF true G118 ra109 rc110 zl96) :: (sF true G117 ra107 rc108 zl95) :: (sF true G116 ra105 rc106 zl94) :: (sF true G115 ra103 rc104 zl93) :: (sF false Fc ac cc code) :: Γ)) ?_ ?_
   ·skip
    refine c_drawK2 rfl H [3,4] [0,1] fun H=>?_
    have S:=H.pickC [3,4] [0,1]
    refine tF 0 rfl rfl S ?_
    refine rtp 2 (.pointer (some ⟨bs,0,none⟩)) S ?_
    refine zl [1,3] qg qj (zC rfl ?_ (zC rfl ?_ zn))
    ·skip
     refine ve (.slice vZ zW vX) Try.isAgg25 rfl (H.cell 2 rfl rfl) (⟨H.pick [3,4] [0,1],(ro 3 rfl ?_)⟩)
     have f0:zG (⟨1+zi9,y_Parents,y_Rules⟩:qo):=frame_of i3 qc qc
     have H1:St W0 w88.drew ((.box bs [.slice ac code.length cc,.int .i64 s_at_1,.int .u64 s_seed_1] 95) :: (.box b12 [.int .i64 (1+zi9),.slice xG xg xF,.slice vZ zW vX] 27) :: (rr xG xg xF 2 1 (y_Parents.map (Value.int .i64))) :: (rr vZ zW vX 51 9 jE) :: (.box b1 [.int .i64 0,.slice none 0 0,.slice none 0 0] 27) :: ps) ((sF false Fc ac cc code) :: (qM true xu jE y_Rules) :: Γ):=H.qW 5 2 [1,2,3,0,4] [1,0] ql ql
     have N1:Fresh _ (xu :: Ns):=N
     have K1:Kept (Ns) (Γ):=K0.behind 0 rfl
     refine xf #[.pointer (some ⟨bs,0,none⟩),.pointer (some ⟨b12,0,none⟩)] rfl rfl Try.call63 (dRule_ok code s_at_1 s_seed_1 bs ac cc Fc (1+zi9) y_Parents y_Rules b12 xG xg xF vZ zW vX jE xu H1 N1 K1 qf qf) ?_
     clear H H1 N1 K1
     rintro _ w123 ⟨zi127,zi128,zi129,zi130,zl131,zl132,zl133,zl134,zl135,zI136,zb137,ra138,rn139,rc140,ra141,rn142,rc143,ra144,rn145,rc146,ra147,rn148,rc149,ra150,rn151,rc152,ra153,rn154,rc155,rx156,rF157,hx125,hx126,rfl,N,H⟩
     obtain rfl:=H.zo 4 rfl
     obtain rfl:=H.zo 5 rfl
     obtain rfl:=H.zo 6 rfl
     obtain rfl:=H.zo 7 rfl
     obtain rfl:=H.zo 8 rfl
     obtain rfl:=H.jf (α:=IntoD) 9 rfl 2 rfl qh
     refine ⟨H.pick [2,10] [1,0],(ro 4 rfl (zS H Try.underlying25 ti51 [.int .i64 zi129,.int .i64 zi130,.slice ra138 zl131.length rc140,.slice ra141 zl132.length rc143,.slice ra144 zl133.length rc146,.slice ra147 zl134.length rc149,.slice ra150 zl135.length rc152,.slice ra153 zI136.length rc155,.bool zb137] fun b158 w159 H=>⟨H.pick [3,11] [1,0],(ro 5 rfl ?_)⟩))⟩
     obtain ⟨G163,N,hn164,H⟩:=H.vH 5 rfl N (fun F hF b hb=>(List.mem_append.1 (show F∈[xu,rF157]++Ns from hF)).elim (fun h=>(H.yg (L:=[xu,rF157]) [1,2]) F h b hb) fun h=>H.awayK (K0.behind 3 rfl) F h b hb)
     try dsimp only [List.set] at H
     obtain ⟨G165,N,hn166,H⟩:=H.vH 6 rfl N (fun F hF b hb=>(List.mem_append.1 (show F∈[G163,xu,rF157]++Ns from hF)).elim (fun h=>(H.yg (L:=[G163,xu,rF157]) [0,2,3]) F h b hb) fun h=>H.awayK (K0.behind 4 rfl) F h b hb)
     try dsimp only [List.set] at H
     obtain ⟨G167,N,hn168,H⟩:=H.vH 7 rfl N (fun F hF b hb=>(List.mem_append.1 (show F∈[G165,G163,xu,rF157]++Ns from hF)).elim (fun h=>(H.yg (L:=[G165,G163,xu,rF157]) [0,1,3,4]) F h b hb) fun h=>H.awayK (K0.behind 5 rfl) F h b hb)
     try dsimp only [List.set] at H
     obtain ⟨G169,N,hn170,H⟩:=H.vH 8 rfl N (fun F hF b hb=>(List.mem_append.1 (show F∈[G167,G165,G163,xu,rF157]++Ns from hF)).elim (fun h=>(H.yg (L:=[G167,G165,G163,xu,rF157]) [0,1,2,4,5]) F h b hb) fun h=>H.awayK (K0.behind 6 rfl) F h b hb)
     try dsimp only [List.set] at H
     obtain ⟨G171,N,hn172,H⟩:=H.vH 9 rfl N (fun F hF b hb=>(List.mem_append.1 (show F∈[G169,G167,G165,G163,xu,rF157]++Ns from hF)).elim (fun h=>(H.yg (L:=[G169,G167,G165,G163,xu,rF157]) [0,1,2,3,5,6]) F h b hb) fun h=>H.awayK (K0.behind 7 rfl) F h b hb)
     try dsimp only [List.set] at H
     have H0:=H
     obtain ⟨G173,hg175,hn174,H⟩:=H.freezeR (α:=IntoD) 10 rfl 7 rfl qh
     replace N:Fresh W0.heap.size (G173 :: G171 :: G169 :: G167 :: G165 :: G163 :: xu :: Ns):=Fresh.ice (N.qW 7 [6,0,1,2,3,4,5] ql) H0 10 hg175.1 hg175.2 (fun F hF b hb=>(List.mem_append.1 (show F∈[G171,G169,G167,G165,G163,xu]++Ns from hF)).elim (fun h=>(H0.yg (L:=[G171,G169,G167,G165,G163,xu]) [0,1,2,3,4,6]) F h b hb) fun h=>H0.awayK (K0.behind 8 rfl) F h b hb)
     clear H0
     try dsimp only [List.set] at H
     refine zV H 4 rfl 0 rfl Try.underlying25 ti51 rfl qh rfl rfl rfl (by simp [Value.oneCell',Value.cells]) qm qc fun a160 c161 w162 H=>?_
     try dsimp only [List.set] at H
     replace H:=H.snoc_RuleD 7 rfl zi129 zi130 5 rfl 4 rfl 3 rfl 2 rfl 1 rfl 0 rfl zb137
     replace N:Fresh W0.heap.size ((xu++(G163++G165++G167++G169++G171++G173)) :: Ns):=(N.qW 7 [5,4,3,2,1,0,6] ql).join.join.join.join.join.swap.join
     refine ⟨H.pick [3,11] [8,7],(tF 6 rfl rfl (H.pick [3,11] [8,7]) ?_)⟩
     refine ro 7 rfl (zh H 2 [.int .i64 (1+zi9),.slice xG xg xF,.slice a160 (zW+1) c161] Try.sizeOf25 fun w176 H=>?_)
     try dsimp only [List.set] at H
     refine ⟨H.pick [3,11] [8,7],(qZ qg ((meet ⟨_,zi127,zi129,zi130,zl131,zl132,zl133,zl134,zl135,zI136,zb137,zi128,a160,c161,ra138,rc140,ra141,rc143,ra144,rc146,ra147,rc149,ra150,rc152,ra153,rc155,G163,G165,G167,G169,G171,G173,uE4,hx125,hx126,N,H.qW 12 10 [1,2,3,4,11] [0,1,2,3,4,5,6,7] ql ql⟩)))⟩
    ·skip
     have f0:zG (⟨1+zi9,y_Parents,y_Rules⟩:qo):=frame_of i3 qc qc
     have H1:St W0 w88.drew ((.box bs [.slice ac code.length cc,.int .i64 s_at_1,.int .u64 s_seed_1] 95) :: (.box b12 [.int .i64 (1+zi9),.slice xG xg xF,.slice vZ zW vX] 27) :: (rr xG xg xF 2 1 (y_Parents.map (Value.int .i64))) :: (rr vZ zW vX 51 9 jE) :: (.box b1 [.int .i64 0,.slice none 0 0,.slice none 0 0] 27) :: ps) ((sF false Fc ac cc code) :: (qM true xu jE y_Rules) :: Γ):=H.qW 5 2 [1,2,3,0,4] [1,0] ql ql
     have N1:Fresh _ (xu :: Ns):=N
     have K1:Kept (Ns) (Γ):=K0.behind 0 rfl
     refine xf #[.pointer (some ⟨bs,0,none⟩),.pointer (some ⟨b12,0,none⟩)] rfl rfl Try.call63 (dRule_ok code s_at_1 s_seed_1 bs ac cc Fc (1+zi9) y_Parents y_Rules b12 xG xg xF vZ zW vX jE xu H1 N1 K1 qf qf) ?_
     clear H H1 N1 K1
     rintro _ w177 ⟨zi181,zi182,zi183,zi184,zl185,zl186,zl187,zl188,zl189,zI190,zb191,ra192,rn193,rc194,ra195,rn196,rc197,ra198,rn199,rc200,ra201,rn202,rc203,ra204,rn205,rc206,ra207,rn208,rc209,rx210,rF211,hx179,hx180,rfl,N,H⟩
     obtain rfl:=H.zo 4 rfl
     obtain rfl:=H.zo 5 rfl
     obtain rfl:=H.zo 6 rfl
     obtain rfl:=H.zo 7 rfl
     obtain rfl:=H.zo 8 rfl
     obtain rfl:=H.jf (α:=IntoD) 9 rfl 2 rfl qh
     refine ⟨H.pick [2,10] [1,0],(zl [1,4] qg qj (zC rfl ?_ (zC rfl ?_ zn)))⟩
     ·skip
      refine ve (.slice vZ zW vX) Try.isAgg25 rfl (H.cell 1 rfl rfl) (⟨H.pick [2,10] [1,0],(ro 4 rfl (zS H Try.underlying25 ti51 [.int .i64 zi183,.int .i64 zi184,.slice ra192 zl185.length rc194,.slice ra195 zl186.length rc197,.slice ra198 zl187.length rc200,.slice ra201 zl188.length rc203,.slice ra204 zl189.length rc206,.slice ra207 zI190.length rc209,.bool zb191] fun b212 w213 H=>⟨H.pick [3,11] [1,0],(ro 5 rfl ?_)⟩))⟩)
      obtain ⟨G217,N,hn218,H⟩:=H.vH 5 rfl N (fun F hF b hb=>(List.mem_append.1 (show F∈[xu,rF211]++Ns from hF)).elim (fun h=>(H.yg (L:=[xu,rF211]) [1,2]) F h b hb) fun h=>H.awayK (K0.behind 3 rfl) F h b hb)
      try dsimp only [List.set] at H
      obtain ⟨G219,N,hn220,H⟩:=H.vH 6 rfl N (fun F hF b hb=>(List.mem_append.1 (show F∈[G217,xu,rF211]++Ns from hF)).elim (fun h=>(H.yg (L:=[G217,xu,rF211]) [0,2,3]) F h b hb) fun h=>H.awayK (K0.behind 4 rfl) F h b hb)
      try dsimp only [List.set] at H
      obtain ⟨G221,N,hn222,H⟩:=H.vH 7 rfl N (fun F hF b hb=>(List.mem_append.1 (show F∈[G219,G217,xu,rF211]++Ns from hF)).elim (fun h=>(H.yg (L:=[G219,G217,xu,rF211]) [0,1,3,4]) F h b hb) fun h=>H.awayK (K0.behind 5 rfl) F h b hb)
      try dsimp only [List.set] at H
      obtain ⟨G223,N,hn224,H⟩:=H.vH 8 rfl N (fun F hF b hb=>(List.mem_append.1 (show F∈[G221,G219,G217,xu,rF211]++Ns from hF)).elim (fun h=>(H.yg (L:=[G221,G219,G217,xu,rF211]) [0,1,2,4,5]) F h b hb) fun h=>H.awayK (K0.behind 6 rfl) F h b hb)
      try dsimp only [List.set] at H
      obtain ⟨G225,N,hn226,H⟩:=H.vH 9 rfl N (fun F hF b hb=>(List.mem_append.1 (show F∈[G223,G221,G219,G217,xu,rF211]++Ns from hF)).elim (fun h=>(H.yg (L:=[G223,G221,G219,G217,xu,rF211]) [0,1,2,3,5,6]) F h b hb) fun h=>H.awayK (K0.behind 7 rfl) F h b hb)
      try dsimp only [List.set] at H
      have H0:=H
      obtain ⟨G227,hg229,hn228,H⟩:=H.freezeR (α:=IntoD) 10 rfl 7 rfl qh
      replace N:Fresh W0.heap.size (G227 :: G225 :: G223 :: G221 :: G219 :: G217 :: xu :: Ns):=Fresh.ice (N.qW 7 [6,0,1,2,3,4,5] ql) H0 10 hg229.1 hg229.2 (fun F hF b hb=>(List.mem_append.1 (show F∈[G225,G223,G221,G219,G217,xu]++Ns from hF)).elim (fun h=>(H0.yg (L:=[G225,G223,G221,G219,G217,xu]) [0,1,2,3,4,6]) F h b hb) fun h=>H0.awayK (K0.behind 8 rfl) F h b hb)
      clear H0
      try dsimp only [List.set] at H
      refine zV H 4 rfl 0 rfl Try.underlying25 ti51 rfl qh rfl rfl rfl (by simp [Value.oneCell',Value.cells]) qm qc fun a214 c215 w216 H=>?_
      try dsimp only [List.set] at H
      replace H:=H.snoc_RuleD 7 rfl zi183 zi184 5 rfl 4 rfl 3 rfl 2 rfl 1 rfl 0 rfl zb191
      replace N:Fresh W0.heap.size ((xu++(G217++G219++G221++G223++G225++G227)) :: Ns):=(N.qW 7 [5,4,3,2,1,0,6] ql).join.join.join.join.join.swap.join
      refine ⟨H.pick [3,11] [8,7],(tF 6 rfl rfl (H.pick [3,11] [8,7]) ?_)⟩
      refine ro 7 rfl (zh H 2 [.int .i64 (1+zi9),.slice xG xg xF,.slice a214 (zW+1) c215] Try.sizeOf25 fun w230 H=>?_)
      try dsimp only [List.set] at H
      refine ⟨H.pick [3,11] [8,7],(qZ qg ((meet ⟨_,zi181,zi183,zi184,zl185,zl186,zl187,zl188,zl189,zI190,zb191,zi182,a214,c215,ra192,rc194,ra195,rc197,ra198,rc200,ra201,rc203,ra204,rc206,ra207,rc209,G217,G219,G221,G223,G225,G227,uE4,hx179,hx180,N,H.qW 12 10 [1,2,3,4,11] [0,1,2,3,4,5,6,7] ql ql⟩)))⟩
     ·skip
      refine zS H Try.underlying25 ti51 [.int .i64 zi183,.int .i64 zi184,.slice ra192 zl185.length rc194,.slice ra195 zl186.length rc197,.slice ra198 zl187.length rc200,.slice ra201 zl188.length rc203,.slice ra204 zl189.length rc206,.slice ra207 zI190.length rc209,.bool zb191] fun b231 w232 H=>⟨H.pick [3,11] [1,0],(ro 1 rfl (ve (.slice vZ zW vX) Try.isAgg25 rfl (H.cell 2 rfl rfl) (⟨H.pick [3,11] [1,0],(ro 5 rfl ?_)⟩)))⟩
      obtain ⟨G236,N,hn237,H⟩:=H.vH 5 rfl N (fun F hF b hb=>(List.mem_append.1 (show F∈[xu,rF211]++Ns from hF)).elim (fun h=>(H.yg (L:=[xu,rF211]) [1,2]) F h b hb) fun h=>H.awayK (K0.behind 3 rfl) F h b hb)
      try dsimp only [List.set] at H
      obtain ⟨G238,N,hn239,H⟩:=H.vH 6 rfl N (fun F hF b hb=>(List.mem_append.1 (show F∈[G236,xu,rF211]++Ns from hF)).elim (fun h=>(H.yg (L:=[G236,xu,rF211]) [0,2,3]) F h b hb) fun h=>H.awayK (K0.behind 4 rfl) F h b hb)
      try dsimp only [List.set] at H
      obtain ⟨G240,N,hn241,H⟩:=H.vH 7 rfl N (fun F hF b hb=>(List.mem_append.1 (show F∈[G238,G236,xu,rF211]++Ns from hF)).elim (fun h=>(H.yg (L:=[G238,G236,xu,rF211]) [0,1,3,4]) F h b hb) fun h=>H.awayK (K0.behind 5 rfl) F h b hb)
      try dsimp only [List.set] at H
      obtain ⟨G242,N,hn243,H⟩:=H.vH 8 rfl N (fun F hF b hb=>(List.mem_append.1 (show F∈[G240,G238,G236,xu,rF211]++Ns from hF)).elim (fun h=>(H.yg (L:=[G240,G238,G236,xu,rF211]) [0,1,2,4,5]) F h b hb) fun h=>H.awayK (K0.behind 6 rfl) F h b hb)
      try dsimp only [List.set] at H
      obtain ⟨G244,N,hn245,H⟩:=H.vH 9 rfl N (fun F hF b hb=>(List.mem_append.1 (show F∈[G242,G240,G238,G236,xu,rF211]++Ns from hF)).elim (fun h=>(H.yg (L:=[G242,G240,G238,G236,xu,rF211]) [0,1,2,3,5,6]) F h b hb) fun h=>H.awayK (K0.behind 7 rfl) F h b hb)
      try dsimp only [List.set] at H
      have H0:=H
      obtain ⟨G246,hg248,hn247,H⟩:=H.freezeR (α:=IntoD) 10 rfl 7 rfl qh
      replace N:Fresh W0.heap.size (G246 :: G244 :: G242 :: G240 :: G238 :: G236 :: xu :: Ns):=Fresh.ice (N.qW 7 [6,0,1,2,3,4,5] ql) H0 10 hg248.1 hg248.2 (fun F hF b hb=>(List.mem_append.1 (show F∈[G244,G242,G240,G238,G236,xu]++Ns from hF)).elim (fun h=>(H0.yg (L:=[G244,G242,G240,G238,G236,xu]) [0,1,2,3,4,6]) F h b hb) fun h=>H0.awayK (K0.behind 8 rfl) F h b hb)
      clear H0
      try dsimp only [List.set] at H
      refine zV H 4 rfl 0 rfl Try.underlying25 ti51 rfl qh rfl rfl rfl (by simp [Value.oneCell',Value.cells]) qm qc fun a233 c234 w235 H=>?_
      try dsimp only [List.set] at H
      replace H:=H.snoc_RuleD 7 rfl zi183 zi184 5 rfl 4 rfl 3 rfl 2 rfl 1 rfl 0 rfl zb191
      replace N:Fresh W0.heap.size ((xu++(G236++G238++G240++G242++G244++G246)) :: Ns):=(N.qW 7 [5,4,3,2,1,0,6] ql).join.join.join.join.join.swap.join
      refine ⟨H.pick [3,11] [8,7],(tF 6 rfl rfl (H.pick [3,11] [8,7]) ?_)⟩
      refine ro 7 rfl (zh H 2 [.int .i64 (1+zi9),.slice xG xg xF,.slice a233 (zW+1) c234] Try.sizeOf25 fun w249 H=>?_)
      try dsimp only [List.set] at H
      refine ⟨H.pick [3,11] [8,7],(qZ qg ((meet ⟨_,zi181,zi183,zi184,zl185,zl186,zl187,zl188,zl189,zI190,zb191,zi182,a233,c234,ra192,rc194,ra195,rc197,ra198,rc200,ra201,rc203,ra204,rc206,ra207,rc209,G236,G238,G240,G242,G244,G246,uE4,hx179,hx180,N,H.qW 12 10 [1,2,3,4,11] [0,1,2,3,4,5,6,7] ql ql⟩)))⟩
   ·skip
    clear H N
    rintro ρ w250 ⟨zX,zi90,zi91,zi92,zl93,zl94,zl95,zl96,zl97,zI98,zb99,zi100,a101,c102,ra103,rc104,ra105,rc106,ra107,rc108,ra109,rc110,ra111,rc112,ra113,rc114,G115,G116,G117,G118,G119,G120,rfl,hx251,hx252,N,H⟩
    refine b_n (t_n (zT (sp (.int .i64 k) (sw (o_sub k 1 rfl rfl qc (sp (.int .i64 (k - 1)) (vg ?_)))))))
    refine xJ (m' :=(k - 1).toNat) qc ⟨_,k - 1,zi90,zi100,a101,zW+1,c102,(y_Rules++[(⟨zi91,zi92,zl93,zl94,zl95,zl96,zl97,zI98,zb99⟩:zM)]),(jE++[Value.int .i64 zi91,Value.int .i64 zi92,Value.slice ra103 zl93.length rc104,Value.slice ra105 zl94.length rc106,Value.slice ra107 zl95.length rc108,Value.slice ra109 zl96.length rc110,Value.slice ra111 zl97.length rc112,Value.slice ra113 zI98.length rc114,Value.bool zb99]:List Value),(xu++(G115++G116++G117++G118++G119++G120)),uE4,?_,?_,?_,rfl,N,H.qW 5 8 [3,0,1,2,4] [0,7] ql ql⟩
    · omega
    · simp;omega
    · exact j3.snoc qi
  ·skip
   refine zx4 (zcr (sw (xR [.int .i64 (1+zi9),.slice xG xg xF,.slice vZ zW vX] Try.isAgg27 Try.sizeOf27 rfl (qE (H.cells 2 rfl) 0 3) (sw (qL H 4 [.int .i64 (1+zi9),.slice xG xg xF,.slice vZ zW vX] Try.sizeOf27 fun w253 H=>?_)))))
   try dsimp only [List.set] at H
   refine zjr (retC H 4 rfl rfl Try.isAgg27 Try.sizeOf27 rfl ⟨_,rfl,(⟨s_at_1,s_seed_1,1+zi9,y_Parents,y_Rules,xG,xg,xF,vZ,zW,vX,jE,xu,qc,(by exact sysDr_of i3 qc qc qc j3),rfl,N,H.qW 5 2 [1,3,0] [1,0] ql ql⟩)⟩)

theorem dState_ok {W0 w:World} {ps:List Prv} {Γ:List Fact} {Ns:List yLN} (code:List UInt8) (ip:Int) (sd:Int) (bs:Nat) (ac:yOA) (cc:Nat) (Fc:yLN) (kk:Int) (par:yLI) (rules:List zM) (bY:Nat) (rap:yOA) (rnp:Nat) (rcp:Nat) (raR:yOA) (rnR:Nat) (rcR:Nat) (rxR:List Value) (rFR:yLN) (frR:Bool) (most:Int) (H:St W0 w ((.box bs [.slice ac code.length cc,.int .i64 ip,.int .u64 sd] 95) :: (.box bY [.int .i64 kk,.slice rap rnp rcp,.slice raR rnR rcR] 27) :: (rr rap rnp rcp 2 1 (par.map (Value.int .i64))) :: (rr raR rnR rcR 51 9 rxR) :: ps) ((sF false Fc ac cc code) :: (qM frR rFR rxR rules) :: Γ)) (N:Fresh W0.heap.size (Ns)) (K0:Kept Ns Γ) (q0:0≤ip∧ip≤40000) (f0:zG (⟨kk,par,rules⟩:qo)) (q2:1≤most∧most≤6):Calls Try.prog 28 #[.pointer (some ⟨bs,0,none⟩),.pointer (some ⟨bY,0,none⟩),.int .i64 most] w (fun e w' =>∃ v,e=.returned v∧∃ (ip_:Int) (sd_:Int) (alive_:List Bool) (bags_:yLL) (around_:yLI) (raA:yOA) (rnA:Nat) (rcA:Nat) (raB:yOA) (rnB:Nat) (rcB:Nat) (rxB:List Value) (rFB:yLN) (raD:yOA) (rnD:Nat) (rcD:Nat),(ip≤ip_∧ip_≤ip+200)∧(StDr kk par.length most alive_ bags_ around_)∧v=.agg #[.slice raA rnA rcA,.slice raB rnB rcB,.slice raD rnD rcD]∧Fresh W0.heap.size (rFB :: Ns)∧St W0 w' ((.box bs [.slice ac code.length cc,.int .i64 ip_,.int .u64 sd_] 95) :: (.box bY [.int .i64 kk,.slice rap rnp rcp,.slice raR rnR rcR] 27) :: (rr rap rnp rcp 2 1 (par.map (Value.int .i64))) :: (rr raR rnR rcR 51 9 rxR) :: (rr raA rnA rcA 4 1 (alive_.map (Value.bool))) :: (rr raB rnB rcB 24 1 rxB) :: (rr raD rnD rcD 2 1 (around_.map (Value.int .i64))) :: ps) ((sF false Fc ac cc code) :: (qM frR rFR rxR rules) :: (qM true rFB rxB bags_) :: Γ)):=by
 refine en Try.func28 Try.ntmps28 ?_
 have ncode:=qV (H.get 0 rfl).1
 obtain rfl:=H.zo 2 rfl
 obtain rfl:=H.jf (α:=zM) 3 rfl 1 rfl qh
 have f1:1≤kk∧kk≤8:=f0.1
 have f2:1≤par.length∧par.length≤6:=f0.2.1
 refine zcr (sw (xk H ti31 [.slice none 0 0,.slice none 0 0,.slice none 0 0] fun b1 w2 H=>zjc (sps [.pointer (some ⟨bY,0,none⟩),.pointer (some ⟨bY,0,none⟩)] (oF rfl (oL rfl (H.cell 2 rfl rfl) (sw (xA H Try.underlying24 ti2 kk.toNat rfl rfl qc qc qc fun b3 w4 H=>sw (xm [.slice none 0 0,.slice none 0 0,.slice (some ⟨b3,0,none⟩) kk.toNat kk.toNat] [(2,.slice (some ⟨b3,0,none⟩) kk.toNat kk.toNat)] (sw (xk H ti31 [.slice none 0 0,.slice none 0 0,.slice none 0 0] fun b5 w6 H=>?_))))))))))
 refine sw (qL H 0 [.slice none 0 0,.slice none 0 0,.slice (some ⟨b3,0,none⟩) kk.toNat kk.toNat] Try.sizeOf31 fun w7 H=>?_)
 try dsimp only [List.set] at H
 refine zjcc (sp (.int .i64 0) (zjn (xE ?_)))
 replace H:=H.nilRowB 4
 replace H:=H.nilRow 24 1
 replace H:=H.repsNil (α:=yLI)
 refine vT (fun m' ρ w8=>∃ (zX:Env) (c:Nat) (s_at:Int) (s_seed:Int) (zZ:yOA) (zq:Nat) (zY:Nat) (t_Alive:List Bool) (vF:yOA) (zH:Nat) (vC:Nat) (t_Bags:yLL) (vk:List Value) (zk:yLN),ρ=upd (upd (upd (upd (upd (upd zX 0 (.pointer (some ⟨bs,0,none⟩))) 1 (.pointer (some ⟨bY,0,none⟩))) 2 (.int .i64 most)) 6 (.pointer (some ⟨b1,0,none⟩))) 7 (.pointer (some ⟨b5,0,none⟩))) 8 (.int .i64 c)∧((c:Int)≤par.length)∧(ip≤s_at∧s_at≤ip+22 * c)∧(StTo kk most c t_Alive t_Bags)∧m' =(par.length - (c:Int)).toNat∧Fresh W0.heap.size (zk :: Ns)∧St W0 w8 ((rr vF zH vC 24 1 vk) :: (rr zZ zq zY 4 1 (t_Alive.map (Value.bool))) :: (.box b5 [.slice zZ zq zY,.slice vF zH vC,.slice (some ⟨b3,0,none⟩) kk.toNat kk.toNat] 31) :: (rr (some ⟨b3,0,none⟩) kk.toNat kk.toNat 2 1 ((List.replicate kk.toNat (0:Int)).map (Value.int .i64))) :: (.box b1 [.slice none 0 0,.slice none 0 0,.slice none 0 0] 31) :: (.box bs [.slice ac code.length cc,.int .i64 s_at,.int .u64 s_seed] 95) :: (.box bY [.int .i64 kk,.slice rap par.length rcp,.slice raR rules.length rcR] 27) :: (rr rap par.length rcp 2 1 (par.map (Value.int .i64))) :: (rr raR rules.length rcR 51 9 rxR) :: ps) ((qM true zk vk t_Bags) :: (sF false Fc ac cc code) :: (qM frR rFR rxR rules) :: Γ)) ((par.length - (0:Int)).toNat) ⟨_,0,ip,sd,none,0,0,[],none,0,0,([]:yLL),[],[],uE6,qc,qc,(by exact StTo.nil _ _),rfl,N.emp,H⟩ ?_
 clear H N
 rintro m' ρ w9 ⟨zX,c,s_at,s_seed,zZ,zq,zY,t_Alive,vF,zH,vC,t_Bags,vk,zk,rfl,i0,i1,i2,rfl,N,H⟩
 have hn_t_Alive:=H.rowNB 1 rfl
 have hn_t_Bags:=H.jf (α:=yLI) 0 rfl 0 rfl qh
 have i3:=i2.la
 have i4:=i2.lb
 refine zcc (sps [.int .i64 c,.pointer (some ⟨bY,0,none⟩),.pointer (some ⟨bY,0,none⟩)] (oF rfl (oL rfl (H.cell 6 rfl rfl) (oN rfl (sp (.bool (decide ((c:Int) < par.length))) (zjn (cD rfl (fun h10=>?_) (fun h10=>?_))))))))
 ·skip
  refine xn (t_n (zF (xE (zcr (sps [.int .i64 c,.bool ((c:Int) == 0),.bool ((c:Int) == 0)] ?_)))))
  cases h11:((c:Int) == 0)
  ·skip
   replace h11:=ne_of_beq_false h11
   refine qx 28 rfl rfl (sp (.pointer (some ⟨bs,0,none⟩)) (qx 28 rfl rfl ?_))
   have H1:St W0 w9 ((.box bs [.slice ac code.length cc,.int .i64 s_at,.int .u64 s_seed] 95) :: (rr vF zH vC 24 1 vk) :: (rr zZ zq zY 4 1 (t_Alive.map (Value.bool))) :: (.box b5 [.slice zZ zq zY,.slice vF zH vC,.slice (some ⟨b3,0,none⟩) kk.toNat kk.toNat] 31) :: (rr (some ⟨b3,0,none⟩) kk.toNat kk.toNat 2 1 ((List.replicate kk.toNat (0:Int)).map (Value.int .i64))) :: (.box b1 [.slice none 0 0,.slice none 0 0,.slice none 0 0] 31) :: (.box bY [.int .i64 kk,.slice rap par.length rcp,.slice raR rules.length rcR] 27) :: (rr rap par.length rcp 2 1 (par.map (Value.int .i64))) :: (rr raR rules.length rcR 51 9 rxR) :: ps) ((sF false Fc ac cc code) :: (qM true zk vk t_Bags) :: (qM frR rFR rxR rules) :: Γ):=H.qW 9 3 [5,0,1,2,3,4,6,7,8] [1,0,2] ql ql
   have N1:Fresh _ (zk :: Ns):=N
   have K1:Kept (Ns) ((qM true zk vk t_Bags) :: (qM frR rFR rxR rules) :: Γ):=K0.behind 2 rfl
   replace K1:=K1.cons (F:=zk) 0 rfl rfl
   refine sw (xf #[.pointer (some ⟨bs,0,none⟩),.int .i64 8] rfl rfl Try.call64 (dOne_ok code s_at s_seed bs ac cc Fc (8:Int) H1 N1 K1 qf) ?_)
   clear H H1 N1 K1
   rintro _ w12 ⟨zi15,zi16,zb17,hx14,rfl,N,H⟩
   refine qx 28 rfl rfl (sps [.bool !zb17,.bool !zb17,.bool !zb17] (zjc (sps [.pointer (some ⟨bY,0,none⟩),.pointer (some ⟨bY,0,none⟩)] (oF rfl (oL rfl (H.cell 6 rfl rfl) (sw (xA H Try.underlying24 ti2 kk.toNat rfl rfl qc qc qc fun b18 w19 H=>sp (.slice (some ⟨b18,0,none⟩) kk.toNat kk.toNat) (zjcc (sp (.bool !zb17) (zjn (xy (!zb17) rfl (fun h20=>?_) (fun h20=>?_))))))))))))
   ·skip
    replace h20:=qX h20
    refine zT (sps [.pointer (some ⟨bs,0,none⟩),.pointer (some ⟨bY,0,none⟩),.pointer (some ⟨bY,0,none⟩)] (oF rfl (oL rfl (H.cell 7 rfl rfl) (sp (.int .i64 most) ?_))))
    have H1:St W0 w19 ((.box bs [.slice ac code.length cc,.int .i64 zi15,.int .u64 zi16] 95) :: (rr (some ⟨b18,0,none⟩) kk.toNat kk.toNat 2 1 ((List.replicate kk.toNat (0:Int)).map (Value.int .i64))) :: (rr vF zH vC 24 1 vk) :: (rr zZ zq zY 4 1 (t_Alive.map (Value.bool))) :: (.box b5 [.slice zZ zq zY,.slice vF zH vC,.slice (some ⟨b3,0,none⟩) kk.toNat kk.toNat] 31) :: (rr (some ⟨b3,0,none⟩) kk.toNat kk.toNat 2 1 ((List.replicate kk.toNat (0:Int)).map (Value.int .i64))) :: (.box b1 [.slice none 0 0,.slice none 0 0,.slice none 0 0] 31) :: (.box bY [.int .i64 kk,.slice rap par.length rcp,.slice raR rules.length rcR] 27) :: (rr rap par.length rcp 2 1 (par.map (Value.int .i64))) :: (rr raR rules.length rcR 51 9 rxR) :: ps) ((sF false Fc ac cc code) :: (qM true zk vk t_Bags) :: (qM frR rFR rxR rules) :: Γ):=H.qW 10 3 [1,0,2,3,4,5,6,7,8,9] [0,1,2] ql ql
    have N1:Fresh _ (zk :: Ns):=N
    have K1:Kept (Ns) ((qM true zk vk t_Bags) :: (qM frR rFR rxR rules) :: Γ):=K0.behind 2 rfl
    replace K1:=K1.cons (F:=zk) 0 rfl rfl
    refine sw (xf #[.pointer (some ⟨bs,0,none⟩),.int .i64 kk,.int .i64 most] rfl rfl Try.call65 (dFew_ok code zi15 zi16 bs ac cc Fc kk most H1 N1 K1 qf qf qf) ?_)
    clear H H1 N1 K1
    rintro _ w21 ⟨zi25,zi26,zl27,ra28,rn29,rc30,hx23,hx24,rfl,N,H⟩
    obtain rfl:=H.zo 1 rfl
    refine sp (.slice ra28 zl27.length rc30) (zjc (oF rfl (oL rfl (H.cell 5 rfl rfl) (sp (.bool !zb17) (sw (zS H Try.underlying28 ti4 [.bool !zb17] fun b31 w32 H=>sw (zV H 5 rfl 0 rfl Try.underlying28 ti4 rfl qh rfl rfl rfl (by simp [Value.oneCell',Value.cells]) qm qc fun a33 c34 w35 H=>?_)))))))
    rw [snocB] at H
    try dsimp only [List.set] at H
    refine oF rfl (sw (zh H 6 [.slice a33 (zq+1) c34,.slice vF zH vC,.slice (some ⟨b3,0,none⟩) kk.toNat kk.toNat] Try.sizeOf28 fun w36 H=>?_))
    try dsimp only [List.set] at H
    refine zjn (zT (oF rfl (oL rfl (H.cell 6 rfl rfl) (sp (.slice ra28 zl27.length rc30) (sw (zS H Try.underlying29 ti24 [.slice ra28 zl27.length rc30] fun b37 w38 H=>?_))))))
    obtain ⟨G42,N,hn43,H⟩:=H.vH 3 rfl N (fun F hF b hb=>(List.mem_append.1 (show F∈[zk]++Ns from hF)).elim (fun h=>(H.yg (L:=[zk]) [1]) F h b hb) fun h=>H.awayK (K0.behind 3 rfl) F h b hb)
    try dsimp only [List.set] at H
    refine sw (zV H 5 rfl 0 rfl Try.underlying29 ti24 rfl qh rfl rfl rfl (by simp [Value.oneCell',Value.cells]) qm qc fun a39 c40 w41 H=>?_)
    try dsimp only [List.set] at H
    replace H:=H.repsSnoc 2 rfl 0 rfl
    replace N:Fresh W0.heap.size ((zk++G42) :: Ns):=(N.qW 2 [1,0] ql).join
    refine oF rfl (sw (zh H 7 [.slice a33 (zq+1) c34,.slice a39 (zH+1) c40,.slice (some ⟨b3,0,none⟩) kk.toNat kk.toNat] Try.sizeOf29 fun w44 H=>?_))
    try dsimp only [List.set] at H
    refine vg (b_n (t_n (zT (sp (.int .i64 c) (sw (vN c 1 rfl rfl qc (sp (.int .i64 (c+1)) (vg (xJ (m' :=(par.length - ((c+1):Int)).toNat) qc ⟨_,c+1,zi25,zi26,a33,zq+1,c34,(t_Alive++[!zb17]),a39,zH+1,c40,(t_Bags++[zl27]),(vk++[Value.slice ra28 zl27.length rc30]:List Value),(zk++G42),uE6,?_,?_,?_,rfl,N,H.qW 13 5 [5,6,7,8,9,2,10,11,12] [0,2,4] ql ql⟩)))))))))
    · omega
    · omega
    · first | exact i2.snoc (fun _=>rfl) qi (fun h=>by cases h) | exact i2.snoc (fun h=>by omega) qi (fun h=>by simp_all) | exact i2.snoc (fun h=>by omega) (xQ.zero qc qc) (fun _=>sum_zeros _)
   ·skip
    replace h20:=qP h20
    refine xn (t_n (zcr (oF rfl (oL rfl (H.cell 4 rfl rfl) (sp (.bool !zb17) (sw (zS H Try.underlying28 ti4 [.bool !zb17] fun b45 w46 H=>sw (zV H 4 rfl 0 rfl Try.underlying28 ti4 rfl qh rfl rfl rfl (by simp [Value.oneCell',Value.cells]) qm qc fun a47 c48 w49 H=>?_))))))))
    rw [snocB] at H
    try dsimp only [List.set] at H
    refine oF rfl (sw (zh H 5 [.slice a47 (zq+1) c48,.slice vF zH vC,.slice (some ⟨b3,0,none⟩) kk.toNat kk.toNat] Try.sizeOf28 fun w50 H=>?_))
    try dsimp only [List.set] at H
    refine zjn (zT (oF rfl (oL rfl (H.cell 5 rfl rfl) (sp (.slice (some ⟨b18,0,none⟩) kk.toNat kk.toNat) (sw (zS H Try.underlying29 ti24 [.slice (some ⟨b18,0,none⟩) kk.toNat kk.toNat] fun b51 w52 H=>?_))))))
    obtain ⟨G56,N,hn57,H⟩:=H.vH 2 rfl N (fun F hF b hb=>(List.mem_append.1 (show F∈[zk]++Ns from hF)).elim (fun h=>(H.yg (L:=[zk]) [1]) F h b hb) fun h=>H.awayK (K0.behind 3 rfl) F h b hb)
    try dsimp only [List.set] at H
    refine sw (zV H 4 rfl 0 rfl Try.underlying29 ti24 rfl qh rfl rfl rfl (by simp [Value.oneCell',Value.cells]) qm qc fun a53 c54 w55 H=>?_)
    try dsimp only [List.set] at H
    replace H:=H.repsSnoc 2 rfl 0 rfl
    replace N:Fresh W0.heap.size ((zk++G56) :: Ns):=(N.qW 2 [1,0] ql).join
    refine oF rfl (sw (zh H 6 [.slice a47 (zq+1) c48,.slice a53 (zH+1) c54,.slice (some ⟨b3,0,none⟩) kk.toNat kk.toNat] Try.sizeOf29 fun w58 H=>?_))
    try dsimp only [List.set] at H
    refine vg (b_n (t_n (zT (sp (.int .i64 c) (sw (vN c 1 rfl rfl qc (sp (.int .i64 (c+1)) (vg (xJ (m' :=(par.length - ((c+1):Int)).toNat) qc ⟨_,c+1,zi15,zi16,a47,zq+1,c48,(t_Alive++[!zb17]),a53,zH+1,c54,(t_Bags++[(List.replicate kk.toNat (0:Int))]),(vk++[Value.slice (some ⟨b18,0,none⟩) kk.toNat kk.toNat]:List Value),(zk++G56),uE6,?_,?_,?_,rfl,N,H.qW 12 5 [4,5,6,7,8,3,9,10,11] [0,2,4] ql ql⟩)))))))))
    · omega
    · omega
    · first | exact i2.snoc (fun _=>rfl) qi (fun h=>by cases h) | exact i2.snoc (fun h=>by omega) qi (fun h=>by simp_all) | exact i2.snoc (fun h=>by omega) (xQ.zero qc qc) (fun _=>sum_zeros _)
  ·skip
   replace h11:=eq_of_beq h11
   refine xh [29,30,31] (sps [.bool true,.bool true] (zjc (sps [.pointer (some ⟨bY,0,none⟩),.pointer (some ⟨bY,0,none⟩)] (oF rfl (oL rfl (H.cell 6 rfl rfl) (sw (xA H Try.underlying24 ti2 kk.toNat rfl rfl qc qc qc fun b59 w60 H=>sp (.slice (some ⟨b59,0,none⟩) kk.toNat kk.toNat) (zjcc (sp (.bool true) (zjn (xy true rfl (fun _=>zT (sps [.pointer (some ⟨bs,0,none⟩),.pointer (some ⟨bY,0,none⟩),.pointer (some ⟨bY,0,none⟩)] (oF rfl (oL rfl (H.cell 7 rfl rfl) (sp (.int .i64 most) ?_))))) (fun h=>absurd h qh))))))))))))
   have H1:St W0 w60 ((.box bs [.slice ac code.length cc,.int .i64 s_at,.int .u64 s_seed] 95) :: (rr (some ⟨b59,0,none⟩) kk.toNat kk.toNat 2 1 ((List.replicate kk.toNat (0:Int)).map (Value.int .i64))) :: (rr vF zH vC 24 1 vk) :: (rr zZ zq zY 4 1 (t_Alive.map (Value.bool))) :: (.box b5 [.slice zZ zq zY,.slice vF zH vC,.slice (some ⟨b3,0,none⟩) kk.toNat kk.toNat] 31) :: (rr (some ⟨b3,0,none⟩) kk.toNat kk.toNat 2 1 ((List.replicate kk.toNat (0:Int)).map (Value.int .i64))) :: (.box b1 [.slice none 0 0,.slice none 0 0,.slice none 0 0] 31) :: (.box bY [.int .i64 kk,.slice rap par.length rcp,.slice raR rules.length rcR] 27) :: (rr rap par.length rcp 2 1 (par.map (Value.int .i64))) :: (rr raR rules.length rcR 51 9 rxR) :: ps) ((sF false Fc ac cc code) :: (qM true zk vk t_Bags) :: (qM frR rFR rxR rules) :: Γ):=H.qW 10 3 [6,0,1,2,3,4,5,7,8,9] [1,0,2] ql ql
   have N1:Fresh _ (zk :: Ns):=N
   have K1:Kept (Ns) ((qM true zk vk t_Bags) :: (qM frR rFR rxR rules) :: Γ):=K0.behind 2 rfl
   replace K1:=K1.cons (F:=zk) 0 rfl rfl
   refine sw (xf #[.pointer (some ⟨bs,0,none⟩),.int .i64 kk,.int .i64 most] rfl rfl Try.call65 (dFew_ok code s_at s_seed bs ac cc Fc kk most H1 N1 K1 qf qf qf) ?_)
   clear H H1 N1 K1
   rintro _ w61 ⟨zi65,zi66,zl67,ra68,rn69,rc70,hx63,hx64,rfl,N,H⟩
   obtain rfl:=H.zo 1 rfl
   refine sp (.slice ra68 zl67.length rc70) (zjc (oF rfl (oL rfl (H.cell 5 rfl rfl) (sp (.bool true) (sw (zS H Try.underlying28 ti4 [.bool true] fun b71 w72 H=>sw (zV H 5 rfl 0 rfl Try.underlying28 ti4 rfl qh rfl rfl rfl (by simp [Value.oneCell',Value.cells]) qm qc fun a73 c74 w75 H=>?_)))))))
   rw [snocB] at H
   try dsimp only [List.set] at H
   refine oF rfl (sw (zh H 6 [.slice a73 (zq+1) c74,.slice vF zH vC,.slice (some ⟨b3,0,none⟩) kk.toNat kk.toNat] Try.sizeOf28 fun w76 H=>?_))
   try dsimp only [List.set] at H
   refine zjn (zT (oF rfl (oL rfl (H.cell 6 rfl rfl) (sp (.slice ra68 zl67.length rc70) (sw (zS H Try.underlying29 ti24 [.slice ra68 zl67.length rc70] fun b77 w78 H=>?_))))))
   obtain ⟨G82,N,hn83,H⟩:=H.vH 3 rfl N (fun F hF b hb=>(List.mem_append.1 (show F∈[zk]++Ns from hF)).elim (fun h=>(H.yg (L:=[zk]) [1]) F h b hb) fun h=>H.awayK (K0.behind 3 rfl) F h b hb)
   try dsimp only [List.set] at H
   refine sw (zV H 5 rfl 0 rfl Try.underlying29 ti24 rfl qh rfl rfl rfl (by simp [Value.oneCell',Value.cells]) qm qc fun a79 c80 w81 H=>?_)
   try dsimp only [List.set] at H
   replace H:=H.repsSnoc 2 rfl 0 rfl
   replace N:Fresh W0.heap.size ((zk++G82) :: Ns):=(N.qW 2 [1,0] ql).join
   refine oF rfl (sw (zh H 7 [.slice a73 (zq+1) c74,.slice a79 (zH+1) c80,.slice (some ⟨b3,0,none⟩) kk.toNat kk.toNat] Try.sizeOf29 fun w84 H=>?_))
   try dsimp only [List.set] at H
   refine vg (b_n (t_n (zT (sp (.int .i64 c) (sw (vN c 1 rfl rfl qc (sp (.int .i64 (c+1)) (vg (xJ (m' :=(par.length - ((c+1):Int)).toNat) qc ⟨_,c+1,zi65,zi66,a73,zq+1,c74,(t_Alive++[true]),a79,zH+1,c80,(t_Bags++[zl67]),(vk++[Value.slice ra68 zl67.length rc70]:List Value),(zk++G82),uE6,?_,?_,?_,rfl,N,H.qW 13 5 [5,6,7,8,9,2,10,11,12] [0,2,4] ql ql⟩)))))))))
   · omega
   · omega
   · first | exact i2.snoc (fun _=>rfl) qi (fun h=>by cases h) | exact i2.snoc (fun h=>by omega) qi (fun h=>by simp_all) | exact i2.snoc (fun h=>by omega) (xQ.zero qc qc) (fun _=>sum_zeros _)
 ·skip
  refine zx4 (zcc (sp (.pointer (some ⟨bs,0,none⟩)) ?_))
  have H1:St W0 w9 ((.box bs [.slice ac code.length cc,.int .i64 s_at,.int .u64 s_seed] 95) :: (rr vF zH vC 24 1 vk) :: (rr zZ zq zY 4 1 (t_Alive.map (Value.bool))) :: (.box b5 [.slice zZ zq zY,.slice vF zH vC,.slice (some ⟨b3,0,none⟩) kk.toNat kk.toNat] 31) :: (rr (some ⟨b3,0,none⟩) kk.toNat kk.toNat 2 1 ((List.replicate kk.toNat (0:Int)).map (Value.int .i64))) :: (.box b1 [.slice none 0 0,.slice none 0 0,.slice none 0 0] 31) :: (.box bY [.int .i64 kk,.slice rap par.length rcp,.slice raR rules.length rcR] 27) :: (rr rap par.length rcp 2 1 (par.map (Value.int .i64))) :: (rr raR rules.length rcR 51 9 rxR) :: ps) ((sF false Fc ac cc code) :: (qM true zk vk t_Bags) :: (qM frR rFR rxR rules) :: Γ):=H.qW 9 3 [5,0,1,2,3,4,6,7,8] [1,0,2] ql ql
  have N1:Fresh _ (zk :: Ns):=N
  have K1:Kept (Ns) ((qM true zk vk t_Bags) :: (qM frR rFR rxR rules) :: Γ):=K0.behind 2 rfl
  replace K1:=K1.cons (F:=zk) 0 rfl rfl
  refine sw (xf #[.pointer (some ⟨bs,0,none⟩),.int .i64 3] rfl rfl Try.call64 (dOne_ok code s_at s_seed bs ac cc Fc (3:Int) H1 N1 K1 qf) ?_)
  clear H H1 N1 K1
  rintro _ w85 ⟨zi88,zi89,zb90,hx87,rfl,N,H⟩
  refine zjn (xy (zb90) rfl (fun h91=>?_) (fun h91=>?_))
  ·skip
   refine zT (sps [.pointer (some ⟨bs,0,none⟩),.pointer (some ⟨bY,0,none⟩),.pointer (some ⟨bY,0,none⟩)] (oF rfl (oL rfl (H.cell 6 rfl rfl) ?_)))
   have H1:St W0 w85 ((.box bs [.slice ac code.length cc,.int .i64 zi88,.int .u64 zi89] 95) :: (rr vF zH vC 24 1 vk) :: (rr zZ zq zY 4 1 (t_Alive.map (Value.bool))) :: (.box b5 [.slice zZ zq zY,.slice vF zH vC,.slice (some ⟨b3,0,none⟩) kk.toNat kk.toNat] 31) :: (rr (some ⟨b3,0,none⟩) kk.toNat kk.toNat 2 1 ((List.replicate kk.toNat (0:Int)).map (Value.int .i64))) :: (.box b1 [.slice none 0 0,.slice none 0 0,.slice none 0 0] 31) :: (.box bY [.int .i64 kk,.slice rap par.length rcp,.slice raR rules.length rcR] 27) :: (rr rap par.length rcp 2 1 (par.map (Value.int .i64))) :: (rr raR rules.length rcR 51 9 rxR) :: ps) ((sF false Fc ac cc code) :: (qM true zk vk t_Bags) :: (qM frR rFR rxR rules) :: Γ):=H.qW 9 3 [0,1,2,3,4,5,6,7,8] [0,1,2] ql ql
   have N1:Fresh _ (zk :: Ns):=N
   have K1:Kept (Ns) ((qM true zk vk t_Bags) :: (qM frR rFR rxR rules) :: Γ):=K0.behind 2 rfl
   replace K1:=K1.cons (F:=zk) 0 rfl rfl
   refine sw (xf #[.pointer (some ⟨bs,0,none⟩),.int .i64 kk,.int .i64 2] rfl rfl Try.call65 (dFew_ok code zi88 zi89 bs ac cc Fc kk (2:Int) H1 N1 K1 qf qf qf) ?_)
   clear H H1 N1 K1
   rintro _ w92 ⟨zi96,zi97,zl98,ra99,rn100,rc101,hx94,hx95,rfl,N,H⟩
   obtain rfl:=H.zo 1 rfl
   refine oF rfl (sw (zh H 4 [.slice zZ zq zY,.slice vF zH vC,.slice ra99 zl98.length rc101] Try.sizeOf24 fun w102 H=>?_))
   try dsimp only [List.set] at H
   refine zjc (sw (xR [.slice zZ zq zY,.slice vF zH vC,.slice ra99 zl98.length rc101] Try.isAgg31 Try.sizeOf31 rfl (qE (H.cells 4 rfl) 0 3) (sw (qL H 6 [.slice zZ zq zY,.slice vF zH vC,.slice ra99 zl98.length rc101] Try.sizeOf31 fun w103 H=>?_))))
   try dsimp only [List.set] at H
   refine zjr (retC H 6 rfl rfl Try.isAgg31 Try.sizeOf31 rfl ⟨_,rfl,?_⟩)
   obtain rfl:c=par.length:=by omega
   exact ⟨zi96,zi97,t_Alive,t_Bags,zl98,zZ,zq,zY,vF,zH,vC,vk,zk,ra99,zl98.length,rc101,qc,(by first | exact ⟨i2.la,i2.lb,i2.skin qc,by assumption,i2.bags⟩ | exact ⟨i2.la,i2.lb,i2.skin qc,xQ.zero qc qc,i2.bags⟩),rfl,N,H.qW 10 3 [0,7,8,9,3,2,1] [0,2,1] ql ql⟩
  ·skip
   refine xn (t_n (zcr (sw (xR [.slice zZ zq zY,.slice vF zH vC,.slice (some ⟨b3,0,none⟩) kk.toNat kk.toNat] Try.isAgg31 Try.sizeOf31 rfl (qE (H.cells 3 rfl) 0 3) (sw (qL H 5 [.slice zZ zq zY,.slice vF zH vC,.slice (some ⟨b3,0,none⟩) kk.toNat kk.toNat] Try.sizeOf31 fun w104 H=>?_))))))
   try dsimp only [List.set] at H
   refine zjr (retC H 5 rfl rfl Try.isAgg31 Try.sizeOf31 rfl ⟨_,rfl,?_⟩)
   obtain rfl:c=par.length:=by omega
   exact ⟨zi88,zi89,t_Alive,t_Bags,(List.replicate kk.toNat (0:Int)),zZ,zq,zY,vF,zH,vC,vk,zk,(some ⟨b3,0,none⟩),kk.toNat,kk.toNat,qc,(by first | exact ⟨i2.la,i2.lb,i2.skin qc,by assumption,i2.bags⟩ | exact ⟨i2.la,i2.lb,i2.skin qc,xQ.zero qc qc,i2.bags⟩),rfl,N,H.qW 9 3 [0,6,7,8,2,1,4] [0,2,1] ql ql⟩
theorem a2System_ok {W0 w:World} {ps:List Prv} {Γ:List Fact} {Ns:List yLN} (code:List UInt8) (ac:yOA) (cc:Nat) (Fc:yLN) (H:St W0 w (ps) ((sF false Fc ac cc code) :: Γ)) (N:Fresh W0.heap.size (Ns)) (K0:Kept Ns Γ):Calls Try.prog 7 #[.slice ac code.length cc] w (fun e w' =>∃ v,e=.returned v∧∃ (kk_:Int) (par_:yLI) (rules_:List zM) (alive_:List Bool) (bags_:yLL) (around_:yLI) (raq:yOA) (rnq:Nat) (rcq:Nat) (raS:yOA) (rnS:Nat) (rcS:Nat) (rxS:List Value) (rFS:yLN) (raA:yOA) (rnA:Nat) (rcA:Nat) (raB:yOA) (rnB:Nat) (rcB:Nat) (rxB:List Value) (rFB:yLN) (raD:yOA) (rnD:Nat) (rcD:Nat),(SysDr kk_ par_ rules_)∧(StDr kk_ par_.length 5 alive_ bags_ around_)∧v=.tuple #[.agg #[.int .i64 kk_,.slice raq rnq rcq,.slice raS rnS rcS],.agg #[.slice raA rnA rcA,.slice raB rnB rcB,.slice raD rnD rcD]]∧Fresh W0.heap.size (rFS :: rFB :: Ns)∧St W0 w' ((rr raq rnq rcq 2 1 (par_.map (Value.int .i64))) :: (rr raS rnS rcS 51 9 rxS) :: (rr raA rnA rcA 4 1 (alive_.map (Value.bool))) :: (rr raB rnB rcB 24 1 rxB) :: (rr raD rnD rcD 2 1 (around_.map (Value.int .i64))) :: ps) ((sF false Fc ac cc code) :: (qM true rFS rxS rules_) :: (qM true rFB rxB bags_) :: Γ)):=by
 refine en Try.func7 Try.ntmps7 ?_
 have ncode:=qV (H.get 0 rfl).1
 refine zcr (sw (xk H ti27 [.int .i64 0,.slice none 0 0,.slice none 0 0] fun b1 w2 H=>sw (xk H ti31 [.slice none 0 0,.slice none 0 0,.slice none 0 0] fun b3 w4 H=>zjc (sp (.slice ac code.length cc) (sw (o_callIn #[.slice ac code.length cc] rfl rfl Try.call26 (en Try.func26 Try.ntmps26 ?_)))))))
 refine zcr (sp (.pointer none) (zjc (sp (.slice ac code.length cc) (sw (xm [.slice ac code.length cc,.int .i64 0,.int .u64 0] [(0,.slice ac code.length cc)] (sw (jF H [.slice ac code.length cc,.int .i64 0,.int .u64 0] fun b5 w6 H=>sp (.pointer (some ⟨b5,0,none⟩)) (zjr (ret1 (.pointer (some ⟨b5,0,none⟩)) rfl rfl ⟨_,rfl,(sp (.pointer (some ⟨b5,0,none⟩)) (zjc (sp (.pointer (some ⟨b5,0,none⟩)) ?_)))⟩)))))))))
 have H1:St W0 w6 ((.box b5 [.slice ac code.length cc,.int .i64 0,.int .u64 0] 95) :: (.box b3 [.slice none 0 0,.slice none 0 0,.slice none 0 0] 31) :: (.box b1 [.int .i64 0,.slice none 0 0,.slice none 0 0] 27) :: ps) ((sF false Fc ac cc code) :: Γ):=H.qW 3 1 [0,1,2] [0] ql ql
 have N1:Fresh _ (Ns):=N
 have K1:Kept (Ns) (Γ):=K0.behind 0 rfl
 refine sw (xf #[.pointer (some ⟨b5,0,none⟩)] rfl rfl Try.call27 (dSystem_ok code (0:Int) 0 b5 ac cc Fc H1 N1 K1 qf) ?_)
 clear H H1 N1 K1
 rintro _ w7 ⟨zi11,zi12,zi13,zl14,zR15,ra16,rn17,rc18,ra19,rn20,rc21,rx22,rF23,hx9,hx10,rfl,N,H⟩
 obtain rfl:=H.zo 1 rfl
 obtain rfl:=H.jf (α:=zM) 2 rfl 1 rfl qh
 refine sw (xk H ti27 [.int .i64 0,.slice none 0 0,.slice none 0 0] fun b24 w25 H=>sw (qL H 0 [.int .i64 zi13,.slice ra16 zl14.length rc18,.slice ra19 zR15.length rc21] Try.sizeOf27 fun w26 H=>?_))
 try dsimp only [List.set] at H
 refine zjn (zF ?_)
 refine c_drawK2 rfl H [0,2,3] [0,1] fun H=>?_
 have S:=H.pickC [0,2,3] [0,1]
 refine rt 0 (.agg #[.int .i64 zi13,.slice ra16 zl14.length rc18,.slice ra19 zR15.length rc21]) (y_loadN (cs:=[.int .i64 zi13,.slice ra16 zl14.length rc18,.slice ra19 zR15.length rc21]) Try.isAgg27 Try.sizeOf27 rfl (fun _ h=>qE (h.cells 0 rfl) 0 3)) S ?_
 refine rtp 1 (.pointer (some ⟨b5,0,none⟩)) S ?_
 refine ro 2 rfl ?_
 have f0:zG (⟨zi13,zl14,zR15⟩:qo):=SysDr.frame qi
 have H1:St W0 w26.drew ((.box b5 [.slice ac code.length cc,.int .i64 zi11,.int .u64 zi12] 95) :: (.box b24 [.int .i64 zi13,.slice ra16 zl14.length rc18,.slice ra19 zR15.length rc21] 27) :: (rr ra16 zl14.length rc18 2 1 (zl14.map (Value.int .i64))) :: (rr ra19 zR15.length rc21 51 9 rx22) :: (.box b3 [.slice none 0 0,.slice none 0 0,.slice none 0 0] 31) :: (.box b1 [.int .i64 0,.slice none 0 0,.slice none 0 0] 27) :: ps) ((sF false Fc ac cc code) :: (qM true rF23 rx22 zR15) :: (qM true rF23 rx22 zR15) :: Γ):=H.qW 6 2 [1,0,2,3,4,5] [0,1,1] ql ql
 have N1:Fresh _ (rF23 :: Ns):=N
 have K1:Kept (Ns) ((qM true rF23 rx22 zR15) :: Γ):=K0.behind 1 rfl
 replace K1:=K1.cons (F:=rF23) 0 rfl rfl
 refine xf #[.pointer (some ⟨b5,0,none⟩),.pointer (some ⟨b24,0,none⟩),.int .i64 5] rfl rfl Try.call28 (dState_ok code zi11 zi12 b5 ac cc Fc zi13 zl14 zR15 b24 ra16 zl14.length rc18 ra19 zR15.length rc21 rx22 rF23 true (5:Int) H1 N1 K1 qf qf qf) ?_
 clear H H1 N1 K1
 rintro _ w28 ⟨zi32,zi33,zm34,zL35,zl36,ra37,rn38,rc39,ra40,rn41,rc42,rx43,rF44,ra45,rn46,rc47,hx30,hx31,rfl,N,H⟩
 obtain rfl:=H.rowNB 4 rfl
 obtain rfl:=H.jf (α:=yLI) 5 rfl 2 rfl qh
 obtain rfl:=H.zo 6 rfl
 refine ⟨H.pick [1,2,3] [0,3],(ro 3 rfl (qL H 8 [.int .i64 zi13,.slice ra16 zl14.length rc18,.slice ra19 zR15.length rc21] Try.sizeOf27 fun w48 H=>?_))⟩
 try dsimp only [List.set] at H
 refine ⟨H.pick [1,2,3] [0,3],(ro 4 rfl (qL H 7 [.slice ra37 zm34.length rc39,.slice ra40 zL35.length rc42,.slice ra45 zl36.length rc47] Try.sizeOf31 fun w49 H=>?_))⟩
 try dsimp only [List.set] at H
 refine ⟨H.pick [1,2,3] [0,3],(qZ qg (t_n (c_ret (retCC H 8 rfl 7 rfl rfl Try.isAgg27 Try.sizeOf27 Try.isAgg31 Try.sizeOf31 rfl rfl ⟨_,rfl,(⟨zi13,zl14,zR15,zm34,zL35,zl36,ra16,zl14.length,rc18,ra19,zR15.length,rc21,rx22,rF23,ra37,zm34.length,rc39,ra40,zL35.length,rc42,rx43,rF44,ra45,zl36.length,rc47,qi,qi,rfl,(N.qW 2 [1,0] ql),H.qW 9 4 [2,3,4,5,6] [0,1,2] ql ql⟩)⟩))))⟩
theorem a2At_ok (w:World) (code:List UInt8) (q:Int) (n:Int) {acode:yOA} {ccode:Nat} {Fcode:yLN} (hcode:qH.rep w Fcode [.slice acode code.length ccode] code) (p0:0≤q):Calls Try.prog 11 #[.slice acode code.length ccode,.int .i64 q,.int .i64 n] w (Ret (fun v w' =>v=.int .i64 (atV code q n)) w):=by
 refine en Try.func11 Try.ntmps11 ?_
 have H:=(St.start w).arg hcode
 have nhcode:=qV hcode
 clear hcode
 have N:=Fresh.nil w.heap.size
 refine zcr (sp (.int .i64 0) (zjcc (sps [.int .i64 q,.slice acode code.length ccode] (oN rfl (sps [.bool (decide ((q:Int)≥code.length)),.bool (decide ((q:Int)≥code.length))] ?_)))))
 cases h1:(decide ((q:Int)≥code.length))
 ·skip
  replace h1:=of_decide_eq_false h1
  refine qx 11 rfl rfl (sp (.int .i64 n) (qx 11 rfl rfl (sps [.bool (decide ((n:Int) < 1)),.bool (decide ((n:Int) < 1))] (zjn (cD rfl (fun h2=>?_) (fun h2=>?_))))))
  ·skip
   refine zcr (sp (.int .i64 0) (zjr (t_r (ret1 (.int .i64 0) rfl rfl ⟨_,rfl,?_,H.base⟩))))
   rw [atV_no qc]
  ·skip
   have rm:=fun (x:Int)=>Int.emod_nonneg x (show n≠0 by omega)
   have rl:=fun (x:Int)=>Int.emod_lt_of_pos x (show 0 < n by omega)
   refine xn (t_n (zcr (sps [.slice acode code.length ccode,.int .i64 q] ?_)))
   obtain ⟨b3,o4,rfl⟩:=H.addr 0 rfl qc
   refine oI rfl rfl ?_
   have hb6:=byte_lt (code[q.toNat]!)
   refine oL rfl (H.elemByte 0 rfl q q.toNat qc qc qc) (sw (o_convI (((code[q.toNat]!).toNat:Nat):Int) Try.underlying5 Try.underlying2 rfl qc (sp (.int .i64 n) (sw (o_rem (((code[q.toNat]!).toNat:Nat):Int) n rfl rfl qc qc qc (sp (.int .i64 ((((code[q.toNat]!).toNat:Nat):Int) % n)) (zjr (ret1 (.int .i64 ((((code[q.toNat]!).toNat:Nat):Int) % n)) rfl rfl ⟨_,rfl,?_,H.base⟩))))))))
   rw [atV_yes ‹_› ‹_›]
 ·skip
  replace h1:=of_decide_eq_true h1
  refine xh [12,13] (sp (.bool true) (zjn (xy true rfl (fun _=>zcr (sp (.int .i64 0) (zjr (t_r (ret1 (.int .i64 0) rfl rfl ⟨_,rfl,?_,H.base⟩))))) (fun h=>absurd h qh))))
  rw [atV_no qc]

theorem a2Same_ok (w:World) (a:yLI) (b:yLI) {aa:yOA} {Fa:yLN} {ab:yOA} {Fb:yLN} (ha:qH.rep w Fa [.slice aa a.length ca] a) (hb:qH.rep w Fb [.slice ab b.length cb] b):Calls Try.prog 16 #[.slice aa a.length ca,.slice ab b.length cb] w (Ret (fun v w' =>v=.bool (decide (a=b))) w):=by
 refine en Try.func16 Try.ntmps16 ?_
 have H:=((St.start w).arg hb).arg ha
 have nha:=qV ha
 have nhb:=qV hb
 clear ha hb
 have N:=Fresh.nil w.heap.size
 refine zcr (sp (.bool false) (zjcc (sp (.slice aa a.length ca) (oN rfl (sp (.slice ab b.length cb) (oN rfl (sp (.bool ((a.length:Int) != b.length)) (zjn (xy ((a.length:Int) != b.length) rfl (fun h1=>?_) (fun h1=>?_))))))))))
 ·skip
  replace h1:=bne_iff_ne.1 h1
  refine zcr (sp (.bool false) (zjr (t_r (ret1 (.bool false) rfl rfl ⟨_,rfl,?_,H.base⟩))))
  first | rw [decide_eq_false (fun e=>by subst e;omega)] | rw [decide_eq_false (ne_of_get (k:=i) ‹_›)] | rw [decide_eq_false (ne_of_get (k:=i) (by simpa using ‹_›))]
 ·skip
  replace h1:=xC h1
  refine xn (t_n (zcc (sp (.int .i64 0) (zjn (xE ?_)))))
  refine vT (fun m' ρ w2=>∃ (zX:Env) (i:Nat),ρ=upd (upd (upd zX 0 (.slice aa a.length ca)) 1 (.slice ab b.length cb)) 5 (.int .i64 i)∧((i:Int)≤a.length)∧(a.take i=b.take i)∧m' =(a.length - (i:Int)).toNat∧Fresh w.heap.size []∧St w w2 [] [sF false Fa aa ca a,sF false Fb ab cb b]) ((a.length - (0:Int)).toNat) ⟨_,0,uE3,qc,(by rfl),rfl,N,H⟩ ?_
  clear H N
  rintro m' ρ w3 ⟨zX,i,rfl,i0,i1,rfl,N,H⟩
  refine zcc (sps [.int .i64 i,.slice aa a.length ca] (oN rfl (sp (.bool (decide ((i:Int) < a.length))) (zjn (cD rfl (fun h4=>?_) (fun h4=>?_))))))
  ·skip
   refine xn (t_n (zF (xE (zF ?_))))
   refine c_drawH rfl H fun H=>rtp 0 (.slice aa a.length ca) H ?_
   refine rtp 1 (.int .i64 i) H ?_
   obtain ⟨b6,o7,rfl⟩:=H.addr 0 rfl qc
   refine tI 2 rfl rfl rfl H ?_
   refine tL 3 rfl rfl (fun _ h=>h.elemIntN 0 rfl i qc) H ?_
   refine rtp 4 (.slice ab b.length cb) H ?_
   refine rtp 5 (.int .i64 i) H ?_
   obtain ⟨b9,o10,rfl⟩:=H.addr 1 rfl qc
   refine tI 6 rfl rfl rfl H ?_
   refine tL 7 rfl rfl (fun _ h=>h.elemIntN 1 rfl i qc) H ?_
   refine rtp 8 (.bool ((a[i]! :Int) != (b[i]!))) H ?_
   refine qZ qg (t_n (xy ((a[i]! :Int) != (b[i]!)) rfl (fun h12=>?_) (fun h12=>?_)))
   ·skip
    replace h12:=bne_iff_ne.1 h12
    refine zcr (sp (.bool false) (zjr (zr5 (ret1 (.bool false) rfl rfl ⟨_,rfl,?_,H.base⟩))))
    first | rw [decide_eq_false (fun e=>by subst e;omega)] | rw [decide_eq_false (ne_of_get (k:=i) ‹_›)] | rw [decide_eq_false (ne_of_get (k:=i) (by simpa using ‹_›))]
   ·skip
    replace h12:=xC h12
    refine xn (b_n (t_n (zT (sp (.int .i64 i) (sw (vN i 1 rfl rfl qc (sp (.int .i64 (i+1)) (vg (xJ (m' :=(a.length - ((i+1):Int)).toNat) qc ⟨_,i+1,uE3,?_,?_,rfl,N,H⟩)))))))))
    · omega
    · exact eqTo_succ qc qc i1 qf
  ·skip
   refine zx4 (zcr (sp (.bool true) (zjr (ret1 (.bool true) rfl rfl ⟨_,rfl,?_,H.base⟩))))
   rw [decide_eq_true (eq_of_take (k:=i) qc qc i1)]
theorem isBagH_ok (w:World) (l:yLI) {al:yOA} {Fl:yLN} (hl:qH.rep w Fl [.slice al l.length cl] l):Calls Try.prog 76 #[.slice al l.length cl] w (Ret (fun v w' =>v=.bool (dec (jD l))) w):=by
 refine en Try.func76 Try.ntmps76 ?_
 have H:=(St.start w).arg hl
 have nhl:=qV hl
 clear hl
 have N:=Fresh.nil w.heap.size
 refine zcr (sp (.bool false) (zjc (sp (.slice al l.length cl) (sw (oq (sizeI_ok _ l (H.get 0 rfl).1) H fun w1 H=>sp (.slice al l.length cl) (sw (oq (jY _ (l.length:Int) l (H.get 0 rfl).1) H fun w3 H=>sp (.bool (dec (xK (l.length:Int) l))) (zjr (ret1 (.bool (dec (xK (l.length:Int) l))) rfl rfl ⟨_,rfl,?_,H.base⟩)))))))))
 rw [dec_congr bagAny_ok]

theorem implPar_ok (w:World) (s:qo) (t:qw) (c:Int) {qA:yOA} {xq:yLN} {qJ:yOA} {xN:yLN} {xM:yOA} {vI:yLN} {zi:yOA} {jC:yLN} {xx:yOA} {zJ:yLN} (qU:qH.rep w xq [.slice qA s.qp.length qy] s.qp) (xB:qH.rep w xN [.slice qJ s.qC.length qI] s.qC) (zD:qH.rep w vI [.slice xM t.qF.length xI] t.qF) (vz:qH.rep w jC [.slice zi t.qK.length xZ] t.qK) (zf:qH.rep w zJ [.slice xx t.qG.length xw] t.qG):Calls Try.prog 8 #[.agg #[.int .i64 s.qN,.slice qA s.qp.length qy,.slice qJ s.qC.length qI],.agg #[.slice xM t.qF.length xI,.slice zi t.qK.length xZ,.slice xx t.qG.length xw],.int .i64 c] w (Ret (fun v w' =>v=.tuple #[.int .i64 (pnV s t c),.int .i64 (qB s t c)]) w):=by
 refine en Try.func8 Try.ntmps8 ?_
 have H:=(((((St.start w).arg zf).arg vz).arg zD).arg xB).arg qU
 have zU:=qV qU
 have ja:=qV xB
 have nhtAlive:=qV zD
 have nhtBags:=qV vz
 have nhtAround:=qV zf
 clear qU xB zD vz zf
 have N:=Fresh.nil w.heap.size
 refine zcr (sw (jF H [.int .i64 s.qN,.slice qA s.qp.length qy,.slice qJ s.qC.length qI] fun b1 w2 H=>sw (jF H [.slice xM t.qF.length xI,.slice zi t.qK.length xZ,.slice xx t.qG.length xw] fun b3 w4 H=>sps [.int .i64 0,.int .i64 0] (zjcc (sw (xR [.int .i64 s.qN,.slice qA s.qp.length qy,.slice qJ s.qC.length qI] Try.isAgg27 Try.sizeOf27 rfl (qE (H.cells 1 rfl) 0 3) ?_))))))
 refine sw (xR [.slice xM t.qF.length xI,.slice zi t.qK.length xZ,.slice xx t.qG.length xw] Try.isAgg31 Try.sizeOf31 rfl (qE (H.cells 0 rfl) 0 3) (sp (.int .i64 c) (sw (oq (cellCode_ok _ s t c (H.get 0 rfl).1 (H.get 1 rfl).1 (H.get 2 rfl).1 (H.get 3 rfl).1 (H.get 4 rfl).1) H fun w6 H=>sp (.int .i64 (qB s t c)) (zjc (sps [.int .i64 (qB s t c),.bool ((qB s t c:Int) != 0)] (zjn (xy ((qB s t c:Int) != 0) rfl (fun h8=>?_) (fun h8=>?_)))))))))
 ·skip
  replace h8:=bne_iff_ne.1 h8
  refine zcr (sps [.int .i64 (qB s t c),.int .i64 0,.int .i64 (qB s t c)] (zjr (t_r (ret2 (.int .i64 0) (.int .i64 (qB s t c)) rfl rfl rfl ⟨_,rfl,?_,H.base⟩))))
  rw [pnV_no ‹_›]
 ·skip
  replace h8:=xC h8
  obtain ⟨q1,q2,q3,q4⟩:=code_ok ‹qB s t c=0›
  have q5:=q1.1
  have q6:=q2.1
  refine xn (t_n (zcr (sw (xR [.int .i64 s.qN,.slice qA s.qp.length qy,.slice qJ s.qC.length qI] Try.isAgg27 Try.sizeOf27 rfl (qE (H.cells 1 rfl) 0 3) (sw (xR [.slice xM t.qF.length xI,.slice zi t.qK.length xZ,.slice xx t.qG.length xw] Try.isAgg31 Try.sizeOf31 rfl (qE (H.cells 0 rfl) 0 3) (sp (.int .i64 c) (sw (oq (parentNow_ok _ s t c (H.get 0 rfl).1 (H.get 1 rfl).1 (H.get 2 rfl).1 (H.get 3 rfl).1 (H.get 4 rfl).1 qf qf qf) H fun w10 H=>?_)))))))))
  refine sps [.int .i64 (qR s t c),.int .i64 0] (zjr (ret2 (.int .i64 (qR s t c)) (.int .i64 0) rfl rfl rfl ⟨_,rfl,?_,H.base⟩))
  rw [pnV_yes ‹_›,(‹qB s t c=0›:qB s t c=0)]

theorem implKids_ok (w:World) (s:qo) (t:qw) (c:Int) {qA:yOA} {xq:yLN} {qJ:yOA} {xN:yLN} {xM:yOA} {vI:yLN} {zi:yOA} {jC:yLN} {xx:yOA} {zJ:yLN} (qU:qH.rep w xq [.slice qA s.qp.length qy] s.qp) (xB:qH.rep w xN [.slice qJ s.qC.length qI] s.qC) (zD:qH.rep w vI [.slice xM t.qF.length xI] t.qF) (vz:qH.rep w jC [.slice zi t.qK.length xZ] t.qK) (zf:qH.rep w zJ [.slice xx t.qG.length xw] t.qG):Calls Try.prog 9 #[.agg #[.int .i64 s.qN,.slice qA s.qp.length qy,.slice qJ s.qC.length qI],.agg #[.slice xM t.qF.length xI,.slice zi t.qK.length xZ,.slice xx t.qG.length xw],.int .i64 c] w (Ret (fun v w' =>∃ (ra0:yOA) (rn0:Nat) (rc0:Nat),v=.tuple #[.slice ra0 rn0 rc0,.int .i64 (qB s t c)]∧Fresh w.heap.size []∧St w w' [rr ra0 rn0 rc0 2 1 ((vV s t c).map (Value.int .i64))] []) w):=by
 refine en Try.func9 Try.ntmps9 ?_
 have H:=(((((St.start w).arg zf).arg vz).arg zD).arg xB).arg qU
 have zU:=qV qU
 have ja:=qV xB
 have nhtAlive:=qV zD
 have nhtBags:=qV vz
 have nhtAround:=qV zf
 clear qU xB zD vz zf
 have N:=Fresh.nil w.heap.size
 refine zcr (sw (jF H [.int .i64 s.qN,.slice qA s.qp.length qy,.slice qJ s.qC.length qI] fun b1 w2 H=>sw (jF H [.slice xM t.qF.length xI,.slice zi t.qK.length xZ,.slice xx t.qG.length xw] fun b3 w4 H=>sps [.slice none 0 0,.int .i64 0] (zjcc (sw (xR [.int .i64 s.qN,.slice qA s.qp.length qy,.slice qJ s.qC.length qI] Try.isAgg27 Try.sizeOf27 rfl (qE (H.cells 1 rfl) 0 3) ?_))))))
 refine sw (xR [.slice xM t.qF.length xI,.slice zi t.qK.length xZ,.slice xx t.qG.length xw] Try.isAgg31 Try.sizeOf31 rfl (qE (H.cells 0 rfl) 0 3) (sp (.int .i64 c) (sw (oq (cellCode_ok _ s t c (H.get 0 rfl).1 (H.get 1 rfl).1 (H.get 2 rfl).1 (H.get 3 rfl).1 (H.get 4 rfl).1) H fun w6 H=>sp (.int .i64 (qB s t c)) (zjc (sps [.int .i64 (qB s t c),.bool ((qB s t c:Int) != 0)] (zjn (xy ((qB s t c:Int) != 0) rfl (fun h8=>?_) (fun h8=>?_)))))))))
 ·skip
  replace h8:=bne_iff_ne.1 h8
  refine zcr (sps [.int .i64 (qB s t c),.slice none 0 0,.int .i64 (qB s t c)] (zjr (t_r ?_)))
  replace H:=H.nilRowI 2
  refine ret2 (.slice none 0 0) (.int .i64 (qB s t c)) rfl rfl rfl ⟨_,rfl,?_,H.base⟩
  rw [kidsV_no ‹_›]
  exact ⟨none,0,0,rfl,N,H.pick [0] []⟩
 ·skip
  replace h8:=xC h8
  obtain ⟨q1,q2,q3,q4⟩:=code_ok ‹qB s t c=0›
  have q5:=q1.1
  have q6:=q2.1
  have q8:=q5.2.1
  refine xn (t_n (zcr (sw (o_build0 H Try.underlying24 ti2 fun b9 w10 H=>sp (.slice (some ⟨b9,0,none⟩) 0 0) (zjcc (oF rfl (oL rfl (H.cell 2 rfl rfl) (sw (oq (sizeI_ok _ s.qp (H.get 0 rfl).1) H fun w11 H=>sp (.int .i64 0) (zjn (xE ?_)))))))))))
  replace H:=H.boxRowI 0 [] 0
  refine vT (fun m' ρ w13=>∃ (zX:Env) (a_out:yOA) (n_out:Nat) (c_out:Nat) (out:yLI) (k:Nat),ρ=upd (upd (upd (upd (upd (upd zX 2 (.int .i64 c)) 3 (.pointer (some ⟨b1,0,none⟩))) 4 (.pointer (some ⟨b3,0,none⟩))) 9 (.slice a_out n_out c_out)) 21 (.int .i64 (s.qp.length:Int))) 22 (.int .i64 k)∧out=(jM s t c k)∧((k:Int)≤(s.qp.length:Int))∧m' =((s.qp.length:Int) - (k:Int)).toNat∧Fresh w.heap.size []∧St w w13 [rr a_out n_out c_out 2 1 (out.map (Value.int .i64)),.box b3 [.slice xM t.qF.length xI,.slice zi t.qK.length xZ,.slice xx t.qG.length xw] 31,.box b1 [.int .i64 s.qN,.slice qA s.qp.length qy,.slice qJ s.qC.length qI] 27] [sF false xq qA qy s.qp,sF false xN qJ qI s.qC,sF false vI xM xI t.qF,sF false jC zi xZ t.qK,sF false zJ xx xw t.qG]) (((s.qp.length:Int) - (0:Int)).toNat) ⟨_,(some ⟨b9,0,none⟩),0,0,([]:yLI),0,uE6,(by rfl),qc,rfl,N,H⟩ ?_
  clear H N
  rintro m' ρ w14 ⟨zX,a_out,n_out,c_out,out,k,rfl,rfl,i0,rfl,N,H⟩
  have hn_out:=H.zo 0 rfl
  have kl:=kids_len (s:=s) (t:=t) (c:=c) k
  refine zcr (sp (.bool (decide ((k:Int) < (s.qp.length:Int)))) (zjn (zF (cD rfl (fun h15=>?_) (fun h15=>?_)))))
  ·skip
   refine xn (t_n (zF (xE (zcr (sps [.int .i64 k,.int .i64 k] (zjc (oF rfl (oL rfl (H.cell 1 rfl rfl) (sp (.int .i64 k) ?_)))))))))
   obtain ⟨b16,o17,rfl⟩:=H.addr 2 rfl qc
   refine oI rfl rfl (oL rfl (H.elemBool 2 rfl k qc qc) (sp (.bool (t.qF[k]!)) ?_))
   cases h19:(t.qF[k]!)
   ·skip
    refine xh [31,32,33,34,35,36] (sp (.bool false) (zjn (xy false rfl (fun h=>absurd h qh) (fun _=>xn (b_n (t_n (zT (sw (vN k 1 rfl rfl qc (sp (.int .i64 (k+1)) (vg (xJ (m' :=((s.qp.length:Int) - ((k+1):Int)).toNat) qc ⟨_,a_out,n_out,c_out,(jM s t c k),k+1,uE6,?_,?_,rfl,N,H⟩))))))))))))
    · first | exact kids_yes ‹_› ‹_› | exact kids_dead ‹_› | exact kids_far ‹_›
    · omega
   ·skip
    refine qx 30 rfl rfl (sw (xR [.int .i64 s.qN,.slice qA s.qp.length qy,.slice qJ s.qC.length qI] Try.isAgg27 Try.sizeOf27 rfl (qE (H.cells 2 rfl) 0 3) (qx 30 rfl rfl (sw (xR [.slice (some ⟨b16,o17,none⟩) t.qF.length xI,.slice zi t.qK.length xZ,.slice xx t.qG.length xw] Try.isAgg31 Try.sizeOf31 rfl (qE (H.cells 1 rfl) 0 3) (qx 30 rfl rfl (sp (.int .i64 k) (qx 30 rfl rfl ?_))))))))
    have q7:jJ s k:=⟨by omega,by omega⟩
    refine sw (oq (parentNow_ok _ s t k (H.get 0 rfl).1 (H.get 1 rfl).1 (H.get 2 rfl).1 (H.get 3 rfl).1 (H.get 4 rfl).1 qf qf qf) H fun w21 H=>qx 30 rfl rfl (sp (.int .i64 c) (qx 30 rfl rfl (sps [.bool ((qR s t k:Int) == c),.bool ((qR s t k:Int) == c)] (zjn (cE rfl (fun h23=>?_) (fun h23=>?_)))))))
    ·skip
     refine zT (sps [.slice a_out n_out c_out,.int .i64 k] (sw (zS H Try.underlying24 ti2 [.int .i64 k] fun b24 w25 H=>sw (zV H 1 rfl 0 rfl Try.underlying24 ti2 rfl qh rfl rfl rfl (by simp [Value.oneCell',Value.cells]) qm qc fun a26 c27 w28 H=>?_))))
     rw [snocI] at H
     refine sp (.slice a26 (n_out+1) c27) (vg (b_n (t_n (zT (sw (vN k 1 rfl rfl qc (sp (.int .i64 (k+1)) (vg (xJ (m' :=((s.qp.length:Int) - ((k+1):Int)).toNat) qc ⟨_,a26,n_out+1,c27,((jM s t c k)++[(k:Int)]),k+1,uE6,?_,?_,rfl,N,H.pick [1,2,3] [0,1,2,3,4]⟩)))))))))
     · first | exact kids_yes ‹_› ‹_› | exact kids_dead ‹_› | exact kids_far ‹_›
     · omega
    ·skip
     refine xn (b_n (t_n (zT (sw (vN k 1 rfl rfl qc (sp (.int .i64 (k+1)) (vg (xJ (m' :=((s.qp.length:Int) - ((k+1):Int)).toNat) qc ⟨_,a_out,n_out,c_out,(jM s t c k),k+1,uE6,?_,?_,rfl,N,H⟩))))))))
     · first | exact kids_yes ‹_› ‹_› | exact kids_dead ‹_› | exact kids_far ‹_›
     · omega
  ·skip
   refine zx4 (zcr (sps [.slice a_out n_out c_out,.slice a_out n_out c_out,.int .i64 0] (zjr (ret2 (.slice a_out n_out c_out) (.int .i64 0) rfl rfl rfl ⟨_,rfl,?_,H.base⟩))))
   rw [kidsV_yes ‹_›,(‹qB s t c=0›:qB s t c=0),show s.qp.length=k by omega]
   exact ⟨a_out,n_out,c_out,rfl,N,H.pick [0] []⟩

theorem implTotal_ok (w:World) (s:qo) (t:qw) {qA:yOA} {xq:yLN} {qJ:yOA} {xN:yLN} {xM:yOA} {vI:yLN} {zi:yOA} {jC:yLN} {xx:yOA} {zJ:yLN} (qU:qH.rep w xq [.slice qA s.qp.length qy] s.qp) (xB:qH.rep w xN [.slice qJ s.qC.length qI] s.qC) (zD:qH.rep w vI [.slice xM t.qF.length xI] t.qF) (vz:qH.rep w jC [.slice zi t.qK.length xZ] t.qK) (zf:qH.rep w zJ [.slice xx t.qG.length xw] t.qG) (p0:jk s∧xY s t) (p1:jD (jb t s.qp.length)):Calls Try.prog 14 #[.agg #[.int .i64 s.qN,.slice qA s.qp.length qy,.slice qJ s.qC.length qI],.agg #[.slice xM t.qF.length xI,.slice zi t.qK.length xZ,.slice xx t.qG.length xw]] w (Ret (fun v w' =>∃ (ra0:yOA) (rn0:Nat) (rc0:Nat),v=.tuple #[.slice ra0 rn0 rc0,.int .i64 0]∧Fresh w.heap.size []∧St w w' [rr ra0 rn0 rc0 2 1 ((jb t s.qp.length).map (Value.int .i64))] []) w):=by
 refine en Try.func14 Try.ntmps14 ?_
 have H:=(((((St.start w).arg zf).arg vz).arg zD).arg xB).arg qU
 have zU:=qV qU
 have ja:=qV xB
 have nhtAlive:=qV zD
 have nhtBags:=qV vz
 have nhtAround:=qV zf
 clear qU xB zD vz zf
 have N:=Fresh.nil w.heap.size
 have p2:=p0.1.1
 have p3:=p0.2
 obtain ⟨s1,s2,s3,s4⟩:=p3.sizes p2
 have p4:=p3.2.1
 have p5:=p2.2.1
 refine zcr (sw (jF H [.int .i64 s.qN,.slice qA s.qp.length qy,.slice qJ s.qC.length qI] fun b1 w2 H=>sw (jF H [.slice xM t.qF.length xI,.slice zi t.qK.length xZ,.slice xx t.qG.length xw] fun b3 w4 H=>sps [.slice none 0 0,.int .i64 0] (zjcc (sw (xR [.int .i64 s.qN,.slice qA s.qp.length qy,.slice qJ s.qC.length qI] Try.isAgg27 Try.sizeOf27 rfl (qE (H.cells 1 rfl) 0 3) ?_))))))
 refine sw (xR [.slice xM t.qF.length xI,.slice zi t.qK.length xZ,.slice xx t.qG.length xw] Try.isAgg31 Try.sizeOf31 rfl (qE (H.cells 0 rfl) 0 3) (sw (oq (validState_ok _ s t (H.get 0 rfl).1 (H.get 1 rfl).1 (H.get 2 rfl).1 (H.get 3 rfl).1 (H.get 4 rfl).1) H fun w6 H=>sp (.bool (!(dec (jk s∧xY s t)))) (zjn (cQ rfl (fun h8=>?_) (fun h8=>?_))))))
 ·skip
  exact absurd p0 h8
 ·skip
  refine xn (t_n (zcr (oF rfl (oL rfl (H.cell 0 rfl rfl) ?_))))
  have sz9:=H.base.size
  refine sw (oc (cloneI_ok _ t.qG (H.get 4 rfl).1 qf) ?_)
  rintro v14 w12 r14 x13
  replace H:=H.vY x13 r14
  obtain ⟨a15,c16,rfl,hc17,hm18⟩:=H.rowForm 0 rfl
  refine sp (.slice a15 t.qG.length c16) (zjcc (oF rfl (oL rfl (H.cell 1 rfl rfl) (oN rfl (sp (.int .i64 0) (zjn (xE ?_)))))))
  refine vT (fun m' ρ w19=>∃ (zX:Env) (a_out:yOA) (n_out:Nat) (c_out:Nat) (out:yLI) (k:Nat),ρ=upd (upd (upd (upd zX 6 (.slice a_out n_out c_out)) 17 (.slice zi t.qK.length xZ)) 18 (.int .i64 t.qK.length)) 19 (.int .i64 k)∧out=(jb t k)∧((k:Int)≤t.qK.length)∧m' =(t.qK.length - (k:Int)).toNat∧Fresh w.heap.size []∧St w w19 [rr a_out n_out c_out 2 1 (out.map (Value.int .i64)),.box b3 [.slice xM t.qF.length xI,.slice zi t.qK.length xZ,.slice xx t.qG.length xw] 31,.box b1 [.int .i64 s.qN,.slice qA s.qp.length qy,.slice qJ s.qC.length qI] 27] [sF false xq qA qy s.qp,sF false xN qJ qI s.qC,sF false vI xM xI t.qF,sF false jC zi xZ t.qK,sF false zJ xx xw t.qG]) ((t.qK.length - (0:Int)).toNat) ⟨_,a15,t.qG.length,c16,t.qG,0,uE4,(by rfl),qc,rfl,N,H⟩ ?_
  clear H N
  rintro m' ρ w20 ⟨zX,a_out,n_out,c_out,out,k,rfl,rfl,i0,rfl,N,H⟩
  have hn_out:=H.zo 0 rfl
  have al:=jI t k
  refine zcr (sp (.bool (decide ((k:Int) < t.qK.length))) (zjn (zF (cD rfl (fun h21=>?_) (fun h21=>?_)))))
  ·skip
   refine xn (t_n (zF (xE (zcr ?_))))
   obtain ⟨b22,o23,rfl⟩:=H.addr 3 rfl qc
   obtain ⟨ae25,ce25,Fe25,H⟩:=H.elemList 3 rfl k k qc qc qc
   refine oI rfl rfl (oL rfl (H.zI 1 rfl 0 rfl) (sp (.slice ae25 ((t.qK[k]!).length) ce25) (zjn (zT (sps [.slice a_out n_out c_out,.slice ae25 ((t.qK[k]!).length) ce25] ?_)))))
   obtain ⟨G26,hn27,h28⟩:=H.je 0 rfl
   obtain ⟨m1,m2,m3⟩:=all_mid p2 p3 (k:=k) qc
   have sz29:=H.base.size
   refine sw (oc (args_eq (by rw [← hn27]) (plus_ok _ (jb t k) (t.qK[k]!) 1 (hn27▸h28) (H.get 0 rfl).1 qf qf qf)) ?_)
   rintro v34 w32 r34 x33
   replace H:=H.vY x33 r34
   obtain ⟨a35,c36,rfl,hc37,hm38⟩:=H.rowForm 0 rfl
   refine sp (.slice a35 ((vO (jb t k) (t.qK[k]!) 1).length) c36) (vg (b_n (t_n (zT (sw (vN k 1 rfl rfl qc (sp (.int .i64 (k+1)) (vg (xJ (m' :=(t.qK.length - ((k+1):Int)).toNat) qc ⟨_,a35,(vO (jb t k) (t.qK[k]!) 1).length,c36,vO (jb t k) (t.qK[k]!) 1,k+1,uE4,?_,?_,rfl,N,H.pick [0,2,3] [2,3,4,5,6]⟩)))))))))
   · rfl
   · omega
  ·skip
   refine zx4 (zcr (sp (.slice a_out n_out c_out) (sw (o_callIn #[.slice a_out n_out c_out] rfl rfl Try.call40 (en Try.func40 Try.ntmps40 ?_)))))
   refine zcr (sps [.slice none 0 0,.int .i64 0] (zjcc (sp (.slice a_out n_out c_out) ?_)))
   obtain ⟨G39,hn40,h41⟩:=H.je 0 rfl
   refine sw (oq (args_eq (by rw [← hn40]) (isBagH_ok _ (jb t k) (hn40▸h41))) H fun w43 H=>sp (.bool (!(dec (jD (jb t k))))) (zjn (cQ rfl (fun h45=>?_) (fun h45=>?_))))
   ·skip
    rw [show k=s.qp.length by omega] at h45
    exact absurd p1 h45
   ·skip
    refine xn (t_n (zcr (sps [.slice a_out n_out c_out,.slice a_out n_out c_out,.int .i64 0] (zjr (ret2 (.slice a_out n_out c_out) (.int .i64 0) rfl rfl rfl ⟨_,rfl,(sps [.slice a_out n_out c_out,.int .i64 0,.slice a_out n_out c_out,.int .i64 0] (zjr (ret2 (.slice a_out n_out c_out) (.int .i64 0) rfl rfl rfl ⟨_,rfl,?_,H.base⟩)))⟩)))))
    obtain rfl:k=s.qp.length:=by omega
    exact ⟨a_out,n_out,c_out,rfl,N,H.pick [0] []⟩

theorem implAdd_ok (w:World) (a:yLI) (b:yLI) {aa:yOA} {Fa:yLN} {ab:yOA} {Fb:yLN} (ha:qH.rep w Fa [.slice aa a.length ca] a) (hb:qH.rep w Fb [.slice ab b.length cb] b) (p0:CanAdd a b):Calls Try.prog 15 #[.slice aa a.length ca,.slice ab b.length cb] w (Ret (fun v w' =>∃ (ra0:yOA) (rn0:Nat) (rc0:Nat),v=.tuple #[.slice ra0 rn0 rc0,.int .i64 0]∧Fresh w.heap.size []∧St w w' [rr ra0 rn0 rc0 2 1 ((vO a b 1).map (Value.int .i64))] []) w):=by
 refine en Try.func15 Try.ntmps15 ?_
 have H:=((St.start w).arg hb).arg ha
 have nha:=qV ha
 have nhb:=qV hb
 clear ha hb
 have N:=Fresh.nil w.heap.size
 have p1:=p0.one
 have p2:=p0.two
 have p3:=p0.len
 have p4:=p0.sum
 refine zcr (sps [.slice none 0 0,.int .i64 0] (zjcc (sps [.slice aa a.length ca,.slice ab b.length cb] (sw (o_callIn #[.slice aa a.length ca,.slice ab b.length cb] rfl rfl Try.call41 (en Try.func41 Try.ntmps41 ?_))))))
 refine zcr (sp (.int .i64 0) (zjn (zF (xE (zcr (sp (.slice aa a.length ca) (sw (oq (isBagH_ok _ a (H.get 0 rfl).1) H fun w2 H=>sps [.bool (!(dec (jD a))),.bool (!(dec (jD a)))] ?_))))))))
 cases h4:(!(dec (jD a)))
 ·skip
  replace h4:=qP h4
  replace h4:=vW h4
  refine qx 9 rfl rfl (sp (.slice ab b.length cb) (qx 9 rfl rfl (sw (oq (isBagH_ok _ b (H.get 1 rfl).1) H fun w6 H=>qx 9 rfl rfl (sps [.bool (!(dec (jD b))),.bool (!(dec (jD b))),.bool (!(dec (jD b)))] (zjn (xy (!(dec (jD b))) rfl (fun h=>absurd p2 (xP (qX h))) (fun h8=>?_))))))))
  replace h8:=qP h8
  replace h8:=vW h8
  refine zcr (sp (.slice aa a.length ca) (oN rfl (sp (.slice ab b.length cb) (oN rfl (sps [.bool ((a.length:Int) != b.length),.bool ((a.length:Int) != b.length)] (zjn (xy ((a.length:Int) != b.length) rfl (fun h9=>?_) (fun h9=>?_))))))))
  ·skip
   replace h9:=bne_iff_ne.1 h9
   omega
  ·skip
   replace h9:=xC h9
   refine xn (b_n (t_n (zcr (sp (.int .i64 0) (zjr (ret1 (.int .i64 0) rfl rfl ⟨_,rfl,(sp (.int .i64 0) (zjc (sps [.int .i64 0,.bool false] (zjn (xy false rfl (fun h=>absurd h qh) (fun _=>xn (t_n (zcr (sps [.slice aa a.length ca,.slice ab b.length cb] ?_)))))))))⟩))))))
   have m1:a.length≤b.length:=by omega
   have m2:=bag_mid p1
   have m3:=bag_smallT p2
   have sz10:=H.base.size
   refine sw (oc (plus_ok _ a b 1 (H.get 0 rfl).1 (H.get 1 rfl).1 qf qf qf) ?_)
   rintro v15 w13 r15 x14
   replace H:=H.vY x14 r15
   obtain ⟨a16,c17,rfl,hc18,hm19⟩:=H.rowForm 0 rfl
   refine sw (o_callIn #[.slice a16 ((vO a b 1).length) c17] rfl rfl Try.call40 (en Try.func40 Try.ntmps40 ?_))
   refine zcr (sps [.slice none 0 0,.int .i64 0] (zjcc (sp (.slice a16 ((vO a b 1).length) c17) ?_)))
   obtain ⟨G20,hn21,h22⟩:=H.je 0 rfl
   refine sw (oq (isBagH_ok _ (vO a b 1) h22) H fun w24 H=>sp (.bool (!(dec (jD (vO a b 1))))) (zjn (cQ rfl (fun h26=>?_) (fun h26=>?_))))
   ·skip
    exact absurd p4 h26
   ·skip
    refine xn (t_n (zcr (sps [.slice a16 ((vO a b 1).length) c17,.slice a16 ((vO a b 1).length) c17,.int .i64 0] (zjr (ret2 (.slice a16 ((vO a b 1).length) c17) (.int .i64 0) rfl rfl rfl ⟨_,rfl,(sps [.slice a16 ((vO a b 1).length) c17,.int .i64 0,.slice a16 ((vO a b 1).length) c17,.int .i64 0] (zjr (ret2 (.slice a16 ((vO a b 1).length) c17) (.int .i64 0) rfl rfl rfl ⟨_,rfl,(⟨a16,(vO a b 1).length,c17,rfl,N,H.pick [0] []⟩),H.base⟩)))⟩)))))
 · exact absurd p1 (xP (qX h4))

theorem a2Kid_ok (w:World) (l:yLI) (c:Int) {al:yOA} {Fl:yLN} (hl:qH.rep w Fl [.slice al l.length cl] l):Calls Try.prog 10 #[.slice al l.length cl,.int .i64 c] w (Ret (fun v w' =>v=.bool (decide ((c:Int)∈l))) w):=by
 refine en Try.func10 Try.ntmps10 ?_
 have H:=(St.start w).arg hl
 have nhl:=qV hl
 clear hl
 have N:=Fresh.nil w.heap.size
 refine zcr (sp (.bool false) (zjcc (sp (.int .i64 0) (zjn (xE ?_)))))
 refine vT (fun m' ρ w1=>∃ (zX:Env) (i:Nat),ρ=upd (upd (upd zX 0 (.slice al l.length cl)) 1 (.int .i64 c)) 5 (.int .i64 i)∧((i:Int)≤l.length)∧(∀ j,j < i→l[j]! ≠c)∧m' =(l.length - (i:Int)).toNat∧Fresh w.heap.size []∧St w w1 [] [sF false Fl al cl l]) ((l.length - (0:Int)).toNat) ⟨_,0,uE3,qc,(by exact fun j hj=>by omega),rfl,N,H⟩ ?_
 clear H N
 rintro m' ρ w2 ⟨zX,i,rfl,i0,i1,rfl,N,H⟩
 refine zcc (sps [.int .i64 i,.slice al l.length cl] (oN rfl (sp (.bool (decide ((i:Int) < l.length))) (zjn (cD rfl (fun h3=>?_) (fun h3=>?_))))))
 ·skip
  refine xn (t_n (zF (xE (zcr (sps [.slice al l.length cl,.int .i64 i] ?_)))))
  obtain ⟨b4,o5,rfl⟩:=H.addr 0 rfl qc
  refine oI rfl rfl (oL rfl (H.jQ 0 rfl i qc qc) (sps [.int .i64 c,.bool ((l[i]! :Int) == c)] (zjn (cE rfl (fun h7=>?_) (fun h7=>?_)))))
  ·skip
   refine zcr (sp (.bool true) (zjr (zr5 (ret1 (.bool true) rfl rfl ⟨_,rfl,?_,H.base⟩))))
   rw [decide_eq_true (mem_atI (k:=i) qc ‹_›)]
  ·skip
   refine xn (b_n (t_n (zT (sp (.int .i64 i) (sw (vN i 1 rfl rfl qc (sp (.int .i64 (i+1)) (vg (xJ (m' :=(l.length - ((i+1):Int)).toNat) qc ⟨_,i+1,uE3,?_,?_,rfl,N,H⟩)))))))))
   · omega
   · exact fun j hj=>if e:j=i then by rw [e];assumption else i1 j qc
 ·skip
  refine zx4 (zcr (sp (.bool false) (zjr (ret1 (.bool false) rfl rfl ⟨_,rfl,?_,H.base⟩))))
  rw [decide_eq_false (no_mem (i:=i) i1 qc)]

theorem specValid_ok (w:World) (s:qo) (t:qw) {qA:yOA} {xq:yLN} {qJ:yOA} {xN:yLN} {xM:yOA} {vI:yLN} {zi:yOA} {jC:yLN} {xx:yOA} {zJ:yLN} (qU:qH.rep w xq [.slice qA s.qp.length qy] s.qp) (xB:qH.rep w xN [.slice qJ s.qC.length qI] s.qC) (zD:qH.rep w vI [.slice xM t.qF.length xI] t.qF) (vz:qH.rep w jC [.slice zi t.qK.length xZ] t.qK) (zf:qH.rep w zJ [.slice xx t.qG.length xw] t.qG):Calls Try.prog 13 #[.agg #[.int .i64 s.qN,.slice qA s.qp.length qy,.slice qJ s.qC.length qI],.agg #[.slice xM t.qF.length xI,.slice zi t.qK.length xZ,.slice xx t.qG.length xw]] w (Ret (fun v w' =>v=.bool (dec (jk s∧xY s t))) w):=by
 refine en Try.func13 Try.ntmps13 ?_
 have H:=(((((St.start w).arg zf).arg vz).arg zD).arg xB).arg qU
 have zU:=qV qU
 have ja:=qV xB
 have nhtAlive:=qV zD
 have nhtBags:=qV vz
 have nhtAround:=qV zf
 clear qU xB zD vz zf
 have N:=Fresh.nil w.heap.size
 refine zcr (sw (jF H [.int .i64 s.qN,.slice qA s.qp.length qy,.slice qJ s.qC.length qI] fun b1 w2 H=>sw (jF H [.slice xM t.qF.length xI,.slice zi t.qK.length xZ,.slice xx t.qG.length xw] fun b3 w4 H=>sp (.bool false) (zjc (sw (oq (l02Ok_ok _ s (qE (H.cells 1 rfl) 0 3) (H.get 0 rfl).1 (H.get 1 rfl).1) H fun w5 H=>sp (.bool (dec (jk s))) ?_))))))
 cases h7:(dec (jk s))
 ·skip
  replace h7:=xP h7
  refine xh [7] (sps [.bool false,.bool false] (zjr (ret1 (.bool false) rfl rfl ⟨_,rfl,?_,H.base⟩)))
  rw [qO (fun h=>‹¬ jk s› h.1)]
 ·skip
  replace h7:=vW h7
  refine qx 6 rfl rfl (sw (oq (l02State_ok _ s t (qE (H.cells 1 rfl) 0 3) (H.get 0 rfl).1 (H.get 1 rfl).1 (qE (H.cells 0 rfl) 0 3) (H.get 2 rfl).1 (H.get 3 rfl).1 (H.get 4 rfl).1 (by first | assumption | exact (And.left (by assumption:jk _)))) H fun w8 H=>sps [.bool (dec (xY s t)),.bool (dec (xY s t))] (zjr (ret1 (.bool (dec (xY s t))) rfl rfl ⟨_,rfl,?_,H.base⟩))))
  rw [dec_congr (show xY s t↔jk s∧xY s t from ⟨fun h=>⟨by assumption,h⟩,fun h=>h.2⟩)]
theorem law_FnTree (w:World) (code:List UInt8) (more:List UInt8) (acode:yOA) (ccode:Nat) (Fcode:yLN) (amore:yOA) (cmore:Nat) (Fmore:yLN) (hcode:qH.rep w Fcode [.slice acode code.length ccode] code) (hmore:qH.rep w Fmore [.slice amore more.length cmore] more):Calls Try.prog 3 #[.slice acode code.length ccode,.slice amore more.length cmore] w (Ret (fun v w' =>v=.bool true) w):=by
 refine en Try.func3 Try.ntmps3 ?_
 have H:=((St.start w).arg hmore).arg hcode
 have nhcode:=qV hcode
 have nhmore:=qV hmore
 clear hcode hmore
 have N:=Fresh.nil w.heap.size
 refine zcr (sp (.bool false) (zjcc (sps [.slice acode code.length ccode,.slice amore more.length cmore] (sw (o_callIn #[.slice acode code.length ccode,.slice amore more.length cmore] rfl rfl Try.call6 (en Try.func6 Try.ntmps6 ?_))))))
 refine zcr (sp (.bool false) (zjc (sp (.slice acode code.length ccode) (oN rfl (sps [.bool (decide ((code.length:Int) > 3000)),.bool (decide ((code.length:Int) > 3000))] ?_)))))
 cases h1:(decide ((code.length:Int) > 3000))
 ·skip
  replace h1:=of_decide_eq_false h1
  refine qx 8 rfl rfl (sp (.slice amore more.length cmore) (qx 8 rfl rfl (oN rfl (qx 8 rfl rfl (sps [.bool (decide ((more.length:Int) > 3000)),.bool (decide ((more.length:Int) > 3000)),.bool (decide ((more.length:Int) > 3000))] (zjr (ret1 (.bool (decide ((more.length:Int) > 3000))) rfl rfl ⟨_,rfl,(zjn (cD rfl (fun h2=>?_) (fun h2=>?_)))⟩)))))))
  ·skip
   refine zcr (sp (.bool true) (zjr (t_r (ret1 (.bool true) rfl rfl ⟨_,rfl,?_,H.base⟩))))
   rfl
  ·skip
   refine xn (t_n (zcr (sp (.slice acode code.length ccode) ?_)))
   have H1:St w w [] [sF false Fcode acode ccode code,sF false Fmore amore cmore more]:=H.pick [] [0,1]
   have N1:Fresh _ []:=N
   have K1:Kept [] [sF false Fmore amore cmore more]:=Kept.nil _
   refine sw (xf #[.slice acode code.length ccode] rfl rfl Try.call7 (a2System_ok code acode ccode Fcode H1 N1 K1 ) ?_)
   clear H H1 N1 K1
   rintro _ w3 ⟨zi7,zl8,zR9,zm10,zL11,zl12,ra13,rn14,rc15,ra16,rn17,rc18,rx19,rF20,ra21,rn22,rc23,ra24,rn25,rc26,rx27,rF28,ra29,rn30,rc31,hx5,hx6,rfl,N,H⟩
   obtain rfl:=H.zo 0 rfl
   obtain rfl:=H.jf (α:=zM) 1 rfl 1 rfl qh
   obtain rfl:=H.rowNB 2 rfl
   obtain rfl:=H.jf (α:=yLI) 3 rfl 2 rfl qh
   obtain rfl:=H.zo 4 rfl
   have sd:=(‹SysDr _ _ _›)
   have td:=(‹StDr _ _ _ _ _ _›)
   have k0:jk (⟨zi7,zl8,zR9⟩:qo)∧xY (⟨zi7,zl8,zR9⟩:qo) (⟨zm10,zL11,zl12⟩:qw):=⟨sd.ok,td.ok sd qc⟩
   have k1:=k0.1
   have k2:=k0.2
   have f5:=few5_of td
   have sc:=sd.cells
   have la:=td.la
   have lb:=td.lb
   refine sps [.tuple #[.agg #[.int .i64 zi7,.slice ra13 zl8.length rc15,.slice ra16 zR9.length rc18],.agg #[.slice ra21 zm10.length rc23,.slice ra24 zL11.length rc26,.slice ra29 zl12.length rc31]],.agg #[.int .i64 zi7,.slice ra13 zl8.length rc15,.slice ra16 zR9.length rc18],.agg #[.slice ra21 zm10.length rc23,.slice ra24 zL11.length rc26,.slice ra29 zl12.length rc31]] (sw (xk H ti27 [.int .i64 0,.slice none 0 0,.slice none 0 0] fun b32 w33 H=>sw (xk H ti31 [.slice none 0 0,.slice none 0 0,.slice none 0 0] fun b34 w35 H=>sw (qL H 1 [.int .i64 zi7,.slice ra13 zl8.length rc15,.slice ra16 zR9.length rc18] Try.sizeOf27 fun w36 H=>?_))))
   refine sw (qL H 0 [.slice ra21 zm10.length rc23,.slice ra24 zL11.length rc26,.slice ra29 zl12.length rc31] Try.sizeOf31 fun w37 H=>zjc (oF rfl (oL rfl (H.cell 1 rfl rfl) (oN rfl (sp (.int .i64 zl8.length) (zjcc (sp (.int .i64 0) (zjn (xE ?_)))))))))
   refine vT (fun m' ρ w38=>∃ (zX:Env) (c:Nat),ρ=upd (upd (upd (upd (upd zX 1 (.slice amore more.length cmore)) 5 (.pointer (some ⟨b32,0,none⟩))) 6 (.pointer (some ⟨b34,0,none⟩))) 7 (.int .i64 zl8.length)) 8 (.int .i64 c)∧((c:Int)≤zl8.length)∧m' =(zl8.length - (c:Int)).toNat∧Fresh w.heap.size [rF20,rF28]∧St w w38 [.box b34 [.slice ra21 zm10.length rc23,.slice ra24 zL11.length rc26,.slice ra29 zl12.length rc31] 31,.box b32 [.int .i64 zi7,.slice ra13 zl8.length rc15,.slice ra16 zR9.length rc18] 27,rr ra13 zl8.length rc15 2 1 (zl8.map (Value.int .i64)),rr ra16 zR9.length rc18 51 9 rx19,rr ra21 zm10.length rc23 4 1 (zm10.map (Value.bool)),rr ra24 zL11.length rc26 24 1 rx27,rr ra29 zl12.length rc31 2 1 (zl12.map (Value.int .i64))] [qM true rF20 rx19 zR9,qM true rF28 rx27 zL11,sF false Fmore amore cmore more]) ((zl8.length - (0:Int)).toNat) ⟨_,0,uE5,qc,rfl,N,H.pick [0,1,2,3,4,5,6] [1,2,3]⟩ ?_
   clear H N
   rintro m' ρ w39 ⟨zX,c,rfl,i0,rfl,N,H⟩
   refine zcc (sps [.int .i64 c,.int .i64 zl8.length,.bool (decide ((c:Int) < zl8.length))] (zjn (cD rfl (fun h40=>?_) (fun h40=>?_))))
   ·skip
    refine xn (t_n (zF (xE (zcr (sw (xR [.int .i64 zi7,.slice ra13 zl8.length rc15,.slice ra16 zR9.length rc18] Try.isAgg27 Try.sizeOf27 rfl (qE (H.cells 1 rfl) 0 3) (sw (xR [.slice ra21 zm10.length rc23,.slice ra24 zL11.length rc26,.slice ra29 zl12.length rc31] Try.isAgg31 Try.sizeOf31 rfl (qE (H.cells 0 rfl) 0 3) (sp (.int .i64 c) ?_)))))))))
    obtain ⟨G41,hn42,h43⟩:=H.je 2 rfl
    obtain ⟨G44,hn45,h46⟩:=H.jV (α:=zM) 3 rfl 0 rfl qh
    obtain ⟨G47,hn48,h49⟩:=H.rowIsB 4 rfl
    obtain ⟨G50,hn51,h52⟩:=H.jV (α:=yLI) 5 rfl 1 rfl qh
    obtain ⟨G53,hn54,h55⟩:=H.je 6 rfl
    refine sw (oq (implPar_ok _ (⟨zi7,zl8,zR9⟩:qo) (⟨zm10,zL11,zl12⟩:qw) c h43 h46 h49 h52 h55) H fun w57 H=>sps [.tuple #[.int .i64 (pnV (⟨zi7,zl8,zR9⟩:qo) (⟨zm10,zL11,zl12⟩:qw) c),.int .i64 (qB (⟨zi7,zl8,zR9⟩:qo) (⟨zm10,zL11,zl12⟩:qw) c)],.int .i64 (pnV (⟨zi7,zl8,zR9⟩:qo) (⟨zm10,zL11,zl12⟩:qw) c),.int .i64 (qB (⟨zi7,zl8,zR9⟩:qo) (⟨zm10,zL11,zl12⟩:qw) c),.int .i64 (pnV (⟨zi7,zl8,zR9⟩:qo) (⟨zm10,zL11,zl12⟩:qw) c),.int .i64 (qB (⟨zi7,zl8,zR9⟩:qo) (⟨zm10,zL11,zl12⟩:qw) c)] (zjcc (oF rfl ?_)))
    refine oL rfl (H.cell 0 rfl rfl) (sp (.int .i64 c) ?_)
    obtain ⟨b59,rfl⟩:=H.rowAddr 4 rfl qc
    refine oI rfl rfl (oL rfl (H.rowBool 4 rfl (iv:=c) (i:=c) qc qc) (sp (.bool (!(zm10[c]!))) (zjn (xy (!(zm10[c]!)) rfl (fun h60=>?_) (fun h60=>?_)))))
    ·skip
     replace h60:=qX h60
     have e4:=tree_dead k1 k2 (c:=c) ⟨by show (0:Int)≤c;omega,by show (c:Int)≤(((⟨zi7,zl8,zR9⟩:qo)).qp.length:Int) - 1;show (c:Int)≤(zl8.length:Int) - 1;omega⟩ h60
     refine zcc (sps [.int .i64 (qB (⟨zi7,zl8,zR9⟩:qo) (⟨zm10,zL11,zl12⟩:qw) c),.bool (((qB (⟨zi7,zl8,zR9⟩:qo) (⟨zm10,zL11,zl12⟩:qw) c):Int) != 4)] (zjn (xy (((qB (⟨zi7,zl8,zR9⟩:qo) (⟨zm10,zL11,zl12⟩:qw) c):Int) != 4) rfl (fun h61=>?_) (fun h61=>?_))))
     ·skip
      replace h61:=bne_iff_ne.1 h61
      refine zcr (sp (.bool false) (zjr (t_r (t_r (zr5 (ret1 (.bool false) rfl rfl ⟨_,rfl,?_,H.base⟩))))))
      exfalso;first | omega | contradiction | exact bool_ne ‹_› (by simpa using l2)
     ·skip
      replace h61:=xC h61
      refine xn (t_n (c_exit (t_x (b_x (t_n (zT (sp (.int .i64 c) (sw (vN c 1 rfl rfl qc (sp (.int .i64 (c+1)) (vg (xJ (m' :=(zl8.length - ((c+1):Int)).toNat) qc ⟨_,c+1,uE5,?_,rfl,N,H⟩))))))))))))
      · omega
    ·skip
     replace h60:=qP h60
     obtain ⟨l1,l2,l3⟩:=tree_live k1 k2 (c:=c) ⟨by show (0:Int)≤c;omega,by show (c:Int)≤(((⟨zi7,zl8,zR9⟩:qo)).qp.length:Int) - 1;show (c:Int)≤(zl8.length:Int) - 1;omega⟩ h60
     refine xn (t_n (zcc (sps [.int .i64 (qB (⟨zi7,zl8,zR9⟩:qo) (⟨zm10,zL11,zl12⟩:qw) c),.bool (((qB (⟨zi7,zl8,zR9⟩:qo) (⟨zm10,zL11,zl12⟩:qw) c):Int) != 0),.bool (((qB (⟨zi7,zl8,zR9⟩:qo) (⟨zm10,zL11,zl12⟩:qw) c):Int) != 0)] ?_)))
     cases h62:(((qB (⟨zi7,zl8,zR9⟩:qo) (⟨zm10,zL11,zl12⟩:qw) c):Int) != 0)
     ·skip
      replace h62:=xC h62
      refine qx 63 rfl rfl (sp (.int .i64 c) (qx 63 rfl rfl (sp (.bool ((c:Int) == 0)) (qx 63 rfl rfl (sp (.int .i64 (pnV (⟨zi7,zl8,zR9⟩:qo) (⟨zm10,zL11,zl12⟩:qw) c)) (qx 63 rfl rfl (sp (.bool (((pnV (⟨zi7,zl8,zR9⟩:qo) (⟨zm10,zL11,zl12⟩:qw) c):Int) == (-1))) (qx 63 rfl rfl (sw (o_neB Try.underlying4 ((c:Int) == 0) (((pnV (⟨zi7,zl8,zR9⟩:qo) (⟨zm10,zL11,zl12⟩:qw) c):Int) == (-1)) rfl rfl (sp (.bool (((c:Int) == 0) != (((pnV (⟨zi7,zl8,zR9⟩:qo) (⟨zm10,zL11,zl12⟩:qw) c):Int) == (-1)))) (zjn ?_))))))))))))
      refine xy (((c:Int) == 0) != (((pnV (⟨zi7,zl8,zR9⟩:qo) (⟨zm10,zL11,zl12⟩:qw) c):Int) == (-1))) rfl (fun h63=>?_) (fun h63=>?_)
      ·skip
       replace h63:=bne_iff_ne.1 h63
       refine zcr (sp (.bool false) (zjr (t_r (zr5 (ret1 (.bool false) rfl rfl ⟨_,rfl,?_,H.base⟩)))))
       exfalso;first | omega | contradiction | exact bool_ne ‹_› (by simpa using l2)
      ·skip
       replace h63:=xC h63
       refine xn (t_n (zcr (sp (.int .i64 0) (zjn (xE ?_)))))
       refine vT (fun m' ρ w64=>∃ (zX:Env) (k:Nat),ρ=upd (upd (upd (upd (upd (upd (upd (upd (upd (upd (upd (upd zX 1 (.slice amore more.length cmore)) 5 (.pointer (some ⟨b32,0,none⟩))) 6 (.pointer (some ⟨b34,0,none⟩))) 7 (.int .i64 zl8.length)) 8 (.int .i64 c)) 9 (.int .i64 (pnV (⟨zi7,zl8,zR9⟩:qo) (⟨zm10,zL11,zl12⟩:qw) c))) 11 (.int .i64 k)) 64 (.int .i64 c)) 65 (.bool ((c:Int) == 0))) 66 (.int .i64 (pnV (⟨zi7,zl8,zR9⟩:qo) (⟨zm10,zL11,zl12⟩:qw) c))) 67 (.bool (((pnV (⟨zi7,zl8,zR9⟩:qo) (⟨zm10,zL11,zl12⟩:qw) c):Int) == (-1)))) 68 (.bool (((c:Int) == 0) != (((pnV (⟨zi7,zl8,zR9⟩:qo) (⟨zm10,zL11,zl12⟩:qw) c):Int) == (-1))))∧((k:Int)≤zl8.length)∧m' =(zl8.length - (k:Int)).toNat∧Fresh w.heap.size [rF20,rF28]∧St w w64 [.box b34 [.slice (some ⟨b59,0,none⟩) zm10.length rc23,.slice ra24 zL11.length rc26,.slice ra29 zl12.length rc31] 31,.box b32 [.int .i64 zi7,.slice ra13 zl8.length rc15,.slice ra16 zR9.length rc18] 27,rr ra13 zl8.length rc15 2 1 (zl8.map (Value.int .i64)),rr ra16 zR9.length rc18 51 9 rx19,rr (some ⟨b59,0,none⟩) zm10.length rc23 4 1 (zm10.map (Value.bool)),rr ra24 zL11.length rc26 24 1 rx27,rr ra29 zl12.length rc31 2 1 (zl12.map (Value.int .i64))] [qM true rF20 rx19 zR9,qM true rF28 rx27 zL11,sF false Fmore amore cmore more]) ((zl8.length - (0:Int)).toNat) ⟨_,0,uE12,qc,rfl,N,H⟩ ?_
       clear H N
       rintro m' ρ w65 ⟨zX,k,rfl,i0,rfl,N,H⟩
       refine zcc (sps [.int .i64 k,.int .i64 zl8.length,.bool (decide ((k:Int) < zl8.length))] (zjn (cD rfl (fun h66=>?_) (fun h66=>?_))))
       ·skip
        refine xn (t_n (zF (xE (zcr (sw (xR [.int .i64 zi7,.slice ra13 zl8.length rc15,.slice ra16 zR9.length rc18] Try.isAgg27 Try.sizeOf27 rfl (qE (H.cells 1 rfl) 0 3) (sw (xR [.slice (some ⟨b59,0,none⟩) zm10.length rc23,.slice ra24 zL11.length rc26,.slice ra29 zl12.length rc31] Try.isAgg31 Try.sizeOf31 rfl (qE (H.cells 0 rfl) 0 3) (sp (.int .i64 k) ?_)))))))))
        obtain ⟨G67,hn68,h69⟩:=H.je 2 rfl
        obtain ⟨G70,hn71,h72⟩:=H.jV (α:=zM) 3 rfl 0 rfl qh
        obtain ⟨G73,hn74,h75⟩:=H.rowIsB 4 rfl
        obtain ⟨G76,hn77,h78⟩:=H.jV (α:=yLI) 5 rfl 1 rfl qh
        obtain ⟨G79,hn80,h81⟩:=H.je 6 rfl
        have sz85:=H.base.size
        refine sw (oc (implKids_ok _ (⟨zi7,zl8,zR9⟩:qo) (⟨zm10,zL11,zl12⟩:qw) k h69 h72 h75 h78 h81) ?_)
        rintro _ w83 ⟨ra82a,rn82a,rc82a,rfl,M,K⟩ _
        replace H:=H.merge K M
        obtain rfl:=H.zo 0 rfl
        refine sps [.tuple #[.slice ra82a ((vV (⟨zi7,zl8,zR9⟩:qo) (⟨zm10,zL11,zl12⟩:qw) k).length) rc82a,.int .i64 (qB (⟨zi7,zl8,zR9⟩:qo) (⟨zm10,zL11,zl12⟩:qw) k)],.slice ra82a ((vV (⟨zi7,zl8,zR9⟩:qo) (⟨zm10,zL11,zl12⟩:qw) k).length) rc82a,.int .i64 (qB (⟨zi7,zl8,zR9⟩:qo) (⟨zm10,zL11,zl12⟩:qw) k),.slice ra82a ((vV (⟨zi7,zl8,zR9⟩:qo) (⟨zm10,zL11,zl12⟩:qw) k).length) rc82a,.int .i64 (qB (⟨zi7,zl8,zR9⟩:qo) (⟨zm10,zL11,zl12⟩:qw) k)] (zjc ?_)
        refine sps [.int .i64 (qB (⟨zi7,zl8,zR9⟩:qo) (⟨zm10,zL11,zl12⟩:qw) k),.bool (((qB (⟨zi7,zl8,zR9⟩:qo) (⟨zm10,zL11,zl12⟩:qw) k):Int) == 0),.bool (((qB (⟨zi7,zl8,zR9⟩:qo) (⟨zm10,zL11,zl12⟩:qw) k):Int) == 0)] ?_
        cases h88:(((qB (⟨zi7,zl8,zR9⟩:qo) (⟨zm10,zL11,zl12⟩:qw) k):Int) == 0)
        ·skip
         replace h88:=ne_of_beq_false h88
         refine xh [85,86,87,88,89,90,91] (sp (.bool false) (zjn (xy false rfl (fun h=>absurd h qh) (fun _=>xn (b_n (t_n (zT (sp (.int .i64 k) (sw (vN k 1 rfl rfl qc (sp (.int .i64 (k+1)) (vg (xJ (m' :=(zl8.length - ((k+1):Int)).toNat) qc ⟨_,k+1,uE12,?_,rfl,N,H.pick [1,2,3,4,5,6,7] [0,1,2]⟩)))))))))))))
         · omega
        ·skip
         replace h88:=eq_of_beq h88
         refine qx 84 rfl rfl (sp (.slice ra82a ((vV (⟨zi7,zl8,zR9⟩:qo) (⟨zm10,zL11,zl12⟩:qw) k).length) rc82a) (qx 84 rfl rfl (sp (.int .i64 c) (qx 84 rfl rfl ?_))))
         obtain ⟨G89,hn90,h91⟩:=H.je 0 rfl
         refine sw (oq (a2Kid_ok _ (vV (⟨zi7,zl8,zR9⟩:qo) (⟨zm10,zL11,zl12⟩:qw) k) c h91) H fun w93 H=>qx 84 rfl rfl (sp (.int .i64 k) (qx 84 rfl rfl (sp (.int .i64 (pnV (⟨zi7,zl8,zR9⟩:qo) (⟨zm10,zL11,zl12⟩:qw) c)) (qx 84 rfl rfl (sp (.bool ((k:Int) == (pnV (⟨zi7,zl8,zR9⟩:qo) (⟨zm10,zL11,zl12⟩:qw) c))) (qx 84 rfl rfl (sw (o_neB Try.underlying4 (decide ((c:Int)∈(vV (⟨zi7,zl8,zR9⟩:qo) (⟨zm10,zL11,zl12⟩:qw) k))) ((k:Int) == (pnV (⟨zi7,zl8,zR9⟩:qo) (⟨zm10,zL11,zl12⟩:qw) c)) rfl rfl ?_)))))))))
         refine sp (.bool ((decide ((c:Int)∈(vV (⟨zi7,zl8,zR9⟩:qo) (⟨zm10,zL11,zl12⟩:qw) k))) != ((k:Int) == (pnV (⟨zi7,zl8,zR9⟩:qo) (⟨zm10,zL11,zl12⟩:qw) c)))) (zjn (xy ((decide ((c:Int)∈(vV (⟨zi7,zl8,zR9⟩:qo) (⟨zm10,zL11,zl12⟩:qw) k))) != ((k:Int) == (pnV (⟨zi7,zl8,zR9⟩:qo) (⟨zm10,zL11,zl12⟩:qw) c))) rfl (fun h95=>?_) (fun h95=>?_)))
         ·skip
          replace h95:=bne_iff_ne.1 h95
          exact (bool_ne h95 (by simpa using l3 k ⟨by omega,by show (k:Int)≤(zl8.length:Int) - 1;omega⟩ ‹qB _ _ (k:Int)=0›)).elim
         ·skip
          replace h95:=xC h95
          refine xn (b_n (t_n (zT (sp (.int .i64 k) (sw (vN k 1 rfl rfl qc (sp (.int .i64 (k+1)) (vg (xJ (m' :=(zl8.length - ((k+1):Int)).toNat) qc ⟨_,k+1,uE12,?_,rfl,N,H.pick [1,2,3,4,5,6,7] [0,1,2]⟩)))))))))
          · omega
       ·skip
        refine c_exit (t_x (t_x (b_x (b_n (t_n (zT (sp (.int .i64 c) (sw (vN c 1 rfl rfl qc (sp (.int .i64 (c+1)) (vg (xJ (m' :=(zl8.length - ((c+1):Int)).toNat) qc ⟨_,c+1,uE5,?_,rfl,N,H⟩))))))))))))
        · omega
     ·skip
      replace h62:=bne_iff_ne.1 h62
      refine xh [64,65,66,67,68] (sp (.bool true) (zjn (xy true rfl (fun _=>zcr (sp (.bool false) (zjr (t_r (zr5 (ret1 (.bool false) rfl rfl ⟨_,rfl,?_,H.base⟩)))))) (fun h=>absurd h qh))))
      exfalso;first | omega | contradiction | exact bool_ne ‹_› (by simpa using l2)
   ·skip
    refine zx4 (zcr (sps [.slice amore more.length cmore,.int .i64 zl8.length] (sw (oq (a2At_ok _ more 0 zl8.length (H.get 2 rfl).1 qf) H fun w97 H=>?_))))
    have ba:=atV_bd more 0 (n:=(zl8.length:Int)) qc
    have cI:jJ (⟨zi7,zl8,zR9⟩:qo) (atV more 0 zl8.length):=⟨ba.1,ba.2⟩
    refine sp (.int .i64 (atV more 0 zl8.length)) (zjc (sw (xR [.int .i64 zi7,.slice ra13 zl8.length rc15,.slice ra16 zR9.length rc18] Try.isAgg27 Try.sizeOf27 rfl (qE (H.cells 1 rfl) 0 3) (sw (xR [.slice ra21 zm10.length rc23,.slice ra24 zL11.length rc26,.slice ra29 zl12.length rc31] Try.isAgg31 Try.sizeOf31 rfl (qE (H.cells 0 rfl) 0 3) (sp (.int .i64 (atV more 0 zl8.length)) ?_))))))
    obtain ⟨G99,hn100,h101⟩:=H.je 2 rfl
    obtain ⟨G102,hn103,h104⟩:=H.jV (α:=zM) 3 rfl 0 rfl qh
    obtain ⟨G105,hn106,h107⟩:=H.rowIsB 4 rfl
    obtain ⟨G108,hn109,h110⟩:=H.jV (α:=yLI) 5 rfl 1 rfl qh
    obtain ⟨G111,hn112,h113⟩:=H.je 6 rfl
    have sz117:=H.base.size
    have lt118:=H.ltN (L:=[rF20,rF28]) [0,1]
    refine sw (oc (implMelt_ok _ (⟨zi7,zl8,zR9⟩:qo) (⟨zm10,zL11,zl12⟩:qw) (atV more 0 zl8.length) h101 h104 h107 h110 h113) ?_)
    rintro _ w115 ⟨ra114aAlive,rn114aAlive,rc114aAlive,ra114aBags,rn114aBags,rc114aBags,rx114aBags,rF114aBags,ra114aAround,rn114aAround,rc114aAround,rfl,M,K⟩ _
    replace N:=N.merge sz117 lt118 M
    replace H:=H.merge K M
    obtain rfl:=H.rowNB 0 rfl
    obtain rfl:=H.jf (α:=yLI) 1 rfl 0 rfl qh
    obtain rfl:=H.zo 2 rfl
    refine sps [.tuple #[.agg #[.slice ra114aAlive ((((qQ (⟨zi7,zl8,zR9⟩:qo) (⟨zm10,zL11,zl12⟩:qw) (atV more 0 zl8.length)).1).qF).length) rc114aAlive,.slice ra114aBags ((((qQ (⟨zi7,zl8,zR9⟩:qo) (⟨zm10,zL11,zl12⟩:qw) (atV more 0 zl8.length)).1).qK).length) rc114aBags,.slice ra114aAround ((((qQ (⟨zi7,zl8,zR9⟩:qo) (⟨zm10,zL11,zl12⟩:qw) (atV more 0 zl8.length)).1).qG).length) rc114aAround],.int .i64 ((qQ (⟨zi7,zl8,zR9⟩:qo) (⟨zm10,zL11,zl12⟩:qw) (atV more 0 zl8.length)).2)],.agg #[.slice ra114aAlive ((((qQ (⟨zi7,zl8,zR9⟩:qo) (⟨zm10,zL11,zl12⟩:qw) (atV more 0 zl8.length)).1).qF).length) rc114aAlive,.slice ra114aBags ((((qQ (⟨zi7,zl8,zR9⟩:qo) (⟨zm10,zL11,zl12⟩:qw) (atV more 0 zl8.length)).1).qK).length) rc114aBags,.slice ra114aAround ((((qQ (⟨zi7,zl8,zR9⟩:qo) (⟨zm10,zL11,zl12⟩:qw) (atV more 0 zl8.length)).1).qG).length) rc114aAround],.int .i64 ((qQ (⟨zi7,zl8,zR9⟩:qo) (⟨zm10,zL11,zl12⟩:qw) (atV more 0 zl8.length)).2)] ?_
    refine sw (xk H ti31 [.slice none 0 0,.slice none 0 0,.slice none 0 0] fun b122 w123 H=>sw (qL H 0 [.slice ra114aAlive ((((qQ (⟨zi7,zl8,zR9⟩:qo) (⟨zm10,zL11,zl12⟩:qw) (atV more 0 zl8.length)).1).qF).length) rc114aAlive,.slice ra114aBags ((((qQ (⟨zi7,zl8,zR9⟩:qo) (⟨zm10,zL11,zl12⟩:qw) (atV more 0 zl8.length)).1).qK).length) rc114aBags,.slice ra114aAround ((((qQ (⟨zi7,zl8,zR9⟩:qo) (⟨zm10,zL11,zl12⟩:qw) (atV more 0 zl8.length)).1).qG).length) rc114aAround] Try.sizeOf31 fun w124 H=>?_))
    refine sp (.int .i64 ((qQ (⟨zi7,zl8,zR9⟩:qo) (⟨zm10,zL11,zl12⟩:qw) (atV more 0 zl8.length)).2)) (zjcc (sps [.int .i64 (atV more 0 zl8.length),.bool (((atV more 0 zl8.length):Int) == 0),.bool (((atV more 0 zl8.length):Int) == 0)] ?_))
    cases h125:(((atV more 0 zl8.length):Int) == 0)
    ·skip
     replace h125:=ne_of_beq_false h125
     refine qx 105 rfl rfl (oF rfl (qx 105 rfl rfl (oL rfl (H.cell 4 rfl rfl) (qx 105 rfl rfl (sp (.int .i64 (atV more 0 zl8.length)) (qx 105 rfl rfl ?_))))))
     obtain ⟨b126,rfl⟩:=H.rowAddr 8 rfl qc
     refine oI rfl rfl (qx 105 rfl rfl (oL rfl (H.rowBool 8 rfl (iv:=(atV more 0 zl8.length)) (i:=((atV more 0 zl8.length).toNat)) qc qc) (qx 105 rfl rfl (sps [.bool (!(zm10[(atV more 0 zl8.length).toNat]!)),.bool (!(zm10[(atV more 0 zl8.length).toNat]!))] (zjn (xy (!(zm10[(atV more 0 zl8.length).toNat]!)) rfl (fun h127=>?_) (fun h127=>?_)))))))
     ·skip
      replace h127:=qX h127
      refine zcr (sps [.int .i64 ((qQ (⟨zi7,zl8,zR9⟩:qo) (⟨zm10,zL11,zl12⟩:qw) (atV more 0 zl8.length)).2),.bool (((qQ (⟨zi7,zl8,zR9⟩:qo) (⟨zm10,zL11,zl12⟩:qw) (atV more 0 zl8.length)).2:Int) == 4),.bool (((qQ (⟨zi7,zl8,zR9⟩:qo) (⟨zm10,zL11,zl12⟩:qw) (atV more 0 zl8.length)).2:Int) == 4)] (zjr (t_r (ret1 (.bool (((qQ (⟨zi7,zl8,zR9⟩:qo) (⟨zm10,zL11,zl12⟩:qw) (atV more 0 zl8.length)).2:Int) == 4)) rfl rfl ⟨_,rfl,?_,H.base⟩))))
      rw [tree_no k1 k2 cI (by first | exact .inl ‹_› | exact .inr ‹_›)];rfl
     ·skip
      replace h127:=qP h127
      have Z:=tree_at k1 k2 f5 cI qi qi
      have z1:=Z.code
      have z2:=Z.cc
      have z3:=Z.ok
      have z4:0≤pnV (⟨zi7,zl8,zR9⟩:qo) (⟨zm10,zL11,zl12⟩:qw) (atV more 0 zl8.length)∧pnV (⟨zi7,zl8,zR9⟩:qo) (⟨zm10,zL11,zl12⟩:qw) (atV more 0 zl8.length) < (zl8.length:Int):=Z.par
      have z5:=Z.bag
      have z6:=Z.add
      have z7:jD (jb (qQ (⟨zi7,zl8,zR9⟩:qo) (⟨zm10,zL11,zl12⟩:qw) (atV more 0 zl8.length)).1 ((⟨zi7,zl8,zR9⟩:qo)).qp.length):=by rw [Z.total];exact Z.bag
      have z10:=Z.few
      have z8:(qQ (⟨zi7,zl8,zR9⟩:qo) (⟨zm10,zL11,zl12⟩:qw) (atV more 0 zl8.length)).1.qF.length=zl8.length:=z3.2.1
      have z9:(qQ (⟨zi7,zl8,zR9⟩:qo) (⟨zm10,zL11,zl12⟩:qw) (atV more 0 zl8.length)).1.qK.length=zl8.length:=z3.2.2.1
      refine xn (t_n (zcr (sw (xR [.int .i64 zi7,.slice ra13 zl8.length rc15,.slice ra16 zR9.length rc18] Try.isAgg27 Try.sizeOf27 rfl (qE (H.cells 5 rfl) 0 3) (sw (xR [.slice (some ⟨b126,0,none⟩) zm10.length rc23,.slice ra24 zL11.length rc26,.slice ra29 zl12.length rc31] Try.isAgg31 Try.sizeOf31 rfl (qE (H.cells 4 rfl) 0 3) (sp (.int .i64 (atV more 0 zl8.length)) ?_)))))))
      obtain ⟨G128,hn129,h130⟩:=H.je 6 rfl
      obtain ⟨G131,hn132,h133⟩:=H.jV (α:=zM) 7 rfl 1 rfl qh
      obtain ⟨G134,hn135,h136⟩:=H.rowIsB 8 rfl
      obtain ⟨G137,hn138,h139⟩:=H.jV (α:=yLI) 9 rfl 2 rfl qh
      obtain ⟨G140,hn141,h142⟩:=H.je 10 rfl
      refine sw (oq (implPar_ok _ (⟨zi7,zl8,zR9⟩:qo) (⟨zm10,zL11,zl12⟩:qw) (atV more 0 zl8.length) h130 h133 h136 h139 h142) H fun w144 H=>?_)
      refine sps [.tuple #[.int .i64 (pnV (⟨zi7,zl8,zR9⟩:qo) (⟨zm10,zL11,zl12⟩:qw) (atV more 0 zl8.length)),.int .i64 (qB (⟨zi7,zl8,zR9⟩:qo) (⟨zm10,zL11,zl12⟩:qw) (atV more 0 zl8.length))],.int .i64 (pnV (⟨zi7,zl8,zR9⟩:qo) (⟨zm10,zL11,zl12⟩:qw) (atV more 0 zl8.length)),.int .i64 (qB (⟨zi7,zl8,zR9⟩:qo) (⟨zm10,zL11,zl12⟩:qw) (atV more 0 zl8.length)),.int .i64 (pnV (⟨zi7,zl8,zR9⟩:qo) (⟨zm10,zL11,zl12⟩:qw) (atV more 0 zl8.length)),.int .i64 (qB (⟨zi7,zl8,zR9⟩:qo) (⟨zm10,zL11,zl12⟩:qw) (atV more 0 zl8.length))] (zjc ?_)
      refine sw (xR [.int .i64 zi7,.slice ra13 zl8.length rc15,.slice ra16 zR9.length rc18] Try.isAgg27 Try.sizeOf27 rfl (qE (H.cells 5 rfl) 0 3) (sw (xR [.slice (some ⟨b126,0,none⟩) zm10.length rc23,.slice ra24 zL11.length rc26,.slice ra29 zl12.length rc31] Try.isAgg31 Try.sizeOf31 rfl (qE (H.cells 4 rfl) 0 3) (sp (.int .i64 (atV more 0 zl8.length)) ?_))))
      obtain ⟨G146,hn147,h148⟩:=H.je 6 rfl
      obtain ⟨G149,hn150,h151⟩:=H.jV (α:=zM) 7 rfl 1 rfl qh
      obtain ⟨G152,hn153,h154⟩:=H.rowIsB 8 rfl
      obtain ⟨G155,hn156,h157⟩:=H.jV (α:=yLI) 9 rfl 2 rfl qh
      obtain ⟨G158,hn159,h160⟩:=H.je 10 rfl
      have sz164:=H.base.size
      refine sw (oc (implKids_ok _ (⟨zi7,zl8,zR9⟩:qo) (⟨zm10,zL11,zl12⟩:qw) (atV more 0 zl8.length) h148 h151 h154 h157 h160) ?_)
      rintro _ w162 ⟨ra161a,rn161a,rc161a,rfl,M,K⟩ _
      replace H:=H.merge K M
      obtain rfl:=H.zo 0 rfl
      refine sps [.tuple #[.slice ra161a ((vV (⟨zi7,zl8,zR9⟩:qo) (⟨zm10,zL11,zl12⟩:qw) (atV more 0 zl8.length)).length) rc161a,.int .i64 (qB (⟨zi7,zl8,zR9⟩:qo) (⟨zm10,zL11,zl12⟩:qw) (atV more 0 zl8.length))],.slice ra161a ((vV (⟨zi7,zl8,zR9⟩:qo) (⟨zm10,zL11,zl12⟩:qw) (atV more 0 zl8.length)).length) rc161a,.int .i64 (qB (⟨zi7,zl8,zR9⟩:qo) (⟨zm10,zL11,zl12⟩:qw) (atV more 0 zl8.length)),.slice ra161a ((vV (⟨zi7,zl8,zR9⟩:qo) (⟨zm10,zL11,zl12⟩:qw) (atV more 0 zl8.length)).length) rc161a,.int .i64 (qB (⟨zi7,zl8,zR9⟩:qo) (⟨zm10,zL11,zl12⟩:qw) (atV more 0 zl8.length))] ?_
      refine zjcc (sps [.int .i64 ((qQ (⟨zi7,zl8,zR9⟩:qo) (⟨zm10,zL11,zl12⟩:qw) (atV more 0 zl8.length)).2),.bool (((qQ (⟨zi7,zl8,zR9⟩:qo) (⟨zm10,zL11,zl12⟩:qw) (atV more 0 zl8.length)).2:Int) != 0),.bool (((qQ (⟨zi7,zl8,zR9⟩:qo) (⟨zm10,zL11,zl12⟩:qw) (atV more 0 zl8.length)).2:Int) != 0)] ?_)
      cases h167:(((qQ (⟨zi7,zl8,zR9⟩:qo) (⟨zm10,zL11,zl12⟩:qw) (atV more 0 zl8.length)).2:Int) != 0)
      ·skip
       replace h167:=xC h167
       refine qx 131 rfl rfl (sp (.int .i64 (qB (⟨zi7,zl8,zR9⟩:qo) (⟨zm10,zL11,zl12⟩:qw) (atV more 0 zl8.length))) (qx 131 rfl rfl (sps [.bool (((qB (⟨zi7,zl8,zR9⟩:qo) (⟨zm10,zL11,zl12⟩:qw) (atV more 0 zl8.length)):Int) != 0),.bool (((qB (⟨zi7,zl8,zR9⟩:qo) (⟨zm10,zL11,zl12⟩:qw) (atV more 0 zl8.length)):Int) != 0),.bool (((qB (⟨zi7,zl8,zR9⟩:qo) (⟨zm10,zL11,zl12⟩:qw) (atV more 0 zl8.length)):Int) != 0)] ?_)))
       cases h168:(((qB (⟨zi7,zl8,zR9⟩:qo) (⟨zm10,zL11,zl12⟩:qw) (atV more 0 zl8.length)):Int) != 0)
       ·skip
        replace h168:=xC h168
        refine qx 135 rfl rfl (sp (.int .i64 (qB (⟨zi7,zl8,zR9⟩:qo) (⟨zm10,zL11,zl12⟩:qw) (atV more 0 zl8.length))) (qx 135 rfl rfl (sps [.bool (((qB (⟨zi7,zl8,zR9⟩:qo) (⟨zm10,zL11,zl12⟩:qw) (atV more 0 zl8.length)):Int) != 0),.bool (((qB (⟨zi7,zl8,zR9⟩:qo) (⟨zm10,zL11,zl12⟩:qw) (atV more 0 zl8.length)):Int) != 0),.bool (((qB (⟨zi7,zl8,zR9⟩:qo) (⟨zm10,zL11,zl12⟩:qw) (atV more 0 zl8.length)):Int) != 0)] ?_)))
        cases h169:(((qB (⟨zi7,zl8,zR9⟩:qo) (⟨zm10,zL11,zl12⟩:qw) (atV more 0 zl8.length)):Int) != 0)
        ·skip
         replace h169:=xC h169
         refine qx 139 rfl rfl (sw (xR [.int .i64 zi7,.slice ra13 zl8.length rc15,.slice ra16 zR9.length rc18] Try.isAgg27 Try.sizeOf27 rfl (qE (H.cells 6 rfl) 0 3) (qx 139 rfl rfl ?_)))
         refine sw (xR [.slice ra114aAlive ((((qQ (⟨zi7,zl8,zR9⟩:qo) (⟨zm10,zL11,zl12⟩:qw) (atV more 0 zl8.length)).1).qF).length) rc114aAlive,.slice ra114aBags ((((qQ (⟨zi7,zl8,zR9⟩:qo) (⟨zm10,zL11,zl12⟩:qw) (atV more 0 zl8.length)).1).qK).length) rc114aBags,.slice ra114aAround ((((qQ (⟨zi7,zl8,zR9⟩:qo) (⟨zm10,zL11,zl12⟩:qw) (atV more 0 zl8.length)).1).qG).length) rc114aAround] Try.isAgg31 Try.sizeOf31 rfl (qE (H.cells 1 rfl) 0 3) (qx 139 rfl rfl ?_))
         obtain ⟨G170,hn171,h172⟩:=H.je 7 rfl
         obtain ⟨G173,hn174,h175⟩:=H.jV (α:=zM) 8 rfl 1 rfl qh
         obtain ⟨G176,hn177,h178⟩:=H.rowIsB 2 rfl
         obtain ⟨G179,hn180,h181⟩:=H.jV (α:=yLI) 3 rfl 0 rfl qh
         obtain ⟨G182,hn183,h184⟩:=H.je 4 rfl
         refine sw (oq (specValid_ok _ (⟨zi7,zl8,zR9⟩:qo) ((qQ (⟨zi7,zl8,zR9⟩:qo) (⟨zm10,zL11,zl12⟩:qw) (atV more 0 zl8.length)).1) h172 h175 h178 h181 h184) H fun w186 H=>qx 139 rfl rfl ?_)
         refine sps [.bool (!(dec (jk (⟨zi7,zl8,zR9⟩:qo)∧xY (⟨zi7,zl8,zR9⟩:qo) ((qQ (⟨zi7,zl8,zR9⟩:qo) (⟨zm10,zL11,zl12⟩:qw) (atV more 0 zl8.length)).1)))),.bool (!(dec (jk (⟨zi7,zl8,zR9⟩:qo)∧xY (⟨zi7,zl8,zR9⟩:qo) ((qQ (⟨zi7,zl8,zR9⟩:qo) (⟨zm10,zL11,zl12⟩:qw) (atV more 0 zl8.length)).1)))),.bool (!(dec (jk (⟨zi7,zl8,zR9⟩:qo)∧xY (⟨zi7,zl8,zR9⟩:qo) ((qQ (⟨zi7,zl8,zR9⟩:qo) (⟨zm10,zL11,zl12⟩:qw) (atV more 0 zl8.length)).1))))] ?_
         cases h188:(!(dec (jk (⟨zi7,zl8,zR9⟩:qo)∧xY (⟨zi7,zl8,zR9⟩:qo) ((qQ (⟨zi7,zl8,zR9⟩:qo) (⟨zm10,zL11,zl12⟩:qw) (atV more 0 zl8.length)).1))))
         ·skip
          replace h188:=qP h188
          replace h188:=vW h188
          refine qx 145 rfl rfl (oF rfl (qx 145 rfl rfl (oL rfl (H.cell 1 rfl rfl) (qx 145 rfl rfl (sp (.int .i64 (atV more 0 zl8.length)) (qx 145 rfl rfl ?_))))))
          obtain ⟨b189,rfl⟩:=H.rowAddr 2 rfl qc
          refine oI rfl rfl (qx 145 rfl rfl (oL rfl (H.rowBool 2 rfl (iv:=(atV more 0 zl8.length)) (i:=((atV more 0 zl8.length).toNat)) qc qc) (sps [.bool ((((qQ (⟨zi7,zl8,zR9⟩:qo) (⟨zm10,zL11,zl12⟩:qw) (atV more 0 zl8.length)).1).qF)[(atV more 0 zl8.length).toNat]!),.bool ((((qQ (⟨zi7,zl8,zR9⟩:qo) (⟨zm10,zL11,zl12⟩:qw) (atV more 0 zl8.length)).1).qF)[(atV more 0 zl8.length).toNat]!)] ?_)))
          cases h190:((((qQ (⟨zi7,zl8,zR9⟩:qo) (⟨zm10,zL11,zl12⟩:qw) (atV more 0 zl8.length)).1).qF)[(atV more 0 zl8.length).toNat]!)
          ·skip
           refine qx 152 rfl rfl (sp (.int .i64 (pnV (⟨zi7,zl8,zR9⟩:qo) (⟨zm10,zL11,zl12⟩:qw) (atV more 0 zl8.length))) (qx 152 rfl rfl (sps [.bool (decide (((pnV (⟨zi7,zl8,zR9⟩:qo) (⟨zm10,zL11,zl12⟩:qw) (atV more 0 zl8.length)):Int) < 0)),.bool (decide (((pnV (⟨zi7,zl8,zR9⟩:qo) (⟨zm10,zL11,zl12⟩:qw) (atV more 0 zl8.length)):Int) < 0)),.bool (decide (((pnV (⟨zi7,zl8,zR9⟩:qo) (⟨zm10,zL11,zl12⟩:qw) (atV more 0 zl8.length)):Int) < 0))] ?_)))
           cases h191:(decide (((pnV (⟨zi7,zl8,zR9⟩:qo) (⟨zm10,zL11,zl12⟩:qw) (atV more 0 zl8.length)):Int) < 0))
           ·skip
            replace h191:=of_decide_eq_false h191
            refine qx 156 rfl rfl (sp (.int .i64 (pnV (⟨zi7,zl8,zR9⟩:qo) (⟨zm10,zL11,zl12⟩:qw) (atV more 0 zl8.length))) (qx 156 rfl rfl (sp (.int .i64 zl8.length) (qx 156 rfl rfl (sps [.bool (decide (((pnV (⟨zi7,zl8,zR9⟩:qo) (⟨zm10,zL11,zl12⟩:qw) (atV more 0 zl8.length)):Int)≥zl8.length)),.bool (decide (((pnV (⟨zi7,zl8,zR9⟩:qo) (⟨zm10,zL11,zl12⟩:qw) (atV more 0 zl8.length)):Int)≥zl8.length))] (zjn (cD rfl (fun h192=>?_) (fun h192=>?_))))))))
            ·skip
             refine zcr (sp (.bool false) (zjr (t_r (ret1 (.bool false) rfl rfl ⟨_,rfl,?_,H.base⟩))))
             exfalso;first | omega | contradiction | exact bool_ne ‹_› (by simpa using l2)
            ·skip
             refine xn (t_n (zcc (sp (.int .i64 0) (zjn (xE ?_)))))
             refine vT (fun m' ρ w193=>∃ (zX:Env) (i:Nat),ρ=upd (upd (upd (upd (upd (upd (upd zX 5 (.pointer (some ⟨b32,0,none⟩))) 6 (.pointer (some ⟨b34,0,none⟩))) 14 (.int .i64 (atV more 0 zl8.length))) 15 (.pointer (some ⟨b122,0,none⟩))) 17 (.int .i64 (pnV (⟨zi7,zl8,zR9⟩:qo) (⟨zm10,zL11,zl12⟩:qw) (atV more 0 zl8.length)))) 19 (.slice ra161a ((vV (⟨zi7,zl8,zR9⟩:qo) (⟨zm10,zL11,zl12⟩:qw) (atV more 0 zl8.length)).length) rc161a)) 21 (.int .i64 i)∧((i:Int)≤((vV (⟨zi7,zl8,zR9⟩:qo) (⟨zm10,zL11,zl12⟩:qw) (atV more 0 zl8.length)).length))∧m' =(((vV (⟨zi7,zl8,zR9⟩:qo) (⟨zm10,zL11,zl12⟩:qw) (atV more 0 zl8.length)).length) - (i:Int)).toNat∧Fresh w.heap.size [rF114aBags,rF20,rF28]∧St w w193 [rr ra161a ((vV (⟨zi7,zl8,zR9⟩:qo) (⟨zm10,zL11,zl12⟩:qw) (atV more 0 zl8.length)).length) rc161a 2 1 ((vV (⟨zi7,zl8,zR9⟩:qo) (⟨zm10,zL11,zl12⟩:qw) (atV more 0 zl8.length)).map (Value.int .i64)),.box b122 [.slice (some ⟨b189,0,none⟩) ((((qQ (⟨zi7,zl8,zR9⟩:qo) (⟨zm10,zL11,zl12⟩:qw) (atV more 0 zl8.length)).1).qF).length) rc114aAlive,.slice ra114aBags ((((qQ (⟨zi7,zl8,zR9⟩:qo) (⟨zm10,zL11,zl12⟩:qw) (atV more 0 zl8.length)).1).qK).length) rc114aBags,.slice ra114aAround ((((qQ (⟨zi7,zl8,zR9⟩:qo) (⟨zm10,zL11,zl12⟩:qw) (atV more 0 zl8.length)).1).qG).length) rc114aAround] 31,rr (some ⟨b189,0,none⟩) ((((qQ (⟨zi7,zl8,zR9⟩:qo) (⟨zm10,zL11,zl12⟩:qw) (atV more 0 zl8.length)).1).qF).length) rc114aAlive 4 1 ((((qQ (⟨zi7,zl8,zR9⟩:qo) (⟨zm10,zL11,zl12⟩:qw) (atV more 0 zl8.length)).1).qF).map (Value.bool)),rr ra114aBags ((((qQ (⟨zi7,zl8,zR9⟩:qo) (⟨zm10,zL11,zl12⟩:qw) (atV more 0 zl8.length)).1).qK).length) rc114aBags 24 1 rx114aBags,rr ra114aAround ((((qQ (⟨zi7,zl8,zR9⟩:qo) (⟨zm10,zL11,zl12⟩:qw) (atV more 0 zl8.length)).1).qG).length) rc114aAround 2 1 ((((qQ (⟨zi7,zl8,zR9⟩:qo) (⟨zm10,zL11,zl12⟩:qw) (atV more 0 zl8.length)).1).qG).map (Value.int .i64)),.box b34 [.slice (some ⟨b126,0,none⟩) zm10.length rc23,.slice ra24 zL11.length rc26,.slice ra29 zl12.length rc31] 31,.box b32 [.int .i64 zi7,.slice ra13 zl8.length rc15,.slice ra16 zR9.length rc18] 27,rr ra13 zl8.length rc15 2 1 (zl8.map (Value.int .i64)),rr ra16 zR9.length rc18 51 9 rx19,rr (some ⟨b126,0,none⟩) zm10.length rc23 4 1 (zm10.map (Value.bool)),rr ra24 zL11.length rc26 24 1 rx27,rr ra29 zl12.length rc31 2 1 (zl12.map (Value.int .i64))] [qM true rF114aBags rx114aBags (((qQ (⟨zi7,zl8,zR9⟩:qo) (⟨zm10,zL11,zl12⟩:qw) (atV more 0 zl8.length)).1).qK),qM true rF20 rx19 zR9,qM true rF28 rx27 zL11]) ((((vV (⟨zi7,zl8,zR9⟩:qo) (⟨zm10,zL11,zl12⟩:qw) (atV more 0 zl8.length)).length) - (0:Int)).toNat) ⟨_,0,uE7,qc,rfl,N,H.pick [0,1,2,3,4,5,6,7,8,9,10,11] [0,1,2]⟩ ?_
             clear H N
             rintro m' ρ w194 ⟨zX,i,rfl,i0,rfl,N,H⟩
             refine zcc (sps [.int .i64 i,.slice ra161a ((vV (⟨zi7,zl8,zR9⟩:qo) (⟨zm10,zL11,zl12⟩:qw) (atV more 0 zl8.length)).length) rc161a] (oN rfl (sp (.bool (decide ((i:Int) < ((vV (⟨zi7,zl8,zR9⟩:qo) (⟨zm10,zL11,zl12⟩:qw) (atV more 0 zl8.length)).length)))) (zjn (cD rfl (fun h195=>?_) (fun h195=>?_))))))
             ·skip
              obtain ⟨y1,y2⟩:=Z.kids i qc
              refine xn (t_n (zF (xE (zF ?_))))
              refine c_drawH rfl H fun H=>rt 0 (.agg #[.int .i64 zi7,.slice ra13 zl8.length rc15,.slice ra16 zR9.length rc18]) (y_loadN (cs:=[.int .i64 zi7,.slice ra13 zl8.length rc15,.slice ra16 zR9.length rc18]) Try.isAgg27 Try.sizeOf27 rfl (fun _ h=>qE (h.cells 6 rfl) 0 3)) H ?_
              refine rt 1 (.agg #[.slice (some ⟨b189,0,none⟩) ((((qQ (⟨zi7,zl8,zR9⟩:qo) (⟨zm10,zL11,zl12⟩:qw) (atV more 0 zl8.length)).1).qF).length) rc114aAlive,.slice ra114aBags ((((qQ (⟨zi7,zl8,zR9⟩:qo) (⟨zm10,zL11,zl12⟩:qw) (atV more 0 zl8.length)).1).qK).length) rc114aBags,.slice ra114aAround ((((qQ (⟨zi7,zl8,zR9⟩:qo) (⟨zm10,zL11,zl12⟩:qw) (atV more 0 zl8.length)).1).qG).length) rc114aAround]) (y_loadN (cs:=[.slice (some ⟨b189,0,none⟩) ((((qQ (⟨zi7,zl8,zR9⟩:qo) (⟨zm10,zL11,zl12⟩:qw) (atV more 0 zl8.length)).1).qF).length) rc114aAlive,.slice ra114aBags ((((qQ (⟨zi7,zl8,zR9⟩:qo) (⟨zm10,zL11,zl12⟩:qw) (atV more 0 zl8.length)).1).qK).length) rc114aBags,.slice ra114aAround ((((qQ (⟨zi7,zl8,zR9⟩:qo) (⟨zm10,zL11,zl12⟩:qw) (atV more 0 zl8.length)).1).qG).length) rc114aAround]) Try.isAgg31 Try.sizeOf31 rfl (fun _ h=>qE (h.cells 1 rfl) 0 3)) H ?_
              refine rtp 2 (.slice ra161a ((vV (⟨zi7,zl8,zR9⟩:qo) (⟨zm10,zL11,zl12⟩:qw) (atV more 0 zl8.length)).length) rc161a) H ?_
              refine rtp 3 (.int .i64 i) H ?_
              obtain ⟨b197,rfl⟩:=H.rowAddr 0 rfl qc
              refine tI 4 rfl rfl rfl H ?_
              refine tL 5 rfl rfl (fun _ h=>h.rowInt 0 rfl (iv:=i) (i:=i) qc qc) H ?_
              refine ro 6 rfl ?_
              obtain ⟨G198,hn199,h200⟩:=H.je 7 rfl
              obtain ⟨G201,hn202,h203⟩:=H.jV (α:=zM) 8 rfl 1 rfl qh
              obtain ⟨G204,hn205,h206⟩:=H.rowIsB 2 rfl
              obtain ⟨G207,hn208,h209⟩:=H.jV (α:=yLI) 3 rfl 0 rfl qh
              obtain ⟨G210,hn211,h212⟩:=H.je 4 rfl
              refine oq (implPar_ok _ (⟨zi7,zl8,zR9⟩:qo) ((qQ (⟨zi7,zl8,zR9⟩:qo) (⟨zm10,zL11,zl12⟩:qw) (atV more 0 zl8.length)).1) ((vV (⟨zi7,zl8,zR9⟩:qo) (⟨zm10,zL11,zl12⟩:qw) (atV more 0 zl8.length))[i]!) h200 h203 h206 h209 h212) H fun w214 H=>⟨H,?_⟩
              refine rtp 7 (.tuple #[.int .i64 (pnV (⟨zi7,zl8,zR9⟩:qo) ((qQ (⟨zi7,zl8,zR9⟩:qo) (⟨zm10,zL11,zl12⟩:qw) (atV more 0 zl8.length)).1) ((vV (⟨zi7,zl8,zR9⟩:qo) (⟨zm10,zL11,zl12⟩:qw) (atV more 0 zl8.length))[i]!)),.int .i64 (qB (⟨zi7,zl8,zR9⟩:qo) ((qQ (⟨zi7,zl8,zR9⟩:qo) (⟨zm10,zL11,zl12⟩:qw) (atV more 0 zl8.length)).1) ((vV (⟨zi7,zl8,zR9⟩:qo) (⟨zm10,zL11,zl12⟩:qw) (atV more 0 zl8.length))[i]!))]) H ?_
              refine rtp 8 (.int .i64 (pnV (⟨zi7,zl8,zR9⟩:qo) ((qQ (⟨zi7,zl8,zR9⟩:qo) (⟨zm10,zL11,zl12⟩:qw) (atV more 0 zl8.length)).1) ((vV (⟨zi7,zl8,zR9⟩:qo) (⟨zm10,zL11,zl12⟩:qw) (atV more 0 zl8.length))[i]!))) H ?_
              refine rtp 9 (.int .i64 (qB (⟨zi7,zl8,zR9⟩:qo) ((qQ (⟨zi7,zl8,zR9⟩:qo) (⟨zm10,zL11,zl12⟩:qw) (atV more 0 zl8.length)).1) ((vV (⟨zi7,zl8,zR9⟩:qo) (⟨zm10,zL11,zl12⟩:qw) (atV more 0 zl8.length))[i]!))) H ?_
              refine rtp 10 (.int .i64 (pnV (⟨zi7,zl8,zR9⟩:qo) ((qQ (⟨zi7,zl8,zR9⟩:qo) (⟨zm10,zL11,zl12⟩:qw) (atV more 0 zl8.length)).1) ((vV (⟨zi7,zl8,zR9⟩:qo) (⟨zm10,zL11,zl12⟩:qw) (atV more 0 zl8.length))[i]!))) H ?_
              refine rtp 11 (.int .i64 (qB (⟨zi7,zl8,zR9⟩:qo) ((qQ (⟨zi7,zl8,zR9⟩:qo) (⟨zm10,zL11,zl12⟩:qw) (atV more 0 zl8.length)).1) ((vV (⟨zi7,zl8,zR9⟩:qo) (⟨zm10,zL11,zl12⟩:qw) (atV more 0 zl8.length))[i]!))) H ?_
              refine qZ qg (t_n (zcr ?_))
              refine sps [.int .i64 (qB (⟨zi7,zl8,zR9⟩:qo) ((qQ (⟨zi7,zl8,zR9⟩:qo) (⟨zm10,zL11,zl12⟩:qw) (atV more 0 zl8.length)).1) ((vV (⟨zi7,zl8,zR9⟩:qo) (⟨zm10,zL11,zl12⟩:qw) (atV more 0 zl8.length))[i]!)),.bool (((qB (⟨zi7,zl8,zR9⟩:qo) ((qQ (⟨zi7,zl8,zR9⟩:qo) (⟨zm10,zL11,zl12⟩:qw) (atV more 0 zl8.length)).1) ((vV (⟨zi7,zl8,zR9⟩:qo) (⟨zm10,zL11,zl12⟩:qw) (atV more 0 zl8.length))[i]!)):Int) != 0),.bool (((qB (⟨zi7,zl8,zR9⟩:qo) ((qQ (⟨zi7,zl8,zR9⟩:qo) (⟨zm10,zL11,zl12⟩:qw) (atV more 0 zl8.length)).1) ((vV (⟨zi7,zl8,zR9⟩:qo) (⟨zm10,zL11,zl12⟩:qw) (atV more 0 zl8.length))[i]!)):Int) != 0)] ?_
              cases h216:(((qB (⟨zi7,zl8,zR9⟩:qo) ((qQ (⟨zi7,zl8,zR9⟩:qo) (⟨zm10,zL11,zl12⟩:qw) (atV more 0 zl8.length)).1) ((vV (⟨zi7,zl8,zR9⟩:qo) (⟨zm10,zL11,zl12⟩:qw) (atV more 0 zl8.length))[i]!)):Int) != 0)
              ·skip
               replace h216:=xC h216
               refine qx 179 rfl rfl (sp (.int .i64 (pnV (⟨zi7,zl8,zR9⟩:qo) ((qQ (⟨zi7,zl8,zR9⟩:qo) (⟨zm10,zL11,zl12⟩:qw) (atV more 0 zl8.length)).1) ((vV (⟨zi7,zl8,zR9⟩:qo) (⟨zm10,zL11,zl12⟩:qw) (atV more 0 zl8.length))[i]!))) (qx 179 rfl rfl (sp (.int .i64 (pnV (⟨zi7,zl8,zR9⟩:qo) (⟨zm10,zL11,zl12⟩:qw) (atV more 0 zl8.length))) (qx 179 rfl rfl ?_))))
               refine sps [.bool (((pnV (⟨zi7,zl8,zR9⟩:qo) ((qQ (⟨zi7,zl8,zR9⟩:qo) (⟨zm10,zL11,zl12⟩:qw) (atV more 0 zl8.length)).1) ((vV (⟨zi7,zl8,zR9⟩:qo) (⟨zm10,zL11,zl12⟩:qw) (atV more 0 zl8.length))[i]!)):Int) != (pnV (⟨zi7,zl8,zR9⟩:qo) (⟨zm10,zL11,zl12⟩:qw) (atV more 0 zl8.length))),.bool (((pnV (⟨zi7,zl8,zR9⟩:qo) ((qQ (⟨zi7,zl8,zR9⟩:qo) (⟨zm10,zL11,zl12⟩:qw) (atV more 0 zl8.length)).1) ((vV (⟨zi7,zl8,zR9⟩:qo) (⟨zm10,zL11,zl12⟩:qw) (atV more 0 zl8.length))[i]!)):Int) != (pnV (⟨zi7,zl8,zR9⟩:qo) (⟨zm10,zL11,zl12⟩:qw) (atV more 0 zl8.length)))] ?_
               refine zjn (xy (((pnV (⟨zi7,zl8,zR9⟩:qo) ((qQ (⟨zi7,zl8,zR9⟩:qo) (⟨zm10,zL11,zl12⟩:qw) (atV more 0 zl8.length)).1) ((vV (⟨zi7,zl8,zR9⟩:qo) (⟨zm10,zL11,zl12⟩:qw) (atV more 0 zl8.length))[i]!)):Int) != (pnV (⟨zi7,zl8,zR9⟩:qo) (⟨zm10,zL11,zl12⟩:qw) (atV more 0 zl8.length))) rfl (fun h217=>?_) (fun h217=>?_))
               ·skip
                replace h217:=bne_iff_ne.1 h217
                refine zcr (sp (.bool false) (zjr (zr5 (ret1 (.bool false) rfl rfl ⟨_,rfl,?_,H.base⟩))))
                exfalso;first | omega | contradiction | exact bool_ne ‹_› (by simpa using l2)
               ·skip
                replace h217:=xC h217
                refine xn (b_n (t_n (zT (sp (.int .i64 i) (sw (vN i 1 rfl rfl qc (sp (.int .i64 (i+1)) (vg (xJ (m' :=(((vV (⟨zi7,zl8,zR9⟩:qo) (⟨zm10,zL11,zl12⟩:qw) (atV more 0 zl8.length)).length) - ((i+1):Int)).toNat) qc ⟨_,i+1,uE7,?_,rfl,N,H⟩)))))))))
                · omega
              ·skip
               replace h216:=bne_iff_ne.1 h216
               refine xh [180,181,182] (sp (.bool true) (zjn (xy true rfl (fun _=>zcr (sp (.bool false) (zjr (zr5 (ret1 (.bool false) rfl rfl ⟨_,rfl,?_,H.base⟩))))) (fun h=>absurd h qh))))
               exfalso;first | omega | contradiction | exact bool_ne ‹_› (by simpa using l2)
             ·skip
              refine zx4 (zcr (sw (xR [.int .i64 zi7,.slice ra13 zl8.length rc15,.slice ra16 zR9.length rc18] Try.isAgg27 Try.sizeOf27 rfl (qE (H.cells 6 rfl) 0 3) (sw (xR [.slice (some ⟨b126,0,none⟩) zm10.length rc23,.slice ra24 zL11.length rc26,.slice ra29 zl12.length rc31] Try.isAgg31 Try.sizeOf31 rfl (qE (H.cells 5 rfl) 0 3) ?_)))))
              obtain ⟨G218,hn219,h220⟩:=H.je 7 rfl
              obtain ⟨G221,hn222,h223⟩:=H.jV (α:=zM) 8 rfl 1 rfl qh
              obtain ⟨G224,hn225,h226⟩:=H.rowIsB 9 rfl
              obtain ⟨G227,hn228,h229⟩:=H.jV (α:=yLI) 10 rfl 2 rfl qh
              obtain ⟨G230,hn231,h232⟩:=H.je 11 rfl
              have sz236:=H.base.size
              refine sw (oc (implTotal_ok _ (⟨zi7,zl8,zR9⟩:qo) (⟨zm10,zL11,zl12⟩:qw) h220 h223 h226 h229 h232 qf qf) ?_)
              rintro _ w234 ⟨ra233a,rn233a,rc233a,rfl,M,K⟩ _
              replace H:=H.merge K M
              obtain rfl:=H.zo 0 rfl
              refine sps [.tuple #[.slice ra233a ((jb (⟨zm10,zL11,zl12⟩:qw) (⟨zi7,zl8,zR9⟩:qo).qp.length).length) rc233a,.int .i64 0],.slice ra233a ((jb (⟨zm10,zL11,zl12⟩:qw) (⟨zi7,zl8,zR9⟩:qo).qp.length).length) rc233a,.int .i64 0,.slice ra233a ((jb (⟨zm10,zL11,zl12⟩:qw) (⟨zi7,zl8,zR9⟩:qo).qp.length).length) rc233a,.int .i64 0] (zjc (sw (xR [.int .i64 zi7,.slice ra13 zl8.length rc15,.slice ra16 zR9.length rc18] Try.isAgg27 Try.sizeOf27 rfl (qE (H.cells 7 rfl) 0 3) ?_)))
              refine sw (xR [.slice (some ⟨b189,0,none⟩) ((((qQ (⟨zi7,zl8,zR9⟩:qo) (⟨zm10,zL11,zl12⟩:qw) (atV more 0 zl8.length)).1).qF).length) rc114aAlive,.slice ra114aBags ((((qQ (⟨zi7,zl8,zR9⟩:qo) (⟨zm10,zL11,zl12⟩:qw) (atV more 0 zl8.length)).1).qK).length) rc114aBags,.slice ra114aAround ((((qQ (⟨zi7,zl8,zR9⟩:qo) (⟨zm10,zL11,zl12⟩:qw) (atV more 0 zl8.length)).1).qG).length) rc114aAround] Try.isAgg31 Try.sizeOf31 rfl (qE (H.cells 2 rfl) 0 3) ?_)
              obtain ⟨G239,hn240,h241⟩:=H.je 8 rfl
              obtain ⟨G242,hn243,h244⟩:=H.jV (α:=zM) 9 rfl 1 rfl qh
              obtain ⟨G245,hn246,h247⟩:=H.rowIsB 3 rfl
              obtain ⟨G248,hn249,h250⟩:=H.jV (α:=yLI) 4 rfl 0 rfl qh
              obtain ⟨G251,hn252,h253⟩:=H.je 5 rfl
              have sz257:=H.base.size
              refine sw (oc (implTotal_ok _ (⟨zi7,zl8,zR9⟩:qo) ((qQ (⟨zi7,zl8,zR9⟩:qo) (⟨zm10,zL11,zl12⟩:qw) (atV more 0 zl8.length)).1) h241 h244 h247 h250 h253 qf qf) ?_)
              rintro _ w255 ⟨ra254a,rn254a,rc254a,rfl,M,K⟩ _
              replace H:=H.merge K M
              obtain rfl:=H.zo 0 rfl
              refine sps [.tuple #[.slice ra254a ((jb ((qQ (⟨zi7,zl8,zR9⟩:qo) (⟨zm10,zL11,zl12⟩:qw) (atV more 0 zl8.length)).1) (⟨zi7,zl8,zR9⟩:qo).qp.length).length) rc254a,.int .i64 0],.slice ra254a ((jb ((qQ (⟨zi7,zl8,zR9⟩:qo) (⟨zm10,zL11,zl12⟩:qw) (atV more 0 zl8.length)).1) (⟨zi7,zl8,zR9⟩:qo).qp.length).length) rc254a,.int .i64 0,.slice ra254a ((jb ((qQ (⟨zi7,zl8,zR9⟩:qo) (⟨zm10,zL11,zl12⟩:qw) (atV more 0 zl8.length)).1) (⟨zi7,zl8,zR9⟩:qo).qp.length).length) rc254a,.int .i64 0] (zjn (zF ?_))
              obtain ⟨b260,rfl⟩:=H.rowAddr 12 rfl qc
              refine c_cut (fun ρ w263=>∃ (zX:Env) (ra261:yOA) (rc262:Nat),ρ=upd (upd (upd (upd (upd (upd (upd (upd zX 15 (.pointer (some ⟨b122,0,none⟩))) 17 (.int .i64 (pnV (⟨zi7,zl8,zR9⟩:qo) (⟨zm10,zL11,zl12⟩:qw) (atV more 0 zl8.length)))) 24 (.slice ra233a ((jb (⟨zm10,zL11,zl12⟩:qw) (⟨zi7,zl8,zR9⟩:qo).qp.length).length) rc233a)) 25 (.int .i64 0)) 26 (.slice ra254a ((jb ((qQ (⟨zi7,zl8,zR9⟩:qo) (⟨zm10,zL11,zl12⟩:qw) (atV more 0 zl8.length)).1) (⟨zi7,zl8,zR9⟩:qo).qp.length).length) rc254a)) 27 (.int .i64 0)) 28 (.slice ra261 ((vO (zL11[(pnV (⟨zi7,zl8,zR9⟩:qo) (⟨zm10,zL11,zl12⟩:qw) (atV more 0 zl8.length)).toNat]!) (zL11[(atV more 0 zl8.length).toNat]!) 1).length) rc262)) 29 (.int .i64 0)∧Fresh w.heap.size [rF114aBags,rF20,rF28]∧St w w263 [rr ra261 ((vO (zL11[(pnV (⟨zi7,zl8,zR9⟩:qo) (⟨zm10,zL11,zl12⟩:qw) (atV more 0 zl8.length)).toNat]!) (zL11[(atV more 0 zl8.length).toNat]!) 1).length) rc262 2 1 ((vO (zL11[(pnV (⟨zi7,zl8,zR9⟩:qo) (⟨zm10,zL11,zl12⟩:qw) (atV more 0 zl8.length)).toNat]!) (zL11[(atV more 0 zl8.length).toNat]!) 1).map (Value.int .i64)),rr ra254a ((jb ((qQ (⟨zi7,zl8,zR9⟩:qo) (⟨zm10,zL11,zl12⟩:qw) (atV more 0 zl8.length)).1) (⟨zi7,zl8,zR9⟩:qo).qp.length).length) rc254a 2 1 ((jb ((qQ (⟨zi7,zl8,zR9⟩:qo) (⟨zm10,zL11,zl12⟩:qw) (atV more 0 zl8.length)).1) (⟨zi7,zl8,zR9⟩:qo).qp.length).map (Value.int .i64)),rr ra233a ((jb (⟨zm10,zL11,zl12⟩:qw) (⟨zi7,zl8,zR9⟩:qo).qp.length).length) rc233a 2 1 ((jb (⟨zm10,zL11,zl12⟩:qw) (⟨zi7,zl8,zR9⟩:qo).qp.length).map (Value.int .i64)),rr ra161a ((vV (⟨zi7,zl8,zR9⟩:qo) (⟨zm10,zL11,zl12⟩:qw) (atV more 0 zl8.length)).length) rc161a 2 1 ((vV (⟨zi7,zl8,zR9⟩:qo) (⟨zm10,zL11,zl12⟩:qw) (atV more 0 zl8.length)).map (Value.int .i64)),.box b122 [.slice (some ⟨b189,0,none⟩) ((((qQ (⟨zi7,zl8,zR9⟩:qo) (⟨zm10,zL11,zl12⟩:qw) (atV more 0 zl8.length)).1).qF).length) rc114aAlive,.slice ra114aBags ((((qQ (⟨zi7,zl8,zR9⟩:qo) (⟨zm10,zL11,zl12⟩:qw) (atV more 0 zl8.length)).1).qK).length) rc114aBags,.slice ra114aAround ((((qQ (⟨zi7,zl8,zR9⟩:qo) (⟨zm10,zL11,zl12⟩:qw) (atV more 0 zl8.length)).1).qG).length) rc114aAround] 31,rr (some ⟨b189,0,none⟩) ((((qQ (⟨zi7,zl8,zR9⟩:qo) (⟨zm10,zL11,zl12⟩:qw) (atV more 0 zl8.length)).1).qF).length) rc114aAlive 4 1 ((((qQ (⟨zi7,zl8,zR9⟩:qo) (⟨zm10,zL11,zl12⟩:qw) (atV more 0 zl8.length)).1).qF).map (Value.bool)),rr ra114aBags ((((qQ (⟨zi7,zl8,zR9⟩:qo) (⟨zm10,zL11,zl12⟩:qw) (atV more 0 zl8.length)).1).qK).length) rc114aBags 24 1 rx114aBags,rr ra114aAround ((((qQ (⟨zi7,zl8,zR9⟩:qo) (⟨zm10,zL11,zl12⟩:qw) (atV more 0 zl8.length)).1).qG).length) rc114aAround 2 1 ((((qQ (⟨zi7,zl8,zR9⟩:qo) (⟨zm10,zL11,zl12⟩:qw) (atV more 0 zl8.length)).1).qG).map (Value.int .i64)),.box b34 [.slice (some ⟨b126,0,none⟩) zm10.length rc23,.slice (some ⟨b260,0,none⟩) zL11.length rc26,.slice ra29 zl12.length rc31] 31,.box b32 [.int .i64 zi7,.slice ra13 zl8.length rc15,.slice ra16 zR9.length rc18] 27,rr ra13 zl8.length rc15 2 1 (zl8.map (Value.int .i64)),rr ra16 zR9.length rc18 51 9 rx19,rr (some ⟨b126,0,none⟩) zm10.length rc23 4 1 (zm10.map (Value.bool)),rr (some ⟨b260,0,none⟩) zL11.length rc26 24 1 rx27,rr ra29 zl12.length rc31 2 1 (zl12.map (Value.int .i64))] [qM true rF114aBags rx114aBags (((qQ (⟨zi7,zl8,zR9⟩:qo) (⟨zm10,zL11,zl12⟩:qw) (atV more 0 zl8.length)).1).qK),qM true rF20 rx19 zR9,qM true rF28 rx27 zL11]) ?_ ?_
              ·skip
               refine c_drawH rfl H fun H=>tF 0 rfl rfl H ?_
               refine tL 1 rfl rfl (fun _ h=>h.cell 7 rfl rfl) H ?_
               refine rtp 2 (.int .i64 (pnV (⟨zi7,zl8,zR9⟩:qo) (⟨zm10,zL11,zl12⟩:qw) (atV more 0 zl8.length))) H ?_
               refine tI 3 rfl rfl rfl H ?_
               refine tF 5 rfl rfl H ?_
               refine tL 6 rfl rfl (fun _ h=>h.cell 7 rfl rfl) H ?_
               refine rtp 7 (.int .i64 (atV more 0 zl8.length)) H ?_
               refine tI 8 rfl rfl rfl H ?_
               refine zl [4,9] qg qj (zC rfl ?_ (zC rfl ?_ zn))
               ·skip
                obtain ⟨a265,c266,G267,s268,h269,H⟩:=H.rowElemL 12 rfl 2 rfl (iv:=(pnV (⟨zi7,zl8,zR9⟩:qo) (⟨zm10,zL11,zl12⟩:qw) (atV more 0 zl8.length))) ((pnV (⟨zi7,zl8,zR9⟩:qo) (⟨zm10,zL11,zl12⟩:qw) (atV more 0 zl8.length)).toNat) qc qc
                refine ve (.slice a265 ((zL11[(pnV (⟨zi7,zl8,zR9⟩:qo) (⟨zm10,zL11,zl12⟩:qw) (atV more 0 zl8.length)).toNat]!).length) c266) Try.isAgg24 rfl (h269) (⟨H.pick [0,1,2,3,4,5,6,7,8,9,10,11,12,13] [1,2,3],(ro 9 rfl ?_)⟩)
                obtain ⟨a270,c271,G272,s273,h274,H⟩:=H.rowElemL 12 rfl 3 rfl (iv:=(atV more 0 zl8.length)) ((atV more 0 zl8.length).toNat) qc qc
                refine ve (.slice a270 ((zL11[(atV more 0 zl8.length).toNat]!).length) c271) Try.isAgg24 rfl (h274) (⟨H.pick [0,1,2,3,4,5,6,7,8,9,10,11,12,13] [2,3,4],(ro 10 rfl ?_)⟩)
                have sz278:=H.base.size
                refine oc (implAdd_ok _ (zL11[(pnV (⟨zi7,zl8,zR9⟩:qo) (⟨zm10,zL11,zl12⟩:qw) (atV more 0 zl8.length)).toNat]!) (zL11[(atV more 0 zl8.length).toNat]!) (H.get 1 rfl).1 (H.get 0 rfl).1 qf) ?_
                rintro _ w276 ⟨ra275a,rn275a,rc275a,rfl,M,K⟩ _
                replace H:=H.merge K M
                obtain rfl:=H.zo 0 rfl
                refine ⟨H.pick [1,2,3,4,5,6,7,8,9,10,11,12,13,14] [2,3,4],?_⟩
                have S:=H.pickC [1,2,3,4,5,6,7,8,9,10,11,12,13,14] [2,3,4]
                refine rtp 11 (.tuple #[.slice ra275a ((vO (zL11[(pnV (⟨zi7,zl8,zR9⟩:qo) (⟨zm10,zL11,zl12⟩:qw) (atV more 0 zl8.length)).toNat]!) (zL11[(atV more 0 zl8.length).toNat]!) 1).length) rc275a,.int .i64 0]) S ?_
                refine rtp 12 (.slice ra275a ((vO (zL11[(pnV (⟨zi7,zl8,zR9⟩:qo) (⟨zm10,zL11,zl12⟩:qw) (atV more 0 zl8.length)).toNat]!) (zL11[(atV more 0 zl8.length).toNat]!) 1).length) rc275a) S ?_
                refine rtp 13 (.int .i64 0) S ?_
                refine rtp 14 (.slice ra275a ((vO (zL11[(pnV (⟨zi7,zl8,zR9⟩:qo) (⟨zm10,zL11,zl12⟩:qw) (atV more 0 zl8.length)).toNat]!) (zL11[(atV more 0 zl8.length).toNat]!) 1).length) rc275a) S ?_
                refine rtp 15 (.int .i64 0) S ?_
                refine qZ qg ((meet ⟨_,ra275a,rc275a,uE8,N,H.pick [0,1,2,3,4,5,6,7,8,9,10,11,12,13,14] [2,3,4]⟩))
               ·skip
                obtain ⟨a281,c282,G283,s284,h285,H⟩:=H.rowElemL 12 rfl 2 rfl (iv:=(atV more 0 zl8.length)) ((atV more 0 zl8.length).toNat) qc qc
                refine ve (.slice a281 ((zL11[(atV more 0 zl8.length).toNat]!).length) c282) Try.isAgg24 rfl (h285) (⟨H.pick [0,1,2,3,4,5,6,7,8,9,10,11,12,13] [1,2,3],(ro 4 rfl ?_)⟩)
                obtain ⟨a286,c287,G288,s289,h290,H⟩:=H.rowElemL 12 rfl 3 rfl (iv:=(pnV (⟨zi7,zl8,zR9⟩:qo) (⟨zm10,zL11,zl12⟩:qw) (atV more 0 zl8.length))) ((pnV (⟨zi7,zl8,zR9⟩:qo) (⟨zm10,zL11,zl12⟩:qw) (atV more 0 zl8.length)).toNat) qc qc
                refine ve (.slice a286 ((zL11[(pnV (⟨zi7,zl8,zR9⟩:qo) (⟨zm10,zL11,zl12⟩:qw) (atV more 0 zl8.length)).toNat]!).length) c287) Try.isAgg24 rfl (h290) (⟨H.pick [0,1,2,3,4,5,6,7,8,9,10,11,12,13] [2,3,4],(ro 10 rfl ?_)⟩)
                have sz294:=H.base.size
                refine oc (implAdd_ok _ (zL11[(pnV (⟨zi7,zl8,zR9⟩:qo) (⟨zm10,zL11,zl12⟩:qw) (atV more 0 zl8.length)).toNat]!) (zL11[(atV more 0 zl8.length).toNat]!) (H.get 0 rfl).1 (H.get 1 rfl).1 qf) ?_
                rintro _ w292 ⟨ra291a,rn291a,rc291a,rfl,M,K⟩ _
                replace H:=H.merge K M
                obtain rfl:=H.zo 0 rfl
                refine ⟨H.pick [1,2,3,4,5,6,7,8,9,10,11,12,13,14] [2,3,4],?_⟩
                have S:=H.pickC [1,2,3,4,5,6,7,8,9,10,11,12,13,14] [2,3,4]
                refine rtp 11 (.tuple #[.slice ra291a ((vO (zL11[(pnV (⟨zi7,zl8,zR9⟩:qo) (⟨zm10,zL11,zl12⟩:qw) (atV more 0 zl8.length)).toNat]!) (zL11[(atV more 0 zl8.length).toNat]!) 1).length) rc291a,.int .i64 0]) S ?_
                refine rtp 12 (.slice ra291a ((vO (zL11[(pnV (⟨zi7,zl8,zR9⟩:qo) (⟨zm10,zL11,zl12⟩:qw) (atV more 0 zl8.length)).toNat]!) (zL11[(atV more 0 zl8.length).toNat]!) 1).length) rc291a) S ?_
                refine rtp 13 (.int .i64 0) S ?_
                refine rtp 14 (.slice ra291a ((vO (zL11[(pnV (⟨zi7,zl8,zR9⟩:qo) (⟨zm10,zL11,zl12⟩:qw) (atV more 0 zl8.length)).toNat]!) (zL11[(atV more 0 zl8.length).toNat]!) 1).length) rc291a) S ?_
                refine rtp 15 (.int .i64 0) S ?_
                refine qZ qg ((meet ⟨_,ra291a,rc291a,uE8,N,H.pick [0,1,2,3,4,5,6,7,8,9,10,11,12,13,14] [2,3,4]⟩))
              ·skip
               clear H N
               rintro ρ w297 ⟨zX,ra261,rc262,rfl,N,H⟩
               refine t_n (zcr (sps [.int .i64 0,.bool true,.bool true] (qx 212 rfl rfl (sp (.int .i64 0) (qx 212 rfl rfl (sps [.bool true,.bool true,.bool true] (qx 216 rfl rfl (sp (.int .i64 0) (qx 216 rfl rfl (sps [.bool true,.bool true,.bool true] (qx 220 rfl rfl (sp (.slice ra233a ((jb (⟨zm10,zL11,zl12⟩:qw) (⟨zi7,zl8,zR9⟩:qo).qp.length).length) rc233a) (qx 220 rfl rfl (sp (.slice ra254a ((jb ((qQ (⟨zi7,zl8,zR9⟩:qo) (⟨zm10,zL11,zl12⟩:qw) (atV more 0 zl8.length)).1) (⟨zi7,zl8,zR9⟩:qo).qp.length).length) rc254a) (qx 220 rfl rfl ?_)))))))))))))))
               obtain ⟨G298,hn299,h300⟩:=H.je 2 rfl
               obtain ⟨G301,hn302,h303⟩:=H.je 1 rfl
               refine sw (oq (a2Same_ok _ (jb (⟨zm10,zL11,zl12⟩:qw) (⟨zi7,zl8,zR9⟩:qo).qp.length) (jb ((qQ (⟨zi7,zl8,zR9⟩:qo) (⟨zm10,zL11,zl12⟩:qw) (atV more 0 zl8.length)).1) (⟨zi7,zl8,zR9⟩:qo).qp.length) h300 h303) H fun w305 H=>?_)
               refine sps [.bool (decide ((jb (⟨zm10,zL11,zl12⟩:qw) (⟨zi7,zl8,zR9⟩:qo).qp.length)=(jb ((qQ (⟨zi7,zl8,zR9⟩:qo) (⟨zm10,zL11,zl12⟩:qw) (atV more 0 zl8.length)).1) (⟨zi7,zl8,zR9⟩:qo).qp.length))),.bool (decide ((jb (⟨zm10,zL11,zl12⟩:qw) (⟨zi7,zl8,zR9⟩:qo).qp.length)=(jb ((qQ (⟨zi7,zl8,zR9⟩:qo) (⟨zm10,zL11,zl12⟩:qw) (atV more 0 zl8.length)).1) (⟨zi7,zl8,zR9⟩:qo).qp.length)))] ?_
               cases h307:(decide ((jb (⟨zm10,zL11,zl12⟩:qw) (⟨zi7,zl8,zR9⟩:qo).qp.length)=(jb ((qQ (⟨zi7,zl8,zR9⟩:qo) (⟨zm10,zL11,zl12⟩:qw) (atV more 0 zl8.length)).1) (⟨zi7,zl8,zR9⟩:qo).qp.length)))
               · exact absurd Z.total.symm (of_decide_eq_false h307)
               ·skip
                replace h307:=of_decide_eq_true h307
                refine qx 225 rfl rfl (sp (.slice ra261 ((vO (zL11[(pnV (⟨zi7,zl8,zR9⟩:qo) (⟨zm10,zL11,zl12⟩:qw) (atV more 0 zl8.length)).toNat]!) (zL11[(atV more 0 zl8.length).toNat]!) 1).length) rc262) (qx 225 rfl rfl (oF rfl (qx 225 rfl rfl (oL rfl (H.cell 4 rfl rfl) (qx 225 rfl rfl (sp (.int .i64 (pnV (⟨zi7,zl8,zR9⟩:qo) (⟨zm10,zL11,zl12⟩:qw) (atV more 0 zl8.length))) (qx 225 rfl rfl ?_))))))))
                obtain ⟨b308,rfl⟩:=H.rowAddr 6 rfl qc
                refine oI rfl rfl (qx 225 rfl rfl ?_)
                obtain ⟨a309,c310,G311,s312,h313,H⟩:=H.rowElemL 6 rfl 0 rfl (iv:=(pnV (⟨zi7,zl8,zR9⟩:qo) (⟨zm10,zL11,zl12⟩:qw) (atV more 0 zl8.length))) ((pnV (⟨zi7,zl8,zR9⟩:qo) (⟨zm10,zL11,zl12⟩:qw) (atV more 0 zl8.length)).toNat) qc qc
                refine oL rfl (h313) (qx 225 rfl rfl ?_)
                obtain ⟨G314,hn315,h316⟩:=H.je 0 rfl
                refine sw (oq (a2Same_ok _ (vO (zL11[(pnV (⟨zi7,zl8,zR9⟩:qo) (⟨zm10,zL11,zl12⟩:qw) (atV more 0 zl8.length)).toNat]!) (zL11[(atV more 0 zl8.length).toNat]!) 1) ((((qQ (⟨zi7,zl8,zR9⟩:qo) (⟨zm10,zL11,zl12⟩:qw) (atV more 0 zl8.length)).1).qK)[(pnV (⟨zi7,zl8,zR9⟩:qo) (⟨zm10,zL11,zl12⟩:qw) (atV more 0 zl8.length)).toNat]!) h316 (H.get 0 rfl).1) H fun w318 H=>?_)
                refine sps [.bool (decide ((vO (zL11[(pnV (⟨zi7,zl8,zR9⟩:qo) (⟨zm10,zL11,zl12⟩:qw) (atV more 0 zl8.length)).toNat]!) (zL11[(atV more 0 zl8.length).toNat]!) 1)=((((qQ (⟨zi7,zl8,zR9⟩:qo) (⟨zm10,zL11,zl12⟩:qw) (atV more 0 zl8.length)).1).qK)[(pnV (⟨zi7,zl8,zR9⟩:qo) (⟨zm10,zL11,zl12⟩:qw) (atV more 0 zl8.length)).toNat]!))),.bool (decide ((vO (zL11[(pnV (⟨zi7,zl8,zR9⟩:qo) (⟨zm10,zL11,zl12⟩:qw) (atV more 0 zl8.length)).toNat]!) (zL11[(atV more 0 zl8.length).toNat]!) 1)=((((qQ (⟨zi7,zl8,zR9⟩:qo) (⟨zm10,zL11,zl12⟩:qw) (atV more 0 zl8.length)).1).qK)[(pnV (⟨zi7,zl8,zR9⟩:qo) (⟨zm10,zL11,zl12⟩:qw) (atV more 0 zl8.length)).toNat]!)))] ?_
                refine zjr (ret1 (.bool (decide ((vO (zL11[(pnV (⟨zi7,zl8,zR9⟩:qo) (⟨zm10,zL11,zl12⟩:qw) (atV more 0 zl8.length)).toNat]!) (zL11[(atV more 0 zl8.length).toNat]!) 1)=((((qQ (⟨zi7,zl8,zR9⟩:qo) (⟨zm10,zL11,zl12⟩:qw) (atV more 0 zl8.length)).1).qK)[(pnV (⟨zi7,zl8,zR9⟩:qo) (⟨zm10,zL11,zl12⟩:qw) (atV more 0 zl8.length)).toNat]!)))) rfl rfl ⟨_,rfl,?_,H.base⟩)
                rw [decide_eq_true Z.sum]
           ·skip
            replace h191:=of_decide_eq_true h191
            refine xh [157,158,159] (sp (.bool true) (zjn (xy true rfl (fun _=>zcr (sp (.bool false) (zjr (t_r (ret1 (.bool false) rfl rfl ⟨_,rfl,?_,H.base⟩))))) (fun h=>absurd h qh))))
            exfalso;first | omega | contradiction | exact bool_ne ‹_› (by simpa using l2)
          · exact Bool.noConfusion (Z.dead.symm.trans h190)
         · exact absurd Z.ok (xP (qX h188))
        · exact absurd h168 (bne_iff_ne.1 h169)
       ·skip
        replace h168:=bne_iff_ne.1 h168
        refine xh [136,137] (sps [.bool true,.bool true] (xh [140,141,142,143] (sps [.bool true,.bool true] (xh [146,147,148,149,150] (sps [.bool true,.bool true] (xh [153,154] (sps [.bool true,.bool true] (xh [157,158,159] (sp (.bool true) (zjn (xy true rfl (fun _=>zcr (sp (.bool false) (zjr (t_r (ret1 (.bool false) rfl rfl ⟨_,rfl,?_,H.base⟩))))) (fun h=>absurd h qh))))))))))))
        exfalso;first | omega | contradiction | exact bool_ne ‹_› (by simpa using l2)
      ·skip
       replace h167:=bne_iff_ne.1 h167
       refine xh [132,133] (sps [.bool true,.bool true] (xh [136,137] (sps [.bool true,.bool true] (xh [140,141,142,143] (sps [.bool true,.bool true] (xh [146,147,148,149,150] (sps [.bool true,.bool true] (xh [153,154] (sps [.bool true,.bool true] (xh [157,158,159] (sp (.bool true) (zjn (xy true rfl (fun _=>zcr (sp (.bool false) (zjr (t_r (ret1 (.bool false) rfl rfl ⟨_,rfl,?_,H.base⟩))))) (fun h=>absurd h qh))))))))))))))
       exfalso;first | omega | contradiction | exact bool_ne ‹_› (by simpa using l2)
    ·skip
     replace h125:=eq_of_beq h125
     refine xh [106,107,108,109,110,111] (sp (.bool true) (zjn (xy true rfl (fun _=>zcr (sps [.int .i64 ((qQ (⟨zi7,zl8,zR9⟩:qo) (⟨zm10,zL11,zl12⟩:qw) (atV more 0 zl8.length)).2),.bool (((qQ (⟨zi7,zl8,zR9⟩:qo) (⟨zm10,zL11,zl12⟩:qw) (atV more 0 zl8.length)).2:Int) == 4),.bool (((qQ (⟨zi7,zl8,zR9⟩:qo) (⟨zm10,zL11,zl12⟩:qw) (atV more 0 zl8.length)).2:Int) == 4)] (zjr (t_r (ret1 (.bool (((qQ (⟨zi7,zl8,zR9⟩:qo) (⟨zm10,zL11,zl12⟩:qw) (atV more 0 zl8.length)).2:Int) == 4)) rfl rfl ⟨_,rfl,?_,H.base⟩))))) (fun h=>absurd h qh))))
     rw [tree_no k1 k2 cI (by first | exact .inl ‹_› | exact .inr ‹_›)];rfl
 ·skip
  replace h1:=of_decide_eq_true h1
  refine xh [9,10,11] (sps [.bool true,.bool true] (zjr (ret1 (.bool true) rfl rfl ⟨_,rfl,(zjn (xy true rfl (fun _=>zcr (sp (.bool true) (zjr (t_r (ret1 (.bool true) rfl rfl ⟨_,rfl,?_,H.base⟩))))) (fun h=>absurd h qh)))⟩)))
  rfl
end
section
open Go.ChangeShapes Go.WideShapes Go.ChangeAt Go.RowKit Go.Joins
set_option linter.unusedVariables false
set_option linter.unusedSimpArgs false
def Reads (P:Program) (t:TypeId) (α:Type) [qH α]:Prop:=
  ∀ {H:Type} {enc:TypeId×Value→H} {w:World} {spare:Nat→Bool} {held:Bool} {fuel:Nat} {cs:List Value} {x:DataW H×List MemPlace},
    DataW.trod enc P w 0 spare held fuel t cs=some x→∃ F,∃ y:α,qH.rep w F cs y

theorem cell_spot {w:World} {a:Addr} {v:Value} (h:w.cell? a=some v):a.spot=none:=by
  unfold World.cell? at h
  split at h
  · split at h
    · cases h
    · rename_i hs;simpa using hs
  · cases h

theorem reads_slice {α:Type} [qH α] {P:Program} {t e:TypeId} (hu:P.underlying t=some (.slice e)) (hc:P.cellsOf e=qH.size α) (hz:0 < qH.size α) (he:Reads P e α):Reads P t (List α):=by
  intro H enc w spare held fuel cs x h
  rcases DataW.trod_slice hu h with ⟨rfl,_⟩ | ⟨a,len,cap,elems,rest,n,_,rfl,_,_,hlc,hcm,hel,hget,_⟩
  · exact ⟨[],[],none,0,rfl,by simp,Or.inl ⟨rfl,rfl⟩⟩
  · have hm:cap≤9223372036854775807:=by unfold maxLen at hcm;omega
    rcases Nat.eq_zero_or_pos len with h0 | h0
    · subst h0
      exact ⟨[],[],some a,cap,rfl,by simp,Or.inl ⟨rfl,rfl⟩⟩
    · have hone:∀ i,i < len→∃ ci Fi,∃ y:α,w.cells? 0 (a.add (i * qH.size α)) (qH.size α)=some ci∧qH.rep w Fi ci y:=by
        intro i hi
        have hg:=hget i hi
        rw [hc] at hg
        have hs:elems[i]? =some (elems[i]'(by omega)):=List.getElem?_eq_getElem qc
        rw [hs] at hg
        obtain ⟨ci,h1,h2⟩:=Option.bind_eq_some_iff.1 hg
        obtain ⟨Fi,y,hr⟩:=he h2
        exact ⟨ci,Fi,y,h1,hr⟩
      have hsp:a.spot=none:=by
        obtain ⟨ci,Fi,y,h1,_⟩:=hone 0 h0
        obtain ⟨_,hl,hcell⟩:=World.cells?_some h1
        have:=hcell 0 hz
        rw [List.getElem?_eq_getElem (show 0 < ci.length by omega)] at this
        have:=cell_spot this
        simpa [Addr.add] using this
      obtain ⟨b,off,sp⟩:=a
      simp only at hsp
      subst hsp
      have hadd:∀ i j:Nat,((⟨b,off,none⟩:Addr).add (i * qH.size α)).add j=⟨b,off+i * qH.size α+j,none⟩:=fun i j=>by simp [Addr.add_mid]
      have hall:∀ m,m≤len→∃ F vs,∃ l:List α,l.length=m∧reps w F vs l∧vM w b off vs:=by
        intro m
        induction m with
        | zero=>exact fun _=>⟨[],[],[],rfl,⟨rfl,rfl⟩,fun i v hv=>by simp at hv⟩
        | succ m ih=>
          intro hm'
          obtain ⟨F,vs,l,hl,hr,hcl⟩:=ih qc
          obtain ⟨ci,Fi,y,h1,h2⟩:=hone m qc
          obtain ⟨_,hcl2,hcell⟩:=World.cells?_some h1
          refine ⟨F++Fi,vs++ci,l++[y],by simp [hl],jK hr (reps_one h2),fun i v hv=>?_⟩
          have hvl:=reps_len hr
          rw [hl] at hvl
          rcases Nat.lt_or_ge i vs.length with hi | hi
          · rw [List.getElem?_append_left hi] at hv
            exact hcl i v hv
          · rw [List.getElem?_append_right hi] at hv
            have hi2:i - vs.length < ci.length:=by
              rcases Nat.lt_or_ge (i - vs.length) ci.length with h | h
              · exact h
              · simp [h] at hv
            have:=hcell (i - vs.length) qc
            rw [hadd,hv] at this
            rw [← this]
            congr 1
            rw [show off+i=off+m * qH.size α+(i - vs.length) by omega]
      obtain ⟨F,vs,l,hl,hr,hcl⟩:=hall len (Nat.le_refl _)
      have hb:b < w.heap.size:=by
        have h1:0 < vs.length:=by rw [reps_len hr,hl];exact Nat.mul_pos h0 hz
        exact World.block_lt_of_cell? w _ (hcl 0 _ (List.getElem?_eq_getElem h1))
      subst hl
      exact ⟨b :: F,l,some ⟨b,off,none⟩,cap,rfl,⟨by omega,hlc⟩,Or.inr ⟨b,off,F,vs,rfl,rfl,hb,hr,hcl⟩⟩

theorem arg_slice {P:Program} {α:Type} [qH α] {H:Type} {enc:TypeId×Value→H} {w:World} {spare:Nat→Bool} {held:Bool} {b0:Nat} {t e:TypeId} {v:Value} {d:DataW H} {p:List MemPlace} (hu:P.underlying t=some (.slice e)) (hr:Reads P t (List α))
    (hv:Value.okWide P w .any b0 t v) (h:DataW.Trod enc P w 0 spare held t v d p):∃ (a:yOA) (c:Nat) (F:yLN) (l:List α),v=.slice a l.length c∧qH.rep w F [.slice a l.length c] l:=by
  obtain ⟨a,m,c,rfl⟩:=okWide_slice hu hv
  obtain ⟨fuel,hf⟩:=h
  obtain ⟨F,l,hl⟩:=hr hf
  have hcs:(Value.slice a m c).cells.toList=[.slice a m c]:=rfl
  rw [hcs] at hl
  obtain ⟨a',c',hc,hx⟩:=id hl
  simp only [List.cons.injEq,Value.slice.injEq,and_true] at hc
  obtain ⟨rfl,rfl,rfl⟩:=hc
  exact ⟨a,c,F,l,rfl,hl⟩
section
variable {H : Type} {enc : TypeId × Value → H} {P : Program}

theorem trodAll_below (hl:laidOutB P=true) {W W' :World} (hb:Below W.heap.size W W'):
    ∀ (ts:List TypeId) (vs:List Value) (ds:List (DataW H)) (ps:List MemPlace),(∀ t∈ts,P.readableRec t=true∧t < P.types.size)→
      DataW.TrodAll enc P W 0 (fun _=>true) true ts vs ds ps→(∀ x∈ps,x.block < W.heap.size)→
      DataW.TrodAll enc P W' 0 (fun b=>decide (b < W.heap.size)) true ts vs ds ps
  | [],vs,ds,ps,_,h,_=>by
    obtain ⟨rfl,rfl,rfl⟩:=trodAll_nil h
    exact trodAll_mk0
  | t :: ts,vs,ds,ps,hr,h,hp=>by
    obtain ⟨v,vs',d,ds',p,q,rfl,rfl,rfl,h0,h1⟩:=trodAll_cons h
    have ht:=hr t (List.mem_cons_self ..)
    exact trodAll_cons_mk (Below.trod hl ht.1 ht.2 h0 hb (fun x hx=>hp x (List.mem_append_left _ hx)))
      (trodAll_below hl hb ts vs' ds' q (fun t' ht' =>hr t' (List.mem_cons_of_mem _ ht')) h1 (fun x hx=>hp x (List.mem_append_right _ hx)))

theorem post_law {f:Func} {s:ChangeSpec} {W W' :World} {args:Array Value} {tb:TypeId} {ds gs:List (DataW H)} {before:List MemPlace}
    (hW:DataW.Whole enc P f.params.toList s.vars false W args.toList ds gs before) (hv:s.vars=[])
    (hs:s.fn H (ds++[])={ results:=[.lit (.bool true)],args:=ds }) (hr:f.resultTypes=#[tb]) (hu:P.underlying tb=some .bool)
    (hl:laidOutB P=true) (hts:∀ t∈f.params.toList,P.readableRec t=true∧t < P.types.size) (hb:Below W.heap.size W W'):
    s.post enc P f false true false false W args (.bool true) W' :=by
  have hW' :=hW
  obtain ⟨p,q,hA,hV,rfl,hz,hn⟩:=hW
  rw [hv] at hV
  obtain ⟨rfl,rfl⟩:=trodVars_none hV
  have hlt:∀ x∈p++[],x.block < W.heap.size:=fun x hx=>hW'.lt x hx
  refine ⟨ds,[],p++[],[],p,[],hW',?_,?_,?_,World.keptBut_mono (fun x hx=>⟨hx,Or.inr (Or.inl (by simpa using hx))⟩) (hb.frame (·∈p++[])),fun h=>by cases h⟩
  · rw [hs,hr]
    simp only [Value.resultList]
    exact trodAll_mk1 (shut_bool hu true)
  · rw [hs]
    exact trodAll_below hl hb _ _ _ _ hts hA (fun x hx=>hlt x (by simpa using hx))
  · rw [hv,hs]
    exact rfl
end
theorem reads_byte {P:Program} {t:TypeId} (hu:P.underlying t=some (.int .u8)):Reads P t UInt8:=fun h=>by
  obtain ⟨n,rfl,_,hw⟩:=DataW.trod_int hu h
  have hb:0≤n∧n≤255:=by
    simp [Lit.wf,IntKind.min,IntKind.max,IntKind.signed,IntKind.bits] at hw
    omega
  refine ⟨[],UInt8.ofNat n.toNat,rfl,?_⟩
  have e:(UInt8.ofNat n.toNat).toNat=n.toNat:=by
    simp
    omega
  rw [e,Int.toNat_of_nonneg hb.1]
end
end Go.Proofs.Ytcpnclokildllaa
