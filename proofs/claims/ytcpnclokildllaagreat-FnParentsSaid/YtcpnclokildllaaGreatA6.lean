/- Walks and laws, printed by program and by hand: what each function comes to, for all arguments, part 6. -/
import Derived.Test.YtcpnclokildllaaGreatA5
import Derived.Test.YtcpnclokildllaaGreatRows
import Derived.ProofKit
import Derived.OpenShut
import Derived.Carry
import Derived.BigQuiet
import Derived.Lib.SmallJoins
namespace Go.Proofs.YtcpnclokildllaaGreat
set_option linter.unusedVariables false
set_option linter.unusedSimpArgs false
open Go.Proofs.YtcpnclokildllaaGreat.Tot (tot)
open Go.Proofs.YtcpnclokildllaaGreat.Mark (cnt mrk mkd mkd_mark cnt_mark)
section
open Go.RowKit
set_option linter.unusedVariables false
set_option linter.unusedSimpArgs false
set_option maxRecDepth 100000
set_option maxHeartbeats 4000000
variable {qA qI qU xB qN : Nat}
theorem dSystem_ok {W0 w:World} {ps:List Prv} {Γ:List Fact} {Ns:List yLN} (code:List UInt8) (ip:Int) (sd:Int) (bs:Nat) (ac:yOA) (cc:Nat) (Fc:yLN) (H:St W0 w ((.box bs [.slice ac code.length cc,.int .i64 ip,.int .u64 sd] 127) :: ps) ((sF false Fc ac cc code) :: Γ)) (N:Fresh W0.heap.size (Ns)) (K0:Kept Ns Γ) (q0:0≤ip∧ip≤50000):Calls Tryz.prog 78 #[.pointer (some ⟨bs,0,none⟩)] w (fun e w' =>∃ v,e=.returned v∧∃ (ip_:Int) (sd_:Int) (kk_:Int) (par_:yLI) (rules_:List jg) (raq:yOA) (rnq:Nat) (rcq:Nat) (raS:yOA) (rnS:Nat) (rcS:Nat) (rxS:List Value) (rFS:yLN),(ip≤ip_∧ip_≤ip+2000)∧(SysDr kk_ par_ rules_)∧v=.agg #[.int .i64 kk_,.slice raq rnq rcq,.slice raS rnS rcS]∧Fresh W0.heap.size (rFS :: Ns)∧St W0 w' ((.box bs [.slice ac code.length cc,.int .i64 ip_,.int .u64 sd_] 127) :: (rr raq rnq rcq 2 1 (par_.map (Value.int .i64))) :: (rr raS rnS rcS 56 9 rxS) :: ps) ((sF false Fc ac cc code) :: (xe true rFS rxS rules_) :: Γ)):=by
 refine en Tryz.func78 Tryz.ntmps78 ?_
 have ncode:=qQ (H.get 0 rfl).1
 refine zcr (sw (xu H ti27 [.int .i64 0,.slice none 0 0,.slice none 0 0] fun b1 w2 H=>zjc (sp (.pointer (some ⟨bs,0,none⟩)) ?_)))
 have H1:St W0 w2 ((.box bs [.slice ac code.length cc,.int .i64 ip,.int .u64 sd] 127) :: (.box b1 [.int .i64 0,.slice none 0 0,.slice none 0 0] 27) :: ps) ((sF false Fc ac cc code) :: Γ):=H.xE 2 1 [1,0] [0] qo qo
 have N1:Fresh _ (Ns):=N
 have K1:Kept (Ns) (Γ):=K0.behind 0 rfl
 refine sw (xI #[.pointer (some ⟨bs,0,none⟩),.int .i64 3] rfl rfl Tryz.call68 (jK code ip sd bs ac cc Fc (3:Int) H1 N1 K1 qg) ?_)
 clear H H1 N1 K1
 rintro _ w3 ⟨zi7,zi8,zi9,hx5,hx6,rfl,N,H⟩
 refine sw (vg 1 zi9 rfl rfl qf (sw (vz H Tryz.underlying24 ti2 [.int .i64 (-1)] fun b10 w11 H=>sw (xK [.int .i64 (1+zi9),.slice (some ⟨b10,0,none⟩) 1 1,.slice none 0 0] [(0,.int .i64 (1+zi9)),(1,.slice (some ⟨b10,0,none⟩) 1 1)] (sw (xu H ti27 [.int .i64 0,.slice none 0 0,.slice none 0 0] fun b12 w13 H=>sw (qV H 0 [.int .i64 (1+zi9),.slice (some ⟨b10,0,none⟩) 1 1,.slice none 0 0] Tryz.sizeOf27 fun w14 H=>?_)))))))
 try dsimp only [List.set] at H
 refine zjcc (sp (.pointer (some ⟨bs,0,none⟩)) ?_)
 have H1:St W0 w14 ((.box bs [.slice ac code.length cc,.int .i64 zi7,.int .u64 zi8] 127) :: (.box b12 [.int .i64 (1+zi9),.slice (some ⟨b10,0,none⟩) 1 1,.slice none 0 0] 27) :: (.box b10 [.int .i64 (-1)] 2) :: (.box b1 [.int .i64 0,.slice none 0 0,.slice none 0 0] 27) :: ps) ((sF false Fc ac cc code) :: Γ):=H.xE 4 1 [2,0,1,3] [0] qo qo
 have N1:Fresh _ (Ns):=N
 have K1:Kept (Ns) (Γ):=K0.behind 0 rfl
 refine sw (xI #[.pointer (some ⟨bs,0,none⟩),.int .i64 3] rfl rfl Tryz.call68 (jK code zi7 zi8 bs ac cc Fc (3:Int) H1 N1 K1 qg) ?_)
 clear H H1 N1 K1
 rintro _ w15 ⟨zi19,zi20,zi21,hx17,hx18,rfl,N,H⟩
 refine sp (.int .i64 zi21) (zjn (xq ?_))
 replace H:=H.boxRowI 2 [(-1)] 1
 try dsimp only [List.set] at H
 refine vJ (fun m' ρ w22=>∃ (zx:Env) (c:Int) (s_at:Int) (s_seed:Int) (zB:yOA) (xQ:Nat) (zA:Nat) (y_Parents:yLI),ρ=upd (upd (upd (upd zx 0 (.pointer (some ⟨bs,0,none⟩))) 2 (.pointer (some ⟨b1,0,none⟩))) 3 (.pointer (some ⟨b12,0,none⟩))) 4 (.int .i64 c)∧(ip≤s_at∧s_at+2 * c≤ip+8)∧(0≤c∧(y_Parents.length:Int)+c≤3)∧(ParDr y_Parents)∧m' =c.toNat∧Fresh W0.heap.size (Ns)∧St W0 w22 ((.box bs [.slice ac code.length cc,.int .i64 s_at,.int .u64 s_seed] 127) :: (.box b12 [.int .i64 (1+zi9),.slice zB xQ zA,.slice none 0 0] 27) :: (rr zB xQ zA 2 1 (y_Parents.map (Value.int .i64))) :: (.box b1 [.int .i64 0,.slice none 0 0,.slice none 0 0] 27) :: ps) ((sF false Fc ac cc code) :: Γ)) (zi21.toNat) ⟨_,zi21,zi19,zi20,(some ⟨b10,0,none⟩),1,1,[(-1)],uE4,qf,(by simp;omega),(by exact ParDr.one),rfl,N,H⟩ ?_
 clear H N
 rintro m' ρ w23 ⟨zx,c,s_at,s_seed,zB,xQ,zA,y_Parents,rfl,i1,i2,i3,rfl,N,H⟩
 have hn_y_Parents:=H.zO 2 rfl
 have i4:=i3.1
 refine zcc (sps [.int .i64 c,.bool (decide ((c:Int) > 0))] (zjn (cD rfl (fun h24=>?_) (fun h24=>?_))))
 ·skip
  refine xw (t_n (zn (xq ?_)))
  refine c_cut (fun ρ w30=>∃ (zx:Env) (zi25:Int) (zi26:Int) (zi27:Int) (a28:yOA) (c29:Nat),ρ=upd (upd (upd (upd zx 0 (.pointer (some ⟨bs,0,none⟩))) 2 (.pointer (some ⟨b1,0,none⟩))) 3 (.pointer (some ⟨b12,0,none⟩))) 4 (.int .i64 c)∧(s_at≤zi25∧zi25≤s_at+2)∧(0≤zi26∧(zi26 < xQ∨zi26=0))∧Fresh W0.heap.size (Ns)∧St W0 w30 ((.box bs [.slice ac code.length cc,.int .i64 zi25,.int .u64 zi27] 127) :: (.box b12 [.int .i64 (1+zi9),.slice a28 (xQ+1) c29,.slice none 0 0] 27) :: (rr a28 (xQ+1) c29 2 1 ((y_Parents++[zi26]).map (Value.int .i64))) :: (.box b1 [.int .i64 0,.slice none 0 0,.slice none 0 0] 27) :: ps) ((sF false Fc ac cc code) :: Γ)) ?_ ?_
  ·skip
   refine c_drawK2 rfl H [3] [0] fun H=>?_
   have S:=H.jA [3] [0]
   refine tF 0 rfl rfl S ?_
   refine rtp 2 (.pointer (some ⟨bs,0,none⟩)) S ?_
   refine tF 3 rfl rfl S ?_
   refine zI [1,4] qh qm (vk rfl ?_ (vk rfl ?_ zJ))
   ·skip
    refine zk (.slice zB xQ zA) Tryz.isAgg24 rfl (H.cell 1 rfl rfl) (⟨H.pick [3] [0],(ro 4 rfl (zk (.slice zB xQ zA) Tryz.isAgg24 rfl (H.cell 1 rfl rfl) (⟨H.pick [3] [0],(tN 5 rfl rfl (H.pick [3] [0]) ?_)⟩)))⟩)
    refine ro 6 rfl ?_
    have H1:St W0 w23.drew ((.box bs [.slice ac code.length cc,.int .i64 s_at,.int .u64 s_seed] 127) :: (.box b12 [.int .i64 (1+zi9),.slice zB xQ zA,.slice none 0 0] 27) :: (rr zB xQ zA 2 1 (y_Parents.map (Value.int .i64))) :: (.box b1 [.int .i64 0,.slice none 0 0,.slice none 0 0] 27) :: ps) ((sF false Fc ac cc code) :: Γ):=H.xE 4 1 [0,1,2,3] [0] qo qo
    have N1:Fresh _ (Ns):=N
    have K1:Kept (Ns) (Γ):=K0.behind 0 rfl
    refine xI #[.pointer (some ⟨bs,0,none⟩),.int .i64 xQ] rfl rfl Tryz.call68 (jK code s_at s_seed bs ac cc Fc xQ H1 N1 K1 qg) ?_
    clear H H1 N1 K1
    rintro _ w32 ⟨zi36,zi37,zi38,hx34,hx35,rfl,N,H⟩
    refine ⟨H.pick [3] [0],(ro 7 rfl (vz H Tryz.underlying24 ti2 [.int .i64 zi38] fun b39 w40 H=>⟨H.pick [4] [0],(ro 8 rfl (vM H 3 rfl 0 rfl Tryz.underlying24 ti2 rfl qj rfl rfl rfl (by simp [Value.oneCell',Value.cells]) qp qf fun a41 c42 w43 H=>?_))⟩))⟩
    rw [snocI] at H
    try dsimp only [List.set] at H
    refine ⟨H.pick [4] [0],(tF 9 rfl rfl (H.pick [4] [0]) ?_)⟩
    refine ro 10 rfl (zU H 2 [.int .i64 (1+zi9),.slice a41 (xQ+1) c42,.slice none 0 0] Tryz.sizeOf24 fun w44 H=>?_)
    try dsimp only [List.set] at H
    refine ⟨H.pick [4] [0],(xh qh ((meet ⟨_,zi36,zi38,zi37,a41,c42,uE4,hx34,hx35,N,H.xE 5 1 [1,2,3,4] [0] qo qo⟩)))⟩
   ·skip
    refine zk (.slice zB xQ zA) Tryz.isAgg24 rfl (H.cell 1 rfl rfl) (⟨H.pick [3] [0],(tN 5 rfl rfl (H.pick [3] [0]) ?_)⟩)
    refine zI [1,6] qh qm (vk rfl ?_ (vk rfl ?_ zJ))
    ·skip
     refine zk (.slice zB xQ zA) Tryz.isAgg24 rfl (H.cell 1 rfl rfl) (⟨H.pick [3] [0],(ro 6 rfl ?_)⟩)
     have H1:St W0 w23.drew ((.box bs [.slice ac code.length cc,.int .i64 s_at,.int .u64 s_seed] 127) :: (.box b12 [.int .i64 (1+zi9),.slice zB xQ zA,.slice none 0 0] 27) :: (rr zB xQ zA 2 1 (y_Parents.map (Value.int .i64))) :: (.box b1 [.int .i64 0,.slice none 0 0,.slice none 0 0] 27) :: ps) ((sF false Fc ac cc code) :: Γ):=H.xE 4 1 [0,1,2,3] [0] qo qo
     have N1:Fresh _ (Ns):=N
     have K1:Kept (Ns) (Γ):=K0.behind 0 rfl
     refine xI #[.pointer (some ⟨bs,0,none⟩),.int .i64 xQ] rfl rfl Tryz.call68 (jK code s_at s_seed bs ac cc Fc xQ H1 N1 K1 qg) ?_
     clear H H1 N1 K1
     rintro _ w45 ⟨zi49,zi50,zi51,hx47,hx48,rfl,N,H⟩
     refine ⟨H.pick [3] [0],(ro 7 rfl (vz H Tryz.underlying24 ti2 [.int .i64 zi51] fun b52 w53 H=>⟨H.pick [4] [0],(ro 8 rfl (vM H 3 rfl 0 rfl Tryz.underlying24 ti2 rfl qj rfl rfl rfl (by simp [Value.oneCell',Value.cells]) qp qf fun a54 c55 w56 H=>?_))⟩))⟩
     rw [snocI] at H
     try dsimp only [List.set] at H
     refine ⟨H.pick [4] [0],(tF 9 rfl rfl (H.pick [4] [0]) ?_)⟩
     refine ro 10 rfl (zU H 2 [.int .i64 (1+zi9),.slice a54 (xQ+1) c55,.slice none 0 0] Tryz.sizeOf24 fun w57 H=>?_)
     try dsimp only [List.set] at H
     refine ⟨H.pick [4] [0],(xh qh ((meet ⟨_,zi49,zi51,zi50,a54,c55,uE4,hx47,hx48,N,H.xE 5 1 [1,2,3,4] [0] qo qo⟩)))⟩
    ·skip
     have H1:St W0 w23.drew ((.box bs [.slice ac code.length cc,.int .i64 s_at,.int .u64 s_seed] 127) :: (.box b12 [.int .i64 (1+zi9),.slice zB xQ zA,.slice none 0 0] 27) :: (rr zB xQ zA 2 1 (y_Parents.map (Value.int .i64))) :: (.box b1 [.int .i64 0,.slice none 0 0,.slice none 0 0] 27) :: ps) ((sF false Fc ac cc code) :: Γ):=H.xE 4 1 [0,1,2,3] [0] qo qo
     have N1:Fresh _ (Ns):=N
     have K1:Kept (Ns) (Γ):=K0.behind 0 rfl
     refine xI #[.pointer (some ⟨bs,0,none⟩),.int .i64 xQ] rfl rfl Tryz.call68 (jK code s_at s_seed bs ac cc Fc xQ H1 N1 K1 qg) ?_
     clear H H1 N1 K1
     rintro _ w58 ⟨zi62,zi63,zi64,hx60,hx61,rfl,N,H⟩
     refine ⟨H.pick [3] [0],(zI [1,7] qh qm (vk rfl ?_ (vk rfl ?_ zJ)))⟩
     ·skip
      refine zk (.slice zB xQ zA) Tryz.isAgg24 rfl (H.cell 1 rfl rfl) (⟨H.pick [3] [0],(ro 7 rfl (vz H Tryz.underlying24 ti2 [.int .i64 zi64] fun b65 w66 H=>⟨H.pick [4] [0],(ro 8 rfl (vM H 3 rfl 0 rfl Tryz.underlying24 ti2 rfl qj rfl rfl rfl (by simp [Value.oneCell',Value.cells]) qp qf fun a67 c68 w69 H=>?_))⟩))⟩)
      rw [snocI] at H
      try dsimp only [List.set] at H
      refine ⟨H.pick [4] [0],(tF 9 rfl rfl (H.pick [4] [0]) ?_)⟩
      refine ro 10 rfl (zU H 2 [.int .i64 (1+zi9),.slice a67 (xQ+1) c68,.slice none 0 0] Tryz.sizeOf24 fun w70 H=>?_)
      try dsimp only [List.set] at H
      refine ⟨H.pick [4] [0],(xh qh ((meet ⟨_,zi62,zi64,zi63,a67,c68,uE4,hx60,hx61,N,H.xE 5 1 [1,2,3,4] [0] qo qo⟩)))⟩
     ·skip
      refine vz H Tryz.underlying24 ti2 [.int .i64 zi64] fun b71 w72 H=>⟨H.pick [4] [0],(ro 1 rfl (zk (.slice zB xQ zA) Tryz.isAgg24 rfl (H.cell 2 rfl rfl) (⟨H.pick [4] [0],(ro 8 rfl (vM H 3 rfl 0 rfl Tryz.underlying24 ti2 rfl qj rfl rfl rfl (by simp [Value.oneCell',Value.cells]) qp qf fun a73 c74 w75 H=>?_))⟩)))⟩
      rw [snocI] at H
      try dsimp only [List.set] at H
      refine ⟨H.pick [4] [0],(tF 9 rfl rfl (H.pick [4] [0]) ?_)⟩
      refine ro 10 rfl (zU H 2 [.int .i64 (1+zi9),.slice a73 (xQ+1) c74,.slice none 0 0] Tryz.sizeOf24 fun w76 H=>?_)
      try dsimp only [List.set] at H
      refine ⟨H.pick [4] [0],(xh qh ((meet ⟨_,zi62,zi64,zi63,a73,c74,uE4,hx60,hx61,N,H.xE 5 1 [1,2,3,4] [0] qo qo⟩)))⟩
  ·skip
   clear H N
   rintro ρ w77 ⟨zx,zi25,zi26,zi27,a28,c29,rfl,hx78,hx79,N,H⟩
   refine b_n (t_n (zl (sp (.int .i64 c) (sw (o_sub c 1 rfl rfl qf (sp (.int .i64 (c - 1)) (zo (xn (m' :=(c - 1).toNat) qf ⟨_,c - 1,zi25,zi27,a28,xQ+1,c29,(y_Parents++[zi26]),uE4,?_,?_,?_,rfl,N,H⟩))))))))
   · omega
   · simp;omega
   · exact i3.snoc (by have:=i3.1;omega)
 ·skip
  refine zx4 (zcc (sp (.pointer (some ⟨bs,0,none⟩)) ?_))
  have H1:St W0 w23 ((.box bs [.slice ac code.length cc,.int .i64 s_at,.int .u64 s_seed] 127) :: (.box b12 [.int .i64 (1+zi9),.slice zB xQ zA,.slice none 0 0] 27) :: (rr zB xQ zA 2 1 (y_Parents.map (Value.int .i64))) :: (.box b1 [.int .i64 0,.slice none 0 0,.slice none 0 0] 27) :: ps) ((sF false Fc ac cc code) :: Γ):=H.xE 4 1 [0,1,2,3] [0] qo qo
  have N1:Fresh _ (Ns):=N
  have K1:Kept (Ns) (Γ):=K0.behind 0 rfl
  refine sw (xI #[.pointer (some ⟨bs,0,none⟩),.int .i64 6] rfl rfl Tryz.call68 (jK code s_at s_seed bs ac cc Fc (6:Int) H1 N1 K1 qg) ?_)
  clear H H1 N1 K1
  rintro _ w80 ⟨zi84,zi85,zi86,hx82,hx83,rfl,N,H⟩
  refine sp (.int .i64 zi86) (zjn (xq ?_))
  replace H:=H.nilRow 56 9
  replace H:=H.Qz (α:=jg)
  refine vJ (fun m' ρ w87=>∃ (zx:Env) (k:Int) (s_at_1:Int) (s_seed_1:Int) (Qx:yOA) (yh:Nat) (Qw:Nat) (y_Rules:List jg) (xP:List Value) (xF:yLN),ρ=upd (upd (upd (upd zx 0 (.pointer (some ⟨bs,0,none⟩))) 2 (.pointer (some ⟨b1,0,none⟩))) 3 (.pointer (some ⟨b12,0,none⟩))) 5 (.int .i64 k)∧(ip≤s_at_1∧s_at_1+300 * k≤ip+1600)∧(0≤k∧(y_Rules.length:Int)+k≤5)∧(jH (1+zi9) y_Parents y_Rules)∧m' =k.toNat∧Fresh W0.heap.size (xF :: Ns)∧St W0 w87 ((rr Qx yh Qw 56 9 xP) :: (.box bs [.slice ac code.length cc,.int .i64 s_at_1,.int .u64 s_seed_1] 127) :: (.box b12 [.int .i64 (1+zi9),.slice zB xQ zA,.slice Qx yh Qw] 27) :: (rr zB xQ zA 2 1 (y_Parents.map (Value.int .i64))) :: (.box b1 [.int .i64 0,.slice none 0 0,.slice none 0 0] 27) :: ps) ((xe true xF xP y_Rules) :: (sF false Fc ac cc code) :: Γ)) (zi86.toNat) ⟨_,zi86,zi84,zi85,none,0,0,([]:List jg),[],[],uE4,qf,(by simp;omega),(by exact jH.nil _ _),rfl,N.emp,H⟩ ?_
  clear H N
  rintro m' ρ w88 ⟨zx,k,s_at_1,s_seed_1,Qx,yh,Qw,y_Rules,xP,xF,rfl,j1,j2,j3,rfl,N,H⟩
  have hn_y_Rules:=H.zi (α:=jg) 0 rfl 0 rfl qj
  refine zcc (sps [.int .i64 k,.bool (decide ((k:Int) > 0))] (zjn (cD rfl (fun h89=>?_) (fun h89=>?_))))
  ·skip
   refine xw (t_n (zn (xq ?_)))
   refine c_cut (fun ρ w121=>∃ (zx:Env) (zi90:Int) (zi91:Int) (zi92:Int) (zl93:yLI) (zl94:yLI) (zl95:yLI) (zl96:yLI) (zl97:yLI) (zI98:List Xb) (zb99:Bool) (zi100:Int) (a101:yOA) (c102:Nat) (ra103:yOA) (rc104:Nat) (ra105:yOA) (rc106:Nat) (ra107:yOA) (rc108:Nat) (ra109:yOA) (rc110:Nat) (ra111:yOA) (rc112:Nat) (ra113:yOA) (rc114:Nat) (G115:yLN) (G116:yLN) (G117:yLN) (G118:yLN) (G119:yLN) (G120:yLN),ρ=upd (upd (upd (upd zx 0 (.pointer (some ⟨bs,0,none⟩))) 2 (.pointer (some ⟨b1,0,none⟩))) 3 (.pointer (some ⟨b12,0,none⟩))) 5 (.int .i64 k)∧(s_at_1≤zi90∧zi90≤s_at_1+300)∧(RuleDr (1+zi9) y_Parents ⟨zi91,zi92,zl93,zl94,zl95,zl96,zl97,zI98,zb99⟩)∧Fresh W0.heap.size ((xF++(G115++G116++G117++G118++G119++G120)) :: Ns)∧St W0 w121 ((.box bs [.slice ac code.length cc,.int .i64 zi90,.int .u64 zi100] 127) :: (.box b12 [.int .i64 (1+zi9),.slice zB xQ zA,.slice a101 (yh+1) c102] 27) :: (rr zB xQ zA 2 1 (y_Parents.map (Value.int .i64))) :: (rr a101 (yh+1) c102 56 9 (xP++[.int .i64 zi91,.int .i64 zi92,.slice ra103 zl93.length rc104,.slice ra105 zl94.length rc106,.slice ra107 zl95.length rc108,.slice ra109 zl96.length rc110,.slice ra111 zl97.length rc112,.slice ra113 zI98.length rc114,.bool zb99])) :: (.box b1 [.int .i64 0,.slice none 0 0,.slice none 0 0] 27) :: ps) ((xe true (xF++(G115++G116++G117++G118++G119++G120)) (xP++[.int .i64 zi91,.int .i64 zi92,.slice ra103 zl93.length rc104,.slice ra105 zl94.length rc106,.slice ra107 zl95.length rc108,.slice ra109 zl96.length rc110,.slice ra111 zl97.length rc112,.slice ra113 zI98.length rc114,.bool zb99]) (y_Rules++[(⟨zi91,zi92,zl93,zl94,zl95,zl96,zl97,zI98,zb99⟩:jg)])) :: (sF true G120 ra113 rc114 zI98) :: (sF true G119 ra111 rc112 zl97) :: (sF true G118 ra109 rc110 zl96) :: (sF true G117 ra107 rc108 zl95) :: (sF true G116 ra105 rc106 zl94) :: (sF true G115 ra103 rc104 zl93) :: (sF false Fc ac cc code) :: Γ)) ?_ ?_
   ·skip
    refine c_drawK2 rfl H [3,4] [0,1] fun H=>?_
    have S:=H.jA [3,4] [0,1]
    refine tF 0 rfl rfl S ?_
    refine rtp 2 (.pointer (some ⟨bs,0,none⟩)) S ?_
    refine zI [1,3] qh qm (vk rfl ?_ (vk rfl ?_ zJ))
    ·skip
     refine zk (.slice Qx yh Qw) Tryz.isAgg25 rfl (H.cell 2 rfl rfl) (⟨H.pick [3,4] [0,1],(ro 3 rfl ?_)⟩)
     have f0:ji (⟨1+zi9,y_Parents,y_Rules⟩:qy):=frame_of i3 qf qf
     have H1:St W0 w88.drew ((.box bs [.slice ac code.length cc,.int .i64 s_at_1,.int .u64 s_seed_1] 127) :: (.box b12 [.int .i64 (1+zi9),.slice zB xQ zA,.slice Qx yh Qw] 27) :: (rr zB xQ zA 2 1 (y_Parents.map (Value.int .i64))) :: (rr Qx yh Qw 56 9 xP) :: (.box b1 [.int .i64 0,.slice none 0 0,.slice none 0 0] 27) :: ps) ((sF false Fc ac cc code) :: (xe true xF xP y_Rules) :: Γ):=H.xE 5 2 [1,2,3,0,4] [1,0] qo qo
     have N1:Fresh _ (xF :: Ns):=N
     have K1:Kept (Ns) (Γ):=K0.behind 0 rfl
     refine xI #[.pointer (some ⟨bs,0,none⟩),.pointer (some ⟨b12,0,none⟩)] rfl rfl Tryz.call144 (dRule_ok code s_at_1 s_seed_1 bs ac cc Fc (1+zi9) y_Parents y_Rules b12 zB xQ zA Qx yh Qw xP xF H1 N1 K1 qg qg) ?_
     clear H H1 N1 K1
     rintro _ w123 ⟨zi127,zi128,zi129,zi130,zl131,zl132,zl133,zl134,zl135,zI136,zb137,ra138,rn139,rc140,ra141,rn142,rc143,ra144,rn145,rc146,ra147,rn148,rc149,ra150,rn151,rc152,ra153,rn154,rc155,rx156,rF157,hx125,hx126,rfl,N,H⟩
     obtain rfl:=H.zO 4 rfl
     obtain rfl:=H.zO 5 rfl
     obtain rfl:=H.zO 6 rfl
     obtain rfl:=H.zO 7 rfl
     obtain rfl:=H.zO 8 rfl
     obtain rfl:=H.zi (α:=Xb) 9 rfl 2 rfl qj
     refine ⟨H.pick [2,10] [1,0],(ro 4 rfl (vz H Tryz.underlying25 ti56 [.int .i64 zi129,.int .i64 zi130,.slice ra138 zl131.length rc140,.slice ra141 zl132.length rc143,.slice ra144 zl133.length rc146,.slice ra147 zl134.length rc149,.slice ra150 zl135.length rc152,.slice ra153 zI136.length rc155,.bool zb137] fun b158 w159 H=>⟨H.pick [3,11] [1,0],(ro 5 rfl ?_)⟩))⟩
     obtain ⟨G163,N,hn164,H⟩:=H.zV 5 rfl N (fun F hF b hb=>(List.mem_append.1 (show F∈[xF,rF157]++Ns from hF)).elim (fun h=>(H.yK (L:=[xF,rF157]) [1,2]) F h b hb) fun h=>H.Xy (K0.behind 3 rfl) F h b hb)
     try dsimp only [List.set] at H
     obtain ⟨G165,N,hn166,H⟩:=H.zV 6 rfl N (fun F hF b hb=>(List.mem_append.1 (show F∈[G163,xF,rF157]++Ns from hF)).elim (fun h=>(H.yK (L:=[G163,xF,rF157]) [0,2,3]) F h b hb) fun h=>H.Xy (K0.behind 4 rfl) F h b hb)
     try dsimp only [List.set] at H
     obtain ⟨G167,N,hn168,H⟩:=H.zV 7 rfl N (fun F hF b hb=>(List.mem_append.1 (show F∈[G165,G163,xF,rF157]++Ns from hF)).elim (fun h=>(H.yK (L:=[G165,G163,xF,rF157]) [0,1,3,4]) F h b hb) fun h=>H.Xy (K0.behind 5 rfl) F h b hb)
     try dsimp only [List.set] at H
     obtain ⟨G169,N,hn170,H⟩:=H.zV 8 rfl N (fun F hF b hb=>(List.mem_append.1 (show F∈[G167,G165,G163,xF,rF157]++Ns from hF)).elim (fun h=>(H.yK (L:=[G167,G165,G163,xF,rF157]) [0,1,2,4,5]) F h b hb) fun h=>H.Xy (K0.behind 6 rfl) F h b hb)
     try dsimp only [List.set] at H
     obtain ⟨G171,N,hn172,H⟩:=H.zV 9 rfl N (fun F hF b hb=>(List.mem_append.1 (show F∈[G169,G167,G165,G163,xF,rF157]++Ns from hF)).elim (fun h=>(H.yK (L:=[G169,G167,G165,G163,xF,rF157]) [0,1,2,3,5,6]) F h b hb) fun h=>H.Xy (K0.behind 7 rfl) F h b hb)
     try dsimp only [List.set] at H
     have H0:=H
     obtain ⟨G173,hg175,hn174,H⟩:=H.freezeR (α:=Xb) 10 rfl 7 rfl qj
     replace N:Fresh W0.heap.size (G173 :: G171 :: G169 :: G167 :: G165 :: G163 :: xF :: Ns):=Fresh.ice (N.xE 7 [6,0,1,2,3,4,5] qo) H0 10 hg175.1 hg175.2 (fun F hF b hb=>(List.mem_append.1 (show F∈[G171,G169,G167,G165,G163,xF]++Ns from hF)).elim (fun h=>(H0.yK (L:=[G171,G169,G167,G165,G163,xF]) [0,1,2,3,4,6]) F h b hb) fun h=>H0.Xy (K0.behind 8 rfl) F h b hb)
     clear H0
     try dsimp only [List.set] at H
     refine vM H 4 rfl 0 rfl Tryz.underlying25 ti56 rfl qj rfl rfl rfl (by simp [Value.oneCell',Value.cells]) qp qf fun a160 c161 w162 H=>?_
     try dsimp only [List.set] at H
     replace H:=H.snoc_RuleD 7 rfl zi129 zi130 5 rfl 4 rfl 3 rfl 2 rfl 1 rfl 0 rfl zb137
     replace N:Fresh W0.heap.size ((xF++(G163++G165++G167++G169++G171++G173)) :: Ns):=(N.xE 7 [5,4,3,2,1,0,6] qo).join.join.join.join.join.swap.join
     refine ⟨H.pick [3,11] [8,7],(tF 6 rfl rfl (H.pick [3,11] [8,7]) ?_)⟩
     refine ro 7 rfl (zU H 2 [.int .i64 (1+zi9),.slice zB xQ zA,.slice a160 (yh+1) c161] Tryz.sizeOf25 fun w176 H=>?_)
     try dsimp only [List.set] at H
     refine ⟨H.pick [3,11] [8,7],(xh qh ((meet ⟨_,zi127,zi129,zi130,zl131,zl132,zl133,zl134,zl135,zI136,zb137,zi128,a160,c161,ra138,rc140,ra141,rc143,ra144,rc146,ra147,rc149,ra150,rc152,ra153,rc155,G163,G165,G167,G169,G171,G173,uE4,hx125,hx126,N,H.xE 12 10 [1,2,3,4,11] [0,1,2,3,4,5,6,7] qo qo⟩)))⟩
    ·skip
     have f0:ji (⟨1+zi9,y_Parents,y_Rules⟩:qy):=frame_of i3 qf qf
     have H1:St W0 w88.drew ((.box bs [.slice ac code.length cc,.int .i64 s_at_1,.int .u64 s_seed_1] 127) :: (.box b12 [.int .i64 (1+zi9),.slice zB xQ zA,.slice Qx yh Qw] 27) :: (rr zB xQ zA 2 1 (y_Parents.map (Value.int .i64))) :: (rr Qx yh Qw 56 9 xP) :: (.box b1 [.int .i64 0,.slice none 0 0,.slice none 0 0] 27) :: ps) ((sF false Fc ac cc code) :: (xe true xF xP y_Rules) :: Γ):=H.xE 5 2 [1,2,3,0,4] [1,0] qo qo
     have N1:Fresh _ (xF :: Ns):=N
     have K1:Kept (Ns) (Γ):=K0.behind 0 rfl
     refine xI #[.pointer (some ⟨bs,0,none⟩),.pointer (some ⟨b12,0,none⟩)] rfl rfl Tryz.call144 (dRule_ok code s_at_1 s_seed_1 bs ac cc Fc (1+zi9) y_Parents y_Rules b12 zB xQ zA Qx yh Qw xP xF H1 N1 K1 qg qg) ?_
     clear H H1 N1 K1
     rintro _ w177 ⟨zi181,zi182,zi183,zi184,zl185,zl186,zl187,zl188,zl189,zI190,zb191,ra192,rn193,rc194,ra195,rn196,rc197,ra198,rn199,rc200,ra201,rn202,rc203,ra204,rn205,rc206,ra207,rn208,rc209,rx210,rF211,hx179,hx180,rfl,N,H⟩
     obtain rfl:=H.zO 4 rfl
     obtain rfl:=H.zO 5 rfl
     obtain rfl:=H.zO 6 rfl
     obtain rfl:=H.zO 7 rfl
     obtain rfl:=H.zO 8 rfl
     obtain rfl:=H.zi (α:=Xb) 9 rfl 2 rfl qj
     refine ⟨H.pick [2,10] [1,0],(zI [1,4] qh qm (vk rfl ?_ (vk rfl ?_ zJ)))⟩
     ·skip
      refine zk (.slice Qx yh Qw) Tryz.isAgg25 rfl (H.cell 1 rfl rfl) (⟨H.pick [2,10] [1,0],(ro 4 rfl (vz H Tryz.underlying25 ti56 [.int .i64 zi183,.int .i64 zi184,.slice ra192 zl185.length rc194,.slice ra195 zl186.length rc197,.slice ra198 zl187.length rc200,.slice ra201 zl188.length rc203,.slice ra204 zl189.length rc206,.slice ra207 zI190.length rc209,.bool zb191] fun b212 w213 H=>⟨H.pick [3,11] [1,0],(ro 5 rfl ?_)⟩))⟩)
      obtain ⟨G217,N,hn218,H⟩:=H.zV 5 rfl N (fun F hF b hb=>(List.mem_append.1 (show F∈[xF,rF211]++Ns from hF)).elim (fun h=>(H.yK (L:=[xF,rF211]) [1,2]) F h b hb) fun h=>H.Xy (K0.behind 3 rfl) F h b hb)
      try dsimp only [List.set] at H
      obtain ⟨G219,N,hn220,H⟩:=H.zV 6 rfl N (fun F hF b hb=>(List.mem_append.1 (show F∈[G217,xF,rF211]++Ns from hF)).elim (fun h=>(H.yK (L:=[G217,xF,rF211]) [0,2,3]) F h b hb) fun h=>H.Xy (K0.behind 4 rfl) F h b hb)
      try dsimp only [List.set] at H
      obtain ⟨G221,N,hn222,H⟩:=H.zV 7 rfl N (fun F hF b hb=>(List.mem_append.1 (show F∈[G219,G217,xF,rF211]++Ns from hF)).elim (fun h=>(H.yK (L:=[G219,G217,xF,rF211]) [0,1,3,4]) F h b hb) fun h=>H.Xy (K0.behind 5 rfl) F h b hb)
      try dsimp only [List.set] at H
      obtain ⟨G223,N,hn224,H⟩:=H.zV 8 rfl N (fun F hF b hb=>(List.mem_append.1 (show F∈[G221,G219,G217,xF,rF211]++Ns from hF)).elim (fun h=>(H.yK (L:=[G221,G219,G217,xF,rF211]) [0,1,2,4,5]) F h b hb) fun h=>H.Xy (K0.behind 6 rfl) F h b hb)
      try dsimp only [List.set] at H
      obtain ⟨G225,N,hn226,H⟩:=H.zV 9 rfl N (fun F hF b hb=>(List.mem_append.1 (show F∈[G223,G221,G219,G217,xF,rF211]++Ns from hF)).elim (fun h=>(H.yK (L:=[G223,G221,G219,G217,xF,rF211]) [0,1,2,3,5,6]) F h b hb) fun h=>H.Xy (K0.behind 7 rfl) F h b hb)
      try dsimp only [List.set] at H
      have H0:=H
      obtain ⟨G227,hg229,hn228,H⟩:=H.freezeR (α:=Xb) 10 rfl 7 rfl qj
      replace N:Fresh W0.heap.size (G227 :: G225 :: G223 :: G221 :: G219 :: G217 :: xF :: Ns):=Fresh.ice (N.xE 7 [6,0,1,2,3,4,5] qo) H0 10 hg229.1 hg229.2 (fun F hF b hb=>(List.mem_append.1 (show F∈[G225,G223,G221,G219,G217,xF]++Ns from hF)).elim (fun h=>(H0.yK (L:=[G225,G223,G221,G219,G217,xF]) [0,1,2,3,4,6]) F h b hb) fun h=>H0.Xy (K0.behind 8 rfl) F h b hb)
      clear H0
      try dsimp only [List.set] at H
      refine vM H 4 rfl 0 rfl Tryz.underlying25 ti56 rfl qj rfl rfl rfl (by simp [Value.oneCell',Value.cells]) qp qf fun a214 c215 w216 H=>?_
      try dsimp only [List.set] at H
      replace H:=H.snoc_RuleD 7 rfl zi183 zi184 5 rfl 4 rfl 3 rfl 2 rfl 1 rfl 0 rfl zb191
      replace N:Fresh W0.heap.size ((xF++(G217++G219++G221++G223++G225++G227)) :: Ns):=(N.xE 7 [5,4,3,2,1,0,6] qo).join.join.join.join.join.swap.join
      refine ⟨H.pick [3,11] [8,7],(tF 6 rfl rfl (H.pick [3,11] [8,7]) ?_)⟩
      refine ro 7 rfl (zU H 2 [.int .i64 (1+zi9),.slice zB xQ zA,.slice a214 (yh+1) c215] Tryz.sizeOf25 fun w230 H=>?_)
      try dsimp only [List.set] at H
      refine ⟨H.pick [3,11] [8,7],(xh qh ((meet ⟨_,zi181,zi183,zi184,zl185,zl186,zl187,zl188,zl189,zI190,zb191,zi182,a214,c215,ra192,rc194,ra195,rc197,ra198,rc200,ra201,rc203,ra204,rc206,ra207,rc209,G217,G219,G221,G223,G225,G227,uE4,hx179,hx180,N,H.xE 12 10 [1,2,3,4,11] [0,1,2,3,4,5,6,7] qo qo⟩)))⟩
     ·skip
      refine vz H Tryz.underlying25 ti56 [.int .i64 zi183,.int .i64 zi184,.slice ra192 zl185.length rc194,.slice ra195 zl186.length rc197,.slice ra198 zl187.length rc200,.slice ra201 zl188.length rc203,.slice ra204 zl189.length rc206,.slice ra207 zI190.length rc209,.bool zb191] fun b231 w232 H=>⟨H.pick [3,11] [1,0],(ro 1 rfl (zk (.slice Qx yh Qw) Tryz.isAgg25 rfl (H.cell 2 rfl rfl) (⟨H.pick [3,11] [1,0],(ro 5 rfl ?_)⟩)))⟩
      obtain ⟨G236,N,hn237,H⟩:=H.zV 5 rfl N (fun F hF b hb=>(List.mem_append.1 (show F∈[xF,rF211]++Ns from hF)).elim (fun h=>(H.yK (L:=[xF,rF211]) [1,2]) F h b hb) fun h=>H.Xy (K0.behind 3 rfl) F h b hb)
      try dsimp only [List.set] at H
      obtain ⟨G238,N,hn239,H⟩:=H.zV 6 rfl N (fun F hF b hb=>(List.mem_append.1 (show F∈[G236,xF,rF211]++Ns from hF)).elim (fun h=>(H.yK (L:=[G236,xF,rF211]) [0,2,3]) F h b hb) fun h=>H.Xy (K0.behind 4 rfl) F h b hb)
      try dsimp only [List.set] at H
      obtain ⟨G240,N,hn241,H⟩:=H.zV 7 rfl N (fun F hF b hb=>(List.mem_append.1 (show F∈[G238,G236,xF,rF211]++Ns from hF)).elim (fun h=>(H.yK (L:=[G238,G236,xF,rF211]) [0,1,3,4]) F h b hb) fun h=>H.Xy (K0.behind 5 rfl) F h b hb)
      try dsimp only [List.set] at H
      obtain ⟨G242,N,hn243,H⟩:=H.zV 8 rfl N (fun F hF b hb=>(List.mem_append.1 (show F∈[G240,G238,G236,xF,rF211]++Ns from hF)).elim (fun h=>(H.yK (L:=[G240,G238,G236,xF,rF211]) [0,1,2,4,5]) F h b hb) fun h=>H.Xy (K0.behind 6 rfl) F h b hb)
      try dsimp only [List.set] at H
      obtain ⟨G244,N,hn245,H⟩:=H.zV 9 rfl N (fun F hF b hb=>(List.mem_append.1 (show F∈[G242,G240,G238,G236,xF,rF211]++Ns from hF)).elim (fun h=>(H.yK (L:=[G242,G240,G238,G236,xF,rF211]) [0,1,2,3,5,6]) F h b hb) fun h=>H.Xy (K0.behind 7 rfl) F h b hb)
      try dsimp only [List.set] at H
      have H0:=H
      obtain ⟨G246,hg248,hn247,H⟩:=H.freezeR (α:=Xb) 10 rfl 7 rfl qj
      replace N:Fresh W0.heap.size (G246 :: G244 :: G242 :: G240 :: G238 :: G236 :: xF :: Ns):=Fresh.ice (N.xE 7 [6,0,1,2,3,4,5] qo) H0 10 hg248.1 hg248.2 (fun F hF b hb=>(List.mem_append.1 (show F∈[G244,G242,G240,G238,G236,xF]++Ns from hF)).elim (fun h=>(H0.yK (L:=[G244,G242,G240,G238,G236,xF]) [0,1,2,3,4,6]) F h b hb) fun h=>H0.Xy (K0.behind 8 rfl) F h b hb)
      clear H0
      try dsimp only [List.set] at H
      refine vM H 4 rfl 0 rfl Tryz.underlying25 ti56 rfl qj rfl rfl rfl (by simp [Value.oneCell',Value.cells]) qp qf fun a233 c234 w235 H=>?_
      try dsimp only [List.set] at H
      replace H:=H.snoc_RuleD 7 rfl zi183 zi184 5 rfl 4 rfl 3 rfl 2 rfl 1 rfl 0 rfl zb191
      replace N:Fresh W0.heap.size ((xF++(G236++G238++G240++G242++G244++G246)) :: Ns):=(N.xE 7 [5,4,3,2,1,0,6] qo).join.join.join.join.join.swap.join
      refine ⟨H.pick [3,11] [8,7],(tF 6 rfl rfl (H.pick [3,11] [8,7]) ?_)⟩
      refine ro 7 rfl (zU H 2 [.int .i64 (1+zi9),.slice zB xQ zA,.slice a233 (yh+1) c234] Tryz.sizeOf25 fun w249 H=>?_)
      try dsimp only [List.set] at H
      refine ⟨H.pick [3,11] [8,7],(xh qh ((meet ⟨_,zi181,zi183,zi184,zl185,zl186,zl187,zl188,zl189,zI190,zb191,zi182,a233,c234,ra192,rc194,ra195,rc197,ra198,rc200,ra201,rc203,ra204,rc206,ra207,rc209,G236,G238,G240,G242,G244,G246,uE4,hx179,hx180,N,H.xE 12 10 [1,2,3,4,11] [0,1,2,3,4,5,6,7] qo qo⟩)))⟩
   ·skip
    clear H N
    rintro ρ w250 ⟨zx,zi90,zi91,zi92,zl93,zl94,zl95,zl96,zl97,zI98,zb99,zi100,a101,c102,ra103,rc104,ra105,rc106,ra107,rc108,ra109,rc110,ra111,rc112,ra113,rc114,G115,G116,G117,G118,G119,G120,rfl,hx251,hx252,N,H⟩
    refine b_n (t_n (zl (sp (.int .i64 k) (sw (o_sub k 1 rfl rfl qf (sp (.int .i64 (k - 1)) (zo ?_)))))))
    refine xn (m' :=(k - 1).toNat) qf ⟨_,k - 1,zi90,zi100,a101,yh+1,c102,(y_Rules++[(⟨zi91,zi92,zl93,zl94,zl95,zl96,zl97,zI98,zb99⟩:jg)]),(xP++[Value.int .i64 zi91,Value.int .i64 zi92,Value.slice ra103 zl93.length rc104,Value.slice ra105 zl94.length rc106,Value.slice ra107 zl95.length rc108,Value.slice ra109 zl96.length rc110,Value.slice ra111 zl97.length rc112,Value.slice ra113 zI98.length rc114,Value.bool zb99]:List Value),(xF++(G115++G116++G117++G118++G119++G120)),uE4,?_,?_,?_,rfl,N,H.xE 5 8 [3,0,1,2,4] [0,7] qo qo⟩
    · omega
    · simp;omega
    · exact j3.snoc ql
  ·skip
   refine zx4 (zcr (sw (zu [.int .i64 (1+zi9),.slice zB xQ zA,.slice Qx yh Qw] Tryz.isAgg27 Tryz.sizeOf27 rfl (qH (H.cells 2 rfl) 0 3) (sw (qV H 4 [.int .i64 (1+zi9),.slice zB xQ zA,.slice Qx yh Qw] Tryz.sizeOf27 fun w253 H=>?_)))))
   try dsimp only [List.set] at H
   refine zjr (retC H 4 rfl rfl Tryz.isAgg27 Tryz.sizeOf27 rfl ⟨_,rfl,(⟨s_at_1,s_seed_1,1+zi9,y_Parents,y_Rules,zB,xQ,zA,Qx,yh,Qw,xP,xF,qf,(by exact sysDr_of i3 qf qf qf j3),rfl,N,H.xE 5 2 [1,3,0] [1,0] qo qo⟩)⟩)

theorem dState_ok {W0 w:World} {ps:List Prv} {Γ:List Fact} {Ns:List yLN} (code:List UInt8) (ip:Int) (sd:Int) (bs:Nat) (ac:yOA) (cc:Nat) (Fc:yLN) (kk:Int) (par:yLI) (rules:List jg) (bY:Nat) (rap:yOA) (rnp:Nat) (rcp:Nat) (raR:yOA) (rnR:Nat) (rcR:Nat) (rxR:List Value) (rFR:yLN) (frR:Bool) (most:Int) (H:St W0 w ((.box bs [.slice ac code.length cc,.int .i64 ip,.int .u64 sd] 127) :: (.box bY [.int .i64 kk,.slice rap rnp rcp,.slice raR rnR rcR] 27) :: (rr rap rnp rcp 2 1 (par.map (Value.int .i64))) :: (rr raR rnR rcR 56 9 rxR) :: ps) ((sF false Fc ac cc code) :: (xe frR rFR rxR rules) :: Γ)) (N:Fresh W0.heap.size (Ns)) (K0:Kept Ns Γ) (q0:0≤ip∧ip≤40000) (f0:ji (⟨kk,par,rules⟩:qy)) (q2:1≤most∧most≤6):Calls Tryz.prog 79 #[.pointer (some ⟨bs,0,none⟩),.pointer (some ⟨bY,0,none⟩),.int .i64 most] w (fun e w' =>∃ v,e=.returned v∧∃ (ip_:Int) (sd_:Int) (alive_:List Bool) (bags_:yLL) (around_:yLI) (raA:yOA) (rnA:Nat) (rcA:Nat) (raB:yOA) (rnB:Nat) (rcB:Nat) (rxB:List Value) (rFB:yLN) (raD:yOA) (rnD:Nat) (rcD:Nat),(ip≤ip_∧ip_≤ip+200)∧(StDr kk par.length most alive_ bags_ around_)∧v=.agg #[.slice raA rnA rcA,.slice raB rnB rcB,.slice raD rnD rcD]∧Fresh W0.heap.size (rFB :: Ns)∧St W0 w' ((.box bs [.slice ac code.length cc,.int .i64 ip_,.int .u64 sd_] 127) :: (.box bY [.int .i64 kk,.slice rap rnp rcp,.slice raR rnR rcR] 27) :: (rr rap rnp rcp 2 1 (par.map (Value.int .i64))) :: (rr raR rnR rcR 56 9 rxR) :: (rr raA rnA rcA 4 1 (alive_.map (Value.bool))) :: (rr raB rnB rcB 24 1 rxB) :: (rr raD rnD rcD 2 1 (around_.map (Value.int .i64))) :: ps) ((sF false Fc ac cc code) :: (xe frR rFR rxR rules) :: (xe true rFB rxB bags_) :: Γ)):=by
 refine en Tryz.func79 Tryz.ntmps79 ?_
 have ncode:=qQ (H.get 0 rfl).1
 obtain rfl:=H.zO 2 rfl
 obtain rfl:=H.zi (α:=jg) 3 rfl 1 rfl qj
 have f1:1≤kk∧kk≤8:=f0.1
 have f2:1≤par.length∧par.length≤6:=f0.2.1
 refine zcr (sw (xu H ti31 [.slice none 0 0,.slice none 0 0,.slice none 0 0] fun b1 w2 H=>zjc (sps [.pointer (some ⟨bY,0,none⟩),.pointer (some ⟨bY,0,none⟩)] (oF rfl (oL rfl (H.cell 2 rfl rfl) (sw (zh H Tryz.underlying24 ti2 kk.toNat rfl rfl qf qf qf fun b3 w4 H=>sw (xK [.slice none 0 0,.slice none 0 0,.slice (some ⟨b3,0,none⟩) kk.toNat kk.toNat] [(2,.slice (some ⟨b3,0,none⟩) kk.toNat kk.toNat)] (sw (xu H ti31 [.slice none 0 0,.slice none 0 0,.slice none 0 0] fun b5 w6 H=>?_))))))))))
 refine sw (qV H 0 [.slice none 0 0,.slice none 0 0,.slice (some ⟨b3,0,none⟩) kk.toNat kk.toNat] Tryz.sizeOf31 fun w7 H=>?_)
 try dsimp only [List.set] at H
 refine zjcc (sp (.int .i64 0) (zjn (xq ?_)))
 replace H:=H.nilRowB 4
 replace H:=H.nilRow 24 1
 replace H:=H.Qz (α:=yLI)
 refine vJ (fun m' ρ w8=>∃ (zx:Env) (c:Nat) (s_at:Int) (s_seed:Int) (yF:yOA) (je:Nat) (yE:Nat) (t_Alive:List Bool) (yV:yOA) (jJ:Nat) (yQ:Nat) (t_Bags:yLL) (yM:List Value) (vX:yLN),ρ=upd (upd (upd (upd (upd (upd zx 0 (.pointer (some ⟨bs,0,none⟩))) 1 (.pointer (some ⟨bY,0,none⟩))) 2 (.int .i64 most)) 6 (.pointer (some ⟨b1,0,none⟩))) 7 (.pointer (some ⟨b5,0,none⟩))) 8 (.int .i64 c)∧((c:Int)≤par.length)∧(ip≤s_at∧s_at≤ip+22 * c)∧(StTo kk most c t_Alive t_Bags)∧m' =(par.length - (c:Int)).toNat∧Fresh W0.heap.size (vX :: Ns)∧St W0 w8 ((rr yV jJ yQ 24 1 yM) :: (rr yF je yE 4 1 (t_Alive.map (Value.bool))) :: (.box b5 [.slice yF je yE,.slice yV jJ yQ,.slice (some ⟨b3,0,none⟩) kk.toNat kk.toNat] 31) :: (rr (some ⟨b3,0,none⟩) kk.toNat kk.toNat 2 1 ((List.replicate kk.toNat (0:Int)).map (Value.int .i64))) :: (.box b1 [.slice none 0 0,.slice none 0 0,.slice none 0 0] 31) :: (.box bs [.slice ac code.length cc,.int .i64 s_at,.int .u64 s_seed] 127) :: (.box bY [.int .i64 kk,.slice rap par.length rcp,.slice raR rules.length rcR] 27) :: (rr rap par.length rcp 2 1 (par.map (Value.int .i64))) :: (rr raR rules.length rcR 56 9 rxR) :: ps) ((xe true vX yM t_Bags) :: (sF false Fc ac cc code) :: (xe frR rFR rxR rules) :: Γ)) ((par.length - (0:Int)).toNat) ⟨_,0,ip,sd,none,0,0,[],none,0,0,([]:yLL),[],[],uE6,qf,qf,(by exact StTo.nil _ _),rfl,N.emp,H⟩ ?_
 clear H N
 rintro m' ρ w9 ⟨zx,c,s_at,s_seed,yF,je,yE,t_Alive,yV,jJ,yQ,t_Bags,yM,vX,rfl,i0,i1,i2,rfl,N,H⟩
 have hn_t_Alive:=H.QY 1 rfl
 have hn_t_Bags:=H.zi (α:=yLI) 0 rfl 0 rfl qj
 have i3:=i2.la
 have i4:=i2.lb
 refine zcc (sps [.int .i64 c,.pointer (some ⟨bY,0,none⟩),.pointer (some ⟨bY,0,none⟩)] (oF rfl (oL rfl (H.cell 6 rfl rfl) (oN rfl (sp (.bool (decide ((c:Int) < par.length))) (zjn (cD rfl (fun h10=>?_) (fun h10=>?_))))))))
 ·skip
  refine xw (t_n (zn (xq (zcr (sps [.int .i64 c,.bool ((c:Int) == 0),.bool ((c:Int) == 0)] ?_)))))
  cases h11:((c:Int) == 0)
  ·skip
   replace h11:=ne_of_beq_false h11
   refine qL 28 rfl rfl (sp (.pointer (some ⟨bs,0,none⟩)) (qL 28 rfl rfl ?_))
   have H1:St W0 w9 ((.box bs [.slice ac code.length cc,.int .i64 s_at,.int .u64 s_seed] 127) :: (rr yV jJ yQ 24 1 yM) :: (rr yF je yE 4 1 (t_Alive.map (Value.bool))) :: (.box b5 [.slice yF je yE,.slice yV jJ yQ,.slice (some ⟨b3,0,none⟩) kk.toNat kk.toNat] 31) :: (rr (some ⟨b3,0,none⟩) kk.toNat kk.toNat 2 1 ((List.replicate kk.toNat (0:Int)).map (Value.int .i64))) :: (.box b1 [.slice none 0 0,.slice none 0 0,.slice none 0 0] 31) :: (.box bY [.int .i64 kk,.slice rap par.length rcp,.slice raR rules.length rcR] 27) :: (rr rap par.length rcp 2 1 (par.map (Value.int .i64))) :: (rr raR rules.length rcR 56 9 rxR) :: ps) ((sF false Fc ac cc code) :: (xe true vX yM t_Bags) :: (xe frR rFR rxR rules) :: Γ):=H.xE 9 3 [5,0,1,2,3,4,6,7,8] [1,0,2] qo qo
   have N1:Fresh _ (vX :: Ns):=N
   have K1:Kept (Ns) ((xe true vX yM t_Bags) :: (xe frR rFR rxR rules) :: Γ):=K0.behind 2 rfl
   replace K1:=K1.cons (F:=vX) 0 rfl rfl
   refine sw (xI #[.pointer (some ⟨bs,0,none⟩),.int .i64 8] rfl rfl Tryz.call66 (dOne_ok code s_at s_seed bs ac cc Fc (8:Int) H1 N1 K1 qg) ?_)
   clear H H1 N1 K1
   rintro _ w12 ⟨zi15,zi16,zb17,hx14,rfl,N,H⟩
   refine qL 28 rfl rfl (sps [.bool !zb17,.bool !zb17,.bool !zb17] (zjc (sps [.pointer (some ⟨bY,0,none⟩),.pointer (some ⟨bY,0,none⟩)] (oF rfl (oL rfl (H.cell 6 rfl rfl) (sw (zh H Tryz.underlying24 ti2 kk.toNat rfl rfl qf qf qf fun b18 w19 H=>sp (.slice (some ⟨b18,0,none⟩) kk.toNat kk.toNat) (zjcc (sp (.bool !zb17) (zjn (xO (!zb17) rfl (fun h20=>?_) (fun h20=>?_))))))))))))
   ·skip
    replace h20:=xy h20
    refine zl (sps [.pointer (some ⟨bs,0,none⟩),.pointer (some ⟨bY,0,none⟩),.pointer (some ⟨bY,0,none⟩)] (oF rfl (oL rfl (H.cell 7 rfl rfl) (sp (.int .i64 most) ?_))))
    have H1:St W0 w19 ((.box bs [.slice ac code.length cc,.int .i64 zi15,.int .u64 zi16] 127) :: (rr (some ⟨b18,0,none⟩) kk.toNat kk.toNat 2 1 ((List.replicate kk.toNat (0:Int)).map (Value.int .i64))) :: (rr yV jJ yQ 24 1 yM) :: (rr yF je yE 4 1 (t_Alive.map (Value.bool))) :: (.box b5 [.slice yF je yE,.slice yV jJ yQ,.slice (some ⟨b3,0,none⟩) kk.toNat kk.toNat] 31) :: (rr (some ⟨b3,0,none⟩) kk.toNat kk.toNat 2 1 ((List.replicate kk.toNat (0:Int)).map (Value.int .i64))) :: (.box b1 [.slice none 0 0,.slice none 0 0,.slice none 0 0] 31) :: (.box bY [.int .i64 kk,.slice rap par.length rcp,.slice raR rules.length rcR] 27) :: (rr rap par.length rcp 2 1 (par.map (Value.int .i64))) :: (rr raR rules.length rcR 56 9 rxR) :: ps) ((sF false Fc ac cc code) :: (xe true vX yM t_Bags) :: (xe frR rFR rxR rules) :: Γ):=H.xE 10 3 [1,0,2,3,4,5,6,7,8,9] [0,1,2] qo qo
    have N1:Fresh _ (vX :: Ns):=N
    have K1:Kept (Ns) ((xe true vX yM t_Bags) :: (xe frR rFR rxR rules) :: Γ):=K0.behind 2 rfl
    replace K1:=K1.cons (F:=vX) 0 rfl rfl
    refine sw (xI #[.pointer (some ⟨bs,0,none⟩),.int .i64 kk,.int .i64 most] rfl rfl Tryz.call145 (dFew_ok code zi15 zi16 bs ac cc Fc kk most H1 N1 K1 qg qg qg) ?_)
    clear H H1 N1 K1
    rintro _ w21 ⟨zi25,zi26,zl27,ra28,rn29,rc30,hx23,hx24,rfl,N,H⟩
    obtain rfl:=H.zO 1 rfl
    refine sp (.slice ra28 zl27.length rc30) (zjc (oF rfl (oL rfl (H.cell 5 rfl rfl) (sp (.bool !zb17) (sw (vz H Tryz.underlying28 ti4 [.bool !zb17] fun b31 w32 H=>sw (vM H 5 rfl 0 rfl Tryz.underlying28 ti4 rfl qj rfl rfl rfl (by simp [Value.oneCell',Value.cells]) qp qf fun a33 c34 w35 H=>?_)))))))
    rw [snocB] at H
    try dsimp only [List.set] at H
    refine oF rfl (sw (zU H 6 [.slice a33 (je+1) c34,.slice yV jJ yQ,.slice (some ⟨b3,0,none⟩) kk.toNat kk.toNat] Tryz.sizeOf28 fun w36 H=>?_))
    try dsimp only [List.set] at H
    refine zjn (zl (oF rfl (oL rfl (H.cell 6 rfl rfl) (sp (.slice ra28 zl27.length rc30) (sw (vz H Tryz.underlying29 ti24 [.slice ra28 zl27.length rc30] fun b37 w38 H=>?_))))))
    obtain ⟨G42,N,hn43,H⟩:=H.zV 3 rfl N (fun F hF b hb=>(List.mem_append.1 (show F∈[vX]++Ns from hF)).elim (fun h=>(H.yK (L:=[vX]) [1]) F h b hb) fun h=>H.Xy (K0.behind 3 rfl) F h b hb)
    try dsimp only [List.set] at H
    refine sw (vM H 5 rfl 0 rfl Tryz.underlying29 ti24 rfl qj rfl rfl rfl (by simp [Value.oneCell',Value.cells]) qp qf fun a39 c40 w41 H=>?_)
    try dsimp only [List.set] at H
    replace H:=H.Q9 2 rfl 0 rfl
    replace N:Fresh W0.heap.size ((vX++G42) :: Ns):=(N.xE 2 [1,0] qo).join
    refine oF rfl (sw (zU H 7 [.slice a33 (je+1) c34,.slice a39 (jJ+1) c40,.slice (some ⟨b3,0,none⟩) kk.toNat kk.toNat] Tryz.sizeOf29 fun w44 H=>?_))
    try dsimp only [List.set] at H
    refine zo (b_n (t_n (zl (sp (.int .i64 c) (sw (vg c 1 rfl rfl qf (sp (.int .i64 (c+1)) (zo (xn (m' :=(par.length - ((c+1):Int)).toNat) qf ⟨_,c+1,zi25,zi26,a33,je+1,c34,(t_Alive++[!zb17]),a39,jJ+1,c40,(t_Bags++[zl27]),(yM++[Value.slice ra28 zl27.length rc30]:List Value),(vX++G42),uE6,?_,?_,?_,rfl,N,H.xE 13 5 [5,6,7,8,9,2,10,11,12] [0,2,4] qo qo⟩)))))))))
    · omega
    · omega
    · first | exact i2.snoc (fun _=>rfl) ql (fun h=>by cases h) | exact i2.snoc (fun h=>by omega) ql (fun h=>by simp_all) | exact i2.snoc (fun h=>by omega) (zX.zero qf qf) (fun _=>sum_zeros _)
   ·skip
    replace h20:=xm h20
    refine xw (t_n (zcr (oF rfl (oL rfl (H.cell 4 rfl rfl) (sp (.bool !zb17) (sw (vz H Tryz.underlying28 ti4 [.bool !zb17] fun b45 w46 H=>sw (vM H 4 rfl 0 rfl Tryz.underlying28 ti4 rfl qj rfl rfl rfl (by simp [Value.oneCell',Value.cells]) qp qf fun a47 c48 w49 H=>?_))))))))
    rw [snocB] at H
    try dsimp only [List.set] at H
    refine oF rfl (sw (zU H 5 [.slice a47 (je+1) c48,.slice yV jJ yQ,.slice (some ⟨b3,0,none⟩) kk.toNat kk.toNat] Tryz.sizeOf28 fun w50 H=>?_))
    try dsimp only [List.set] at H
    refine zjn (zl (oF rfl (oL rfl (H.cell 5 rfl rfl) (sp (.slice (some ⟨b18,0,none⟩) kk.toNat kk.toNat) (sw (vz H Tryz.underlying29 ti24 [.slice (some ⟨b18,0,none⟩) kk.toNat kk.toNat] fun b51 w52 H=>?_))))))
    obtain ⟨G56,N,hn57,H⟩:=H.zV 2 rfl N (fun F hF b hb=>(List.mem_append.1 (show F∈[vX]++Ns from hF)).elim (fun h=>(H.yK (L:=[vX]) [1]) F h b hb) fun h=>H.Xy (K0.behind 3 rfl) F h b hb)
    try dsimp only [List.set] at H
    refine sw (vM H 4 rfl 0 rfl Tryz.underlying29 ti24 rfl qj rfl rfl rfl (by simp [Value.oneCell',Value.cells]) qp qf fun a53 c54 w55 H=>?_)
    try dsimp only [List.set] at H
    replace H:=H.Q9 2 rfl 0 rfl
    replace N:Fresh W0.heap.size ((vX++G56) :: Ns):=(N.xE 2 [1,0] qo).join
    refine oF rfl (sw (zU H 6 [.slice a47 (je+1) c48,.slice a53 (jJ+1) c54,.slice (some ⟨b3,0,none⟩) kk.toNat kk.toNat] Tryz.sizeOf29 fun w58 H=>?_))
    try dsimp only [List.set] at H
    refine zo (b_n (t_n (zl (sp (.int .i64 c) (sw (vg c 1 rfl rfl qf (sp (.int .i64 (c+1)) (zo (xn (m' :=(par.length - ((c+1):Int)).toNat) qf ⟨_,c+1,zi15,zi16,a47,je+1,c48,(t_Alive++[!zb17]),a53,jJ+1,c54,(t_Bags++[(List.replicate kk.toNat (0:Int))]),(yM++[Value.slice (some ⟨b18,0,none⟩) kk.toNat kk.toNat]:List Value),(vX++G56),uE6,?_,?_,?_,rfl,N,H.xE 12 5 [4,5,6,7,8,3,9,10,11] [0,2,4] qo qo⟩)))))))))
    · omega
    · omega
    · first | exact i2.snoc (fun _=>rfl) ql (fun h=>by cases h) | exact i2.snoc (fun h=>by omega) ql (fun h=>by simp_all) | exact i2.snoc (fun h=>by omega) (zX.zero qf qf) (fun _=>sum_zeros _)
  ·skip
   replace h11:=eq_of_beq h11
   refine xR [29,30,31] (sps [.bool true,.bool true] (zjc (sps [.pointer (some ⟨bY,0,none⟩),.pointer (some ⟨bY,0,none⟩)] (oF rfl (oL rfl (H.cell 6 rfl rfl) (sw (zh H Tryz.underlying24 ti2 kk.toNat rfl rfl qf qf qf fun b59 w60 H=>sp (.slice (some ⟨b59,0,none⟩) kk.toNat kk.toNat) (zjcc (sp (.bool true) (zjn (xO true rfl (fun _=>zl (sps [.pointer (some ⟨bs,0,none⟩),.pointer (some ⟨bY,0,none⟩),.pointer (some ⟨bY,0,none⟩)] (oF rfl (oL rfl (H.cell 7 rfl rfl) (sp (.int .i64 most) ?_))))) (fun h=>absurd h qj))))))))))))
   have H1:St W0 w60 ((.box bs [.slice ac code.length cc,.int .i64 s_at,.int .u64 s_seed] 127) :: (rr (some ⟨b59,0,none⟩) kk.toNat kk.toNat 2 1 ((List.replicate kk.toNat (0:Int)).map (Value.int .i64))) :: (rr yV jJ yQ 24 1 yM) :: (rr yF je yE 4 1 (t_Alive.map (Value.bool))) :: (.box b5 [.slice yF je yE,.slice yV jJ yQ,.slice (some ⟨b3,0,none⟩) kk.toNat kk.toNat] 31) :: (rr (some ⟨b3,0,none⟩) kk.toNat kk.toNat 2 1 ((List.replicate kk.toNat (0:Int)).map (Value.int .i64))) :: (.box b1 [.slice none 0 0,.slice none 0 0,.slice none 0 0] 31) :: (.box bY [.int .i64 kk,.slice rap par.length rcp,.slice raR rules.length rcR] 27) :: (rr rap par.length rcp 2 1 (par.map (Value.int .i64))) :: (rr raR rules.length rcR 56 9 rxR) :: ps) ((sF false Fc ac cc code) :: (xe true vX yM t_Bags) :: (xe frR rFR rxR rules) :: Γ):=H.xE 10 3 [6,0,1,2,3,4,5,7,8,9] [1,0,2] qo qo
   have N1:Fresh _ (vX :: Ns):=N
   have K1:Kept (Ns) ((xe true vX yM t_Bags) :: (xe frR rFR rxR rules) :: Γ):=K0.behind 2 rfl
   replace K1:=K1.cons (F:=vX) 0 rfl rfl
   refine sw (xI #[.pointer (some ⟨bs,0,none⟩),.int .i64 kk,.int .i64 most] rfl rfl Tryz.call145 (dFew_ok code s_at s_seed bs ac cc Fc kk most H1 N1 K1 qg qg qg) ?_)
   clear H H1 N1 K1
   rintro _ w61 ⟨zi65,zi66,zl67,ra68,rn69,rc70,hx63,hx64,rfl,N,H⟩
   obtain rfl:=H.zO 1 rfl
   refine sp (.slice ra68 zl67.length rc70) (zjc (oF rfl (oL rfl (H.cell 5 rfl rfl) (sp (.bool true) (sw (vz H Tryz.underlying28 ti4 [.bool true] fun b71 w72 H=>sw (vM H 5 rfl 0 rfl Tryz.underlying28 ti4 rfl qj rfl rfl rfl (by simp [Value.oneCell',Value.cells]) qp qf fun a73 c74 w75 H=>?_)))))))
   rw [snocB] at H
   try dsimp only [List.set] at H
   refine oF rfl (sw (zU H 6 [.slice a73 (je+1) c74,.slice yV jJ yQ,.slice (some ⟨b3,0,none⟩) kk.toNat kk.toNat] Tryz.sizeOf28 fun w76 H=>?_))
   try dsimp only [List.set] at H
   refine zjn (zl (oF rfl (oL rfl (H.cell 6 rfl rfl) (sp (.slice ra68 zl67.length rc70) (sw (vz H Tryz.underlying29 ti24 [.slice ra68 zl67.length rc70] fun b77 w78 H=>?_))))))
   obtain ⟨G82,N,hn83,H⟩:=H.zV 3 rfl N (fun F hF b hb=>(List.mem_append.1 (show F∈[vX]++Ns from hF)).elim (fun h=>(H.yK (L:=[vX]) [1]) F h b hb) fun h=>H.Xy (K0.behind 3 rfl) F h b hb)
   try dsimp only [List.set] at H
   refine sw (vM H 5 rfl 0 rfl Tryz.underlying29 ti24 rfl qj rfl rfl rfl (by simp [Value.oneCell',Value.cells]) qp qf fun a79 c80 w81 H=>?_)
   try dsimp only [List.set] at H
   replace H:=H.Q9 2 rfl 0 rfl
   replace N:Fresh W0.heap.size ((vX++G82) :: Ns):=(N.xE 2 [1,0] qo).join
   refine oF rfl (sw (zU H 7 [.slice a73 (je+1) c74,.slice a79 (jJ+1) c80,.slice (some ⟨b3,0,none⟩) kk.toNat kk.toNat] Tryz.sizeOf29 fun w84 H=>?_))
   try dsimp only [List.set] at H
   refine zo (b_n (t_n (zl (sp (.int .i64 c) (sw (vg c 1 rfl rfl qf (sp (.int .i64 (c+1)) (zo (xn (m' :=(par.length - ((c+1):Int)).toNat) qf ⟨_,c+1,zi65,zi66,a73,je+1,c74,(t_Alive++[true]),a79,jJ+1,c80,(t_Bags++[zl67]),(yM++[Value.slice ra68 zl67.length rc70]:List Value),(vX++G82),uE6,?_,?_,?_,rfl,N,H.xE 13 5 [5,6,7,8,9,2,10,11,12] [0,2,4] qo qo⟩)))))))))
   · omega
   · omega
   · first | exact i2.snoc (fun _=>rfl) ql (fun h=>by cases h) | exact i2.snoc (fun h=>by omega) ql (fun h=>by simp_all) | exact i2.snoc (fun h=>by omega) (zX.zero qf qf) (fun _=>sum_zeros _)
 ·skip
  refine zx4 (zcc (sp (.pointer (some ⟨bs,0,none⟩)) ?_))
  have H1:St W0 w9 ((.box bs [.slice ac code.length cc,.int .i64 s_at,.int .u64 s_seed] 127) :: (rr yV jJ yQ 24 1 yM) :: (rr yF je yE 4 1 (t_Alive.map (Value.bool))) :: (.box b5 [.slice yF je yE,.slice yV jJ yQ,.slice (some ⟨b3,0,none⟩) kk.toNat kk.toNat] 31) :: (rr (some ⟨b3,0,none⟩) kk.toNat kk.toNat 2 1 ((List.replicate kk.toNat (0:Int)).map (Value.int .i64))) :: (.box b1 [.slice none 0 0,.slice none 0 0,.slice none 0 0] 31) :: (.box bY [.int .i64 kk,.slice rap par.length rcp,.slice raR rules.length rcR] 27) :: (rr rap par.length rcp 2 1 (par.map (Value.int .i64))) :: (rr raR rules.length rcR 56 9 rxR) :: ps) ((sF false Fc ac cc code) :: (xe true vX yM t_Bags) :: (xe frR rFR rxR rules) :: Γ):=H.xE 9 3 [5,0,1,2,3,4,6,7,8] [1,0,2] qo qo
  have N1:Fresh _ (vX :: Ns):=N
  have K1:Kept (Ns) ((xe true vX yM t_Bags) :: (xe frR rFR rxR rules) :: Γ):=K0.behind 2 rfl
  replace K1:=K1.cons (F:=vX) 0 rfl rfl
  refine sw (xI #[.pointer (some ⟨bs,0,none⟩),.int .i64 3] rfl rfl Tryz.call66 (dOne_ok code s_at s_seed bs ac cc Fc (3:Int) H1 N1 K1 qg) ?_)
  clear H H1 N1 K1
  rintro _ w85 ⟨zi88,zi89,zb90,hx87,rfl,N,H⟩
  refine zjn (xO (zb90) rfl (fun h91=>?_) (fun h91=>?_))
  ·skip
   refine zl (sps [.pointer (some ⟨bs,0,none⟩),.pointer (some ⟨bY,0,none⟩),.pointer (some ⟨bY,0,none⟩)] (oF rfl (oL rfl (H.cell 6 rfl rfl) ?_)))
   have H1:St W0 w85 ((.box bs [.slice ac code.length cc,.int .i64 zi88,.int .u64 zi89] 127) :: (rr yV jJ yQ 24 1 yM) :: (rr yF je yE 4 1 (t_Alive.map (Value.bool))) :: (.box b5 [.slice yF je yE,.slice yV jJ yQ,.slice (some ⟨b3,0,none⟩) kk.toNat kk.toNat] 31) :: (rr (some ⟨b3,0,none⟩) kk.toNat kk.toNat 2 1 ((List.replicate kk.toNat (0:Int)).map (Value.int .i64))) :: (.box b1 [.slice none 0 0,.slice none 0 0,.slice none 0 0] 31) :: (.box bY [.int .i64 kk,.slice rap par.length rcp,.slice raR rules.length rcR] 27) :: (rr rap par.length rcp 2 1 (par.map (Value.int .i64))) :: (rr raR rules.length rcR 56 9 rxR) :: ps) ((sF false Fc ac cc code) :: (xe true vX yM t_Bags) :: (xe frR rFR rxR rules) :: Γ):=H.xE 9 3 [0,1,2,3,4,5,6,7,8] [0,1,2] qo qo
   have N1:Fresh _ (vX :: Ns):=N
   have K1:Kept (Ns) ((xe true vX yM t_Bags) :: (xe frR rFR rxR rules) :: Γ):=K0.behind 2 rfl
   replace K1:=K1.cons (F:=vX) 0 rfl rfl
   refine sw (xI #[.pointer (some ⟨bs,0,none⟩),.int .i64 kk,.int .i64 2] rfl rfl Tryz.call145 (dFew_ok code zi88 zi89 bs ac cc Fc kk (2:Int) H1 N1 K1 qg qg qg) ?_)
   clear H H1 N1 K1
   rintro _ w92 ⟨zi96,zi97,zl98,ra99,rn100,rc101,hx94,hx95,rfl,N,H⟩
   obtain rfl:=H.zO 1 rfl
   refine oF rfl (sw (zU H 4 [.slice yF je yE,.slice yV jJ yQ,.slice ra99 zl98.length rc101] Tryz.sizeOf24 fun w102 H=>?_))
   try dsimp only [List.set] at H
   refine zjc (sw (zu [.slice yF je yE,.slice yV jJ yQ,.slice ra99 zl98.length rc101] Tryz.isAgg31 Tryz.sizeOf31 rfl (qH (H.cells 4 rfl) 0 3) (sw (qV H 6 [.slice yF je yE,.slice yV jJ yQ,.slice ra99 zl98.length rc101] Tryz.sizeOf31 fun w103 H=>?_))))
   try dsimp only [List.set] at H
   refine zjr (retC H 6 rfl rfl Tryz.isAgg31 Tryz.sizeOf31 rfl ⟨_,rfl,?_⟩)
   obtain rfl:c=par.length:=by omega
   exact ⟨zi96,zi97,t_Alive,t_Bags,zl98,yF,je,yE,yV,jJ,yQ,yM,vX,ra99,zl98.length,rc101,qf,(by first | exact ⟨i2.la,i2.lb,i2.skin qf,by assumption,i2.bags⟩ | exact ⟨i2.la,i2.lb,i2.skin qf,zX.zero qf qf,i2.bags⟩),rfl,N,H.xE 10 3 [0,7,8,9,3,2,1] [0,2,1] qo qo⟩
  ·skip
   refine xw (t_n (zcr (sw (zu [.slice yF je yE,.slice yV jJ yQ,.slice (some ⟨b3,0,none⟩) kk.toNat kk.toNat] Tryz.isAgg31 Tryz.sizeOf31 rfl (qH (H.cells 3 rfl) 0 3) (sw (qV H 5 [.slice yF je yE,.slice yV jJ yQ,.slice (some ⟨b3,0,none⟩) kk.toNat kk.toNat] Tryz.sizeOf31 fun w104 H=>?_))))))
   try dsimp only [List.set] at H
   refine zjr (retC H 5 rfl rfl Tryz.isAgg31 Tryz.sizeOf31 rfl ⟨_,rfl,?_⟩)
   obtain rfl:c=par.length:=by omega
   exact ⟨zi88,zi89,t_Alive,t_Bags,(List.replicate kk.toNat (0:Int)),yF,je,yE,yV,jJ,yQ,yM,vX,(some ⟨b3,0,none⟩),kk.toNat,kk.toNat,qf,(by first | exact ⟨i2.la,i2.lb,i2.skin qf,by assumption,i2.bags⟩ | exact ⟨i2.la,i2.lb,i2.skin qf,zX.zero qf qf,i2.bags⟩),rfl,N,H.xE 9 3 [0,6,7,8,2,1,4] [0,2,1] qo qo⟩
theorem dShrink_ok {W0 w:World} {ps:List Prv} {Γ:List Fact} {Ns:List yLN} (code:List UInt8) (ip:Int) (sd:Int) (bs:Nat) (ac:yOA) (cc:Nat) (Fc:yLN) (H:St W0 w ((.box bs [.slice ac code.length cc,.int .i64 ip,.int .u64 sd] 127) :: ps) ((sF false Fc ac cc code) :: Γ)) (N:Fresh W0.heap.size (Ns)) (K0:Kept Ns Γ) (q0:0≤ip∧ip≤30000):Calls Tryz.prog 45 #[.pointer (some ⟨bs,0,none⟩)] w (fun e w' =>∃ v,e=.returned v∧∃ (ip_:Int) (sd_:Int) (kk_:Int) (par_:yLI) (rules_:List jg) (alive_:List Bool) (bags_:yLL) (around_:yLI) (raq:yOA) (rnq:Nat) (rcq:Nat) (raS:yOA) (rnS:Nat) (rcS:Nat) (rxS:List Value) (rFS:yLN) (raA:yOA) (rnA:Nat) (rcA:Nat) (raB:yOA) (rnB:Nat) (rcB:Nat) (rxB:List Value) (rFB:yLN) (raD:yOA) (rnD:Nat) (rcD:Nat),(ip≤ip_∧ip_≤ip+5000)∧(SysDr kk_ par_ rules_)∧(StDr kk_ par_.length 4 alive_ bags_ around_)∧v=.tuple #[.agg #[.int .i64 kk_,.slice raq rnq rcq,.slice raS rnS rcS],.agg #[.slice raA rnA rcA,.slice raB rnB rcB,.slice raD rnD rcD]]∧Fresh W0.heap.size (rFB :: Ns)∧St W0 w' ((.box bs [.slice ac code.length cc,.int .i64 ip_,.int .u64 sd_] 127) :: (rr raq rnq rcq 2 1 (par_.map (Value.int .i64))) :: (rr raS rnS rcS 56 9 rxS) :: (rr raA rnA rcA 4 1 (alive_.map (Value.bool))) :: (rr raB rnB rcB 24 1 rxB) :: (rr raD rnD rcD 2 1 (around_.map (Value.int .i64))) :: ps) ((sF false Fc ac cc code) :: (xe false rFS rxS rules_) :: (xe true rFB rxB bags_) :: Γ)):=by
 refine en Tryz.func45 Tryz.ntmps45 ?_
 have ncode:=qQ (H.get 0 rfl).1
 refine zcr (sw (xu H ti27 [.int .i64 0,.slice none 0 0,.slice none 0 0] fun b1 w2 H=>sw (xu H ti31 [.slice none 0 0,.slice none 0 0,.slice none 0 0] fun b3 w4 H=>zjc (sp (.pointer (some ⟨bs,0,none⟩)) ?_))))
 have H1:St W0 w4 ((.box bs [.slice ac code.length cc,.int .i64 ip,.int .u64 sd] 127) :: (.box b3 [.slice none 0 0,.slice none 0 0,.slice none 0 0] 31) :: (.box b1 [.int .i64 0,.slice none 0 0,.slice none 0 0] 27) :: ps) ((sF false Fc ac cc code) :: Γ):=H.xE 3 1 [2,0,1] [0] qo qo
 have N1:Fresh _ (Ns):=N
 have K1:Kept (Ns) (Γ):=K0.behind 0 rfl
 refine sw (xI #[.pointer (some ⟨bs,0,none⟩)] rfl rfl Tryz.call78 (dSystem_ok code ip sd bs ac cc Fc H1 N1 K1 qg) ?_)
 clear H H1 N1 K1
 rintro _ w5 ⟨zi9,zi10,zi11,zl12,zR13,ra14,rn15,rc16,ra17,rn18,rc19,rx20,rF21,hx7,hx8,rfl,N,H⟩
 obtain rfl:=H.zO 1 rfl
 obtain rfl:=H.zi (α:=jg) 2 rfl 1 rfl qj
 have k1:=(‹SysDr _ _ _›).kinds
 have k3:=(‹SysDr _ _ _›).few
 have k4:=(‹SysDr _ _ _›).rules
 refine sw (xu H ti27 [.int .i64 0,.slice none 0 0,.slice none 0 0] fun b22 w23 H=>sw (qV H 0 [.int .i64 zi11,.slice ra14 zl12.length rc16,.slice ra17 zR13.length rc19] Tryz.sizeOf27 fun w24 H=>?_))
 try dsimp only [List.set] at H
 refine zjcc (sp (.int .i64 0) (zjn (xq ?_)))
 replace H:=H.unfree 1 rfl
 refine vJ (fun m' ρ w25=>∃ (zx:Env) (i:Nat) (s_at:Int) (s_seed:Int) (y_Rules:List jg) (xP:List Value) (xF:yLN),ρ=upd (upd (upd (upd (upd zx 0 (.pointer (some ⟨bs,0,none⟩))) 2 (.pointer (some ⟨b1,0,none⟩))) 3 (.pointer (some ⟨b3,0,none⟩))) 4 (.pointer (some ⟨b22,0,none⟩))) 5 (.int .i64 i)∧((i:Int)≤zR13.length)∧(ip≤s_at∧s_at≤ip+2000+100 * i)∧(y_Rules.length≤5∧jH zi11 zl12 y_Rules)∧m' =(zR13.length - (i:Int)).toNat∧Fresh W0.heap.size (Ns)∧St W0 w25 ((.box b22 [.int .i64 zi11,.slice ra14 zl12.length rc16,.slice ra17 zR13.length rc19] 27) :: (.box bs [.slice ac code.length cc,.int .i64 s_at,.int .u64 s_seed] 127) :: (rr ra14 zl12.length rc16 2 1 (zl12.map (Value.int .i64))) :: (rr ra17 zR13.length rc19 56 9 xP) :: (.box b3 [.slice none 0 0,.slice none 0 0,.slice none 0 0] 31) :: (.box b1 [.int .i64 0,.slice none 0 0,.slice none 0 0] 27) :: ps) ((sF false Fc ac cc code) :: (xe false xF xP y_Rules) :: Γ)) ((zR13.length - (0:Int)).toNat) ⟨_,0,zi9,zi10,zR13,rx20,rF21,uE5,qf,qf,(by exact ⟨by omega,k4⟩),rfl,(N.xE 1 [] qo),H.xE 6 3 [0,1,2,3,4,5] [1,0] qo qo⟩ ?_
 clear H N
 rintro m' ρ w26 ⟨zx,i,s_at,s_seed,y_Rules,xP,xF,rfl,i0,j1,j2,rfl,N,H⟩
 have hn_y_Rules:=H.zi (α:=jg) 3 rfl 1 rfl qj
 refine zcc (sp (.int .i64 i) (oF rfl (oL rfl (H.cell 0 rfl rfl) (oN rfl (sp (.bool (decide ((i:Int) < zR13.length))) (zjn (cD rfl (fun h27=>?_) (fun h27=>?_))))))))
 ·skip
  refine xw (t_n (zn (xq (zcr (oF rfl (oL rfl (H.cell 0 rfl rfl) (sp (.int .i64 i) ?_)))))))
  obtain ⟨b28,rfl⟩:=H.QQ 3 rfl qf
  obtain ⟨yH,jC,Qh,jG,jE,Qk,jF,jD,Qi,ae29Here,ce29Here,Fe29Here,Qa,y8,QM,jM,jL,Qj,hx30,H⟩:=H.rowel_RuleD 3 rfl 1 rfl (iv:=i) i qf qf
  refine oI rfl rfl (sp (.pointer (some ⟨b28,0+(i:Int).toNat * 9,none⟩)) (zjcc (sp (.pointer (some ⟨bs,0,none⟩)) ?_)))
  have H1:St W0 w26 ((.box bs [.slice ac code.length cc,.int .i64 s_at,.int .u64 s_seed] 127) :: (.box b22 [.int .i64 zi11,.slice ra14 zl12.length rc16,.slice (some ⟨b28,0,none⟩) zR13.length rc19] 27) :: (rr ra14 zl12.length rc16 2 1 (zl12.map (Value.int .i64))) :: (rr (some ⟨b28,0,none⟩) zR13.length rc19 56 9 xP) :: (.box b3 [.slice none 0 0,.slice none 0 0,.slice none 0 0] 31) :: (.box b1 [.int .i64 0,.slice none 0 0,.slice none 0 0] 27) :: ps) ((sF false Fc ac cc code) :: (sF false Qh yH jC ((y_Rules[i]!).xC)) :: (sF false Qk jG jE ((y_Rules[i]!).x8)) :: (sF false Qi jF jD ((y_Rules[i]!).xZ)) :: (sF false Fe29Here ae29Here ce29Here ((y_Rules[i]!).zf)) :: (sF false QM Qa y8 ((y_Rules[i]!).jb)) :: (sF false Qj jM jL ((y_Rules[i]!).qM)) :: (xe false xF xP y_Rules) :: Γ):=H.xE 6 8 [1,0,2,3,4,5] [6,0,1,2,3,4,5,7] qo qo
  have N1:Fresh _ (Ns):=N
  have K1:Kept (Ns) ((sF false Qh yH jC ((y_Rules[i]!).xC)) :: (sF false Qk jG jE ((y_Rules[i]!).x8)) :: (sF false Qi jF jD ((y_Rules[i]!).xZ)) :: (sF false Fe29Here ae29Here ce29Here ((y_Rules[i]!).zf)) :: (sF false QM Qa y8 ((y_Rules[i]!).jb)) :: (sF false Qj jM jL ((y_Rules[i]!).qM)) :: (xe false xF xP y_Rules) :: Γ):=K0.behind 7 rfl
  refine sw (xI #[.pointer (some ⟨bs,0,none⟩),.int .i64 8] rfl rfl Tryz.call66 (dOne_ok code s_at s_seed bs ac cc Fc (8:Int) H1 N1 K1 qg) ?_)
  clear H H1 N1 K1
  rintro _ w31 ⟨zi34,zi35,zb36,hx33,rfl,N,H⟩
  refine zjn (xO (zb36) rfl (fun h37=>?_) (fun h37=>?_))
  ·skip
   refine c_exit (t_x (b_x (t_n (zl (sp (.int .i64 i) (sw (vg i 1 rfl rfl qf (sp (.int .i64 (i+1)) (zo (xn (m' :=(zR13.length - ((i+1):Int)).toNat) qf ⟨_,i+1,zi34,zi35,y_Rules,xP,xF,uE5,?_,?_,?_,rfl,N,H.xE 6 8 [1,0,2,3,4,5] [0,7] qo qo⟩))))))))))
   · omega
   · omega
   · exact ⟨by (try simp only [List.length_set]);omega,by have q2:=j2.2;(repeat' (first | assumption | exact k2.1 | exact zX.zero qf qf | (simp only [List.length_set];omega) | omega | apply jH.here | apply jH.out | apply jH.into))⟩
  ·skip
   refine xw (t_n (zcr (sp (.pointer (some ⟨b28,0+(i:Int).toNat * 9,none⟩)) (oF rfl (oL rfl (H.cell 1 rfl rfl) (sw (zh H Tryz.underlying24 ti2 zi11.toNat rfl rfl qf qf qf fun b38 w39 H=>sp (.pointer (some ⟨b28,0+(i:Int).toNat * 9,none⟩)) (oF rfl (sw (o_storePart H 4 rfl (.slice (some ⟨b38,0,none⟩) zi11.toNat zi11.toNat) Tryz.sizeOf24 rfl rfl rfl (part_lt (hx30 5 _ rfl)) fun w40 H=>?_))))))))))
   have hx41:=part_get (cells:=[.int .i64 ((y_Rules[i]!).qE),.int .i64 ((y_Rules[i]!).vw),.slice yH (((y_Rules[i]!).xC).length) jC,.slice jG (((y_Rules[i]!).x8).length) jE,.slice jF (((y_Rules[i]!).xZ).length) jD,.slice ae29Here (((y_Rules[i]!).zf).length) ce29Here,.slice Qa (((y_Rules[i]!).jb).length) y8,.slice jM (((y_Rules[i]!).qM).length) jL,.bool ((y_Rules[i]!).zD)]) hx30 5 (.slice (some ⟨b38,0,none⟩) zi11.toNat zi11.toNat) (Nat.le_of_ble_eq_true rfl)
   replace hx41:∀ (q:Nat) (v:Value),([.int .i64 ((y_Rules[i]!).qE),.int .i64 ((y_Rules[i]!).vw),.slice yH (((y_Rules[i]!).xC).length) jC,.slice jG (((y_Rules[i]!).x8).length) jE,.slice jF (((y_Rules[i]!).xZ).length) jD,.slice (some ⟨b38,0,none⟩) zi11.toNat zi11.toNat,.slice Qa (((y_Rules[i]!).jb).length) y8,.slice jM (((y_Rules[i]!).qM).length) jL,.bool ((y_Rules[i]!).zD)]:List Value)[q]? =some v→(xP.set (0+(i:Int).toNat * 9+5) (.slice (some ⟨b38,0,none⟩) zi11.toNat zi11.toNat))[0+(i:Int).toNat * 9+q]? =some v:=hx41
   try dsimp only [List.set] at H
   refine zjcc (sp (.int .i64 1) (zjn (xq ?_)))
   have k7:=(j2.2 i qf).need.1.len qf
   refine vJ (fun m' ρ w42=>∃ (zx:Env) (k:Nat) (s_at_1:Int) (s_seed_1:Int) (r18:yLI),ρ=upd (upd (upd (upd (upd (upd (upd zx 0 (.pointer (some ⟨bs,0,none⟩))) 2 (.pointer (some ⟨b1,0,none⟩))) 3 (.pointer (some ⟨b3,0,none⟩))) 4 (.pointer (some ⟨b22,0,none⟩))) 5 (.int .i64 i)) 6 (.pointer (some ⟨b28,0+(i:Int).toNat * 9,none⟩))) 7 (.int .i64 k)∧((k:Int)≤zi11)∧(ip≤s_at_1∧s_at_1≤ip+2002+100 * i+4 * k)∧(HereTo zi11 k r18)∧(1≤(k:Int))∧m' =(zi11 - (k:Int)).toNat∧Fresh W0.heap.size (Ns)∧St W0 w42 ((rr (some ⟨b38,0,none⟩) zi11.toNat zi11.toNat 2 1 (r18.map (Value.int .i64))) :: (.box bs [.slice ac code.length cc,.int .i64 s_at_1,.int .u64 s_seed_1] 127) :: (.box b22 [.int .i64 zi11,.slice ra14 zl12.length rc16,.slice (some ⟨b28,0,none⟩) zR13.length rc19] 27) :: (rr ra14 zl12.length rc16 2 1 (zl12.map (Value.int .i64))) :: (rr (some ⟨b28,0,none⟩) zR13.length rc19 56 9 (xP.set (0+(i:Int).toNat * 9+5) (.slice (some ⟨b38,0,none⟩) zi11.toNat zi11.toNat))) :: (.box b3 [.slice none 0 0,.slice none 0 0,.slice none 0 0] 31) :: (.box b1 [.int .i64 0,.slice none 0 0,.slice none 0 0] 27) :: ps) ((sF false Fc ac cc code) :: (sF false Qh yH jC ((y_Rules[i]!).xC)) :: (sF false Qk jG jE ((y_Rules[i]!).x8)) :: (sF false Qi jF jD ((y_Rules[i]!).xZ)) :: (sF false QM Qa y8 ((y_Rules[i]!).jb)) :: (sF false Qj jM jL ((y_Rules[i]!).qM)) :: (xe false xF xP y_Rules) :: Γ)) ((zi11 - (1:Int)).toNat) ⟨_,1,zi34,zi35,(List.replicate zi11.toNat (0:Int)),uE7,qf,qf,(by exact HereTo.zero qf),qf,rfl,N,H.xE 7 8 [0,1,2,3,4,5,6] [0,1,2,3,5,6,7] qo qo⟩ ?_
   clear H N
   rintro m' ρ w43 ⟨zx,k,s_at_1,s_seed_1,r18,rfl,i0,k0,k2,k6,rfl,N,H⟩
   have hn_r18:=H.zO 0 rfl
   refine zcc (sp (.int .i64 k) (oF rfl (oL rfl (H.cell 2 rfl rfl) (sp (.bool (decide ((k:Int) < zi11))) (zjn (cD rfl (fun h44=>?_) (fun h44=>?_)))))))
   ·skip
    refine xw (t_n (zn (xq (zcr (sps [.pointer (some ⟨b28,0+(i:Int).toNat * 9,none⟩),.pointer (some ⟨b28,0+(i:Int).toNat * 9,none⟩)] (oF rfl (oL rfl (H.rowGet 4 rfl (hx41 2 _ rfl)) (sp (.int .i64 k) ?_))))))))
    obtain ⟨b45,o46,rfl⟩:=H.addr 1 rfl qf
    refine oI rfl rfl (oL rfl (H.jZ 1 rfl k qf qf) (sps [.bool (decide ((((y_Rules[i]!).xC)[k]! :Int) > 0)),.bool (decide ((((y_Rules[i]!).xC)[k]! :Int) > 0))] ?_))
    cases h48:(decide ((((y_Rules[i]!).xC)[k]! :Int) > 0))
    ·skip
     replace h48:=of_decide_eq_false h48
     refine xR [44,45] (sp (.bool false) (zjn (xO false rfl (fun h=>absurd h qj) (fun _=>xw (b_n (t_n (zl (sp (.int .i64 k) (sw (vg k 1 rfl rfl qf (sp (.int .i64 (k+1)) (zo (xn (m' :=(zi11 - ((k+1):Int)).toNat) qf ⟨_,k+1,s_at_1,s_seed_1,r18,uE7,?_,?_,?_,?_,rfl,N,H⟩)))))))))))))
     · omega
     · omega
     · first | exact k2.go | exact k2.put qf qf qf
     · omega
    ·skip
     replace h48:=of_decide_eq_true h48
     refine qL 43 rfl rfl (sp (.pointer (some ⟨bs,0,none⟩)) (qL 43 rfl rfl ?_))
     have H1:St W0 w43 ((.box bs [.slice ac code.length cc,.int .i64 s_at_1,.int .u64 s_seed_1] 127) :: (rr (some ⟨b38,0,none⟩) zi11.toNat zi11.toNat 2 1 (r18.map (Value.int .i64))) :: (.box b22 [.int .i64 zi11,.slice ra14 zl12.length rc16,.slice (some ⟨b28,0,none⟩) zR13.length rc19] 27) :: (rr ra14 zl12.length rc16 2 1 (zl12.map (Value.int .i64))) :: (rr (some ⟨b28,0,none⟩) zR13.length rc19 56 9 (xP.set (0+(i:Int).toNat * 9+5) (.slice (some ⟨b38,0,none⟩) zi11.toNat zi11.toNat))) :: (.box b3 [.slice none 0 0,.slice none 0 0,.slice none 0 0] 31) :: (.box b1 [.int .i64 0,.slice none 0 0,.slice none 0 0] 27) :: ps) ((sF false Fc ac cc code) :: (sF false Qh (some ⟨b45,o46,none⟩) jC ((y_Rules[i]!).xC)) :: (sF false Qk jG jE ((y_Rules[i]!).x8)) :: (sF false Qi jF jD ((y_Rules[i]!).xZ)) :: (sF false QM Qa y8 ((y_Rules[i]!).jb)) :: (sF false Qj jM jL ((y_Rules[i]!).qM)) :: (xe false xF xP y_Rules) :: Γ):=H.xE 7 7 [1,0,2,3,4,5,6] [0,1,2,3,4,5,6] qo qo
     have N1:Fresh _ (Ns):=N
     have K1:Kept (Ns) ((sF false Qh (some ⟨b45,o46,none⟩) jC ((y_Rules[i]!).xC)) :: (sF false Qk jG jE ((y_Rules[i]!).x8)) :: (sF false Qi jF jD ((y_Rules[i]!).xZ)) :: (sF false QM Qa y8 ((y_Rules[i]!).jb)) :: (sF false Qj jM jL ((y_Rules[i]!).qM)) :: (xe false xF xP y_Rules) :: Γ):=K0.behind 6 rfl
     refine sw (xI #[.pointer (some ⟨bs,0,none⟩),.int .i64 2] rfl rfl Tryz.call66 (dOne_ok code s_at_1 s_seed_1 bs ac cc Fc (2:Int) H1 N1 K1 qg) ?_)
     clear H H1 N1 K1
     rintro _ w49 ⟨zi52,zi53,zb54,hx51,rfl,N,H⟩
     refine sp (.bool zb54) (zjn (xO (zb54) rfl (fun h55=>?_) (fun h55=>?_)))
     ·skip
      refine c_cut (fun ρ w59=>∃ (zx:Env) (zi56:Int) (zi57:Int) (zi58:Int),ρ=upd (upd (upd (upd (upd (upd (upd (upd (upd zx 0 (.pointer (some ⟨bs,0,none⟩))) 2 (.pointer (some ⟨b1,0,none⟩))) 3 (.pointer (some ⟨b3,0,none⟩))) 4 (.pointer (some ⟨b22,0,none⟩))) 5 (.int .i64 i)) 6 (.pointer (some ⟨b28,0+(i:Int).toNat * 9,none⟩))) 7 (.int .i64 k)) 44 (.pointer (some ⟨bs,0,none⟩))) 45 (.bool zb54)∧(zi52≤zi56∧zi56≤zi52+2)∧(0≤zi57∧(zi57 < (3:Int)∨zi57=0))∧Fresh W0.heap.size (Ns)∧St W0 w59 ((.box bs [.slice ac code.length cc,.int .i64 zi56,.int .u64 zi58] 127) :: (rr (some ⟨b38,0,none⟩) zi11.toNat zi11.toNat 2 1 ((r18.set ((k - 1:Int).toNat) ((r18[(k - 1:Int).toNat]!)+zi57)).map (Value.int .i64))) :: (.box b22 [.int .i64 zi11,.slice ra14 zl12.length rc16,.slice (some ⟨b28,0,none⟩) zR13.length rc19] 27) :: (rr ra14 zl12.length rc16 2 1 (zl12.map (Value.int .i64))) :: (rr (some ⟨b28,0,none⟩) zR13.length rc19 56 9 (xP.set (0+(i:Int).toNat * 9+5) (.slice (some ⟨b38,0,none⟩) zi11.toNat zi11.toNat))) :: (.box b3 [.slice none 0 0,.slice none 0 0,.slice none 0 0] 31) :: (.box b1 [.int .i64 0,.slice none 0 0,.slice none 0 0] 27) :: ps) ((sF false Fc ac cc code) :: (sF false Qh (some ⟨b45,o46,none⟩) jC ((y_Rules[i]!).xC)) :: (sF false Qk jG jE ((y_Rules[i]!).x8)) :: (sF false Qi jF jD ((y_Rules[i]!).xZ)) :: (sF false QM Qa y8 ((y_Rules[i]!).jb)) :: (sF false Qj jM jL ((y_Rules[i]!).qM)) :: (xe false xF xP y_Rules) :: Γ)) ?_ ?_
      ·skip
       refine c_drawK2 rfl H [2,3,4,5,6] [0,1,2,3,4,5,6] fun H=>?_
       have S:=H.jA [2,3,4,5,6] [0,1,2,3,4,5,6]
       refine rtp 0 (.pointer (some ⟨b28,0+(i:Int).toNat * 9,none⟩)) S ?_
       refine rtp 1 (.pointer (some ⟨b28,0+(i:Int).toNat * 9,none⟩)) S ?_
       refine tF 2 rfl rfl S ?_
       refine tL 3 rfl rfl (fun _ h=>h.rowGet 2 rfl (hx41 5 _ rfl)) S ?_
       refine rtp 4 (.int .i64 k) S ?_
       refine rt 5 (.int .i64 (k - 1)) (y_sub k 1 rfl rfl qf) S ?_
       refine tI 6 rfl rfl rfl S ?_
       refine rtp 8 (.pointer (some ⟨bs,0,none⟩)) S ?_
       refine zI [7,9] qh qm (vk rfl ?_ (vk rfl ?_ zJ))
       ·skip
        refine zk (.int .i64 (r18[(k - 1:Int).toNat]!)) Tryz.isAgg2 rfl (H.rowInt 1 rfl (iv:=k - 1) (i:=((k - 1:Int).toNat)) qf qf) (⟨H.pick [2,3,4,5,6] [0,1,2,3,4,5,6],(ro 9 rfl ?_)⟩)
        have H1:St W0 w49.drew ((.box bs [.slice ac code.length cc,.int .i64 zi52,.int .u64 zi53] 127) :: (rr (some ⟨b38,0,none⟩) zi11.toNat zi11.toNat 2 1 (r18.map (Value.int .i64))) :: (.box b22 [.int .i64 zi11,.slice ra14 zl12.length rc16,.slice (some ⟨b28,0,none⟩) zR13.length rc19] 27) :: (rr ra14 zl12.length rc16 2 1 (zl12.map (Value.int .i64))) :: (rr (some ⟨b28,0,none⟩) zR13.length rc19 56 9 (xP.set (0+(i:Int).toNat * 9+5) (.slice (some ⟨b38,0,none⟩) zi11.toNat zi11.toNat))) :: (.box b3 [.slice none 0 0,.slice none 0 0,.slice none 0 0] 31) :: (.box b1 [.int .i64 0,.slice none 0 0,.slice none 0 0] 27) :: ps) ((sF false Fc ac cc code) :: (sF false Qh (some ⟨b45,o46,none⟩) jC ((y_Rules[i]!).xC)) :: (sF false Qk jG jE ((y_Rules[i]!).x8)) :: (sF false Qi jF jD ((y_Rules[i]!).xZ)) :: (sF false QM Qa y8 ((y_Rules[i]!).jb)) :: (sF false Qj jM jL ((y_Rules[i]!).qM)) :: (xe false xF xP y_Rules) :: Γ):=H.xE 7 7 [0,1,2,3,4,5,6] [0,1,2,3,4,5,6] qo qo
        have N1:Fresh _ (Ns):=N
        have K1:Kept (Ns) ((sF false Qh (some ⟨b45,o46,none⟩) jC ((y_Rules[i]!).xC)) :: (sF false Qk jG jE ((y_Rules[i]!).x8)) :: (sF false Qi jF jD ((y_Rules[i]!).xZ)) :: (sF false QM Qa y8 ((y_Rules[i]!).jb)) :: (sF false Qj jM jL ((y_Rules[i]!).qM)) :: (xe false xF xP y_Rules) :: Γ):=K0.behind 6 rfl
        refine xI #[.pointer (some ⟨bs,0,none⟩),.int .i64 3] rfl rfl Tryz.call68 (jK code zi52 zi53 bs ac cc Fc (3:Int) H1 N1 K1 qg) ?_
        clear H H1 N1 K1
        rintro _ w61 ⟨zi65,zi66,zi67,hx63,hx64,rfl,N,H⟩
        have k5:=k2.2 (k - 1:Int).toNat qf qf
        refine ⟨H.pick [2,3,4,5,6] [0,1,2,3,4,5,6],?_⟩
        have S:=H.jA [2,3,4,5,6] [0,1,2,3,4,5,6]
        refine rt 10 (.int .i64 ((r18[(k - 1:Int).toNat]!)+zi67)) (y_add (r18[(k - 1:Int).toNat]!) zi67 rfl rfl qf) S ?_
        refine tI 11 rfl rfl rfl S ?_
        refine ro 12 rfl (o_storeInt H 1 rfl ((r18[(k - 1:Int).toNat]!)+zi67) Tryz.sizeOf2 rfl rfl (i:=((k - 1:Int).toNat)) qf qf fun w68 H=>?_)
        try dsimp only [List.set] at H
        refine ⟨H.pick [2,3,4,5,6] [0,1,2,3,4,5,6],(xh qh ((meet ⟨_,zi65,zi67,zi66,uE9,hx63,hx64,N,H⟩)))⟩
       ·skip
        have H1:St W0 w49.drew ((.box bs [.slice ac code.length cc,.int .i64 zi52,.int .u64 zi53] 127) :: (rr (some ⟨b38,0,none⟩) zi11.toNat zi11.toNat 2 1 (r18.map (Value.int .i64))) :: (.box b22 [.int .i64 zi11,.slice ra14 zl12.length rc16,.slice (some ⟨b28,0,none⟩) zR13.length rc19] 27) :: (rr ra14 zl12.length rc16 2 1 (zl12.map (Value.int .i64))) :: (rr (some ⟨b28,0,none⟩) zR13.length rc19 56 9 (xP.set (0+(i:Int).toNat * 9+5) (.slice (some ⟨b38,0,none⟩) zi11.toNat zi11.toNat))) :: (.box b3 [.slice none 0 0,.slice none 0 0,.slice none 0 0] 31) :: (.box b1 [.int .i64 0,.slice none 0 0,.slice none 0 0] 27) :: ps) ((sF false Fc ac cc code) :: (sF false Qh (some ⟨b45,o46,none⟩) jC ((y_Rules[i]!).xC)) :: (sF false Qk jG jE ((y_Rules[i]!).x8)) :: (sF false Qi jF jD ((y_Rules[i]!).xZ)) :: (sF false QM Qa y8 ((y_Rules[i]!).jb)) :: (sF false Qj jM jL ((y_Rules[i]!).qM)) :: (xe false xF xP y_Rules) :: Γ):=H.xE 7 7 [0,1,2,3,4,5,6] [0,1,2,3,4,5,6] qo qo
        have N1:Fresh _ (Ns):=N
        have K1:Kept (Ns) ((sF false Qh (some ⟨b45,o46,none⟩) jC ((y_Rules[i]!).xC)) :: (sF false Qk jG jE ((y_Rules[i]!).x8)) :: (sF false Qi jF jD ((y_Rules[i]!).xZ)) :: (sF false QM Qa y8 ((y_Rules[i]!).jb)) :: (sF false Qj jM jL ((y_Rules[i]!).qM)) :: (xe false xF xP y_Rules) :: Γ):=K0.behind 6 rfl
        refine xI #[.pointer (some ⟨bs,0,none⟩),.int .i64 3] rfl rfl Tryz.call68 (jK code zi52 zi53 bs ac cc Fc (3:Int) H1 N1 K1 qg) ?_
        clear H H1 N1 K1
        rintro _ w69 ⟨zi73,zi74,zi75,hx71,hx72,rfl,N,H⟩
        have k5:=k2.2 (k - 1:Int).toNat qf qf
        refine ⟨H.pick [2,3,4,5,6] [0,1,2,3,4,5,6],(ro 7 rfl (zk (.int .i64 (r18[(k - 1:Int).toNat]!)) Tryz.isAgg2 rfl (H.rowInt 1 rfl (iv:=k - 1) (i:=((k - 1:Int).toNat)) qf qf) (⟨H.pick [2,3,4,5,6] [0,1,2,3,4,5,6],?_⟩)))⟩
        have S:=H.jA [2,3,4,5,6] [0,1,2,3,4,5,6]
        refine rt 10 (.int .i64 ((r18[(k - 1:Int).toNat]!)+zi75)) (y_add (r18[(k - 1:Int).toNat]!) zi75 rfl rfl qf) S ?_
        refine tI 11 rfl rfl rfl S ?_
        refine ro 12 rfl (o_storeInt H 1 rfl ((r18[(k - 1:Int).toNat]!)+zi75) Tryz.sizeOf2 rfl rfl (i:=((k - 1:Int).toNat)) qf qf fun w76 H=>?_)
        try dsimp only [List.set] at H
        refine ⟨H.pick [2,3,4,5,6] [0,1,2,3,4,5,6],(xh qh ((meet ⟨_,zi73,zi75,zi74,uE9,hx71,hx72,N,H⟩)))⟩
      ·skip
       clear H N
       rintro ρ w77 ⟨zx,zi56,zi57,zi58,rfl,hx78,hx79,N,H⟩
       refine b_n (t_n (zl (sp (.int .i64 k) (sw (vg k 1 rfl rfl qf (sp (.int .i64 (k+1)) (zo (xn (m' :=(zi11 - ((k+1):Int)).toNat) qf ⟨_,k+1,zi56,zi58,(r18.set ((k - 1:Int).toNat) ((r18[(k - 1:Int).toNat]!)+zi57)),uE7,?_,?_,?_,?_,rfl,N,H.xE 7 7 [1,0,2,3,4,5,6] [0,1,2,3,4,5,6] qo qo⟩))))))))
       · omega
       · omega
       · first | exact k2.go | exact k2.put qf qf qf
       · omega
     ·skip
      refine xw (b_n (t_n (zl (sp (.int .i64 k) (sw (vg k 1 rfl rfl qf (sp (.int .i64 (k+1)) (zo (xn (m' :=(zi11 - ((k+1):Int)).toNat) qf ⟨_,k+1,zi52,zi53,r18,uE7,?_,?_,?_,?_,rfl,N,H.xE 7 7 [1,0,2,3,4,5,6] [0,1,2,3,4,5,6] qo qo⟩)))))))))
      · omega
      · omega
      · first | exact k2.go | exact k2.put qf qf qf
      · omega
   ·skip
    refine zx4 (zcc (sp (.pointer (some ⟨bs,0,none⟩)) ?_))
    have H1:St W0 w43 ((.box bs [.slice ac code.length cc,.int .i64 s_at_1,.int .u64 s_seed_1] 127) :: (rr (some ⟨b38,0,none⟩) zi11.toNat zi11.toNat 2 1 (r18.map (Value.int .i64))) :: (.box b22 [.int .i64 zi11,.slice ra14 zl12.length rc16,.slice (some ⟨b28,0,none⟩) zR13.length rc19] 27) :: (rr ra14 zl12.length rc16 2 1 (zl12.map (Value.int .i64))) :: (rr (some ⟨b28,0,none⟩) zR13.length rc19 56 9 (xP.set (0+(i:Int).toNat * 9+5) (.slice (some ⟨b38,0,none⟩) zi11.toNat zi11.toNat))) :: (.box b3 [.slice none 0 0,.slice none 0 0,.slice none 0 0] 31) :: (.box b1 [.int .i64 0,.slice none 0 0,.slice none 0 0] 27) :: ps) ((sF false Fc ac cc code) :: (sF false Qh yH jC ((y_Rules[i]!).xC)) :: (sF false Qk jG jE ((y_Rules[i]!).x8)) :: (sF false Qi jF jD ((y_Rules[i]!).xZ)) :: (sF false QM Qa y8 ((y_Rules[i]!).jb)) :: (sF false Qj jM jL ((y_Rules[i]!).qM)) :: (xe false xF xP y_Rules) :: Γ):=H.xE 7 7 [1,0,2,3,4,5,6] [0,1,2,3,4,5,6] qo qo
    have N1:Fresh _ (Ns):=N
    have K1:Kept (Ns) ((sF false Qh yH jC ((y_Rules[i]!).xC)) :: (sF false Qk jG jE ((y_Rules[i]!).x8)) :: (sF false Qi jF jD ((y_Rules[i]!).xZ)) :: (sF false QM Qa y8 ((y_Rules[i]!).jb)) :: (sF false Qj jM jL ((y_Rules[i]!).qM)) :: (xe false xF xP y_Rules) :: Γ):=K0.behind 6 rfl
    refine sw (xI #[.pointer (some ⟨bs,0,none⟩),.int .i64 2] rfl rfl Tryz.call66 (dOne_ok code s_at_1 s_seed_1 bs ac cc Fc (2:Int) H1 N1 K1 qg) ?_)
    clear H H1 N1 K1
    rintro _ w80 ⟨zi83,zi84,zb85,hx82,rfl,N,H⟩
    refine zjn (xO (zb85) rfl (fun h86=>?_) (fun h86=>?_))
    ·skip
     refine zl (sp (.pointer (some ⟨b28,0+(i:Int).toNat * 9,none⟩)) (oF rfl (oL rfl (H.cell 2 rfl rfl) (sw (zh H Tryz.underlying24 ti2 zi11.toNat rfl rfl qf qf qf fun b87 w88 H=>sp (.pointer (some ⟨b28,0+(i:Int).toNat * 9,none⟩)) (oF rfl ?_))))))
     obtain ⟨G89,N,hn90,H⟩:=H.zV 2 rfl N (fun F hF b hb=>(List.mem_append.1 (show F∈[]++Ns from hF)).elim (fun h=>(H.yK (L:=[]) []) F h b hb) fun h=>H.Xy (K0.behind 7 rfl) F h b hb)
     try dsimp only [List.set] at H
     obtain ⟨F91,H⟩:=H.part_5 7 rfl 0 rfl (iv:=i) i qf (by first | omega | (simp only [List.length_set];omega))
     try dsimp only [List.set] at H
     refine sw (o_storePart H 5 rfl (.slice (some ⟨b87,0,none⟩) zi11.toNat zi11.toNat) Tryz.sizeOf24 rfl rfl rfl (part_lt (hx41 6 _ rfl)) fun w92 H=>?_)
     have hx93:=part_get (cells:=[.int .i64 ((y_Rules[i]!).qE),.int .i64 ((y_Rules[i]!).vw),.slice yH (((y_Rules[i]!).xC).length) jC,.slice jG (((y_Rules[i]!).x8).length) jE,.slice jF (((y_Rules[i]!).xZ).length) jD,.slice (some ⟨b38,0,none⟩) zi11.toNat zi11.toNat,.slice Qa (((y_Rules[i]!).jb).length) y8,.slice jM (((y_Rules[i]!).qM).length) jL,.bool ((y_Rules[i]!).zD)]) hx41 6 (.slice (some ⟨b87,0,none⟩) zi11.toNat zi11.toNat) (Nat.le_of_ble_eq_true rfl)
     replace hx93:∀ (q:Nat) (v:Value),([.int .i64 ((y_Rules[i]!).qE),.int .i64 ((y_Rules[i]!).vw),.slice yH (((y_Rules[i]!).xC).length) jC,.slice jG (((y_Rules[i]!).x8).length) jE,.slice jF (((y_Rules[i]!).xZ).length) jD,.slice (some ⟨b38,0,none⟩) zi11.toNat zi11.toNat,.slice (some ⟨b87,0,none⟩) zi11.toNat zi11.toNat,.slice jM (((y_Rules[i]!).qM).length) jL,.bool ((y_Rules[i]!).zD)]:List Value)[q]? =some v→((xP.set (0+(i:Int).toNat * 9+5) (.slice (some ⟨b38,0,none⟩) zi11.toNat zi11.toNat)).set (0+(i:Int).toNat * 9+6) (.slice (some ⟨b87,0,none⟩) zi11.toNat zi11.toNat))[0+(i:Int).toNat * 9+q]? =some v:=hx93
     try dsimp only [List.set] at H
     refine zjc (sp (.pointer (some ⟨bs,0,none⟩)) ?_)
     have H1:St W0 w92 ((.box bs [.slice ac code.length cc,.int .i64 zi83,.int .u64 zi84] 127) :: (rr (some ⟨b87,0,none⟩) zi11.toNat zi11.toNat 2 1 ((List.replicate zi11.toNat (0:Int)).map (Value.int .i64))) :: (rr none 0 0 0 1 []) :: (.box b22 [.int .i64 zi11,.slice ra14 zl12.length rc16,.slice (some ⟨b28,0,none⟩) zR13.length rc19] 27) :: (rr ra14 zl12.length rc16 2 1 (zl12.map (Value.int .i64))) :: (rr (some ⟨b28,0,none⟩) zR13.length rc19 56 9 ((xP.set (0+(i:Int).toNat * 9+5) (.slice (some ⟨b38,0,none⟩) zi11.toNat zi11.toNat)).set (0+(i:Int).toNat * 9+6) (.slice (some ⟨b87,0,none⟩) zi11.toNat zi11.toNat))) :: (.box b3 [.slice none 0 0,.slice none 0 0,.slice none 0 0] 31) :: (.box b1 [.int .i64 0,.slice none 0 0,.slice none 0 0] 27) :: ps) ((sF false Fc ac cc code) :: (xe false F91 (xP.set (0+(i:Int).toNat * 9+5) (.slice (some ⟨b38,0,none⟩) zi11.toNat zi11.toNat)) (y_Rules.set i { y_Rules[i]! with zf:=r18 })) :: (isF true G89 (.slice (some ⟨b38,0,none⟩) zi11.toNat zi11.toNat) r18) :: (sF false Qh yH jC ((y_Rules[i]!).xC)) :: (sF false Qk jG jE ((y_Rules[i]!).x8)) :: (sF false Qi jF jD ((y_Rules[i]!).xZ)) :: (sF false QM Qa y8 ((y_Rules[i]!).jb)) :: (sF false Qj jM jL ((y_Rules[i]!).qM)) :: (xe false xF xP y_Rules) :: Γ):=H.xE 8 9 [1,0,2,3,4,5,6,7] [2,0,1,3,4,5,6,7,8] qo qo
     have N1:Fresh _ (G89 :: Ns):=N
     have K1:Kept (Ns) ((xe false F91 (xP.set (0+(i:Int).toNat * 9+5) (.slice (some ⟨b38,0,none⟩) zi11.toNat zi11.toNat)) (y_Rules.set i { y_Rules[i]! with zf:=r18 })) :: (isF true G89 (.slice (some ⟨b38,0,none⟩) zi11.toNat zi11.toNat) r18) :: (sF false Qh yH jC ((y_Rules[i]!).xC)) :: (sF false Qk jG jE ((y_Rules[i]!).x8)) :: (sF false Qi jF jD ((y_Rules[i]!).xZ)) :: (sF false QM Qa y8 ((y_Rules[i]!).jb)) :: (sF false Qj jM jL ((y_Rules[i]!).qM)) :: (xe false xF xP y_Rules) :: Γ):=K0.behind 8 rfl
     replace K1:=K1.cons (F:=G89) 1 rfl rfl
     refine sw (xI #[.pointer (some ⟨bs,0,none⟩),.int .i64 2] rfl rfl Tryz.call66 (dOne_ok code zi83 zi84 bs ac cc Fc (2:Int) H1 N1 K1 qg) ?_)
     clear H H1 N1 K1
     rintro _ w94 ⟨zi97,zi98,zb99,hx96,rfl,N,H⟩
     refine zjn (xO (zb99) rfl (fun h100=>?_) (fun h100=>?_))
     ·skip
      refine zl (sp (.pointer (some ⟨b28,0+(i:Int).toNat * 9,none⟩)) (sw (QN H Tryz.underlying54 ti142 fun b101 w102 H=>sp (.pointer (some ⟨b28,0+(i:Int).toNat * 9,none⟩)) (oF rfl ?_))))
      obtain ⟨G103,N,hn104,H⟩:=H.zV 2 rfl N (fun F hF b hb=>(List.mem_append.1 (show F∈[G89]++Ns from hF)).elim (fun h=>(H.yK (L:=[G89]) [2]) F h b hb) fun h=>H.Xy (K0.behind 9 rfl) F h b hb)
      try dsimp only [List.set] at H
      obtain ⟨F105,H⟩:=H.part_6 2 rfl 0 rfl (iv:=i) i qf (by first | omega | (simp only [List.length_set];omega))
      try dsimp only [List.set] at H
      refine sw (o_storePart H 6 rfl (.slice (some ⟨b101,0,none⟩) 0 0) Tryz.sizeOf54 rfl rfl rfl (part_lt (hx93 7 _ rfl)) fun w106 H=>?_)
      have hx107:=part_get (cells:=[.int .i64 ((y_Rules[i]!).qE),.int .i64 ((y_Rules[i]!).vw),.slice yH (((y_Rules[i]!).xC).length) jC,.slice jG (((y_Rules[i]!).x8).length) jE,.slice jF (((y_Rules[i]!).xZ).length) jD,.slice (some ⟨b38,0,none⟩) zi11.toNat zi11.toNat,.slice (some ⟨b87,0,none⟩) zi11.toNat zi11.toNat,.slice jM (((y_Rules[i]!).qM).length) jL,.bool ((y_Rules[i]!).zD)]) hx93 7 (.slice (some ⟨b101,0,none⟩) 0 0) (Nat.le_of_ble_eq_true rfl)
      replace hx107:∀ (q:Nat) (v:Value),([.int .i64 ((y_Rules[i]!).qE),.int .i64 ((y_Rules[i]!).vw),.slice yH (((y_Rules[i]!).xC).length) jC,.slice jG (((y_Rules[i]!).x8).length) jE,.slice jF (((y_Rules[i]!).xZ).length) jD,.slice (some ⟨b38,0,none⟩) zi11.toNat zi11.toNat,.slice (some ⟨b87,0,none⟩) zi11.toNat zi11.toNat,.slice (some ⟨b101,0,none⟩) 0 0,.bool ((y_Rules[i]!).zD)]:List Value)[q]? =some v→(((xP.set (0+(i:Int).toNat * 9+5) (.slice (some ⟨b38,0,none⟩) zi11.toNat zi11.toNat)).set (0+(i:Int).toNat * 9+6) (.slice (some ⟨b87,0,none⟩) zi11.toNat zi11.toNat)).set (0+(i:Int).toNat * 9+7) (.slice (some ⟨b101,0,none⟩) 0 0))[0+(i:Int).toNat * 9+q]? =some v:=hx107
      try dsimp only [List.set] at H
      refine zo (b_n (t_n (zl (sp (.int .i64 i) (sw (vg i 1 rfl rfl qf (sp (.int .i64 (i+1)) (zo ?_))))))))
      replace H:=H.boxRow 0 rfl 2 0 rfl qj
      try dsimp only [List.set] at H
      replace H:=H.Qz (α:=Xb)
      replace H:St _ _ ((rr (some ⟨b101,0,none⟩) 0 0 142 2 []) :: (.box bs [.slice ac code.length cc,.int .i64 zi97,.int .u64 zi98] 127) :: (rr none 0 0 0 1 []) :: (rr none 0 0 0 1 []) :: (.box b22 [.int .i64 zi11,.slice ra14 zl12.length rc16,.slice (some ⟨b28,0,none⟩) zR13.length rc19] 27) :: (rr ra14 zl12.length rc16 2 1 (zl12.map (Value.int .i64))) :: (rr (some ⟨b28,0,none⟩) zR13.length rc19 56 9 (((xP.set (0+(i:Int).toNat * 9+5) (.slice (some ⟨b38,0,none⟩) zi11.toNat zi11.toNat)).set (0+(i:Int).toNat * 9+6) (.slice (some ⟨b87,0,none⟩) zi11.toNat zi11.toNat)).set (0+(i:Int).toNat * 9+7) (.slice (some ⟨b101,0,none⟩) 0 0))) :: (.box b3 [.slice none 0 0,.slice none 0 0,.slice none 0 0] 31) :: (.box b1 [.int .i64 0,.slice none 0 0,.slice none 0 0] 27) :: ps) ((xe true [] [] ([]:List Xb)) :: (xe false F105 ((xP.set (0+(i:Int).toNat * 9+5) (.slice (some ⟨b38,0,none⟩) zi11.toNat zi11.toNat)).set (0+(i:Int).toNat * 9+6) (.slice (some ⟨b87,0,none⟩) zi11.toNat zi11.toNat)) ((y_Rules.set i { y_Rules[i]! with zf:=r18 }).set i { (y_Rules.set i { y_Rules[i]! with zf:=r18 })[i]! with jb:=(List.replicate zi11.toNat (0:Int))})) :: (isF true G103 (.slice (some ⟨b87,0,none⟩) zi11.toNat zi11.toNat) (List.replicate zi11.toNat (0:Int))) :: (sF false Fc ac cc code) :: (xe false F91 (xP.set (0+(i:Int).toNat * 9+5) (.slice (some ⟨b38,0,none⟩) zi11.toNat zi11.toNat)) (y_Rules.set i { y_Rules[i]! with zf:=r18 })) :: (isF true G89 (.slice (some ⟨b38,0,none⟩) zi11.toNat zi11.toNat) r18) :: (sF false Qh yH jC ((y_Rules[i]!).xC)) :: (sF false Qk jG jE ((y_Rules[i]!).x8)) :: (sF false Qi jF jD ((y_Rules[i]!).xZ)) :: (sF false QM Qa y8 ((y_Rules[i]!).jb)) :: (sF false Qj jM jL ((y_Rules[i]!).qM)) :: (xe false xF xP y_Rules) :: Γ):=H
      have H0:=H
      obtain ⟨G108,hg110,hn109,H⟩:=H.freezeR (α:=Xb) 0 rfl 0 rfl qj
      replace N:Fresh W0.heap.size (G108 :: G103 :: G89 :: Ns):=Fresh.ice N.emp H0 0 hg110.1 hg110.2 (fun F hF b hb=>(List.mem_append.1 (show F∈[G103,G89]++Ns from hF)).elim (fun h=>(H0.yK (L:=[G103,G89]) [2,5]) F h b hb) fun h=>H0.Xy (K0.behind 12 rfl) F h b hb)
      clear H0
      try dsimp only [List.set] at H
      obtain ⟨F111,H⟩:=H.part_7 2 rfl 0 rfl (iv:=i) i qf (by first | omega | (simp only [List.length_set];omega))
      try dsimp only [List.set] at H
      refine xn (m' :=(zR13.length - ((i+1):Int)).toNat) qf ⟨_,i+1,zi97,zi98,(((y_Rules.set i { y_Rules[i]! with zf:=r18 }).set i { (y_Rules.set i { y_Rules[i]! with zf:=r18 })[i]! with jb:=(List.replicate zi11.toNat (0:Int))}).set i { ((y_Rules.set i { y_Rules[i]! with zf:=r18 }).set i { (y_Rules.set i { y_Rules[i]! with zf:=r18 })[i]! with jb:=(List.replicate zi11.toNat (0:Int))})[i]! with qM:=[]}),(((xP.set (0+(i:Int).toNat * 9+5) (.slice (some ⟨b38,0,none⟩) zi11.toNat zi11.toNat)).set (0+(i:Int).toNat * 9+6) (.slice (some ⟨b87,0,none⟩) zi11.toNat zi11.toNat)).set (0+(i:Int).toNat * 9+7) (.slice (some ⟨b101,0,none⟩) 0 0)),F111,uE5,?_,?_,?_,rfl,(N.xE 3 [] qo),H.xE 9 14 [4,1,5,6,7,8] [5,0] qo qo⟩
      · omega
      · omega
      · exact ⟨by (try simp only [List.length_set]);omega,by have q2:=j2.2;(repeat' (first | assumption | exact k2.1 | exact zX.zero qf qf | (simp only [List.length_set];omega) | omega | apply jH.here | apply jH.out | apply jH.into))⟩
     ·skip
      refine xw (b_n (t_n (zl (sp (.int .i64 i) (sw (vg i 1 rfl rfl qf (sp (.int .i64 (i+1)) (zo ?_))))))))
      obtain ⟨G112,N,hn113,H⟩:=H.zV 1 rfl N (fun F hF b hb=>(List.mem_append.1 (show F∈[G89]++Ns from hF)).elim (fun h=>(H.yK (L:=[G89]) [2]) F h b hb) fun h=>H.Xy (K0.behind 9 rfl) F h b hb)
      try dsimp only [List.set] at H
      obtain ⟨F114,H⟩:=H.part_6 2 rfl 0 rfl (iv:=i) i qf (by first | omega | (simp only [List.length_set];omega))
      try dsimp only [List.set] at H
      refine xn (m' :=(zR13.length - ((i+1):Int)).toNat) qf ⟨_,i+1,zi97,zi98,((y_Rules.set i { y_Rules[i]! with zf:=r18 }).set i { (y_Rules.set i { y_Rules[i]! with zf:=r18 })[i]! with jb:=(List.replicate zi11.toNat (0:Int))}),((xP.set (0+(i:Int).toNat * 9+5) (.slice (some ⟨b38,0,none⟩) zi11.toNat zi11.toNat)).set (0+(i:Int).toNat * 9+6) (.slice (some ⟨b87,0,none⟩) zi11.toNat zi11.toNat)),F114,uE5,?_,?_,?_,rfl,(N.xE 2 [] qo),H.xE 8 11 [3,0,4,5,6,7] [2,0] qo qo⟩
      · omega
      · omega
      · exact ⟨by (try simp only [List.length_set]);omega,by have q2:=j2.2;(repeat' (first | assumption | exact k2.1 | exact zX.zero qf qf | (simp only [List.length_set];omega) | omega | apply jH.here | apply jH.out | apply jH.into))⟩
    ·skip
     refine xw (t_n (zcr (sp (.pointer (some ⟨bs,0,none⟩)) ?_)))
     have H1:St W0 w80 ((.box bs [.slice ac code.length cc,.int .i64 zi83,.int .u64 zi84] 127) :: (rr (some ⟨b38,0,none⟩) zi11.toNat zi11.toNat 2 1 (r18.map (Value.int .i64))) :: (.box b22 [.int .i64 zi11,.slice ra14 zl12.length rc16,.slice (some ⟨b28,0,none⟩) zR13.length rc19] 27) :: (rr ra14 zl12.length rc16 2 1 (zl12.map (Value.int .i64))) :: (rr (some ⟨b28,0,none⟩) zR13.length rc19 56 9 (xP.set (0+(i:Int).toNat * 9+5) (.slice (some ⟨b38,0,none⟩) zi11.toNat zi11.toNat))) :: (.box b3 [.slice none 0 0,.slice none 0 0,.slice none 0 0] 31) :: (.box b1 [.int .i64 0,.slice none 0 0,.slice none 0 0] 27) :: ps) ((sF false Fc ac cc code) :: (sF false Qh yH jC ((y_Rules[i]!).xC)) :: (sF false Qk jG jE ((y_Rules[i]!).x8)) :: (sF false Qi jF jD ((y_Rules[i]!).xZ)) :: (sF false QM Qa y8 ((y_Rules[i]!).jb)) :: (sF false Qj jM jL ((y_Rules[i]!).qM)) :: (xe false xF xP y_Rules) :: Γ):=H.xE 7 7 [0,1,2,3,4,5,6] [0,1,2,3,4,5,6] qo qo
     have N1:Fresh _ (Ns):=N
     have K1:Kept (Ns) ((sF false Qh yH jC ((y_Rules[i]!).xC)) :: (sF false Qk jG jE ((y_Rules[i]!).x8)) :: (sF false Qi jF jD ((y_Rules[i]!).xZ)) :: (sF false QM Qa y8 ((y_Rules[i]!).jb)) :: (sF false Qj jM jL ((y_Rules[i]!).qM)) :: (xe false xF xP y_Rules) :: Γ):=K0.behind 6 rfl
     refine sw (xI #[.pointer (some ⟨bs,0,none⟩),.int .i64 2] rfl rfl Tryz.call66 (dOne_ok code zi83 zi84 bs ac cc Fc (2:Int) H1 N1 K1 qg) ?_)
     clear H H1 N1 K1
     rintro _ w115 ⟨zi118,zi119,zb120,hx117,rfl,N,H⟩
     refine zjn (xO (zb120) rfl (fun h121=>?_) (fun h121=>?_))
     ·skip
      refine zl (sp (.pointer (some ⟨b28,0+(i:Int).toNat * 9,none⟩)) (sw (QN H Tryz.underlying54 ti142 fun b122 w123 H=>sp (.pointer (some ⟨b28,0+(i:Int).toNat * 9,none⟩)) (oF rfl ?_))))
      obtain ⟨G124,N,hn125,H⟩:=H.zV 2 rfl N (fun F hF b hb=>(List.mem_append.1 (show F∈[]++Ns from hF)).elim (fun h=>(H.yK (L:=[]) []) F h b hb) fun h=>H.Xy (K0.behind 7 rfl) F h b hb)
      try dsimp only [List.set] at H
      obtain ⟨F126,H⟩:=H.part_5 7 rfl 0 rfl (iv:=i) i qf (by first | omega | (simp only [List.length_set];omega))
      try dsimp only [List.set] at H
      refine sw (o_storePart H 5 rfl (.slice (some ⟨b122,0,none⟩) 0 0) Tryz.sizeOf54 rfl rfl rfl (part_lt (hx41 7 _ rfl)) fun w127 H=>?_)
      have hx128:=part_get (cells:=[.int .i64 ((y_Rules[i]!).qE),.int .i64 ((y_Rules[i]!).vw),.slice yH (((y_Rules[i]!).xC).length) jC,.slice jG (((y_Rules[i]!).x8).length) jE,.slice jF (((y_Rules[i]!).xZ).length) jD,.slice (some ⟨b38,0,none⟩) zi11.toNat zi11.toNat,.slice Qa (((y_Rules[i]!).jb).length) y8,.slice jM (((y_Rules[i]!).qM).length) jL,.bool ((y_Rules[i]!).zD)]) hx41 7 (.slice (some ⟨b122,0,none⟩) 0 0) (Nat.le_of_ble_eq_true rfl)
      replace hx128:∀ (q:Nat) (v:Value),([.int .i64 ((y_Rules[i]!).qE),.int .i64 ((y_Rules[i]!).vw),.slice yH (((y_Rules[i]!).xC).length) jC,.slice jG (((y_Rules[i]!).x8).length) jE,.slice jF (((y_Rules[i]!).xZ).length) jD,.slice (some ⟨b38,0,none⟩) zi11.toNat zi11.toNat,.slice Qa (((y_Rules[i]!).jb).length) y8,.slice (some ⟨b122,0,none⟩) 0 0,.bool ((y_Rules[i]!).zD)]:List Value)[q]? =some v→((xP.set (0+(i:Int).toNat * 9+5) (.slice (some ⟨b38,0,none⟩) zi11.toNat zi11.toNat)).set (0+(i:Int).toNat * 9+7) (.slice (some ⟨b122,0,none⟩) 0 0))[0+(i:Int).toNat * 9+q]? =some v:=hx128
      try dsimp only [List.set] at H
      refine zo (b_n (t_n (zl (sp (.int .i64 i) (sw (vg i 1 rfl rfl qf (sp (.int .i64 (i+1)) (zo ?_))))))))
      replace H:=H.boxRow 0 rfl 2 0 rfl qj
      try dsimp only [List.set] at H
      replace H:=H.Qz (α:=Xb)
      replace H:St _ _ ((rr (some ⟨b122,0,none⟩) 0 0 142 2 []) :: (.box bs [.slice ac code.length cc,.int .i64 zi118,.int .u64 zi119] 127) :: (rr none 0 0 0 1 []) :: (.box b22 [.int .i64 zi11,.slice ra14 zl12.length rc16,.slice (some ⟨b28,0,none⟩) zR13.length rc19] 27) :: (rr ra14 zl12.length rc16 2 1 (zl12.map (Value.int .i64))) :: (rr (some ⟨b28,0,none⟩) zR13.length rc19 56 9 ((xP.set (0+(i:Int).toNat * 9+5) (.slice (some ⟨b38,0,none⟩) zi11.toNat zi11.toNat)).set (0+(i:Int).toNat * 9+7) (.slice (some ⟨b122,0,none⟩) 0 0))) :: (.box b3 [.slice none 0 0,.slice none 0 0,.slice none 0 0] 31) :: (.box b1 [.int .i64 0,.slice none 0 0,.slice none 0 0] 27) :: ps) ((xe true [] [] ([]:List Xb)) :: (xe false F126 (xP.set (0+(i:Int).toNat * 9+5) (.slice (some ⟨b38,0,none⟩) zi11.toNat zi11.toNat)) (y_Rules.set i { y_Rules[i]! with zf:=r18 })) :: (isF true G124 (.slice (some ⟨b38,0,none⟩) zi11.toNat zi11.toNat) r18) :: (sF false Fc ac cc code) :: (sF false Qh yH jC ((y_Rules[i]!).xC)) :: (sF false Qk jG jE ((y_Rules[i]!).x8)) :: (sF false Qi jF jD ((y_Rules[i]!).xZ)) :: (sF false QM Qa y8 ((y_Rules[i]!).jb)) :: (sF false Qj jM jL ((y_Rules[i]!).qM)) :: (xe false xF xP y_Rules) :: Γ):=H
      have H0:=H
      obtain ⟨G129,hg131,hn130,H⟩:=H.freezeR (α:=Xb) 0 rfl 0 rfl qj
      replace N:Fresh W0.heap.size (G129 :: G124 :: Ns):=Fresh.ice N.emp H0 0 hg131.1 hg131.2 (fun F hF b hb=>(List.mem_append.1 (show F∈[G124]++Ns from hF)).elim (fun h=>(H0.yK (L:=[G124]) [2]) F h b hb) fun h=>H0.Xy (K0.behind 10 rfl) F h b hb)
      clear H0
      try dsimp only [List.set] at H
      obtain ⟨F132,H⟩:=H.part_7 2 rfl 0 rfl (iv:=i) i qf (by first | omega | (simp only [List.length_set];omega))
      try dsimp only [List.set] at H
      refine xn (m' :=(zR13.length - ((i+1):Int)).toNat) qf ⟨_,i+1,zi118,zi119,((y_Rules.set i { y_Rules[i]! with zf:=r18 }).set i { (y_Rules.set i { y_Rules[i]! with zf:=r18 })[i]! with qM:=[]}),((xP.set (0+(i:Int).toNat * 9+5) (.slice (some ⟨b38,0,none⟩) zi11.toNat zi11.toNat)).set (0+(i:Int).toNat * 9+7) (.slice (some ⟨b122,0,none⟩) 0 0)),F132,uE5,?_,?_,?_,rfl,(N.xE 2 [] qo),H.xE 8 12 [3,1,4,5,6,7] [5,0] qo qo⟩
      · omega
      · omega
      · exact ⟨by (try simp only [List.length_set]);omega,by have q2:=j2.2;(repeat' (first | assumption | exact k2.1 | exact zX.zero qf qf | (simp only [List.length_set];omega) | omega | apply jH.here | apply jH.out | apply jH.into))⟩
     ·skip
      refine xw (b_n (t_n (zl (sp (.int .i64 i) (sw (vg i 1 rfl rfl qf (sp (.int .i64 (i+1)) (zo ?_))))))))
      obtain ⟨G133,N,hn134,H⟩:=H.zV 1 rfl N (fun F hF b hb=>(List.mem_append.1 (show F∈[]++Ns from hF)).elim (fun h=>(H.yK (L:=[]) []) F h b hb) fun h=>H.Xy (K0.behind 7 rfl) F h b hb)
      try dsimp only [List.set] at H
      obtain ⟨F135,H⟩:=H.part_5 7 rfl 0 rfl (iv:=i) i qf (by first | omega | (simp only [List.length_set];omega))
      try dsimp only [List.set] at H
      refine xn (m' :=(zR13.length - ((i+1):Int)).toNat) qf ⟨_,i+1,zi118,zi119,(y_Rules.set i { y_Rules[i]! with zf:=r18 }),(xP.set (0+(i:Int).toNat * 9+5) (.slice (some ⟨b38,0,none⟩) zi11.toNat zi11.toNat)),F135,uE5,?_,?_,?_,rfl,(N.xE 1 [] qo),H.xE 7 9 [2,0,3,4,5,6] [2,0] qo qo⟩
      · omega
      · omega
      · exact ⟨by (try simp only [List.length_set]);omega,by have q2:=j2.2;(repeat' (first | assumption | exact k2.1 | exact zX.zero qf qf | (simp only [List.length_set];omega) | omega | apply jH.here | apply jH.out | apply jH.into))⟩
 ·skip
  refine zx4 (zn ?_)
  refine c_drawK2 rfl H [0,2,3] [0,1] fun H=>?_
  have S:=H.jA [0,2,3] [0,1]
  refine rt 0 (.agg #[.int .i64 zi11,.slice ra14 zl12.length rc16,.slice ra17 zR13.length rc19]) (Qn (cs:=[.int .i64 zi11,.slice ra14 zl12.length rc16,.slice ra17 zR13.length rc19]) Tryz.isAgg27 Tryz.sizeOf27 rfl (fun _ h=>qH (h.cells 0 rfl) 0 3)) S ?_
  refine rtp 1 (.pointer (some ⟨bs,0,none⟩)) S ?_
  refine ro 2 rfl ?_
  have sd:=(‹SysDr _ _ _›).with j2.1 j2.2
  have f0:ji (⟨zi11,zl12,y_Rules⟩:qy):=sd.frame
  have H1:St W0 w26.drew ((.box bs [.slice ac code.length cc,.int .i64 s_at,.int .u64 s_seed] 127) :: (.box b22 [.int .i64 zi11,.slice ra14 zl12.length rc16,.slice ra17 zR13.length rc19] 27) :: (rr ra14 zl12.length rc16 2 1 (zl12.map (Value.int .i64))) :: (rr ra17 zR13.length rc19 56 9 xP) :: (.box b3 [.slice none 0 0,.slice none 0 0,.slice none 0 0] 31) :: (.box b1 [.int .i64 0,.slice none 0 0,.slice none 0 0] 27) :: ps) ((sF false Fc ac cc code) :: (xe false xF xP y_Rules) :: Γ):=H.xE 6 2 [1,0,2,3,4,5] [0,1] qo qo
  have N1:Fresh _ (Ns):=N
  have K1:Kept (Ns) (Γ):=K0.behind 0 rfl
  refine xI #[.pointer (some ⟨bs,0,none⟩),.pointer (some ⟨b22,0,none⟩),.int .i64 4] rfl rfl Tryz.call79 (dState_ok code s_at s_seed bs ac cc Fc zi11 zl12 y_Rules b22 ra14 zl12.length rc16 ra17 zR13.length rc19 xP xF false (4:Int) H1 N1 K1 qg qg qg) ?_
  clear H H1 N1 K1
  rintro _ w137 ⟨zi141,zi142,zm143,zL144,zl145,ra146,rn147,rc148,ra149,rn150,rc151,rx152,rF153,ra154,rn155,rc156,hx139,hx140,rfl,N,H⟩
  obtain rfl:=H.QY 4 rfl
  obtain rfl:=H.zi (α:=yLI) 5 rfl 2 rfl qj
  obtain rfl:=H.zO 6 rfl
  refine ⟨H.pick [1,2,3] [0,1],(ro 3 rfl (qV H 8 [.int .i64 zi11,.slice ra14 zl12.length rc16,.slice ra17 zR13.length rc19] Tryz.sizeOf27 fun w157 H=>?_))⟩
  try dsimp only [List.set] at H
  refine ⟨H.pick [1,2,3] [0,1],(ro 4 rfl (qV H 7 [.slice ra146 zm143.length rc148,.slice ra149 zL144.length rc151,.slice ra154 zl145.length rc156] Tryz.sizeOf31 fun w158 H=>?_))⟩
  try dsimp only [List.set] at H
  refine ⟨H.pick [1,2,3] [0,1],(xh qh (t_n (c_ret (retCC H 8 rfl 7 rfl rfl Tryz.isAgg27 Tryz.sizeOf27 Tryz.isAgg31 Tryz.sizeOf31 rfl rfl ⟨_,rfl,(⟨zi141,zi142,zi11,zl12,y_Rules,zm143,zL144,zl145,ra14,zl12.length,rc16,ra17,zR13.length,rc19,xP,xF,ra146,zm143.length,rc148,ra149,zL144.length,rc151,rx152,rF153,ra154,zl145.length,rc156,qf,ql,ql,rfl,N,H.xE 9 3 [0,2,3,4,5,6] [0,1,2] qo qo⟩)⟩))))⟩

theorem a2Given_ok {W0 w:World} {ps:List Prv} {Γ:List Fact} {Ns:List yLN} (code:List UInt8) (ac:yOA) (cc:Nat) (Fc:yLN) (H:St W0 w (ps) ((sF false Fc ac cc code) :: Γ)) (N:Fresh W0.heap.size (Ns)) (K0:Kept Ns Γ):Calls Tryz.prog 9 #[.slice ac code.length cc] w (fun e w' =>∃ v,e=.returned v∧∃ (kk_:Int) (par_:yLI) (rules_:List jg) (alive_:List Bool) (bags_:yLL) (around_:yLI) (raq:yOA) (rnq:Nat) (rcq:Nat) (raS:yOA) (rnS:Nat) (rcS:Nat) (rxS:List Value) (rFS:yLN) (raA:yOA) (rnA:Nat) (rcA:Nat) (raB:yOA) (rnB:Nat) (rcB:Nat) (rxB:List Value) (rFB:yLN) (raD:yOA) (rnD:Nat) (rcD:Nat),(SysDr kk_ par_ rules_)∧(StDr kk_ par_.length 4 alive_ bags_ around_)∧v=.tuple #[.agg #[.int .i64 kk_,.slice raq rnq rcq,.slice raS rnS rcS],.agg #[.slice raA rnA rcA,.slice raB rnB rcB,.slice raD rnD rcD]]∧Fresh W0.heap.size (rFB :: Ns)∧St W0 w' ((rr raq rnq rcq 2 1 (par_.map (Value.int .i64))) :: (rr raS rnS rcS 56 9 rxS) :: (rr raA rnA rcA 4 1 (alive_.map (Value.bool))) :: (rr raB rnB rcB 24 1 rxB) :: (rr raD rnD rcD 2 1 (around_.map (Value.int .i64))) :: ps) ((sF false Fc ac cc code) :: (xe false rFS rxS rules_) :: (xe true rFB rxB bags_) :: Γ)):=by
 refine en Tryz.func9 Tryz.ntmps9 ?_
 have ncode:=qQ (H.get 0 rfl).1
 refine zcr (sw (xu H ti27 [.int .i64 0,.slice none 0 0,.slice none 0 0] fun b1 w2 H=>sw (xu H ti31 [.slice none 0 0,.slice none 0 0,.slice none 0 0] fun b3 w4 H=>zjc (sp (.slice ac code.length cc) (sw (Qb #[.slice ac code.length cc] rfl rfl Tryz.call46 (en Tryz.func46 Tryz.ntmps46 ?_)))))))
 refine zcr (sp (.pointer none) (zjc (sp (.slice ac code.length cc) (sw (xK [.slice ac code.length cc,.int .i64 0,.int .u64 0] [(0,.slice ac code.length cc)] (sw (jT H [.slice ac code.length cc,.int .i64 0,.int .u64 0] fun b5 w6 H=>sp (.pointer (some ⟨b5,0,none⟩)) (zjr (ret1 (.pointer (some ⟨b5,0,none⟩)) rfl rfl ⟨_,rfl,?_⟩)))))))))
 have H1:St W0 w6 ((.box b5 [.slice ac code.length cc,.int .i64 0,.int .u64 0] 127) :: (.box b3 [.slice none 0 0,.slice none 0 0,.slice none 0 0] 31) :: (.box b1 [.int .i64 0,.slice none 0 0,.slice none 0 0] 27) :: ps) ((sF false Fc ac cc code) :: Γ):=H.xE 3 1 [0,1,2] [0] qo qo
 have N1:Fresh _ (Ns):=N
 have K1:Kept (Ns) (Γ):=K0.behind 0 rfl
 refine sw (xI #[.pointer (some ⟨b5,0,none⟩)] rfl rfl Tryz.call45 (dShrink_ok code (0:Int) 0 b5 ac cc Fc H1 N1 K1 qg) ?_)
 clear H H1 N1 K1
 rintro _ w7 ⟨zi12,zi13,zi14,zl15,zR16,zm17,zL18,zl19,ra20,rn21,rc22,ra23,rn24,rc25,rx26,rF27,ra28,rn29,rc30,ra31,rn32,rc33,rx34,rF35,ra36,rn37,rc38,hx9,hx10,hx11,rfl,N,H⟩
 obtain rfl:=H.zO 1 rfl
 obtain rfl:=H.zi (α:=jg) 2 rfl 1 rfl qj
 obtain rfl:=H.QY 3 rfl
 obtain rfl:=H.zi (α:=yLI) 4 rfl 2 rfl qj
 obtain rfl:=H.zO 5 rfl
 refine sps [.agg #[.int .i64 zi14,.slice ra20 zl15.length rc22,.slice ra23 zR16.length rc25],.agg #[.slice ra28 zm17.length rc30,.slice ra31 zL18.length rc33,.slice ra36 zl19.length rc38]] (sw (qV H 7 [.int .i64 zi14,.slice ra20 zl15.length rc22,.slice ra23 zR16.length rc25] Tryz.sizeOf27 fun w39 H=>?_))
 try dsimp only [List.set] at H
 refine sw (qV H 6 [.slice ra28 zm17.length rc30,.slice ra31 zL18.length rc33,.slice ra36 zl19.length rc38] Tryz.sizeOf31 fun w40 H=>?_)
 try dsimp only [List.set] at H
 refine zjr (retCC H 7 rfl 6 rfl rfl Tryz.isAgg27 Tryz.sizeOf27 Tryz.isAgg31 Tryz.sizeOf31 rfl rfl ⟨_,rfl,(⟨zi14,zl15,zR16,zm17,zL18,zl19,ra20,zl15.length,rc22,ra23,zR16.length,rc25,rx26,rF27,ra28,zm17.length,rc30,ra31,zL18.length,rc33,rx34,rF35,ra36,zl19.length,rc38,ql,ql,rfl,N,H.xE 8 3 [1,2,3,4,5] [0,1,2] qo qo⟩)⟩)
theorem a2At_ok (w:World) (code:List UInt8) (q:Int) (n:Int) {acode:yOA} {ccode:Nat} {Fcode:yLN} (hcode:qW.rep w Fcode [.slice acode code.length ccode] code) (p0:0≤q):Calls Tryz.prog 11 #[.slice acode code.length ccode,.int .i64 q,.int .i64 n] w (Ret (fun v w' =>v=.int .i64 (atV code q n)) w):=by
 refine en Tryz.func11 Tryz.ntmps11 ?_
 have H:=(St.start w).arg hcode
 have nhcode:=qQ hcode
 clear hcode
 have N:=Fresh.nil w.heap.size
 refine zcr (sp (.int .i64 0) (zjcc (sps [.int .i64 q,.slice acode code.length ccode] (oN rfl (sps [.bool (decide ((q:Int)≥code.length)),.bool (decide ((q:Int)≥code.length))] ?_)))))
 cases h1:(decide ((q:Int)≥code.length))
 ·skip
  replace h1:=of_decide_eq_false h1
  refine qL 11 rfl rfl (sp (.int .i64 n) (qL 11 rfl rfl (sps [.bool (decide ((n:Int) < 1)),.bool (decide ((n:Int) < 1))] (zjn (cD rfl (fun h2=>?_) (fun h2=>?_))))))
  ·skip
   refine zcr (sp (.int .i64 0) (zjr (t_r (ret1 (.int .i64 0) rfl rfl ⟨_,rfl,?_,H.base⟩))))
   rw [atV_no qf]
  ·skip
   have rm:=fun (x:Int)=>Int.emod_nonneg x (show n≠0 by omega)
   have rl:=fun (x:Int)=>Int.emod_lt_of_pos x (show 0 < n by omega)
   refine xw (t_n (zcr (sps [.slice acode code.length ccode,.int .i64 q] ?_)))
   obtain ⟨b3,o4,rfl⟩:=H.addr 0 rfl qf
   refine oI rfl rfl ?_
   have hb6:=byte_lt (code[q.toNat]!)
   refine oL rfl (H.elemByte 0 rfl q q.toNat qf qf qf) (sw (o_convI (((code[q.toNat]!).toNat:Nat):Int) Tryz.underlying5 Tryz.underlying2 rfl qf (sp (.int .i64 n) (sw (o_rem (((code[q.toNat]!).toNat:Nat):Int) n rfl rfl qf qf qf (sp (.int .i64 ((((code[q.toNat]!).toNat:Nat):Int) % n)) (zjr (ret1 (.int .i64 ((((code[q.toNat]!).toNat:Nat):Int) % n)) rfl rfl ⟨_,rfl,?_,H.base⟩))))))))
   rw [atV_yes ‹_› ‹_›]
 ·skip
  replace h1:=of_decide_eq_true h1
  refine xR [12,13] (sp (.bool true) (zjn (xO true rfl (fun _=>zcr (sp (.int .i64 0) (zjr (t_r (ret1 (.int .i64 0) rfl rfl ⟨_,rfl,?_,H.base⟩))))) (fun h=>absurd h qj))))
  rw [atV_no qf]
theorem implPar_ok (w:World) (s:qy) (t:qF) (c:Int) {qB:yOA} {qX:yLN} {qJ:yOA} {xG:yLN} {qY:yOA} {x9:yLN} {xH:yOA} {zN:yLN} {qO:yOA} {xM:yLN} (qP:qW.rep w qX [.slice qB s.qx.length qA] s.qx) (xx:qW.rep w xG [.slice qJ s.qw.length qI] s.qw) (xY:qW.rep w x9 [.slice qY t.qC.length qU] t.qC) (zG:qW.rep w zN [.slice xH t.qK.length xB] t.qK) (xJ:qW.rep w xM [.slice qO t.qG.length qN] t.qG):Calls Tryz.prog 15 #[.agg #[.int .i64 s.xk,.slice qB s.qx.length qA,.slice qJ s.qw.length qI],.agg #[.slice qY t.qC.length qU,.slice xH t.qK.length xB,.slice qO t.qG.length qN],.int .i64 c] w (Ret (fun v w' =>v=.tuple #[.int .i64 (pnV s t c),.int .i64 (zy s t c)]) w):=by
 refine en Tryz.func15 Tryz.ntmps15 ?_
 have H:=(((((St.start w).arg xJ).arg zG).arg xY).arg xx).arg qP
 have zS:=qQ qP
 have jv:=qQ xx
 have Qe:=qQ xY
 have QI:=qQ zG
 have yg:=qQ xJ
 clear qP xx xY zG xJ
 have N:=Fresh.nil w.heap.size
 refine zcr (sw (jT H [.int .i64 s.xk,.slice qB s.qx.length qA,.slice qJ s.qw.length qI] fun b1 w2 H=>sw (jT H [.slice qY t.qC.length qU,.slice xH t.qK.length xB,.slice qO t.qG.length qN] fun b3 w4 H=>sps [.int .i64 0,.int .i64 0] (zjcc (sw (zu [.int .i64 s.xk,.slice qB s.qx.length qA,.slice qJ s.qw.length qI] Tryz.isAgg27 Tryz.sizeOf27 rfl (qH (H.cells 1 rfl) 0 3) ?_))))))
 refine sw (zu [.slice qY t.qC.length qU,.slice xH t.qK.length xB,.slice qO t.qG.length qN] Tryz.isAgg31 Tryz.sizeOf31 rfl (qH (H.cells 0 rfl) 0 3) (sp (.int .i64 c) (sw (oq (cellCode_ok _ s t c (H.get 0 rfl).1 (H.get 1 rfl).1 (H.get 2 rfl).1 (H.get 3 rfl).1 (H.get 4 rfl).1) H fun w6 H=>sp (.int .i64 (zy s t c)) (zjc (sps [.int .i64 (zy s t c),.bool ((zy s t c:Int) != 0)] (zjn (xO ((zy s t c:Int) != 0) rfl (fun h8=>?_) (fun h8=>?_)))))))))
 ·skip
  replace h8:=bne_iff_ne.1 h8
  refine zcr (sps [.int .i64 (zy s t c),.int .i64 0,.int .i64 (zy s t c)] (zjr (t_r (ret2 (.int .i64 0) (.int .i64 (zy s t c)) rfl rfl rfl ⟨_,rfl,?_,H.base⟩))))
  rw [pnV_no ‹_›]
 ·skip
  replace h8:=vW h8
  obtain ⟨q1,q2,q3,q4⟩:=code_ok ‹zy s t c=0›
  have q5:=q1.1
  have q6:=q2.1
  refine xw (t_n (zcr (sw (zu [.int .i64 s.xk,.slice qB s.qx.length qA,.slice qJ s.qw.length qI] Tryz.isAgg27 Tryz.sizeOf27 rfl (qH (H.cells 1 rfl) 0 3) (sw (zu [.slice qY t.qC.length qU,.slice xH t.qK.length xB,.slice qO t.qG.length qN] Tryz.isAgg31 Tryz.sizeOf31 rfl (qH (H.cells 0 rfl) 0 3) (sp (.int .i64 c) (sw (oq (parentNow_ok _ s t c (H.get 0 rfl).1 (H.get 1 rfl).1 (H.get 2 rfl).1 (H.get 3 rfl).1 (H.get 4 rfl).1 qg qg qg) H fun w10 H=>?_)))))))))
  refine sps [.int .i64 (qR s t c),.int .i64 0] (zjr (ret2 (.int .i64 (qR s t c)) (.int .i64 0) rfl rfl rfl ⟨_,rfl,?_,H.base⟩))
  rw [pnV_yes ‹_›,(‹zy s t c=0›:zy s t c=0)]

theorem a2Kid_ok (w:World) (l:yLI) (c:Int) {al:yOA} {cl:Nat} {Fl:yLN} (hl:qW.rep w Fl [.slice al l.length cl] l):Calls Tryz.prog 16 #[.slice al l.length cl,.int .i64 c] w (Ret (fun v w' =>v=.bool (decide ((c:Int)∈l))) w):=by
 refine en Tryz.func16 Tryz.ntmps16 ?_
 have H:=(St.start w).arg hl
 have nhl:=qQ hl
 clear hl
 have N:=Fresh.nil w.heap.size
 refine zcr (sp (.bool false) (zjcc (sp (.int .i64 0) (zjn (xq ?_)))))
 refine vJ (fun m' ρ w1=>∃ (zx:Env) (i:Nat),ρ=upd (upd (upd zx 0 (.slice al l.length cl)) 1 (.int .i64 c)) 5 (.int .i64 i)∧((i:Int)≤l.length)∧(∀ j,j < i→l[j]! ≠c)∧m' =(l.length - (i:Int)).toNat∧Fresh w.heap.size []∧St w w1 [] [sF false Fl al cl l]) ((l.length - (0:Int)).toNat) ⟨_,0,uE3,qf,(by exact fun j hj=>by omega),rfl,N,H⟩ ?_
 clear H N
 rintro m' ρ w2 ⟨zx,i,rfl,i0,i1,rfl,N,H⟩
 refine zcc (sps [.int .i64 i,.slice al l.length cl] (oN rfl (sp (.bool (decide ((i:Int) < l.length))) (zjn (cD rfl (fun h3=>?_) (fun h3=>?_))))))
 ·skip
  refine xw (t_n (zn (xq (zcr (sps [.slice al l.length cl,.int .i64 i] ?_)))))
  obtain ⟨b4,o5,rfl⟩:=H.addr 0 rfl qf
  refine oI rfl rfl (oL rfl (H.jZ 0 rfl i qf qf) (sps [.int .i64 c,.bool ((l[i]! :Int) == c)] (zjn (cE rfl (fun h7=>?_) (fun h7=>?_)))))
  ·skip
   refine zcr (sp (.bool true) (zjr (zr5 (ret1 (.bool true) rfl rfl ⟨_,rfl,?_,H.base⟩))))
   rw [decide_eq_true (mem_atI (k:=i) qf ‹_›)]
  ·skip
   refine xw (b_n (t_n (zl (sp (.int .i64 i) (sw (vg i 1 rfl rfl qf (sp (.int .i64 (i+1)) (zo (xn (m' :=(l.length - ((i+1):Int)).toNat) qf ⟨_,i+1,uE3,?_,?_,rfl,N,H⟩)))))))))
   · omega
   · exact fun j hj=>if e:j=i then by rw [e];assumption else i1 j qf
 ·skip
  refine zx4 (zcr (sp (.bool false) (zjr (ret1 (.bool false) rfl rfl ⟨_,rfl,?_,H.base⟩))))
  rw [decide_eq_false (no_mem (i:=i) i1 qf)]

theorem specValid_ok (w:World) (s:qy) (t:qF) {qB:yOA} {qX:yLN} {qJ:yOA} {xG:yLN} {qY:yOA} {x9:yLN} {xH:yOA} {zN:yLN} {qO:yOA} {xM:yLN} (qP:qW.rep w qX [.slice qB s.qx.length qA] s.qx) (xx:qW.rep w xG [.slice qJ s.qw.length qI] s.qw) (xY:qW.rep w x9 [.slice qY t.qC.length qU] t.qC) (zG:qW.rep w zN [.slice xH t.qK.length xB] t.qK) (xJ:qW.rep w xM [.slice qO t.qG.length qN] t.qG):Calls Tryz.prog 13 #[.agg #[.int .i64 s.xk,.slice qB s.qx.length qA,.slice qJ s.qw.length qI],.agg #[.slice qY t.qC.length qU,.slice xH t.qK.length xB,.slice qO t.qG.length qN]] w (Ret (fun v w' =>v=.bool (dec (jB s∧xW s t))) w):=by
 refine en Tryz.func13 Tryz.ntmps13 ?_
 have H:=(((((St.start w).arg xJ).arg zG).arg xY).arg xx).arg qP
 have zS:=qQ qP
 have jv:=qQ xx
 have Qe:=qQ xY
 have QI:=qQ zG
 have yg:=qQ xJ
 clear qP xx xY zG xJ
 have N:=Fresh.nil w.heap.size
 refine zcr (sw (jT H [.int .i64 s.xk,.slice qB s.qx.length qA,.slice qJ s.qw.length qI] fun b1 w2 H=>sw (jT H [.slice qY t.qC.length qU,.slice xH t.qK.length xB,.slice qO t.qG.length qN] fun b3 w4 H=>sp (.bool false) (zjc (sw (oq (l02Ok_ok _ s (qH (H.cells 1 rfl) 0 3) (H.get 0 rfl).1 (H.get 1 rfl).1) H fun w5 H=>sp (.bool (dec (jB s))) ?_))))))
 cases h7:(dec (jB s))
 ·skip
  replace h7:=zF h7
  refine xR [7] (sps [.bool false,.bool false] (zjr (ret1 (.bool false) rfl rfl ⟨_,rfl,?_,H.base⟩)))
  rw [xg (fun h=>‹¬ jB s› h.1)]
 ·skip
  replace h7:=y5 h7
  refine qL 6 rfl rfl (sw (oq (l02State_ok _ s t (qH (H.cells 1 rfl) 0 3) (H.get 0 rfl).1 (H.get 1 rfl).1 (qH (H.cells 0 rfl) 0 3) (H.get 2 rfl).1 (H.get 3 rfl).1 (H.get 4 rfl).1 (by first | assumption | exact (And.left (by assumption:jB _)))) H fun w8 H=>sps [.bool (dec (xW s t)),.bool (dec (xW s t))] (zjr (ret1 (.bool (dec (xW s t))) rfl rfl ⟨_,rfl,?_,H.base⟩))))
  rw [dec_congr (show xW s t↔jB s∧xW s t from ⟨fun h=>⟨by assumption,h⟩,fun h=>h.2⟩)]
def sortLI_ren:Go.Shelf.Ren:=⟨fun | 53=>125 | 64=>182 | 63=>181 | 78=>208 | 79=>209 | 70=>199 | 71=>200 | 72=>201 | 73=>202 | 74=>203 | 75=>204 | 59=>205 | 76=>206 | 77=>207 | 88=>223 | 89=>224 | 90=>225 | 91=>226 | 92=>227 | 68=>221 | 96=>236 | n=>n,fun | 22=>24 | 23=>2 | 3=>3 | 51=>195 | 0=>0 | 67=>218 | 69=>125 | 4=>4 | 61=>211 | 60=>210 | 44=>215 | 5=>5 | 9=>9 | 75=>227 | 79=>231 | 83=>241 | 84=>242 | n=>n,fun | n=>n⟩
theorem sortLI:Go.Proofs.SlLaysN.n53 Tryz.prog sortLI_ren:={
  mixed:=by kernel_rfl
  f53:=⟨Tryz.f125.name,by decide,Tryz.func125.trans (congrArg some (by kernel_rfl))⟩
  f59:=⟨Tryz.f205.name,by decide,Tryz.func205.trans (congrArg some (by kernel_rfl))⟩
  f63:=⟨Tryz.f181.name,by decide,Tryz.func181.trans (congrArg some (by kernel_rfl))⟩
  f64:=Tryz.func182.trans (congrArg some (by kernel_rfl))
  f68:=⟨Tryz.f221.name,by decide,Tryz.func221.trans (congrArg some (by kernel_rfl))⟩
  f70:=⟨Tryz.f199.name,by decide,Tryz.func199.trans (congrArg some (by kernel_rfl))⟩
  f71:=⟨Tryz.f200.name,by decide,Tryz.func200.trans (congrArg some (by kernel_rfl))⟩
  f72:=⟨Tryz.f201.name,by decide,Tryz.func201.trans (congrArg some (by kernel_rfl))⟩
  f73:=⟨Tryz.f202.name,by decide,Tryz.func202.trans (congrArg some (by kernel_rfl))⟩
  f74:=⟨Tryz.f203.name,by decide,Tryz.func203.trans (congrArg some (by kernel_rfl))⟩
  f75:=⟨Tryz.f204.name,by decide,Tryz.func204.trans (congrArg some (by kernel_rfl))⟩
  f76:=⟨Tryz.f206.name,by decide,Tryz.func206.trans (congrArg some (by kernel_rfl))⟩
  f77:=⟨Tryz.f207.name,by decide,Tryz.func207.trans (congrArg some (by kernel_rfl))⟩
  f78:=Tryz.func208.trans (congrArg some (by kernel_rfl))
  f79:=Tryz.func209.trans (congrArg some (by kernel_rfl))
  f88:=⟨Tryz.f223.name,by decide,Tryz.func223.trans (congrArg some (by kernel_rfl))⟩
  f89:=Tryz.func224.trans (congrArg some (by kernel_rfl))
  f90:=Tryz.func225.trans (congrArg some (by kernel_rfl))
  f91:=⟨Tryz.f226.name,by decide,Tryz.func226.trans (congrArg some (by kernel_rfl))⟩
  f92:=⟨Tryz.f227.name,by decide,Tryz.func227.trans (congrArg some (by kernel_rfl))⟩
  f96:=⟨Tryz.f236.name,by decide,Tryz.func236.trans (congrArg some (by kernel_rfl))⟩
  t0:=Tryz.underlying0
  a0:=Tryz.isAgg0
  z0:=Tryz.sizeOf0
  v0:=Tryz.zeroValue0
  t3:=Tryz.underlying3
  a3:=Tryz.isAgg3
  z3:=Tryz.sizeOf3
  v3:=Tryz.zeroValue3
  t4:=Tryz.underlying4
  a4:=Tryz.isAgg4
  z4:=Tryz.sizeOf4
  v4:=Tryz.zeroValue4
  t5:=Tryz.underlying5
  a5:=Tryz.isAgg5
  z5:=Tryz.sizeOf5
  v5:=Tryz.zeroValue5
  t9:=Tryz.underlying9
  a9:=Tryz.isAgg9
  z9:=Tryz.sizeOf9
  v9:=Tryz.zeroValue9
  t22:=Tryz.underlying24
  a22:=Tryz.isAgg24
  z22:=Tryz.sizeOf24
  v22:=Tryz.zeroValue24
  t23:=Tryz.underlying2
  a23:=Tryz.isAgg2
  z23:=Tryz.sizeOf2
  v23:=Tryz.zeroValue2
  t44:=Tryz.underlying215
  a44:=Tryz.isAgg215
  z44:=Tryz.sizeOf215
  v44:=Tryz.zeroValue215
  t51:=Tryz.underlying195
  a51:=Tryz.isAgg195
  z51:=Tryz.sizeOf195
  v51:=Tryz.zeroValue195
  t60:=Tryz.underlying210
  a60:=Tryz.isAgg210
  z60:=Tryz.sizeOf210
  v60:=Tryz.zeroValue210
  t61:=Tryz.underlying211
  a61:=Tryz.isAgg211
  z61:=Tryz.sizeOf211
  v61:=Tryz.zeroValue211
  t67:=Tryz.underlying218
  a67:=Tryz.isAgg218
  z67:=Tryz.sizeOf218
  v67:=Tryz.zeroValue218
  t69:=Tryz.underlying125
  a69:=Tryz.isAgg125
  z69:=Tryz.sizeOf125
  v69:=Tryz.zeroValue125
  t75:=Tryz.underlying227
  a75:=Tryz.isAgg227
  z75:=Tryz.sizeOf227
  v75:=Tryz.zeroValue227
  t79:=Tryz.underlying231
  a79:=Tryz.isAgg231
  z79:=Tryz.sizeOf231
  v79:=Tryz.zeroValue231
  t83:=Tryz.underlying241
  a83:=Tryz.isAgg241
  z83:=Tryz.sizeOf241
  v83:=Tryz.zeroValue241
  t84:=Tryz.underlying242
  a84:=Tryz.isAgg242
  z84:=Tryz.sizeOf242
  v84:=Tryz.zeroValue242 }

theorem canMelt_ok (w:World) (s:qy) (c:Int) {qB:yOA} {qX:yLN} {qJ:yOA} {xG:yLN} (qP:qW.rep w qX [.slice qB s.qx.length qA] s.qx) (xx:qW.rep w xG [.slice qJ s.qw.length qI] s.qw):Calls Tryz.prog 124 #[.agg #[.int .i64 s.xk,.slice qB s.qx.length qA,.slice qJ s.qw.length qI],.int .i64 c] w (Ret (fun v w' =>v=.bool (dec (MayMelt s c))) w):=by
 refine en Tryz.func124 Tryz.ntmps124 ?_
 have H:=((St.start w).arg xx).arg qP
 have zS:=qQ qP
 have jv:=qQ xx
 clear qP xx
 have N:=Fresh.nil w.heap.size
 refine zcr (sw (jT H [.int .i64 s.xk,.slice qB s.qx.length qA,.slice qJ s.qw.length qI] fun b1 w2 H=>sw (jT H [.int .i64 c] fun b3 w4 H=>sp (.bool false) (zjc (oF rfl (oL rfl (H.cell 1 rfl rfl) (sp (.func (.func 180) #[] #[.pointer (some ⟨b3,0,none⟩)]) (sw (Qb #[.slice qJ s.qw.length qI,.func (.func 180) #[] #[.pointer (some ⟨b3,0,none⟩)]] rfl rfl Tryz.call179 (en Tryz.func179 Tryz.ntmps179 ?_))))))))))
 refine zcr (sp (.bool false) (zjc (sps [.slice qJ s.qw.length qI,.func (.func 180) #[] #[.pointer (some ⟨b3,0,none⟩)]] (sw (Qb #[.slice qJ s.qw.length qI,.func (.func 180) #[] #[.pointer (some ⟨b3,0,none⟩)]] rfl rfl Tryz.call198 (en Tryz.func198 Tryz.ntmps198 ?_))))))
 refine zcr (sp (.int .i64 0) (zjcc (sp (.slice qJ s.qw.length qI) (oN rfl (sp (.int .i64 0) (zjn (xq ?_)))))))
 refine vJ (fun m' ρ w5=>∃ (zx:Env) (i:Nat),ρ=upd (upd (upd (upd zx 0 (.slice qJ s.qw.length qI)) 1 (.func (.func 180) #[] #[.pointer (some ⟨b3,0,none⟩)])) 7 (.int .i64 s.qw.length)) 8 (.int .i64 i)∧((i:Int)≤s.qw.length)∧(∀ j,j < i→¬ ((s.qw[j]!).zD=true∧(s.qw[j]!).qE=c))∧m' =(s.qw.length - (i:Int)).toNat∧Fresh w.heap.size []∧St w w5 [.box b3 [.int .i64 c] 2,.box b1 [.int .i64 s.xk,.slice qB s.qx.length qA,.slice qJ s.qw.length qI] 27] [sF false qX qB qA s.qx,sF false xG qJ qI s.qw]) ((s.qw.length - (0:Int)).toNat) ⟨_,0,uE4,qf,(by exact fun j hj=>by omega),rfl,N,H⟩ ?_
 clear H N
 rintro m' ρ w6 ⟨zx,i,rfl,i0,i1,rfl,N,H⟩
 refine zcr (sp (.bool (decide ((i:Int) < s.qw.length))) (zjn (zn (cD rfl (fun h7=>?_) (fun h7=>?_)))))
 ·skip
  refine xw (t_n (zn (xq (zcr (sps [.int .i64 i,.int .i64 i] (zjc (sps [.func (.func 180) #[] #[.pointer (some ⟨b3,0,none⟩)],.slice qJ s.qw.length qI,.int .i64 i] ?_)))))))
  obtain ⟨b8,o9,rfl⟩:=H.addr 1 rfl qf
  obtain ⟨ae11Need,ce11Need,Fe11Need,ae11Have,ce11Have,Fe11Have,ae11Lack,ce11Lack,Fe11Lack,ae11Here,ce11Here,Fe11Here,ae11Out,ce11Out,Fe11Out,ae11Into,ce11Into,Fe11Into,H⟩:=H.Qm 1 rfl i i qf qf qf
  refine oI rfl rfl (sw (zu [.int .i64 ((s.qw[i]!).qE),.int .i64 ((s.qw[i]!).vw),.slice ae11Need (((s.qw[i]!).xC).length) ce11Need,.slice ae11Have (((s.qw[i]!).x8).length) ce11Have,.slice ae11Lack (((s.qw[i]!).xZ).length) ce11Lack,.slice ae11Here (((s.qw[i]!).zf).length) ce11Here,.slice ae11Out (((s.qw[i]!).jb).length) ce11Out,.slice ae11Into (((s.qw[i]!).qM).length) ce11Into,.bool ((s.qw[i]!).zD)] Tryz.isAgg56 Tryz.sizeOf56 rfl (qH (H.get 6 rfl) 0 9) ?_))
  refine sw (Qb #[.agg #[.int .i64 ((s.qw[i]!).qE),.int .i64 ((s.qw[i]!).vw),.slice ae11Need (((s.qw[i]!).xC).length) ce11Need,.slice ae11Have (((s.qw[i]!).x8).length) ce11Have,.slice ae11Lack (((s.qw[i]!).xZ).length) ce11Lack,.slice ae11Here (((s.qw[i]!).zf).length) ce11Here,.slice ae11Out (((s.qw[i]!).jb).length) ce11Out,.slice ae11Into (((s.qw[i]!).qM).length) ce11Into,.bool ((s.qw[i]!).zD)],.pointer (some ⟨b3,0,none⟩)] rfl rfl Tryz.call180 (en Tryz.func180 Tryz.ntmps180 ?_))
  refine zcr (sw (jT H [.int .i64 ((s.qw[i]!).qE),.int .i64 ((s.qw[i]!).vw),.slice ae11Need (((s.qw[i]!).xC).length) ce11Need,.slice ae11Have (((s.qw[i]!).x8).length) ce11Have,.slice ae11Lack (((s.qw[i]!).xZ).length) ce11Lack,.slice ae11Here (((s.qw[i]!).zf).length) ce11Here,.slice ae11Out (((s.qw[i]!).jb).length) ce11Out,.slice ae11Into (((s.qw[i]!).qM).length) ce11Into,.bool ((s.qw[i]!).zD)] fun b12 w13 H=>sp (.bool false) (zjc (oF rfl (oL rfl (H.cell 0 rfl rfl) (oL rfl (H.cell 1 rfl rfl) ?_))))))
  refine sps [.bool (((s.qw[i]!).qE:Int) == c),.bool (((s.qw[i]!).qE:Int) == c)] ?_
  cases h14:(((s.qw[i]!).qE:Int) == c)
  ·skip
   replace h14:=ne_of_beq_false h14
   refine xR [9,10] (sps [.bool false,.bool false] (zjr (ret1 (.bool false) rfl rfl ⟨_,rfl,?_⟩)))
   replace H:=H.erases [0]
   dsimp only [Qg,List.eraseIdx] at H
   refine zjn (xO false rfl (fun h=>absurd h qj) (fun _=>xw (b_n (t_n (zl (sw (vg i 1 rfl rfl qf (sp (.int .i64 (i+1)) (zo (xn (m' :=(s.qw.length - ((i+1):Int)).toNat) qf ⟨_,i+1,uE4,?_,?_,rfl,N,H.pick [0,1] [7,8]⟩))))))))))
   · omega
   · first | exact Xg i1 (fun h=>Bool.noConfusion (‹(s.qw[i]!).zD=false›.symm.trans h.1)) | exact Xg i1 (fun h=>‹¬ _› h.2) | exact Xg i1 (fun h=>by rw [h.1] at *;simp_all) | exact Xg i1 (fun h=>by simp_all)
  ·skip
   replace h14:=eq_of_beq h14
   refine qL 8 rfl rfl (oF rfl (qL 8 rfl rfl (oL rfl (H.cell 0 rfl rfl) (sps [.bool ((s.qw[i]!).zD),.bool ((s.qw[i]!).zD)] (zjr (ret1 (.bool ((s.qw[i]!).zD)) rfl rfl ⟨_,rfl,?_⟩))))))
   replace H:=H.erases [0]
   dsimp only [Qg,List.eraseIdx] at H
   refine zjn (xO ((s.qw[i]!).zD) rfl (fun h15=>?_) (fun h15=>?_))
   ·skip
    refine zcr (sps [.int .i64 i,.int .i64 i] (zjr (zr5 (ret1 (.int .i64 i) rfl rfl ⟨_,rfl,(sw (o_pure (.bool true) (by show some (Value.bool (decide ((i:Int)≥0)))=some (Value.bool true);rw [decide_eq_true qf]) (sp (.bool true) (zjr (ret1 (.bool true) rfl rfl ⟨_,rfl,(sp (.bool true) (zjr (ret1 (.bool true) rfl rfl ⟨_,rfl,?_,H.base⟩)))⟩)))))⟩))))
    rw [yP (show MayMelt s c from ⟨i,by omega,by simp_all,by simp_all⟩)]
   ·skip
    refine xw (b_n (t_n (zl (sw (vg i 1 rfl rfl qf (sp (.int .i64 (i+1)) (zo (xn (m' :=(s.qw.length - ((i+1):Int)).toNat) qf ⟨_,i+1,uE4,?_,?_,rfl,N,H.pick [0,1] [7,8]⟩))))))))
    · omega
    · first | exact Xg i1 (fun h=>Bool.noConfusion (‹(s.qw[i]!).zD=false›.symm.trans h.1)) | exact Xg i1 (fun h=>‹¬ _› h.2) | exact Xg i1 (fun h=>by rw [h.1] at *;simp_all) | exact Xg i1 (fun h=>by simp_all)
 ·skip
  refine zx4 (zcr (sp (.int .i64 (-1)) (zjr (ret1 (.int .i64 (-1)) rfl rfl ⟨_,rfl,(sps [.bool false,.bool false] (zjr (ret1 (.bool false) rfl rfl ⟨_,rfl,(sp (.bool false) (zjr (ret1 (.bool false) rfl rfl ⟨_,rfl,?_,H.base⟩)))⟩)))⟩))))
  rw [xg (fun h=>by obtain ⟨j,h1,h2⟩:=h;exact i1 j qf h2)]

theorem possParents_ok (w:World) (s:qy) (c:Int) {qB:yOA} {qX:yLN} {qJ:yOA} {xG:yLN} (qP:qW.rep w qX [.slice qB s.qx.length qA] s.qx) (xx:qW.rep w xG [.slice qJ s.qw.length qI] s.qw) (p0:ji s) (p1:Q4 s c):Calls Tryz.prog 63 #[.agg #[.int .i64 s.xk,.slice qB s.qx.length qA,.slice qJ s.qw.length qI],.int .i64 c] w (Ret (fun v w' =>∃ (ra:yOA) (rn:Nat) (rc:Nat),v=.slice ra rn rc∧Fresh w.heap.size []∧St w w' [rr ra rn rc 2 1 ((possL s c).map (Value.int .i64))] []) w):=by
 refine en Tryz.func63 Tryz.ntmps63 ?_
 have H:=((St.start w).arg xx).arg qP
 have zS:=qQ qP
 have jv:=qQ xx
 clear qP xx
 have N:=Fresh.nil w.heap.size
 have p3:=p0.step p1.1 p1.2
 have p4:=p0.2.1
 have p5:=p1.1
 have p6:=p1.2
 refine zcr (sw (jT H [.int .i64 s.xk,.slice qB s.qx.length qA,.slice qJ s.qw.length qI] fun b1 w2 H=>sp (.slice none 0 0) (zjc (sw (QN H Tryz.underlying24 ti2 fun b3 w4 H=>sp (.slice (some ⟨b3,0,none⟩) 0 0) (zjcc (oF rfl (oL rfl (H.cell 1 rfl rfl) (sp (.int .i64 c) ?_)))))))))
 obtain ⟨b5,o6,rfl⟩:=H.addr 0 rfl qf
 refine oI rfl rfl (oL rfl (H.jZ 0 rfl c qf qf) (sp (.int .i64 (s.qx[c.toNat]!)) (zjn (xq ?_))))
 replace H:=H.boxRowI 0 [] 0
 refine vJ (fun m' ρ w8=>∃ (zx:Env) (QG:yOA) (yJ:Nat) (QE:Nat) (out:yLI) (p:Int) (n:Nat),ρ=upd (upd (upd zx 2 (.pointer (some ⟨b1,0,none⟩))) 5 (.slice QG yJ QE)) 6 (.int .i64 p)∧(-1≤p∧p≤(s.qx.length:Int) - 1)∧(p < n)∧((out.length:Int)+p≤(s.qx.length:Int) - 1)∧(chain s s.qx.length (s.qx[c.toNat]!)=out++chain s n p)∧m' =(p+1).toNat∧Fresh w.heap.size []∧St w w8 [rr QG yJ QE 2 1 (out.map (Value.int .i64)),.box b1 [.int .i64 s.xk,.slice (some ⟨b5,o6,none⟩) s.qx.length qA,.slice qJ s.qw.length qI] 27] [sF false qX (some ⟨b5,o6,none⟩) qA s.qx,sF false xG qJ qI s.qw]) (((s.qx[c.toNat]!)+1).toNat) ⟨_,(some ⟨b3,0,none⟩),0,0,([]:yLI),s.qx[c.toNat]!,s.qx.length,uE3,qf,qf,(by simp only [List.length_nil];omega),(by rfl),rfl,N,H⟩ ?_
 clear H N
 rintro m' ρ w9 ⟨zx,QG,yJ,QE,out,p,n,rfl,i0,i1,i2,i3,rfl,N,H⟩
 have hn_out:=H.zO 0 rfl
 have up:=fun h=>p0.step (c:=p) h i0.2
 refine zcc (sps [.int .i64 p,.bool (decide ((p:Int)≥0))] (zjn (cD rfl (fun h10=>?_) (fun h10=>?_))))
 ·skip
  refine xw (t_n (zn (xq (zcr (sps [.slice QG yJ QE,.int .i64 p] (sw (vz H Tryz.underlying24 ti2 [.int .i64 p] fun b11 w12 H=>sw (vM H 1 rfl 0 rfl Tryz.underlying24 ti2 rfl qj rfl rfl rfl (by simp [Value.oneCell',Value.cells]) qp qf fun a13 c14 w15 H=>?_))))))))
  rw [snocI] at H
  refine sp (.slice a13 (yJ+1) c14) (zjc (sw (zu [.int .i64 s.xk,.slice (some ⟨b5,o6,none⟩) s.qx.length qA,.slice qJ s.qw.length qI] Tryz.isAgg27 Tryz.sizeOf27 rfl (qH (H.cells 2 rfl) 0 3) (sp (.int .i64 p) (sw (oq (canMelt_ok _ s p (H.get 0 rfl).1 (H.get 1 rfl).1) H fun w17 H=>sp (.bool (!(dec (MayMelt s p)))) (zjn (cQ rfl (fun h19=>?_) (fun h19=>?_)))))))))
  ·skip
   refine c_exit (b_o rfl (t_x (t_x (b_x (t_n (zcr (sp (.slice a13 (yJ+1) c14) ?_)))))))
   have sl21:=sortI_len (out++[p])
   refine sw (xI #[.slice a13 (yJ+1) c14] rfl rfl Tryz.call125 (sortRowI sortLI H 1 rfl (by first | omega | (simp only [List.length_append,List.length_cons,List.length_nil];omega))) ?_)
   rintro _ w20 ⟨rfl,H⟩
   refine zjc (sps [.slice a13 (yJ+1) c14,.slice a13 (yJ+1) c14] (zjr (ret1 (.slice a13 (yJ+1) c14) rfl rfl ⟨_,rfl,?_,H.base⟩)))
   rw [possL,i3,chain_stop qf qf ql]
   exact ⟨a13,yJ+1,c14,rfl,N,H.pick [1] []⟩
  ·skip
   refine xw (b_n (t_n (zl (oF rfl (oL rfl (H.cell 2 rfl rfl) (sp (.int .i64 p) (oI rfl rfl (oL rfl (H.jZ 0 rfl p qf qf) (sp (.int .i64 (s.qx[p.toNat]!)) (zo ?_))))))))))
   have up1:=up qf
   refine xn (m' :=((s.qx[p.toNat]!)+1).toNat) qf ⟨_,a13,yJ+1,c14,(out++[p]),s.qx[p.toNat]!,n - 1,uE3,?_,?_,?_,?_,rfl,N,H.pick [1,2] [0,1]⟩
   · omega
   · omega
   · simp only [List.length_append,List.length_cons,List.length_nil];omega
   · rw [i3,chain_go qf qf ql];simp
 ·skip
  refine zx4 (zcr (sp (.slice QG yJ QE) ?_))
  have sl23:=sortI_len out
  refine sw (xI #[.slice QG yJ QE] rfl rfl Tryz.call125 (sortRowI sortLI H 0 rfl (by first | omega | (simp only [List.length_append,List.length_cons,List.length_nil];omega))) ?_)
  rintro _ w22 ⟨rfl,H⟩
  refine zjc (sps [.slice QG yJ QE,.slice QG yJ QE] (zjr (ret1 (.slice QG yJ QE) rfl rfl ⟨_,rfl,?_,H.base⟩)))
  rw [possL,i3,chain_end qf,List.append_nil]
  exact ⟨QG,yJ,QE,rfl,N,H.pick [0] []⟩

theorem implPoss_ok (w:World) (s:qy) (c:Int) {qB:yOA} {qX:yLN} {qJ:yOA} {xG:yLN} (qP:qW.rep w qX [.slice qB s.qx.length qA] s.qx) (xx:qW.rep w xG [.slice qJ s.qw.length qI] s.qw) (p0:jB s) (p1:Q4 s c):Calls Tryz.prog 14 #[.agg #[.int .i64 s.xk,.slice qB s.qx.length qA,.slice qJ s.qw.length qI],.int .i64 c] w (Ret (fun v w' =>∃ (ra0:yOA) (rn0:Nat) (rc0:Nat),v=.tuple #[.slice ra0 rn0 rc0,.int .i64 0]∧Fresh w.heap.size []∧St w w' [rr ra0 rn0 rc0 2 1 ((possL s c).map (Value.int .i64))] []) w):=by
 refine en Tryz.func14 Tryz.ntmps14 ?_
 have H:=((St.start w).arg xx).arg qP
 have zS:=qQ qP
 have jv:=qQ xx
 clear qP xx
 have N:=Fresh.nil w.heap.size
 have q0:=p0.1
 have q1:=p1.1
 have q2:=p1.2
 refine zcr (sw (jT H [.int .i64 s.xk,.slice qB s.qx.length qA,.slice qJ s.qw.length qI] fun b1 w2 H=>sps [.slice none 0 0,.int .i64 0] (zjcc (sw (zu [.int .i64 s.xk,.slice qB s.qx.length qA,.slice qJ s.qw.length qI] Tryz.isAgg27 Tryz.sizeOf27 rfl (qH (H.cells 0 rfl) 0 3) (sw (oq (validSystem_ok _ s (H.get 0 rfl).1 (H.get 1 rfl).1) H fun w4 H=>sp (.bool (!(dec (jB s)))) (zjn (xO (!(dec (jB s))) rfl (fun h=>absurd p0 (zF (xy h))) (fun h6=>?_))))))))))
 replace h6:=xm h6
 replace h6:=y5 h6
 refine xw (t_n (zcc (sw (zu [.int .i64 s.xk,.slice qB s.qx.length qA,.slice qJ s.qw.length qI] Tryz.isAgg27 Tryz.sizeOf27 rfl (qH (H.cells 0 rfl) 0 3) (sp (.int .i64 c) (sw (oq (isCell_ok _ s c (H.get 0 rfl).1 (H.get 1 rfl).1) H fun w8 H=>sp (.bool (!(inR c 0 ((s.qx.length:Int) - 1)))) (zjn (xO (!(inR c 0 ((s.qx.length:Int) - 1))) rfl (fun h10=>?_) (fun h10=>?_))))))))))
 ·skip
  replace h10:=xy h10
  replace h10:=QS h10
  exact absurd (show inR c 0 ((s.qx.length:Int) - 1)=true from Qp.2 ⟨by omega,by omega⟩) (by simp_all)
 ·skip
  replace h10:=xm h10
  replace h10:=Qp.1 h10
  refine xw (t_n (zcr (sw (zu [.int .i64 s.xk,.slice qB s.qx.length qA,.slice qJ s.qw.length qI] Tryz.isAgg27 Tryz.sizeOf27 rfl (qH (H.cells 0 rfl) 0 3) (sp (.int .i64 c) ?_)))))
  have sz14:=H.base.size
  refine sw (oc (possParents_ok _ s c (H.get 0 rfl).1 (H.get 1 rfl).1 qg qg) ?_)
  rintro _ w12 ⟨ra11,rn11,rc11,rfl,M,K⟩ _
  replace H:=H.merge K M
  obtain rfl:=H.zO 0 rfl
  refine sps [.slice ra11 ((possL s c).length) rc11,.int .i64 0] (zjr (ret2 (.slice ra11 ((possL s c).length) rc11) (.int .i64 0) rfl rfl rfl ⟨_,rfl,(⟨ra11,(possL s c).length,rc11,rfl,N,H.pick [0] []⟩),H.base⟩))
theorem law_FnParents (w:World) (code:List UInt8) (more:List UInt8) (acode:yOA) (ccode:Nat) (Fcode:yLN) (amore:yOA) (cmore:Nat) (Fmore:yLN) (hcode:qW.rep w Fcode [.slice acode code.length ccode] code) (hmore:qW.rep w Fmore [.slice amore more.length cmore] more):Calls Tryz.prog 3 #[.slice acode code.length ccode,.slice amore more.length cmore] w (Ret (fun v w' =>v=.bool true) w):=by
 refine en Tryz.func3 Tryz.ntmps3 ?_
 have H:=((St.start w).arg hmore).arg hcode
 have nhcode:=qQ hcode
 have nhmore:=qQ hmore
 clear hcode hmore
 have N:=Fresh.nil w.heap.size
 refine zcr (sp (.bool false) (zjcc (sps [.slice acode code.length ccode,.slice amore more.length cmore] (sw (Qb #[.slice acode code.length ccode,.slice amore more.length cmore] rfl rfl Tryz.call8 (en Tryz.func8 Tryz.ntmps8 ?_))))))
 refine zcr (sp (.bool false) (zjc (sp (.slice acode code.length ccode) (oN rfl (sps [.bool (decide ((code.length:Int) > 3000)),.bool (decide ((code.length:Int) > 3000))] ?_)))))
 cases h1:(decide ((code.length:Int) > 3000))
 ·skip
  replace h1:=of_decide_eq_false h1
  refine qL 8 rfl rfl (sp (.slice amore more.length cmore) (qL 8 rfl rfl (oN rfl (qL 8 rfl rfl (sps [.bool (decide ((more.length:Int) > 3000)),.bool (decide ((more.length:Int) > 3000)),.bool (decide ((more.length:Int) > 3000))] (zjr (ret1 (.bool (decide ((more.length:Int) > 3000))) rfl rfl ⟨_,rfl,(zjn (cD rfl (fun h2=>?_) (fun h2=>?_)))⟩)))))))
  ·skip
   refine zcr (sp (.bool true) (zjr (t_r (ret1 (.bool true) rfl rfl ⟨_,rfl,?_,H.base⟩))))
   rfl
  ·skip
   refine xw (t_n (zcr (sp (.slice acode code.length ccode) ?_)))
   have H1:St w w [] [sF false Fcode acode ccode code,sF false Fmore amore cmore more]:=H.pick [] [0,1]
   have N1:Fresh _ []:=N
   have K1:Kept [] [sF false Fmore amore cmore more]:=Kept.nil _
   refine sw (xI #[.slice acode code.length ccode] rfl rfl Tryz.call9 (a2Given_ok code acode ccode Fcode H1 N1 K1 ) ?_)
   clear H H1 N1 K1
   rintro _ w3 ⟨zi7,zl8,zR9,zm10,zL11,zl12,ra13,rn14,rc15,ra16,rn17,rc18,rx19,rF20,ra21,rn22,rc23,ra24,rn25,rc26,rx27,rF28,ra29,rn30,rc31,hx5,hx6,rfl,N,H⟩
   obtain rfl:=H.zO 0 rfl
   obtain rfl:=H.zi (α:=jg) 1 rfl 1 rfl qj
   obtain rfl:=H.QY 2 rfl
   obtain rfl:=H.zi (α:=yLI) 3 rfl 2 rfl qj
   obtain rfl:=H.zO 4 rfl
   have sd:=(‹SysDr _ _ _›)
   have td:=(‹StDr _ _ _ _ _ _›)
   have k0:jB (⟨zi7,zl8,zR9⟩:qy)∧xW (⟨zi7,zl8,zR9⟩:qy) (⟨zm10,zL11,zl12⟩:qF):=⟨sd.ok,td.ok sd qf⟩
   have k1:=k0.1
   have sc:=sd.cells
   have la:=td.la
   have ba:=atV_bd more 0 (n:=6) qf
   refine sps [.tuple #[.agg #[.int .i64 zi7,.slice ra13 zl8.length rc15,.slice ra16 zR9.length rc18],.agg #[.slice ra21 zm10.length rc23,.slice ra24 zL11.length rc26,.slice ra29 zl12.length rc31]],.agg #[.int .i64 zi7,.slice ra13 zl8.length rc15,.slice ra16 zR9.length rc18],.agg #[.slice ra21 zm10.length rc23,.slice ra24 zL11.length rc26,.slice ra29 zl12.length rc31]] (sw (xu H ti27 [.int .i64 0,.slice none 0 0,.slice none 0 0] fun b32 w33 H=>sw (xu H ti31 [.slice none 0 0,.slice none 0 0,.slice none 0 0] fun b34 w35 H=>sw (qV H 1 [.int .i64 zi7,.slice ra13 zl8.length rc15,.slice ra16 zR9.length rc18] Tryz.sizeOf27 fun w36 H=>?_))))
   refine sw (qV H 0 [.slice ra21 zm10.length rc23,.slice ra24 zL11.length rc26,.slice ra29 zl12.length rc31] Tryz.sizeOf31 fun w37 H=>zjcc (sp (.int .i64 0) (zjn (xq ?_))))
   refine vJ (fun m' ρ w38=>∃ (zx:Env) (c:Nat),ρ=upd (upd (upd (upd zx 1 (.slice amore more.length cmore)) 5 (.pointer (some ⟨b32,0,none⟩))) 6 (.pointer (some ⟨b34,0,none⟩))) 7 (.int .i64 c)∧((c:Int)≤zm10.length)∧(∀ j,j < c→zm10[j]! =true)∧m' =(zm10.length - (c:Int)).toNat∧Fresh w.heap.size [rF28]∧St w w38 [.box b34 [.slice ra21 zm10.length rc23,.slice ra24 zL11.length rc26,.slice ra29 zl12.length rc31] 31,.box b32 [.int .i64 zi7,.slice ra13 zl8.length rc15,.slice ra16 zR9.length rc18] 27,rr ra13 zl8.length rc15 2 1 (zl8.map (Value.int .i64)),rr ra16 zR9.length rc18 56 9 rx19,rr ra21 zm10.length rc23 4 1 (zm10.map (Value.bool)),rr ra24 zL11.length rc26 24 1 rx27,rr ra29 zl12.length rc31 2 1 (zl12.map (Value.int .i64))] [xe false rF20 rx19 zR9,xe true rF28 rx27 zL11,sF false Fmore amore cmore more]) ((zm10.length - (0:Int)).toNat) ⟨_,0,uE4,qf,(by exact fun j hj=>by omega),rfl,N,H.pick [0,1,2,3,4,5,6] [1,2,3]⟩ ?_
   clear H N
   rintro m' ρ w39 ⟨zx,c,rfl,i0,i1,rfl,N,H⟩
   refine zcc (sp (.int .i64 c) (oF rfl (oL rfl (H.cell 0 rfl rfl) (oN rfl (sp (.bool (decide ((c:Int) < zm10.length))) (zjn (cD rfl (fun h40=>?_) (fun h40=>?_))))))))
   ·skip
    refine xw (t_n (zn (xq (zcr (oF rfl (oL rfl (H.cell 0 rfl rfl) (sp (.int .i64 c) ?_)))))))
    obtain ⟨b41,rfl⟩:=H.QQ 4 rfl qf
    refine oI rfl rfl (oL rfl (H.rowBool 4 rfl (iv:=c) (i:=c) qf qf) (sp (.bool (!(zm10[c]!))) (zjn (xO (!(zm10[c]!)) rfl (fun h42=>?_) (fun h42=>?_)))))
    ·skip
     replace h42:=xy h42
     refine zcr (sp (.bool true) (zjr (zr5 (ret1 (.bool true) rfl rfl ⟨_,rfl,?_,H.base⟩))))
     rfl
    ·skip
     replace h42:=xm h42
     refine xw (b_n (t_n (zl (sp (.int .i64 c) (sw (vg c 1 rfl rfl qf (sp (.int .i64 (c+1)) (zo (xn (m' :=(zm10.length - ((c+1):Int)).toNat) qf ⟨_,c+1,uE4,?_,?_,rfl,N,H⟩)))))))))
     · omega
     · exact fun j hj=>if e:j=c then by rw [e];assumption else i1 j qf
   ·skip
    refine zx4 (zn ?_)
    refine c_cut (fun ρ w52=>∃ (zx:Env) (b43:Nat) (ra44:yOA) (rc45:Nat) (ra46:yOA) (rc47:Nat) (ra48:yOA) (rc49:Nat) (rx50:List Value) (rF51:yLN),ρ=upd (upd (upd (upd (upd zx 1 (.slice amore more.length cmore)) 5 (.pointer (some ⟨b32,0,none⟩))) 6 (.pointer (some ⟨b34,0,none⟩))) 8 (.pointer (some ⟨b43,0,none⟩))) 10 (.int .i64 ((xA (⟨zi7,zl8,zR9⟩:qy) (⟨zm10,zL11,zl12⟩:qF) (atV more 0 6)).2.2))∧Fresh w.heap.size [rF51,rF28]∧St w w52 [.box b43 [.slice ra44 ((((xA (⟨zi7,zl8,zR9⟩:qy) (⟨zm10,zL11,zl12⟩:qF) (atV more 0 6)).1).qC).length) rc45,.slice ra46 ((((xA (⟨zi7,zl8,zR9⟩:qy) (⟨zm10,zL11,zl12⟩:qF) (atV more 0 6)).1).qK).length) rc47,.slice ra48 ((((xA (⟨zi7,zl8,zR9⟩:qy) (⟨zm10,zL11,zl12⟩:qF) (atV more 0 6)).1).qG).length) rc49] 31,rr ra44 ((((xA (⟨zi7,zl8,zR9⟩:qy) (⟨zm10,zL11,zl12⟩:qF) (atV more 0 6)).1).qC).length) rc45 4 1 ((((xA (⟨zi7,zl8,zR9⟩:qy) (⟨zm10,zL11,zl12⟩:qF) (atV more 0 6)).1).qC).map (Value.bool)),rr ra46 ((((xA (⟨zi7,zl8,zR9⟩:qy) (⟨zm10,zL11,zl12⟩:qF) (atV more 0 6)).1).qK).length) rc47 24 1 rx50,rr ra48 ((((xA (⟨zi7,zl8,zR9⟩:qy) (⟨zm10,zL11,zl12⟩:qF) (atV more 0 6)).1).qG).length) rc49 2 1 ((((xA (⟨zi7,zl8,zR9⟩:qy) (⟨zm10,zL11,zl12⟩:qF) (atV more 0 6)).1).qG).map (Value.int .i64)),.box b34 [.slice ra21 zm10.length rc23,.slice ra24 zL11.length rc26,.slice ra29 zl12.length rc31] 31,.box b32 [.int .i64 zi7,.slice ra13 zl8.length rc15,.slice ra16 zR9.length rc18] 27,rr ra13 zl8.length rc15 2 1 (zl8.map (Value.int .i64)),rr ra16 zR9.length rc18 56 9 rx19,rr ra21 zm10.length rc23 4 1 (zm10.map (Value.bool)),rr ra24 zL11.length rc26 24 1 rx27,rr ra29 zl12.length rc31 2 1 (zl12.map (Value.int .i64))] [xe true rF51 rx50 (((xA (⟨zi7,zl8,zR9⟩:qy) (⟨zm10,zL11,zl12⟩:qF) (atV more 0 6)).1).qK),xe false rF20 rx19 zR9,xe true rF28 rx27 zL11,sF false Fmore amore cmore more]) ?_ ?_
    ·skip
     refine y9 rfl H fun H=>rt 0 (.agg #[.int .i64 zi7,.slice ra13 zl8.length rc15,.slice ra16 zR9.length rc18]) (Qn (cs:=[.int .i64 zi7,.slice ra13 zl8.length rc15,.slice ra16 zR9.length rc18]) Tryz.isAgg27 Tryz.sizeOf27 rfl (fun _ h=>qH (h.cells 1 rfl) 0 3)) H ?_
     refine rt 1 (.agg #[.slice ra21 zm10.length rc23,.slice ra24 zL11.length rc26,.slice ra29 zl12.length rc31]) (Qn (cs:=[.slice ra21 zm10.length rc23,.slice ra24 zL11.length rc26,.slice ra29 zl12.length rc31]) Tryz.isAgg31 Tryz.sizeOf31 rfl (fun _ h=>qH (h.cells 0 rfl) 0 3)) H ?_
     refine rtp 2 (.slice amore more.length cmore) H ?_
     refine zI [3,9] qh qm (vk rfl ?_ (vk rfl ?_ zJ))
     ·skip
      refine oq (a2At_ok _ more 0 6 (H.get 2 rfl).1 qg) H fun w55 H=>⟨H,(zI [4,9] qh qm (vk rfl ?_ (vk rfl ?_ zJ)))⟩
      ·skip
       obtain ⟨G57,hn58,h59⟩:=H.yZ 2 rfl
       obtain ⟨G60,hn61,h62⟩:=H.Qu (α:=jg) 3 rfl 0 rfl qj
       obtain ⟨G63,hn64,h65⟩:=H.Xw 4 rfl
       obtain ⟨G66,hn67,h68⟩:=H.Qu (α:=yLI) 5 rfl 1 rfl qj
       obtain ⟨G69,hn70,h71⟩:=H.yZ 6 rfl
       have sz75:=H.base.size
       have lt76:=H.ltN (L:=[rF28]) [1]
       refine oc (implRun_ok _ (⟨zi7,zl8,zR9⟩:qy) (⟨zm10,zL11,zl12⟩:qF) (atV more 0 6) h59 h62 h65 h68 h71) ?_
       rintro _ w73 ⟨ra72aAlive,rn72aAlive,rc72aAlive,ra72aBags,rn72aBags,rc72aBags,rx72aBags,rF72aBags,ra72aAround,rn72aAround,rc72aAround,rfl,M,K⟩ _
       replace N:=N.merge sz75 lt76 M
       replace H:=H.merge K M
       obtain rfl:=H.QY 0 rfl
       obtain rfl:=H.zi (α:=yLI) 1 rfl 0 rfl qj
       obtain rfl:=H.zO 2 rfl
       refine ⟨H.pick [3,4,5,6,7,8,9] [1,2,3],?_⟩
       have S:=H.jA [3,4,5,6,7,8,9] [1,2,3]
       refine rtp 5 (.tuple #[.agg #[.slice ra72aAlive ((((xA (⟨zi7,zl8,zR9⟩:qy) (⟨zm10,zL11,zl12⟩:qF) (atV more 0 6)).1).qC).length) rc72aAlive,.slice ra72aBags ((((xA (⟨zi7,zl8,zR9⟩:qy) (⟨zm10,zL11,zl12⟩:qF) (atV more 0 6)).1).qK).length) rc72aBags,.slice ra72aAround ((((xA (⟨zi7,zl8,zR9⟩:qy) (⟨zm10,zL11,zl12⟩:qF) (atV more 0 6)).1).qG).length) rc72aAround],.int .i64 ((xA (⟨zi7,zl8,zR9⟩:qy) (⟨zm10,zL11,zl12⟩:qF) (atV more 0 6)).2.1),.int .i64 ((xA (⟨zi7,zl8,zR9⟩:qy) (⟨zm10,zL11,zl12⟩:qF) (atV more 0 6)).2.2)]) S ?_
       refine rtp 6 (.agg #[.slice ra72aAlive ((((xA (⟨zi7,zl8,zR9⟩:qy) (⟨zm10,zL11,zl12⟩:qF) (atV more 0 6)).1).qC).length) rc72aAlive,.slice ra72aBags ((((xA (⟨zi7,zl8,zR9⟩:qy) (⟨zm10,zL11,zl12⟩:qF) (atV more 0 6)).1).qK).length) rc72aBags,.slice ra72aAround ((((xA (⟨zi7,zl8,zR9⟩:qy) (⟨zm10,zL11,zl12⟩:qF) (atV more 0 6)).1).qG).length) rc72aAround]) S ?_
       refine rtp 7 (.int .i64 ((xA (⟨zi7,zl8,zR9⟩:qy) (⟨zm10,zL11,zl12⟩:qF) (atV more 0 6)).2.1)) S ?_
       refine rtp 8 (.int .i64 ((xA (⟨zi7,zl8,zR9⟩:qy) (⟨zm10,zL11,zl12⟩:qF) (atV more 0 6)).2.2)) S ?_
       refine ro 9 rfl (xu H ti31 [.slice none 0 0,.slice none 0 0,.slice none 0 0] fun b80 w81 H=>⟨H.pick [4,5,6,7,8,9,10] [1,2,3],(ro 10 rfl (qV H 0 [.slice ra72aAlive ((((xA (⟨zi7,zl8,zR9⟩:qy) (⟨zm10,zL11,zl12⟩:qF) (atV more 0 6)).1).qC).length) rc72aAlive,.slice ra72aBags ((((xA (⟨zi7,zl8,zR9⟩:qy) (⟨zm10,zL11,zl12⟩:qF) (atV more 0 6)).1).qK).length) rc72aBags,.slice ra72aAround ((((xA (⟨zi7,zl8,zR9⟩:qy) (⟨zm10,zL11,zl12⟩:qF) (atV more 0 6)).1).qG).length) rc72aAround] Tryz.sizeOf31 fun w82 H=>⟨H.pick [4,5,6,7,8,9,10] [1,2,3],?_⟩))⟩)
       have S:=H.jA [4,5,6,7,8,9,10] [1,2,3]
       refine rtp 11 (.int .i64 ((xA (⟨zi7,zl8,zR9⟩:qy) (⟨zm10,zL11,zl12⟩:qF) (atV more 0 6)).2.1)) S ?_
       refine rtp 12 (.int .i64 ((xA (⟨zi7,zl8,zR9⟩:qy) (⟨zm10,zL11,zl12⟩:qF) (atV more 0 6)).2.2)) S ?_
       refine xh qh ((meet ⟨_,b80,ra72aAlive,rc72aAlive,ra72aBags,rc72aBags,ra72aAround,rc72aAround,rx72aBags,rF72aBags,uE5,N,H⟩))
      ·skip
       refine xu H ti31 [.slice none 0 0,.slice none 0 0,.slice none 0 0] fun b83 w84 H=>⟨H.pick [1,2,3,4,5,6,7] [0,1,2],(ro 4 rfl ?_)⟩
       obtain ⟨G85,hn86,h87⟩:=H.yZ 3 rfl
       obtain ⟨G88,hn89,h90⟩:=H.Qu (α:=jg) 4 rfl 0 rfl qj
       obtain ⟨G91,hn92,h93⟩:=H.Xw 5 rfl
       obtain ⟨G94,hn95,h96⟩:=H.Qu (α:=yLI) 6 rfl 1 rfl qj
       obtain ⟨G97,hn98,h99⟩:=H.yZ 7 rfl
       have sz103:=H.base.size
       have lt104:=H.ltN (L:=[rF28]) [1]
       refine oc (implRun_ok _ (⟨zi7,zl8,zR9⟩:qy) (⟨zm10,zL11,zl12⟩:qF) (atV more 0 6) h87 h90 h93 h96 h99) ?_
       rintro _ w101 ⟨ra100aAlive,rn100aAlive,rc100aAlive,ra100aBags,rn100aBags,rc100aBags,rx100aBags,rF100aBags,ra100aAround,rn100aAround,rc100aAround,rfl,M,K⟩ _
       replace N:=N.merge sz103 lt104 M
       replace H:=H.merge K M
       obtain rfl:=H.QY 0 rfl
       obtain rfl:=H.zi (α:=yLI) 1 rfl 0 rfl qj
       obtain rfl:=H.zO 2 rfl
       refine ⟨H.pick [4,5,6,7,8,9,10] [1,2,3],?_⟩
       have S:=H.jA [4,5,6,7,8,9,10] [1,2,3]
       refine rtp 5 (.tuple #[.agg #[.slice ra100aAlive ((((xA (⟨zi7,zl8,zR9⟩:qy) (⟨zm10,zL11,zl12⟩:qF) (atV more 0 6)).1).qC).length) rc100aAlive,.slice ra100aBags ((((xA (⟨zi7,zl8,zR9⟩:qy) (⟨zm10,zL11,zl12⟩:qF) (atV more 0 6)).1).qK).length) rc100aBags,.slice ra100aAround ((((xA (⟨zi7,zl8,zR9⟩:qy) (⟨zm10,zL11,zl12⟩:qF) (atV more 0 6)).1).qG).length) rc100aAround],.int .i64 ((xA (⟨zi7,zl8,zR9⟩:qy) (⟨zm10,zL11,zl12⟩:qF) (atV more 0 6)).2.1),.int .i64 ((xA (⟨zi7,zl8,zR9⟩:qy) (⟨zm10,zL11,zl12⟩:qF) (atV more 0 6)).2.2)]) S ?_
       refine rtp 6 (.agg #[.slice ra100aAlive ((((xA (⟨zi7,zl8,zR9⟩:qy) (⟨zm10,zL11,zl12⟩:qF) (atV more 0 6)).1).qC).length) rc100aAlive,.slice ra100aBags ((((xA (⟨zi7,zl8,zR9⟩:qy) (⟨zm10,zL11,zl12⟩:qF) (atV more 0 6)).1).qK).length) rc100aBags,.slice ra100aAround ((((xA (⟨zi7,zl8,zR9⟩:qy) (⟨zm10,zL11,zl12⟩:qF) (atV more 0 6)).1).qG).length) rc100aAround]) S ?_
       refine rtp 7 (.int .i64 ((xA (⟨zi7,zl8,zR9⟩:qy) (⟨zm10,zL11,zl12⟩:qF) (atV more 0 6)).2.1)) S ?_
       refine rtp 8 (.int .i64 ((xA (⟨zi7,zl8,zR9⟩:qy) (⟨zm10,zL11,zl12⟩:qF) (atV more 0 6)).2.2)) S ?_
       refine ro 10 rfl (qV H 3 [.slice ra100aAlive ((((xA (⟨zi7,zl8,zR9⟩:qy) (⟨zm10,zL11,zl12⟩:qF) (atV more 0 6)).1).qC).length) rc100aAlive,.slice ra100aBags ((((xA (⟨zi7,zl8,zR9⟩:qy) (⟨zm10,zL11,zl12⟩:qF) (atV more 0 6)).1).qK).length) rc100aBags,.slice ra100aAround ((((xA (⟨zi7,zl8,zR9⟩:qy) (⟨zm10,zL11,zl12⟩:qF) (atV more 0 6)).1).qG).length) rc100aAround] Tryz.sizeOf31 fun w108 H=>⟨H.pick [4,5,6,7,8,9,10] [1,2,3],?_⟩)
       have S:=H.jA [4,5,6,7,8,9,10] [1,2,3]
       refine rtp 11 (.int .i64 ((xA (⟨zi7,zl8,zR9⟩:qy) (⟨zm10,zL11,zl12⟩:qF) (atV more 0 6)).2.1)) S ?_
       refine rtp 12 (.int .i64 ((xA (⟨zi7,zl8,zR9⟩:qy) (⟨zm10,zL11,zl12⟩:qF) (atV more 0 6)).2.2)) S ?_
       refine xh qh ((meet ⟨_,b83,ra100aAlive,rc100aAlive,ra100aBags,rc100aBags,ra100aAround,rc100aAround,rx100aBags,rF100aBags,uE5,N,H.pick [3,0,1,2,4,5,6,7,8,9,10] [0,1,2,3]⟩))
     ·skip
      refine xu H ti31 [.slice none 0 0,.slice none 0 0,.slice none 0 0] fun b109 w110 H=>⟨H.pick [1,2,3,4,5,6,7] [0,1,2],(ro 3 rfl (oq (a2At_ok _ more 0 6 (H.get 2 rfl).1 qg) H fun w112 H=>⟨H.pick [1,2,3,4,5,6,7] [0,1,2],(ro 4 rfl ?_)⟩))⟩
      obtain ⟨G114,hn115,h116⟩:=H.yZ 3 rfl
      obtain ⟨G117,hn118,h119⟩:=H.Qu (α:=jg) 4 rfl 0 rfl qj
      obtain ⟨G120,hn121,h122⟩:=H.Xw 5 rfl
      obtain ⟨G123,hn124,h125⟩:=H.Qu (α:=yLI) 6 rfl 1 rfl qj
      obtain ⟨G126,hn127,h128⟩:=H.yZ 7 rfl
      have sz132:=H.base.size
      have lt133:=H.ltN (L:=[rF28]) [1]
      refine oc (implRun_ok _ (⟨zi7,zl8,zR9⟩:qy) (⟨zm10,zL11,zl12⟩:qF) (atV more 0 6) h116 h119 h122 h125 h128) ?_
      rintro _ w130 ⟨ra129aAlive,rn129aAlive,rc129aAlive,ra129aBags,rn129aBags,rc129aBags,rx129aBags,rF129aBags,ra129aAround,rn129aAround,rc129aAround,rfl,M,K⟩ _
      replace N:=N.merge sz132 lt133 M
      replace H:=H.merge K M
      obtain rfl:=H.QY 0 rfl
      obtain rfl:=H.zi (α:=yLI) 1 rfl 0 rfl qj
      obtain rfl:=H.zO 2 rfl
      refine ⟨H.pick [4,5,6,7,8,9,10] [1,2,3],?_⟩
      have S:=H.jA [4,5,6,7,8,9,10] [1,2,3]
      refine rtp 5 (.tuple #[.agg #[.slice ra129aAlive ((((xA (⟨zi7,zl8,zR9⟩:qy) (⟨zm10,zL11,zl12⟩:qF) (atV more 0 6)).1).qC).length) rc129aAlive,.slice ra129aBags ((((xA (⟨zi7,zl8,zR9⟩:qy) (⟨zm10,zL11,zl12⟩:qF) (atV more 0 6)).1).qK).length) rc129aBags,.slice ra129aAround ((((xA (⟨zi7,zl8,zR9⟩:qy) (⟨zm10,zL11,zl12⟩:qF) (atV more 0 6)).1).qG).length) rc129aAround],.int .i64 ((xA (⟨zi7,zl8,zR9⟩:qy) (⟨zm10,zL11,zl12⟩:qF) (atV more 0 6)).2.1),.int .i64 ((xA (⟨zi7,zl8,zR9⟩:qy) (⟨zm10,zL11,zl12⟩:qF) (atV more 0 6)).2.2)]) S ?_
      refine rtp 6 (.agg #[.slice ra129aAlive ((((xA (⟨zi7,zl8,zR9⟩:qy) (⟨zm10,zL11,zl12⟩:qF) (atV more 0 6)).1).qC).length) rc129aAlive,.slice ra129aBags ((((xA (⟨zi7,zl8,zR9⟩:qy) (⟨zm10,zL11,zl12⟩:qF) (atV more 0 6)).1).qK).length) rc129aBags,.slice ra129aAround ((((xA (⟨zi7,zl8,zR9⟩:qy) (⟨zm10,zL11,zl12⟩:qF) (atV more 0 6)).1).qG).length) rc129aAround]) S ?_
      refine rtp 7 (.int .i64 ((xA (⟨zi7,zl8,zR9⟩:qy) (⟨zm10,zL11,zl12⟩:qF) (atV more 0 6)).2.1)) S ?_
      refine rtp 8 (.int .i64 ((xA (⟨zi7,zl8,zR9⟩:qy) (⟨zm10,zL11,zl12⟩:qF) (atV more 0 6)).2.2)) S ?_
      refine ro 10 rfl (qV H 3 [.slice ra129aAlive ((((xA (⟨zi7,zl8,zR9⟩:qy) (⟨zm10,zL11,zl12⟩:qF) (atV more 0 6)).1).qC).length) rc129aAlive,.slice ra129aBags ((((xA (⟨zi7,zl8,zR9⟩:qy) (⟨zm10,zL11,zl12⟩:qF) (atV more 0 6)).1).qK).length) rc129aBags,.slice ra129aAround ((((xA (⟨zi7,zl8,zR9⟩:qy) (⟨zm10,zL11,zl12⟩:qF) (atV more 0 6)).1).qG).length) rc129aAround] Tryz.sizeOf31 fun w137 H=>⟨H.pick [4,5,6,7,8,9,10] [1,2,3],?_⟩)
      have S:=H.jA [4,5,6,7,8,9,10] [1,2,3]
      refine rtp 11 (.int .i64 ((xA (⟨zi7,zl8,zR9⟩:qy) (⟨zm10,zL11,zl12⟩:qF) (atV more 0 6)).2.1)) S ?_
      refine rtp 12 (.int .i64 ((xA (⟨zi7,zl8,zR9⟩:qy) (⟨zm10,zL11,zl12⟩:qF) (atV more 0 6)).2.2)) S ?_
      refine xh qh ((meet ⟨_,b109,ra129aAlive,rc129aAlive,ra129aBags,rc129aBags,ra129aAround,rc129aAround,rx129aBags,rF129aBags,uE5,N,H.pick [3,0,1,2,4,5,6,7,8,9,10] [0,1,2,3]⟩))
    ·skip
     clear H N
     rintro ρ w138 ⟨zx,b43,ra44,rc45,ra46,rc47,ra48,rc49,rx50,rF51,rfl,N,H⟩
     refine t_n (zn ?_)
     refine c_cut (fun ρ w139=>∃ (zx:Env),ρ=upd (upd (upd (upd zx 5 (.pointer (some ⟨b32,0,none⟩))) 8 (.pointer (some ⟨b43,0,none⟩))) 10 (.int .i64 ((xA (⟨zi7,zl8,zR9⟩:qy) (⟨zm10,zL11,zl12⟩:qF) (atV more 0 6)).2.2))) 13 (.int .i64 ((xA (⟨zi7,zl8,zR9⟩:qy) (⟨zm10,zL11,zl12⟩:qF) (atV more 0 6)).2.2))∧Fresh w.heap.size [rF51,rF28]∧St w w139 [.box b43 [.slice ra44 ((((xA (⟨zi7,zl8,zR9⟩:qy) (⟨zm10,zL11,zl12⟩:qF) (atV more 0 6)).1).qC).length) rc45,.slice ra46 ((((xA (⟨zi7,zl8,zR9⟩:qy) (⟨zm10,zL11,zl12⟩:qF) (atV more 0 6)).1).qK).length) rc47,.slice ra48 ((((xA (⟨zi7,zl8,zR9⟩:qy) (⟨zm10,zL11,zl12⟩:qF) (atV more 0 6)).1).qG).length) rc49] 31,rr ra44 ((((xA (⟨zi7,zl8,zR9⟩:qy) (⟨zm10,zL11,zl12⟩:qF) (atV more 0 6)).1).qC).length) rc45 4 1 ((((xA (⟨zi7,zl8,zR9⟩:qy) (⟨zm10,zL11,zl12⟩:qF) (atV more 0 6)).1).qC).map (Value.bool)),rr ra46 ((((xA (⟨zi7,zl8,zR9⟩:qy) (⟨zm10,zL11,zl12⟩:qF) (atV more 0 6)).1).qK).length) rc47 24 1 rx50,rr ra48 ((((xA (⟨zi7,zl8,zR9⟩:qy) (⟨zm10,zL11,zl12⟩:qF) (atV more 0 6)).1).qG).length) rc49 2 1 ((((xA (⟨zi7,zl8,zR9⟩:qy) (⟨zm10,zL11,zl12⟩:qF) (atV more 0 6)).1).qG).map (Value.int .i64)),.box b34 [.slice ra21 zm10.length rc23,.slice ra24 zL11.length rc26,.slice ra29 zl12.length rc31] 31,.box b32 [.int .i64 zi7,.slice ra13 zl8.length rc15,.slice ra16 zR9.length rc18] 27,rr ra13 zl8.length rc15 2 1 (zl8.map (Value.int .i64)),rr ra16 zR9.length rc18 56 9 rx19,rr ra21 zm10.length rc23 4 1 (zm10.map (Value.bool)),rr ra24 zL11.length rc26 24 1 rx27,rr ra29 zl12.length rc31 2 1 (zl12.map (Value.int .i64))] [xe true rF51 rx50 (((xA (⟨zi7,zl8,zR9⟩:qy) (⟨zm10,zL11,zl12⟩:qF) (atV more 0 6)).1).qK),xe false rF20 rx19 zR9,xe true rF28 rx27 zL11]) ?_ ?_
     ·skip
      refine y9 rfl H fun H=>rt 0 (.agg #[.int .i64 zi7,.slice ra13 zl8.length rc15,.slice ra16 zR9.length rc18]) (Qn (cs:=[.int .i64 zi7,.slice ra13 zl8.length rc15,.slice ra16 zR9.length rc18]) Tryz.isAgg27 Tryz.sizeOf27 rfl (fun _ h=>qH (h.cells 5 rfl) 0 3)) H ?_
      refine rt 1 (.agg #[.slice ra21 zm10.length rc23,.slice ra24 zL11.length rc26,.slice ra29 zl12.length rc31]) (Qn (cs:=[.slice ra21 zm10.length rc23,.slice ra24 zL11.length rc26,.slice ra29 zl12.length rc31]) Tryz.isAgg31 Tryz.sizeOf31 rfl (fun _ h=>qH (h.cells 4 rfl) 0 3)) H ?_
      refine rtp 2 (.slice amore more.length cmore) H ?_
      refine zI [3,9] qh qm (vk rfl ?_ (vk rfl ?_ zJ))
      ·skip
       refine oq (a2At_ok _ more 0 6 (H.get 3 rfl).1 qg) H fun w142 H=>⟨H,(zI [4,9] qh qm (vk rfl ?_ (vk rfl ?_ zJ)))⟩
       ·skip
        obtain ⟨G144,hn145,h146⟩:=H.yZ 6 rfl
        obtain ⟨G147,hn148,h149⟩:=H.Qu (α:=jg) 7 rfl 1 rfl qj
        obtain ⟨G150,hn151,h152⟩:=H.Xw 8 rfl
        obtain ⟨G153,hn154,h155⟩:=H.Qu (α:=yLI) 9 rfl 2 rfl qj
        obtain ⟨G156,hn157,h158⟩:=H.yZ 10 rfl
        have sz162:=H.base.size
        have lt163:=H.ltN (L:=[rF51,rF28]) [0,2]
        refine oc (specRun_ok _ (⟨zi7,zl8,zR9⟩:qy) (⟨zm10,zL11,zl12⟩:qF) (atV more 0 6) h146 h149 h152 h155 h158) ?_
        rintro _ w160 ⟨ra159aAlive,rn159aAlive,rc159aAlive,ra159aBags,rn159aBags,rc159aBags,rx159aBags,rF159aBags,ra159aAround,rn159aAround,rc159aAround,rfl,M,K⟩ _
        replace N:=N.merge sz162 lt163 M
        replace H:=H.merge K M
        obtain rfl:=H.QY 0 rfl
        obtain rfl:=H.zi (α:=yLI) 1 rfl 0 rfl qj
        obtain rfl:=H.zO 2 rfl
        refine ⟨H.pick [3,4,5,6,7,8,9,10,11,12,13] [1,2,3,4],?_⟩
        have S:=H.jA [3,4,5,6,7,8,9,10,11,12,13] [1,2,3,4]
        refine rtp 5 (.tuple #[.agg #[.slice ra159aAlive ((((xA (⟨zi7,zl8,zR9⟩:qy) (⟨zm10,zL11,zl12⟩:qF) (atV more 0 6)).1).qC).length) rc159aAlive,.slice ra159aBags ((((xA (⟨zi7,zl8,zR9⟩:qy) (⟨zm10,zL11,zl12⟩:qF) (atV more 0 6)).1).qK).length) rc159aBags,.slice ra159aAround ((((xA (⟨zi7,zl8,zR9⟩:qy) (⟨zm10,zL11,zl12⟩:qF) (atV more 0 6)).1).qG).length) rc159aAround],.int .i64 ((xA (⟨zi7,zl8,zR9⟩:qy) (⟨zm10,zL11,zl12⟩:qF) (atV more 0 6)).2.1),.int .i64 ((xA (⟨zi7,zl8,zR9⟩:qy) (⟨zm10,zL11,zl12⟩:qF) (atV more 0 6)).2.2)]) S ?_
        refine rtp 6 (.agg #[.slice ra159aAlive ((((xA (⟨zi7,zl8,zR9⟩:qy) (⟨zm10,zL11,zl12⟩:qF) (atV more 0 6)).1).qC).length) rc159aAlive,.slice ra159aBags ((((xA (⟨zi7,zl8,zR9⟩:qy) (⟨zm10,zL11,zl12⟩:qF) (atV more 0 6)).1).qK).length) rc159aBags,.slice ra159aAround ((((xA (⟨zi7,zl8,zR9⟩:qy) (⟨zm10,zL11,zl12⟩:qF) (atV more 0 6)).1).qG).length) rc159aAround]) S ?_
        refine rtp 7 (.int .i64 ((xA (⟨zi7,zl8,zR9⟩:qy) (⟨zm10,zL11,zl12⟩:qF) (atV more 0 6)).2.1)) S ?_
        refine rtp 8 (.int .i64 ((xA (⟨zi7,zl8,zR9⟩:qy) (⟨zm10,zL11,zl12⟩:qF) (atV more 0 6)).2.2)) S ?_
        refine ro 9 rfl (xu H ti31 [.slice none 0 0,.slice none 0 0,.slice none 0 0] fun b167 w168 H=>⟨H.pick [4,5,6,7,8,9,10,11,12,13,14] [1,2,3,4],(ro 10 rfl (qV H 0 [.slice ra159aAlive ((((xA (⟨zi7,zl8,zR9⟩:qy) (⟨zm10,zL11,zl12⟩:qF) (atV more 0 6)).1).qC).length) rc159aAlive,.slice ra159aBags ((((xA (⟨zi7,zl8,zR9⟩:qy) (⟨zm10,zL11,zl12⟩:qF) (atV more 0 6)).1).qK).length) rc159aBags,.slice ra159aAround ((((xA (⟨zi7,zl8,zR9⟩:qy) (⟨zm10,zL11,zl12⟩:qF) (atV more 0 6)).1).qG).length) rc159aAround] Tryz.sizeOf31 fun w169 H=>?_))⟩)
        refine ⟨H.pick [4,5,6,7,8,9,10,11,12,13,14] [1,2,3,4],?_⟩
        have S:=H.jA [4,5,6,7,8,9,10,11,12,13,14] [1,2,3,4]
        refine rtp 11 (.int .i64 ((xA (⟨zi7,zl8,zR9⟩:qy) (⟨zm10,zL11,zl12⟩:qF) (atV more 0 6)).2.1)) S ?_
        refine rtp 12 (.int .i64 ((xA (⟨zi7,zl8,zR9⟩:qy) (⟨zm10,zL11,zl12⟩:qF) (atV more 0 6)).2.2)) S ?_
        refine xh qh ((meet ⟨_,uE4,(N.pick [1,2]),H.pick [4,5,6,7,8,9,10,11,12,13,14] [1,2,3]⟩))
       ·skip
        refine xu H ti31 [.slice none 0 0,.slice none 0 0,.slice none 0 0] fun b170 w171 H=>⟨H.pick [1,2,3,4,5,6,7,8,9,10,11] [0,1,2,3],(ro 4 rfl ?_)⟩
        obtain ⟨G172,hn173,h174⟩:=H.yZ 7 rfl
        obtain ⟨G175,hn176,h177⟩:=H.Qu (α:=jg) 8 rfl 1 rfl qj
        obtain ⟨G178,hn179,h180⟩:=H.Xw 9 rfl
        obtain ⟨G181,hn182,h183⟩:=H.Qu (α:=yLI) 10 rfl 2 rfl qj
        obtain ⟨G184,hn185,h186⟩:=H.yZ 11 rfl
        have sz190:=H.base.size
        have lt191:=H.ltN (L:=[rF51,rF28]) [0,2]
        refine oc (specRun_ok _ (⟨zi7,zl8,zR9⟩:qy) (⟨zm10,zL11,zl12⟩:qF) (atV more 0 6) h174 h177 h180 h183 h186) ?_
        rintro _ w188 ⟨ra187aAlive,rn187aAlive,rc187aAlive,ra187aBags,rn187aBags,rc187aBags,rx187aBags,rF187aBags,ra187aAround,rn187aAround,rc187aAround,rfl,M,K⟩ _
        replace N:=N.merge sz190 lt191 M
        replace H:=H.merge K M
        obtain rfl:=H.QY 0 rfl
        obtain rfl:=H.zi (α:=yLI) 1 rfl 0 rfl qj
        obtain rfl:=H.zO 2 rfl
        refine ⟨H.pick [4,5,6,7,8,9,10,11,12,13,14] [1,2,3,4],?_⟩
        have S:=H.jA [4,5,6,7,8,9,10,11,12,13,14] [1,2,3,4]
        refine rtp 5 (.tuple #[.agg #[.slice ra187aAlive ((((xA (⟨zi7,zl8,zR9⟩:qy) (⟨zm10,zL11,zl12⟩:qF) (atV more 0 6)).1).qC).length) rc187aAlive,.slice ra187aBags ((((xA (⟨zi7,zl8,zR9⟩:qy) (⟨zm10,zL11,zl12⟩:qF) (atV more 0 6)).1).qK).length) rc187aBags,.slice ra187aAround ((((xA (⟨zi7,zl8,zR9⟩:qy) (⟨zm10,zL11,zl12⟩:qF) (atV more 0 6)).1).qG).length) rc187aAround],.int .i64 ((xA (⟨zi7,zl8,zR9⟩:qy) (⟨zm10,zL11,zl12⟩:qF) (atV more 0 6)).2.1),.int .i64 ((xA (⟨zi7,zl8,zR9⟩:qy) (⟨zm10,zL11,zl12⟩:qF) (atV more 0 6)).2.2)]) S ?_
        refine rtp 6 (.agg #[.slice ra187aAlive ((((xA (⟨zi7,zl8,zR9⟩:qy) (⟨zm10,zL11,zl12⟩:qF) (atV more 0 6)).1).qC).length) rc187aAlive,.slice ra187aBags ((((xA (⟨zi7,zl8,zR9⟩:qy) (⟨zm10,zL11,zl12⟩:qF) (atV more 0 6)).1).qK).length) rc187aBags,.slice ra187aAround ((((xA (⟨zi7,zl8,zR9⟩:qy) (⟨zm10,zL11,zl12⟩:qF) (atV more 0 6)).1).qG).length) rc187aAround]) S ?_
        refine rtp 7 (.int .i64 ((xA (⟨zi7,zl8,zR9⟩:qy) (⟨zm10,zL11,zl12⟩:qF) (atV more 0 6)).2.1)) S ?_
        refine rtp 8 (.int .i64 ((xA (⟨zi7,zl8,zR9⟩:qy) (⟨zm10,zL11,zl12⟩:qF) (atV more 0 6)).2.2)) S ?_
        refine ro 10 rfl (qV H 3 [.slice ra187aAlive ((((xA (⟨zi7,zl8,zR9⟩:qy) (⟨zm10,zL11,zl12⟩:qF) (atV more 0 6)).1).qC).length) rc187aAlive,.slice ra187aBags ((((xA (⟨zi7,zl8,zR9⟩:qy) (⟨zm10,zL11,zl12⟩:qF) (atV more 0 6)).1).qK).length) rc187aBags,.slice ra187aAround ((((xA (⟨zi7,zl8,zR9⟩:qy) (⟨zm10,zL11,zl12⟩:qF) (atV more 0 6)).1).qG).length) rc187aAround] Tryz.sizeOf31 fun w195 H=>⟨H.pick [4,5,6,7,8,9,10,11,12,13,14] [1,2,3,4],?_⟩)
        have S:=H.jA [4,5,6,7,8,9,10,11,12,13,14] [1,2,3,4]
        refine rtp 11 (.int .i64 ((xA (⟨zi7,zl8,zR9⟩:qy) (⟨zm10,zL11,zl12⟩:qF) (atV more 0 6)).2.1)) S ?_
        refine rtp 12 (.int .i64 ((xA (⟨zi7,zl8,zR9⟩:qy) (⟨zm10,zL11,zl12⟩:qF) (atV more 0 6)).2.2)) S ?_
        refine xh qh ((meet ⟨_,uE4,(N.pick [1,2]),H.pick [4,5,6,7,8,9,10,11,12,13,14] [1,2,3]⟩))
      ·skip
       refine xu H ti31 [.slice none 0 0,.slice none 0 0,.slice none 0 0] fun b196 w197 H=>⟨H.pick [1,2,3,4,5,6,7,8,9,10,11] [0,1,2,3],(ro 3 rfl (oq (a2At_ok _ more 0 6 (H.get 3 rfl).1 qg) H fun w199 H=>⟨H.pick [1,2,3,4,5,6,7,8,9,10,11] [0,1,2,3],(ro 4 rfl ?_)⟩))⟩
       obtain ⟨G201,hn202,h203⟩:=H.yZ 7 rfl
       obtain ⟨G204,hn205,h206⟩:=H.Qu (α:=jg) 8 rfl 1 rfl qj
       obtain ⟨G207,hn208,h209⟩:=H.Xw 9 rfl
       obtain ⟨G210,hn211,h212⟩:=H.Qu (α:=yLI) 10 rfl 2 rfl qj
       obtain ⟨G213,hn214,h215⟩:=H.yZ 11 rfl
       have sz219:=H.base.size
       have lt220:=H.ltN (L:=[rF51,rF28]) [0,2]
       refine oc (specRun_ok _ (⟨zi7,zl8,zR9⟩:qy) (⟨zm10,zL11,zl12⟩:qF) (atV more 0 6) h203 h206 h209 h212 h215) ?_
       rintro _ w217 ⟨ra216aAlive,rn216aAlive,rc216aAlive,ra216aBags,rn216aBags,rc216aBags,rx216aBags,rF216aBags,ra216aAround,rn216aAround,rc216aAround,rfl,M,K⟩ _
       replace N:=N.merge sz219 lt220 M
       replace H:=H.merge K M
       obtain rfl:=H.QY 0 rfl
       obtain rfl:=H.zi (α:=yLI) 1 rfl 0 rfl qj
       obtain rfl:=H.zO 2 rfl
       refine ⟨H.pick [4,5,6,7,8,9,10,11,12,13,14] [1,2,3,4],?_⟩
       have S:=H.jA [4,5,6,7,8,9,10,11,12,13,14] [1,2,3,4]
       refine rtp 5 (.tuple #[.agg #[.slice ra216aAlive ((((xA (⟨zi7,zl8,zR9⟩:qy) (⟨zm10,zL11,zl12⟩:qF) (atV more 0 6)).1).qC).length) rc216aAlive,.slice ra216aBags ((((xA (⟨zi7,zl8,zR9⟩:qy) (⟨zm10,zL11,zl12⟩:qF) (atV more 0 6)).1).qK).length) rc216aBags,.slice ra216aAround ((((xA (⟨zi7,zl8,zR9⟩:qy) (⟨zm10,zL11,zl12⟩:qF) (atV more 0 6)).1).qG).length) rc216aAround],.int .i64 ((xA (⟨zi7,zl8,zR9⟩:qy) (⟨zm10,zL11,zl12⟩:qF) (atV more 0 6)).2.1),.int .i64 ((xA (⟨zi7,zl8,zR9⟩:qy) (⟨zm10,zL11,zl12⟩:qF) (atV more 0 6)).2.2)]) S ?_
       refine rtp 6 (.agg #[.slice ra216aAlive ((((xA (⟨zi7,zl8,zR9⟩:qy) (⟨zm10,zL11,zl12⟩:qF) (atV more 0 6)).1).qC).length) rc216aAlive,.slice ra216aBags ((((xA (⟨zi7,zl8,zR9⟩:qy) (⟨zm10,zL11,zl12⟩:qF) (atV more 0 6)).1).qK).length) rc216aBags,.slice ra216aAround ((((xA (⟨zi7,zl8,zR9⟩:qy) (⟨zm10,zL11,zl12⟩:qF) (atV more 0 6)).1).qG).length) rc216aAround]) S ?_
       refine rtp 7 (.int .i64 ((xA (⟨zi7,zl8,zR9⟩:qy) (⟨zm10,zL11,zl12⟩:qF) (atV more 0 6)).2.1)) S ?_
       refine rtp 8 (.int .i64 ((xA (⟨zi7,zl8,zR9⟩:qy) (⟨zm10,zL11,zl12⟩:qF) (atV more 0 6)).2.2)) S ?_
       refine ro 10 rfl (qV H 3 [.slice ra216aAlive ((((xA (⟨zi7,zl8,zR9⟩:qy) (⟨zm10,zL11,zl12⟩:qF) (atV more 0 6)).1).qC).length) rc216aAlive,.slice ra216aBags ((((xA (⟨zi7,zl8,zR9⟩:qy) (⟨zm10,zL11,zl12⟩:qF) (atV more 0 6)).1).qK).length) rc216aBags,.slice ra216aAround ((((xA (⟨zi7,zl8,zR9⟩:qy) (⟨zm10,zL11,zl12⟩:qF) (atV more 0 6)).1).qG).length) rc216aAround] Tryz.sizeOf31 fun w224 H=>⟨H.pick [4,5,6,7,8,9,10,11,12,13,14] [1,2,3,4],?_⟩)
       have S:=H.jA [4,5,6,7,8,9,10,11,12,13,14] [1,2,3,4]
       refine rtp 11 (.int .i64 ((xA (⟨zi7,zl8,zR9⟩:qy) (⟨zm10,zL11,zl12⟩:qF) (atV more 0 6)).2.1)) S ?_
       refine rtp 12 (.int .i64 ((xA (⟨zi7,zl8,zR9⟩:qy) (⟨zm10,zL11,zl12⟩:qF) (atV more 0 6)).2.2)) S ?_
       refine xh qh ((meet ⟨_,uE4,(N.pick [1,2]),H.pick [4,5,6,7,8,9,10,11,12,13,14] [1,2,3]⟩))
     ·skip
      clear H N
      rintro ρ w225 ⟨zx,rfl,N,H⟩
      refine t_n (zcc (sps [.int .i64 ((xA (⟨zi7,zl8,zR9⟩:qy) (⟨zm10,zL11,zl12⟩:qF) (atV more 0 6)).2.2),.int .i64 ((xA (⟨zi7,zl8,zR9⟩:qy) (⟨zm10,zL11,zl12⟩:qF) (atV more 0 6)).2.2),.bool (((xA (⟨zi7,zl8,zR9⟩:qy) (⟨zm10,zL11,zl12⟩:qF) (atV more 0 6)).2.2:Int) != ((xA (⟨zi7,zl8,zR9⟩:qy) (⟨zm10,zL11,zl12⟩:qF) (atV more 0 6)).2.2))] (zjn ?_)))
      refine xO (((xA (⟨zi7,zl8,zR9⟩:qy) (⟨zm10,zL11,zl12⟩:qF) (atV more 0 6)).2.2:Int) != ((xA (⟨zi7,zl8,zR9⟩:qy) (⟨zm10,zL11,zl12⟩:qF) (atV more 0 6)).2.2)) rfl (fun h=>absurd rfl (bne_iff_ne.1 h)) (fun h226=>?_)
      replace h226:=vW h226
      refine xw (t_n (zcc (sps [.int .i64 ((xA (⟨zi7,zl8,zR9⟩:qy) (⟨zm10,zL11,zl12⟩:qF) (atV more 0 6)).2.2),.bool (((xA (⟨zi7,zl8,zR9⟩:qy) (⟨zm10,zL11,zl12⟩:qF) (atV more 0 6)).2.2:Int) != 0)] (zjn (xO (((xA (⟨zi7,zl8,zR9⟩:qy) (⟨zm10,zL11,zl12⟩:qF) (atV more 0 6)).2.2:Int) != 0) rfl (fun h227=>?_) (fun h227=>?_))))))
      ·skip
       replace h227:=bne_iff_ne.1 h227
       refine zcr (sp (.bool true) (zjr (t_r (ret1 (.bool true) rfl rfl ⟨_,rfl,?_,H.base⟩))))
       rfl
      ·skip
       replace h227:=vW h227
       obtain ⟨z1,z2⟩:=run_parents k0 (fun j hj=>i1 j (by have hj' :j < zl8.length:=hj;omega)) ⟨ba.1,by omega⟩ ql
       have z3:=And.intro k0.1 z1
       have z4:(xA (⟨zi7,zl8,zR9⟩:qy) (⟨zm10,zL11,zl12⟩:qF) (atV more 0 6)).1.qC.length=zl8.length:=z1.1
       refine xw (t_n (zcc (sw (zu [.int .i64 zi7,.slice ra13 zl8.length rc15,.slice ra16 zR9.length rc18] Tryz.isAgg27 Tryz.sizeOf27 rfl (qH (H.cells 5 rfl) 0 3) (sw (zu [.slice ra44 ((((xA (⟨zi7,zl8,zR9⟩:qy) (⟨zm10,zL11,zl12⟩:qF) (atV more 0 6)).1).qC).length) rc45,.slice ra46 ((((xA (⟨zi7,zl8,zR9⟩:qy) (⟨zm10,zL11,zl12⟩:qF) (atV more 0 6)).1).qK).length) rc47,.slice ra48 ((((xA (⟨zi7,zl8,zR9⟩:qy) (⟨zm10,zL11,zl12⟩:qF) (atV more 0 6)).1).qG).length) rc49] Tryz.isAgg31 Tryz.sizeOf31 rfl (qH (H.cells 0 rfl) 0 3) ?_))))))
       obtain ⟨G228,hn229,h230⟩:=H.yZ 6 rfl
       obtain ⟨G231,hn232,h233⟩:=H.Qu (α:=jg) 7 rfl 1 rfl qj
       obtain ⟨G234,hn235,h236⟩:=H.Xw 1 rfl
       obtain ⟨G237,hn238,h239⟩:=H.Qu (α:=yLI) 2 rfl 0 rfl qj
       obtain ⟨G240,hn241,h242⟩:=H.yZ 3 rfl
       refine sw (oq (specValid_ok _ (⟨zi7,zl8,zR9⟩:qy) ((xA (⟨zi7,zl8,zR9⟩:qy) (⟨zm10,zL11,zl12⟩:qF) (atV more 0 6)).1) h230 h233 h236 h239 h242) H fun w244 H=>sp (.bool (!(dec (jB (⟨zi7,zl8,zR9⟩:qy)∧xW (⟨zi7,zl8,zR9⟩:qy) ((xA (⟨zi7,zl8,zR9⟩:qy) (⟨zm10,zL11,zl12⟩:qF) (atV more 0 6)).1))))) (zjn (xO (!(dec (jB (⟨zi7,zl8,zR9⟩:qy)∧xW (⟨zi7,zl8,zR9⟩:qy) ((xA (⟨zi7,zl8,zR9⟩:qy) (⟨zm10,zL11,zl12⟩:qF) (atV more 0 6)).1)))) rfl (fun h=>absurd z3 (zF (xy h))) (fun h246=>?_))))
       replace h246:=xm h246
       replace h246:=y5 h246
       refine xw (t_n (zcc (sp (.int .i64 1) (zjn (xq ?_)))))
       refine vJ (fun m' ρ w247=>∃ (zx:Env) (c_1:Nat),ρ=upd (upd (upd zx 5 (.pointer (some ⟨b32,0,none⟩))) 8 (.pointer (some ⟨b43,0,none⟩))) 14 (.int .i64 c_1)∧((c_1:Int)≤zl8.length)∧(1≤(c_1:Int))∧m' =(zl8.length - (c_1:Int)).toNat∧Fresh w.heap.size [rF51,rF28]∧St w w247 [.box b43 [.slice ra44 ((((xA (⟨zi7,zl8,zR9⟩:qy) (⟨zm10,zL11,zl12⟩:qF) (atV more 0 6)).1).qC).length) rc45,.slice ra46 ((((xA (⟨zi7,zl8,zR9⟩:qy) (⟨zm10,zL11,zl12⟩:qF) (atV more 0 6)).1).qK).length) rc47,.slice ra48 ((((xA (⟨zi7,zl8,zR9⟩:qy) (⟨zm10,zL11,zl12⟩:qF) (atV more 0 6)).1).qG).length) rc49] 31,rr ra44 ((((xA (⟨zi7,zl8,zR9⟩:qy) (⟨zm10,zL11,zl12⟩:qF) (atV more 0 6)).1).qC).length) rc45 4 1 ((((xA (⟨zi7,zl8,zR9⟩:qy) (⟨zm10,zL11,zl12⟩:qF) (atV more 0 6)).1).qC).map (Value.bool)),rr ra46 ((((xA (⟨zi7,zl8,zR9⟩:qy) (⟨zm10,zL11,zl12⟩:qF) (atV more 0 6)).1).qK).length) rc47 24 1 rx50,rr ra48 ((((xA (⟨zi7,zl8,zR9⟩:qy) (⟨zm10,zL11,zl12⟩:qF) (atV more 0 6)).1).qG).length) rc49 2 1 ((((xA (⟨zi7,zl8,zR9⟩:qy) (⟨zm10,zL11,zl12⟩:qF) (atV more 0 6)).1).qG).map (Value.int .i64)),.box b34 [.slice ra21 zm10.length rc23,.slice ra24 zL11.length rc26,.slice ra29 zl12.length rc31] 31,.box b32 [.int .i64 zi7,.slice ra13 zl8.length rc15,.slice ra16 zR9.length rc18] 27,rr ra13 zl8.length rc15 2 1 (zl8.map (Value.int .i64)),rr ra16 zR9.length rc18 56 9 rx19,rr ra21 zm10.length rc23 4 1 (zm10.map (Value.bool)),rr ra24 zL11.length rc26 24 1 rx27,rr ra29 zl12.length rc31 2 1 (zl12.map (Value.int .i64))] [xe true rF51 rx50 (((xA (⟨zi7,zl8,zR9⟩:qy) (⟨zm10,zL11,zl12⟩:qF) (atV more 0 6)).1).qK),xe false rF20 rx19 zR9,xe true rF28 rx27 zL11]) ((zl8.length - (1:Int)).toNat) ⟨_,1,uE3,qf,qg,rfl,N,H⟩ ?_
       clear H N
       rintro m' ρ w248 ⟨zx,c_1,rfl,i0,i2,rfl,N,H⟩
       refine zcc (sp (.int .i64 c_1) (oF rfl (oL rfl (H.cell 5 rfl rfl) (oN rfl (sp (.bool (decide ((c_1:Int) < zl8.length))) (zjn (cD rfl (fun h249=>?_) (fun h249=>?_))))))))
       ·skip
        refine xw (t_n (zn (xq (zcr (sw (zu [.int .i64 zi7,.slice ra13 zl8.length rc15,.slice ra16 zR9.length rc18] Tryz.isAgg27 Tryz.sizeOf27 rfl (qH (H.cells 5 rfl) 0 3) (sp (.int .i64 c_1) ?_)))))))
        obtain ⟨G250,hn251,h252⟩:=H.yZ 6 rfl
        obtain ⟨G253,hn254,h255⟩:=H.Qu (α:=jg) 7 rfl 1 rfl qj
        have cI:Q4 (⟨zi7,zl8,zR9⟩:qy) c_1:=⟨by omega,by show (c_1:Int)≤(zl8.length:Int) - 1;omega⟩
        have sz259:=H.base.size
        refine sw (oc (implPoss_ok _ (⟨zi7,zl8,zR9⟩:qy) c_1 h252 h255 qg qg) ?_)
        rintro _ w257 ⟨ra256a,rn256a,rc256a,rfl,M,K⟩ _
        replace H:=H.merge K M
        obtain rfl:=H.zO 0 rfl
        refine sps [.tuple #[.slice ra256a ((possL (⟨zi7,zl8,zR9⟩:qy) c_1).length) rc256a,.int .i64 0],.slice ra256a ((possL (⟨zi7,zl8,zR9⟩:qy) c_1).length) rc256a,.int .i64 0,.slice ra256a ((possL (⟨zi7,zl8,zR9⟩:qy) c_1).length) rc256a,.int .i64 0] (zjc (sw (zu [.int .i64 zi7,.slice ra13 zl8.length rc15,.slice ra16 zR9.length rc18] Tryz.isAgg27 Tryz.sizeOf27 rfl (qH (H.cells 6 rfl) 0 3) ?_)))
        refine sw (zu [.slice ra44 ((((xA (⟨zi7,zl8,zR9⟩:qy) (⟨zm10,zL11,zl12⟩:qF) (atV more 0 6)).1).qC).length) rc45,.slice ra46 ((((xA (⟨zi7,zl8,zR9⟩:qy) (⟨zm10,zL11,zl12⟩:qF) (atV more 0 6)).1).qK).length) rc47,.slice ra48 ((((xA (⟨zi7,zl8,zR9⟩:qy) (⟨zm10,zL11,zl12⟩:qF) (atV more 0 6)).1).qG).length) rc49] Tryz.isAgg31 Tryz.sizeOf31 rfl (qH (H.cells 1 rfl) 0 3) (sp (.int .i64 c_1) ?_))
        obtain ⟨G262,hn263,h264⟩:=H.yZ 7 rfl
        obtain ⟨G265,hn266,h267⟩:=H.Qu (α:=jg) 8 rfl 1 rfl qj
        obtain ⟨G268,hn269,h270⟩:=H.Xw 2 rfl
        obtain ⟨G271,hn272,h273⟩:=H.Qu (α:=yLI) 3 rfl 0 rfl qj
        obtain ⟨G274,hn275,h276⟩:=H.yZ 4 rfl
        refine sw (oq (implPar_ok _ (⟨zi7,zl8,zR9⟩:qy) ((xA (⟨zi7,zl8,zR9⟩:qy) (⟨zm10,zL11,zl12⟩:qF) (atV more 0 6)).1) c_1 h264 h267 h270 h273 h276) H fun w278 H=>?_)
        refine sps [.tuple #[.int .i64 (pnV (⟨zi7,zl8,zR9⟩:qy) ((xA (⟨zi7,zl8,zR9⟩:qy) (⟨zm10,zL11,zl12⟩:qF) (atV more 0 6)).1) c_1),.int .i64 (zy (⟨zi7,zl8,zR9⟩:qy) ((xA (⟨zi7,zl8,zR9⟩:qy) (⟨zm10,zL11,zl12⟩:qF) (atV more 0 6)).1) c_1)],.int .i64 (pnV (⟨zi7,zl8,zR9⟩:qy) ((xA (⟨zi7,zl8,zR9⟩:qy) (⟨zm10,zL11,zl12⟩:qF) (atV more 0 6)).1) c_1),.int .i64 (zy (⟨zi7,zl8,zR9⟩:qy) ((xA (⟨zi7,zl8,zR9⟩:qy) (⟨zm10,zL11,zl12⟩:qF) (atV more 0 6)).1) c_1),.int .i64 (pnV (⟨zi7,zl8,zR9⟩:qy) ((xA (⟨zi7,zl8,zR9⟩:qy) (⟨zm10,zL11,zl12⟩:qF) (atV more 0 6)).1) c_1),.int .i64 (zy (⟨zi7,zl8,zR9⟩:qy) ((xA (⟨zi7,zl8,zR9⟩:qy) (⟨zm10,zL11,zl12⟩:qF) (atV more 0 6)).1) c_1)] ?_
        refine zjc (sps [.int .i64 0,.bool false,.bool false] (qL 89 rfl rfl (sp (.int .i64 (zy (⟨zi7,zl8,zR9⟩:qy) ((xA (⟨zi7,zl8,zR9⟩:qy) (⟨zm10,zL11,zl12⟩:qF) (atV more 0 6)).1) c_1)) (qL 89 rfl rfl (sp (.bool (((zy (⟨zi7,zl8,zR9⟩:qy) ((xA (⟨zi7,zl8,zR9⟩:qy) (⟨zm10,zL11,zl12⟩:qF) (atV more 0 6)).1) c_1):Int) == 0)) (qL 89 rfl rfl (sp (.bool (((zy (⟨zi7,zl8,zR9⟩:qy) ((xA (⟨zi7,zl8,zR9⟩:qy) (⟨zm10,zL11,zl12⟩:qF) (atV more 0 6)).1) c_1):Int) == 0)) ?_)))))))
        cases h280:(((zy (⟨zi7,zl8,zR9⟩:qy) ((xA (⟨zi7,zl8,zR9⟩:qy) (⟨zm10,zL11,zl12⟩:qF) (atV more 0 6)).1) c_1):Int) == 0)
        ·skip
         replace h280:=ne_of_beq_false h280
         refine xR [93,94,95,96] (qL 89 rfl rfl (sps [.bool false,.bool false] (zjn (xO false rfl (fun h=>absurd h qj) (fun _=>xw (b_n (t_n (zl (sp (.int .i64 c_1) (sw (vg c_1 1 rfl rfl qf (sp (.int .i64 (c_1+1)) (zo (xn (m' :=(zl8.length - ((c_1+1):Int)).toNat) qf ⟨_,c_1+1,uE3,?_,?_,rfl,N,H.pick [1,2,3,4,5,6,7,8,9,10,11] [0,1,2]⟩))))))))))))))
         · omega
         · first | assumption | omega
        ·skip
         replace h280:=eq_of_beq h280
         refine qL 92 rfl rfl (sp (.slice ra256a ((possL (⟨zi7,zl8,zR9⟩:qy) c_1).length) rc256a) (qL 92 rfl rfl (sp (.int .i64 (pnV (⟨zi7,zl8,zR9⟩:qy) ((xA (⟨zi7,zl8,zR9⟩:qy) (⟨zm10,zL11,zl12⟩:qF) (atV more 0 6)).1) c_1)) (qL 92 rfl rfl ?_))))
         obtain ⟨G281,hn282,h283⟩:=H.yZ 0 rfl
         refine sw (oq (a2Kid_ok _ (possL (⟨zi7,zl8,zR9⟩:qy) c_1) (pnV (⟨zi7,zl8,zR9⟩:qy) ((xA (⟨zi7,zl8,zR9⟩:qy) (⟨zm10,zL11,zl12⟩:qF) (atV more 0 6)).1) c_1) h283) H fun w285 H=>qL 92 rfl rfl (sp (.bool (!(decide (((pnV (⟨zi7,zl8,zR9⟩:qy) ((xA (⟨zi7,zl8,zR9⟩:qy) (⟨zm10,zL11,zl12⟩:qF) (atV more 0 6)).1) c_1):Int)∈(possL (⟨zi7,zl8,zR9⟩:qy) c_1))))) (qL 89 rfl rfl ?_)))
         refine sps [.bool (!(decide (((pnV (⟨zi7,zl8,zR9⟩:qy) ((xA (⟨zi7,zl8,zR9⟩:qy) (⟨zm10,zL11,zl12⟩:qF) (atV more 0 6)).1) c_1):Int)∈(possL (⟨zi7,zl8,zR9⟩:qy) c_1)))),.bool (!(decide (((pnV (⟨zi7,zl8,zR9⟩:qy) ((xA (⟨zi7,zl8,zR9⟩:qy) (⟨zm10,zL11,zl12⟩:qF) (atV more 0 6)).1) c_1):Int)∈(possL (⟨zi7,zl8,zR9⟩:qy) c_1))))] (zjn ?_)
         refine xO (!(decide (((pnV (⟨zi7,zl8,zR9⟩:qy) ((xA (⟨zi7,zl8,zR9⟩:qy) (⟨zm10,zL11,zl12⟩:qF) (atV more 0 6)).1) c_1):Int)∈(possL (⟨zi7,zl8,zR9⟩:qy) c_1)))) rfl (fun h=>absurd (poss_mem (‹zy _ _ _=0›) (z2 _ cI qf)) (of_decide_eq_false (xy h))) (fun h287=>?_)
         replace h287:=xm h287
         replace h287:=of_decide_eq_true h287
         refine xw (b_n (t_n (zl (sp (.int .i64 c_1) (sw (vg c_1 1 rfl rfl qf (sp (.int .i64 (c_1+1)) (zo (xn (m' :=(zl8.length - ((c_1+1):Int)).toNat) qf ⟨_,c_1+1,uE3,?_,?_,rfl,N,H.pick [1,2,3,4,5,6,7,8,9,10,11] [0,1,2]⟩)))))))))
         · omega
         · first | assumption | omega
       ·skip
        refine zx4 (zcr (sp (.bool true) (zjr (ret1 (.bool true) rfl rfl ⟨_,rfl,?_,H.base⟩))))
        rfl
 ·skip
  replace h1:=of_decide_eq_true h1
  refine xR [9,10,11] (sps [.bool true,.bool true] (zjr (ret1 (.bool true) rfl rfl ⟨_,rfl,(zjn (xO true rfl (fun _=>zcr (sp (.bool true) (zjr (t_r (ret1 (.bool true) rfl rfl ⟨_,rfl,?_,H.base⟩))))) (fun h=>absurd h qj)))⟩)))
  rfl
end
section
open Go.ChangeShapes Go.WideShapes Go.ChangeAt Go.RowKit Go.Joins
set_option linter.unusedVariables false
set_option linter.unusedSimpArgs false
def Reads (P:Program) (t:TypeId) (α:Type) [qW α]:Prop:=
  ∀ {H:Type} {enc:TypeId×Value→H} {w:World} {spare:Nat→Bool} {held:Bool} {fuel:Nat} {cs:List Value} {x:DataW H×List MemPlace},
    DataW.trod enc P w 0 spare held fuel t cs=some x→∃ F,∃ y:α,qW.rep w F cs y

theorem cell_spot {w:World} {a:Addr} {v:Value} (h:w.cell? a=some v):a.spot=none:=by
  unfold World.cell? at h
  split at h
  · split at h
    · cases h
    · rename_i hs;simpa using hs
  · cases h

theorem reads_slice {α:Type} [qW α] {P:Program} {t e:TypeId} (hu:P.underlying t=some (.slice e)) (hc:P.cellsOf e=qW.size α) (hz:0 < qW.size α) (he:Reads P e α):Reads P t (List α):=by
  intro H enc w spare held fuel cs x h
  rcases DataW.trod_slice hu h with ⟨rfl,_⟩ | ⟨a,len,cap,elems,rest,n,_,rfl,_,_,hlc,hcm,hel,hget,_⟩
  · exact ⟨[],[],none,0,rfl,by simp,Or.inl ⟨rfl,rfl⟩⟩
  · have hm:cap≤9223372036854775807:=by unfold maxLen at hcm;omega
    rcases Nat.eq_zero_or_pos len with h0 | h0
    · subst h0
      exact ⟨[],[],some a,cap,rfl,by simp,Or.inl ⟨rfl,rfl⟩⟩
    · have hone:∀ i,i < len→∃ ci Fi,∃ y:α,w.cells? 0 (a.add (i * qW.size α)) (qW.size α)=some ci∧qW.rep w Fi ci y:=by
        intro i hi
        have hg:=hget i hi
        rw [hc] at hg
        have hs:elems[i]? =some (elems[i]'(by omega)):=List.getElem?_eq_getElem qf
        rw [hs] at hg
        obtain ⟨ci,h1,h2⟩:=Option.bind_eq_some_iff.1 hg
        obtain ⟨Fi,y,hr⟩:=he h2
        exact ⟨ci,Fi,y,h1,hr⟩
      have hsp:a.spot=none:=by
        obtain ⟨ci,Fi,y,h1,_⟩:=hone 0 h0
        obtain ⟨_,hl,hcell⟩:=World.cells?_some h1
        have:=hcell 0 hz
        rw [List.getElem?_eq_getElem (show 0 < ci.length by omega)] at this
        have:=cell_spot this
        simpa [Addr.add] using this
      obtain ⟨b,off,sp⟩:=a
      simp only at hsp
      subst hsp
      have hadd:∀ i j:Nat,((⟨b,off,none⟩:Addr).add (i * qW.size α)).add j=⟨b,off+i * qW.size α+j,none⟩:=fun i j=>by simp [Addr.add_mid]
      have hall:∀ m,m≤len→∃ F vs,∃ l:List α,l.length=m∧reps w F vs l∧jd w b off vs:=by
        intro m
        induction m with
        | zero=>exact fun _=>⟨[],[],[],rfl,⟨rfl,rfl⟩,fun i v hv=>by simp at hv⟩
        | succ m ih=>
          intro hm'
          obtain ⟨F,vs,l,hl,hr,hcl⟩:=ih qf
          obtain ⟨ci,Fi,y,h1,h2⟩:=hone m qf
          obtain ⟨_,hcl2,hcell⟩:=World.cells?_some h1
          refine ⟨F++Fi,vs++ci,l++[y],by simp [hl],QH hr (reps_one h2),fun i v hv=>?_⟩
          have hvl:=reps_len hr
          rw [hl] at hvl
          rcases Nat.lt_or_ge i vs.length with hi | hi
          · rw [List.getElem?_append_left hi] at hv
            exact hcl i v hv
          · rw [List.getElem?_append_right hi] at hv
            have hi2:i - vs.length < ci.length:=by
              rcases Nat.lt_or_ge (i - vs.length) ci.length with h | h
              · exact h
              · simp [h] at hv
            have:=hcell (i - vs.length) qf
            rw [hadd,hv] at this
            rw [← this]
            congr 1
            rw [show off+i=off+m * qW.size α+(i - vs.length) by omega]
      obtain ⟨F,vs,l,hl,hr,hcl⟩:=hall len (Nat.le_refl _)
      have hb:b < w.heap.size:=by
        have h1:0 < vs.length:=by rw [reps_len hr,hl];exact Nat.mul_pos h0 hz
        exact World.block_lt_of_cell? w _ (hcl 0 _ (List.getElem?_eq_getElem h1))
      subst hl
      exact ⟨b :: F,l,some ⟨b,off,none⟩,cap,rfl,⟨by omega,hlc⟩,Or.inr ⟨b,off,F,vs,rfl,rfl,hb,hr,hcl⟩⟩

theorem arg_slice {P:Program} {α:Type} [qW α] {H:Type} {enc:TypeId×Value→H} {w:World} {spare:Nat→Bool} {held:Bool} {b0:Nat} {t e:TypeId} {v:Value} {d:DataW H} {p:List MemPlace} (hu:P.underlying t=some (.slice e)) (hr:Reads P t (List α))
    (hv:Value.okWide P w .any b0 t v) (h:DataW.Trod enc P w 0 spare held t v d p):∃ (a:yOA) (c:Nat) (F:yLN) (l:List α),v=.slice a l.length c∧qW.rep w F [.slice a l.length c] l:=by
  obtain ⟨a,m,c,rfl⟩:=okWide_slice hu hv
  obtain ⟨fuel,hf⟩:=h
  obtain ⟨F,l,hl⟩:=hr hf
  have hcs:(Value.slice a m c).cells.toList=[.slice a m c]:=rfl
  rw [hcs] at hl
  obtain ⟨a',c',hc,hx⟩:=id hl
  simp only [List.cons.injEq,Value.slice.injEq,and_true] at hc
  obtain ⟨rfl,rfl,rfl⟩:=hc
  exact ⟨a,c,F,l,rfl,hl⟩
section
variable {H : Type} {enc : TypeId × Value → H} {P : Program}

theorem trodAll_below (hl:laidOutB P=true) {W W' :World} (hb:Below W.heap.size W W'):
    ∀ (ts:List TypeId) (vs:List Value) (ds:List (DataW H)) (ps:List MemPlace),(∀ t∈ts,P.readableRec t=true∧t < P.types.size)→
      DataW.TrodAll enc P W 0 (fun _=>true) true ts vs ds ps→(∀ x∈ps,x.block < W.heap.size)→
      DataW.TrodAll enc P W' 0 (fun b=>decide (b < W.heap.size)) true ts vs ds ps
  | [],vs,ds,ps,_,h,_=>by
    obtain ⟨rfl,rfl,rfl⟩:=trodAll_nil h
    exact trodAll_mk0
  | t :: ts,vs,ds,ps,hr,h,hp=>by
    obtain ⟨v,vs',d,ds',p,q,rfl,rfl,rfl,h0,h1⟩:=trodAll_cons h
    have ht:=hr t (List.mem_cons_self ..)
    exact trodAll_cons_mk (Below.trod hl ht.1 ht.2 h0 hb (fun x hx=>hp x (List.mem_append_left _ hx)))
      (trodAll_below hl hb ts vs' ds' q (fun t' ht' =>hr t' (List.mem_cons_of_mem _ ht')) h1 (fun x hx=>hp x (List.mem_append_right _ hx)))

theorem post_law {f:Func} {s:ChangeSpec} {W W' :World} {args:Array Value} {tb:TypeId} {ds gs:List (DataW H)} {before:List MemPlace}
    (hW:DataW.Whole enc P f.params.toList s.vars false W args.toList ds gs before) (hv:s.vars=[])
    (hs:s.fn H (ds++[])={ results:=[.lit (.bool true)],args:=ds }) (hr:f.resultTypes=#[tb]) (hu:P.underlying tb=some .bool)
    (hl:laidOutB P=true) (hts:∀ t∈f.params.toList,P.readableRec t=true∧t < P.types.size) (hb:Below W.heap.size W W'):
    s.post enc P f false true false false W args (.bool true) W' :=by
  have hW' :=hW
  obtain ⟨p,q,hA,hV,rfl,hz,hn⟩:=hW
  rw [hv] at hV
  obtain ⟨rfl,rfl⟩:=trodVars_none hV
  have hlt:∀ x∈p++[],x.block < W.heap.size:=fun x hx=>hW'.lt x hx
  refine ⟨ds,[],p++[],[],p,[],hW',?_,?_,?_,World.keptBut_mono (fun x hx=>⟨hx,Or.inr (Or.inl (by simpa using hx))⟩) (hb.frame (·∈p++[])),fun h=>by cases h⟩
  · rw [hs,hr]
    simp only [Value.resultList]
    exact trodAll_mk1 (shut_bool hu true)
  · rw [hs]
    exact trodAll_below hl hb _ _ _ _ hts hA (fun x hx=>hlt x (by simpa using hx))
  · rw [hv,hs]
    exact rfl
end
theorem reads_byte {P:Program} {t:TypeId} (hu:P.underlying t=some (.int .u8)):Reads P t UInt8:=fun h=>by
  obtain ⟨n,rfl,_,hw⟩:=DataW.trod_int hu h
  have hb:0≤n∧n≤255:=by
    simp [Lit.wf,IntKind.min,IntKind.max,IntKind.signed,IntKind.bits] at hw
    omega
  refine ⟨[],UInt8.ofNat n.toNat,rfl,?_⟩
  have e:(UInt8.ofNat n.toNat).toNat=n.toNat:=by
    simp
    omega
  rw [e,Int.toNat_of_nonneg hb.1]
end
end Go.Proofs.YtcpnclokildllaaGreat
