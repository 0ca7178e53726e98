/- Walks and laws, printed by program and by hand: what each function comes to, for all arguments, part 5. -/
import Derived.Test.YtcpnclokildllaaA4
import Derived.Test.YtcpnclokildllaaRows
import Derived.ProofKit
import Derived.OpenShut
import Derived.Carry
import Derived.BigQuiet
import Derived.Lib.SmallJoins
namespace Go.Proofs.Ytcpnclokildllaa
set_option linter.unusedVariables false
set_option linter.unusedSimpArgs false
open Go.Proofs.Ytcpnclokildllaa.Tot (tot)
open Go.Proofs.Ytcpnclokildllaa.Mark (cnt mrk mkd mkd_mark cnt_mark)
section
open Go.RowKit
set_option linter.unusedVariables false
set_option linter.unusedSimpArgs false
set_option maxRecDepth 100000
set_option maxHeartbeats 4000000
variable {qB qG qQ xu qM : Nat}
theorem dSystem_ok {W0 w:World} {ps:List Prv} {Γ:List Fact} {Ns:List yLN} (code:List UInt8) (ip:Int) (sd:Int) (bs:Nat) (ac:yOA) (cc:Nat) (Fc:yLN) (H:St W0 w ((.box bs [.slice ac code.length cc,.int .i64 ip,.int .u64 sd] 95) :: ps) ((sF false Fc ac cc code) :: Γ)) (N:Fresh W0.heap.size (Ns)) (K0:Kept Ns Γ) (q0:0≤ip∧ip≤50000):Calls Try.prog 27 #[.pointer (some ⟨bs,0,none⟩)] w (fun e w' =>∃ v,e=.returned v∧∃ (ip_:Int) (sd_:Int) (kk_:Int) (par_:yLI) (rules_:List vU) (raq:yOA) (rnq:Nat) (rcq:Nat) (raS:yOA) (rnS:Nat) (rcS:Nat) (rxS:List Value) (rFS:yLN),(ip≤ip_∧ip_≤ip+2000)∧(SysDr kk_ par_ rules_)∧v=.agg #[.int .i64 kk_,.slice raq rnq rcq,.slice raS rnS rcS]∧Fresh W0.heap.size (rFS :: Ns)∧St W0 w' ((.box bs [.slice ac code.length cc,.int .i64 ip_,.int .u64 sd_] 95) :: (rr raq rnq rcq 2 1 (par_.map (Value.int .i64))) :: (rr raS rnS rcS 51 9 rxS) :: ps) ((sF false Fc ac cc code) :: (xe true rFS rxS rules_) :: Γ)):=by
 refine en Try.func27 Try.ntmps27 ?_
 have ncode:=qX (H.get 0 rfl).1
 refine zcr (sw (xx H ti27 [.int .i64 0,.slice none 0 0,.slice none 0 0] fun b1 w2 H=>zjc (sp (.pointer (some ⟨bs,0,none⟩)) ?_)))
 have H1:St W0 w2 ((.box bs [.slice ac code.length cc,.int .i64 ip,.int .u64 sd] 95) :: (.box b1 [.int .i64 0,.slice none 0 0,.slice none 0 0] 27) :: ps) ((sF false Fc ac cc code) :: Γ):=H.xA 2 1 [1,0] [0] qo qo
 have N1:Fresh _ (Ns):=N
 have K1:Kept (Ns) (Γ):=K0.behind 0 rfl
 refine sw (xI #[.pointer (some ⟨bs,0,none⟩),.int .i64 3] rfl rfl Try.call62 (vZ code ip sd bs ac cc Fc (3:Int) H1 N1 K1 qg) ?_)
 clear H H1 N1 K1
 rintro _ w3 ⟨zi7,zi8,zi9,hx5,hx6,rfl,N,H⟩
 refine sw (vk 1 zi9 rfl rfl qf (sw (vV H Try.underlying24 ti2 [.int .i64 (-1)] fun b10 w11 H=>sw (xK [.int .i64 (1+zi9),.slice (some ⟨b10,0,none⟩) 1 1,.slice none 0 0] [(0,.int .i64 (1+zi9)),(1,.slice (some ⟨b10,0,none⟩) 1 1)] (sw (xx H ti27 [.int .i64 0,.slice none 0 0,.slice none 0 0] fun b12 w13 H=>sw (xf H 0 [.int .i64 (1+zi9),.slice (some ⟨b10,0,none⟩) 1 1,.slice none 0 0] Try.sizeOf27 fun w14 H=>?_)))))))
 try dsimp only [List.set] at H
 refine zjcc (sp (.pointer (some ⟨bs,0,none⟩)) ?_)
 have H1:St W0 w14 ((.box bs [.slice ac code.length cc,.int .i64 zi7,.int .u64 zi8] 95) :: (.box b12 [.int .i64 (1+zi9),.slice (some ⟨b10,0,none⟩) 1 1,.slice none 0 0] 27) :: (.box b10 [.int .i64 (-1)] 2) :: (.box b1 [.int .i64 0,.slice none 0 0,.slice none 0 0] 27) :: ps) ((sF false Fc ac cc code) :: Γ):=H.xA 4 1 [2,0,1,3] [0] qo qo
 have N1:Fresh _ (Ns):=N
 have K1:Kept (Ns) (Γ):=K0.behind 0 rfl
 refine sw (xI #[.pointer (some ⟨bs,0,none⟩),.int .i64 3] rfl rfl Try.call62 (vZ code zi7 zi8 bs ac cc Fc (3:Int) H1 N1 K1 qg) ?_)
 clear H H1 N1 K1
 rintro _ w15 ⟨zi19,zi20,zi21,hx17,hx18,rfl,N,H⟩
 refine sp (.int .i64 zi21) (zjn (xq ?_))
 replace H:=H.boxRowI 2 [(-1)] 1
 try dsimp only [List.set] at H
 refine vg (fun m' ρ w22=>∃ (zB:Env) (c:Int) (s_at:Int) (s_seed:Int) (zq:yOA) (xM:Nat) (zo:Nat) (y_Parents:yLI),ρ=upd (upd (upd (upd zB 0 (.pointer (some ⟨bs,0,none⟩))) 2 (.pointer (some ⟨b1,0,none⟩))) 3 (.pointer (some ⟨b12,0,none⟩))) 4 (.int .i64 c)∧(ip≤s_at∧s_at+2 * c≤ip+8)∧(0≤c∧(y_Parents.length:Int)+c≤3)∧(ParDr y_Parents)∧m' =c.toNat∧Fresh W0.heap.size (Ns)∧St W0 w22 ((.box bs [.slice ac code.length cc,.int .i64 s_at,.int .u64 s_seed] 95) :: (.box b12 [.int .i64 (1+zi9),.slice zq xM zo,.slice none 0 0] 27) :: (rr zq xM zo 2 1 (y_Parents.map (Value.int .i64))) :: (.box b1 [.int .i64 0,.slice none 0 0,.slice none 0 0] 27) :: ps) ((sF false Fc ac cc code) :: Γ)) (zi21.toNat) ⟨_,zi21,zi19,zi20,(some ⟨b10,0,none⟩),1,1,[(-1)],uE4,qf,(by simp;omega),(by exact ParDr.one),rfl,N,H⟩ ?_
 clear H N
 rintro m' ρ w23 ⟨zB,c,s_at,s_seed,zq,xM,zo,y_Parents,rfl,i1,i2,i3,rfl,N,H⟩
 have hn_y_Parents:=H.zQ 2 rfl
 have i4:=i3.1
 refine zcc (sps [.int .i64 c,.bool (decide ((c:Int) > 0))] (zjn (cD rfl (fun h24=>?_) (fun h24=>?_))))
 ·skip
  refine xB (t_n (zx (xq ?_)))
  refine c_cut (fun ρ w30=>∃ (zB:Env) (zi25:Int) (zi26:Int) (zi27:Int) (a28:yOA) (c29:Nat),ρ=upd (upd (upd (upd zB 0 (.pointer (some ⟨bs,0,none⟩))) 2 (.pointer (some ⟨b1,0,none⟩))) 3 (.pointer (some ⟨b12,0,none⟩))) 4 (.int .i64 c)∧(s_at≤zi25∧zi25≤s_at+2)∧(0≤zi26∧(zi26 < xM∨zi26=0))∧Fresh W0.heap.size (Ns)∧St W0 w30 ((.box bs [.slice ac code.length cc,.int .i64 zi25,.int .u64 zi27] 95) :: (.box b12 [.int .i64 (1+zi9),.slice a28 (xM+1) c29,.slice none 0 0] 27) :: (rr a28 (xM+1) c29 2 1 ((y_Parents++[zi26]).map (Value.int .i64))) :: (.box b1 [.int .i64 0,.slice none 0 0,.slice none 0 0] 27) :: ps) ((sF false Fc ac cc code) :: Γ)) ?_ ?_
  ·skip
   refine QM rfl H [3] [0] fun H=>?_
   have S:=H.jm [3] [0]
   refine tF 0 rfl rfl S ?_
   refine rtp 2 (.pointer (some ⟨bs,0,none⟩)) S ?_
   refine tF 3 rfl rfl S ?_
   refine zH [1,4] qh qm (zW rfl ?_ (zW rfl ?_ zI))
   ·skip
    refine zk (.slice zq xM zo) Try.isAgg24 rfl (H.cell 1 rfl rfl) (⟨H.pick [3] [0],(ro 4 rfl (zk (.slice zq xM zo) Try.isAgg24 rfl (H.cell 1 rfl rfl) (⟨H.pick [3] [0],(tN 5 rfl rfl (H.pick [3] [0]) ?_)⟩)))⟩)
    refine ro 6 rfl ?_
    have H1:St W0 w23.drew ((.box bs [.slice ac code.length cc,.int .i64 s_at,.int .u64 s_seed] 95) :: (.box b12 [.int .i64 (1+zi9),.slice zq xM zo,.slice none 0 0] 27) :: (rr zq xM zo 2 1 (y_Parents.map (Value.int .i64))) :: (.box b1 [.int .i64 0,.slice none 0 0,.slice none 0 0] 27) :: ps) ((sF false Fc ac cc code) :: Γ):=H.xA 4 1 [0,1,2,3] [0] qo qo
    have N1:Fresh _ (Ns):=N
    have K1:Kept (Ns) (Γ):=K0.behind 0 rfl
    refine xI #[.pointer (some ⟨bs,0,none⟩),.int .i64 xM] rfl rfl Try.call62 (vZ code s_at s_seed bs ac cc Fc xM H1 N1 K1 qg) ?_
    clear H H1 N1 K1
    rintro _ w32 ⟨zi36,zi37,zi38,hx34,hx35,rfl,N,H⟩
    refine ⟨H.pick [3] [0],(ro 7 rfl (vV H Try.underlying24 ti2 [.int .i64 zi38] fun b39 w40 H=>⟨H.pick [4] [0],(ro 8 rfl (vW H 3 rfl 0 rfl Try.underlying24 ti2 rfl qj rfl rfl rfl (by simp [Value.oneCell',Value.cells]) qp qf fun a41 c42 w43 H=>?_))⟩))⟩
    rw [snocI] at H
    try dsimp only [List.set] at H
    refine ⟨H.pick [4] [0],(tF 9 rfl rfl (H.pick [4] [0]) ?_)⟩
    refine ro 10 rfl (vw H 2 [.int .i64 (1+zi9),.slice a41 (xM+1) c42,.slice none 0 0] Try.sizeOf24 fun w44 H=>?_)
    try dsimp only [List.set] at H
    refine ⟨H.pick [4] [0],(xh qh ((meet ⟨_,zi36,zi38,zi37,a41,c42,uE4,hx34,hx35,N,H.xA 5 1 [1,2,3,4] [0] qo qo⟩)))⟩
   ·skip
    refine zk (.slice zq xM zo) Try.isAgg24 rfl (H.cell 1 rfl rfl) (⟨H.pick [3] [0],(tN 5 rfl rfl (H.pick [3] [0]) ?_)⟩)
    refine zH [1,6] qh qm (zW rfl ?_ (zW rfl ?_ zI))
    ·skip
     refine zk (.slice zq xM zo) Try.isAgg24 rfl (H.cell 1 rfl rfl) (⟨H.pick [3] [0],(ro 6 rfl ?_)⟩)
     have H1:St W0 w23.drew ((.box bs [.slice ac code.length cc,.int .i64 s_at,.int .u64 s_seed] 95) :: (.box b12 [.int .i64 (1+zi9),.slice zq xM zo,.slice none 0 0] 27) :: (rr zq xM zo 2 1 (y_Parents.map (Value.int .i64))) :: (.box b1 [.int .i64 0,.slice none 0 0,.slice none 0 0] 27) :: ps) ((sF false Fc ac cc code) :: Γ):=H.xA 4 1 [0,1,2,3] [0] qo qo
     have N1:Fresh _ (Ns):=N
     have K1:Kept (Ns) (Γ):=K0.behind 0 rfl
     refine xI #[.pointer (some ⟨bs,0,none⟩),.int .i64 xM] rfl rfl Try.call62 (vZ code s_at s_seed bs ac cc Fc xM H1 N1 K1 qg) ?_
     clear H H1 N1 K1
     rintro _ w45 ⟨zi49,zi50,zi51,hx47,hx48,rfl,N,H⟩
     refine ⟨H.pick [3] [0],(ro 7 rfl (vV H Try.underlying24 ti2 [.int .i64 zi51] fun b52 w53 H=>⟨H.pick [4] [0],(ro 8 rfl (vW H 3 rfl 0 rfl Try.underlying24 ti2 rfl qj rfl rfl rfl (by simp [Value.oneCell',Value.cells]) qp qf fun a54 c55 w56 H=>?_))⟩))⟩
     rw [snocI] at H
     try dsimp only [List.set] at H
     refine ⟨H.pick [4] [0],(tF 9 rfl rfl (H.pick [4] [0]) ?_)⟩
     refine ro 10 rfl (vw H 2 [.int .i64 (1+zi9),.slice a54 (xM+1) c55,.slice none 0 0] Try.sizeOf24 fun w57 H=>?_)
     try dsimp only [List.set] at H
     refine ⟨H.pick [4] [0],(xh qh ((meet ⟨_,zi49,zi51,zi50,a54,c55,uE4,hx47,hx48,N,H.xA 5 1 [1,2,3,4] [0] qo qo⟩)))⟩
    ·skip
     have H1:St W0 w23.drew ((.box bs [.slice ac code.length cc,.int .i64 s_at,.int .u64 s_seed] 95) :: (.box b12 [.int .i64 (1+zi9),.slice zq xM zo,.slice none 0 0] 27) :: (rr zq xM zo 2 1 (y_Parents.map (Value.int .i64))) :: (.box b1 [.int .i64 0,.slice none 0 0,.slice none 0 0] 27) :: ps) ((sF false Fc ac cc code) :: Γ):=H.xA 4 1 [0,1,2,3] [0] qo qo
     have N1:Fresh _ (Ns):=N
     have K1:Kept (Ns) (Γ):=K0.behind 0 rfl
     refine xI #[.pointer (some ⟨bs,0,none⟩),.int .i64 xM] rfl rfl Try.call62 (vZ code s_at s_seed bs ac cc Fc xM H1 N1 K1 qg) ?_
     clear H H1 N1 K1
     rintro _ w58 ⟨zi62,zi63,zi64,hx60,hx61,rfl,N,H⟩
     refine ⟨H.pick [3] [0],(zH [1,7] qh qm (zW rfl ?_ (zW rfl ?_ zI)))⟩
     ·skip
      refine zk (.slice zq xM zo) Try.isAgg24 rfl (H.cell 1 rfl rfl) (⟨H.pick [3] [0],(ro 7 rfl (vV H Try.underlying24 ti2 [.int .i64 zi64] fun b65 w66 H=>⟨H.pick [4] [0],(ro 8 rfl (vW H 3 rfl 0 rfl Try.underlying24 ti2 rfl qj rfl rfl rfl (by simp [Value.oneCell',Value.cells]) qp qf fun a67 c68 w69 H=>?_))⟩))⟩)
      rw [snocI] at H
      try dsimp only [List.set] at H
      refine ⟨H.pick [4] [0],(tF 9 rfl rfl (H.pick [4] [0]) ?_)⟩
      refine ro 10 rfl (vw H 2 [.int .i64 (1+zi9),.slice a67 (xM+1) c68,.slice none 0 0] Try.sizeOf24 fun w70 H=>?_)
      try dsimp only [List.set] at H
      refine ⟨H.pick [4] [0],(xh qh ((meet ⟨_,zi62,zi64,zi63,a67,c68,uE4,hx60,hx61,N,H.xA 5 1 [1,2,3,4] [0] qo qo⟩)))⟩
     ·skip
      refine vV H Try.underlying24 ti2 [.int .i64 zi64] fun b71 w72 H=>⟨H.pick [4] [0],(ro 1 rfl (zk (.slice zq xM zo) Try.isAgg24 rfl (H.cell 2 rfl rfl) (⟨H.pick [4] [0],(ro 8 rfl (vW H 3 rfl 0 rfl Try.underlying24 ti2 rfl qj rfl rfl rfl (by simp [Value.oneCell',Value.cells]) qp qf fun a73 c74 w75 H=>?_))⟩)))⟩
      rw [snocI] at H
      try dsimp only [List.set] at H
      refine ⟨H.pick [4] [0],(tF 9 rfl rfl (H.pick [4] [0]) ?_)⟩
      refine ro 10 rfl (vw H 2 [.int .i64 (1+zi9),.slice a73 (xM+1) c74,.slice none 0 0] Try.sizeOf24 fun w76 H=>?_)
      try dsimp only [List.set] at H
      refine ⟨H.pick [4] [0],(xh qh ((meet ⟨_,zi62,zi64,zi63,a73,c74,uE4,hx60,hx61,N,H.xA 5 1 [1,2,3,4] [0] qo qo⟩)))⟩
  ·skip
   clear H N
   rintro ρ w77 ⟨zB,zi25,zi26,zi27,a28,c29,rfl,hx78,hx79,N,H⟩
   refine b_n (t_n (zJ (sp (.int .i64 c) (sw (o_sub c 1 rfl rfl qf (sp (.int .i64 (c - 1)) (zK (xH (m' :=(c - 1).toNat) qf ⟨_,c - 1,zi25,zi27,a28,xM+1,c29,(y_Parents++[zi26]),uE4,?_,?_,?_,rfl,N,H⟩))))))))
   · omega
   · simp;omega
   · exact i3.snoc (by have:=i3.1;omega)
 ·skip
  refine zx4 (zcc (sp (.pointer (some ⟨bs,0,none⟩)) ?_))
  have H1:St W0 w23 ((.box bs [.slice ac code.length cc,.int .i64 s_at,.int .u64 s_seed] 95) :: (.box b12 [.int .i64 (1+zi9),.slice zq xM zo,.slice none 0 0] 27) :: (rr zq xM zo 2 1 (y_Parents.map (Value.int .i64))) :: (.box b1 [.int .i64 0,.slice none 0 0,.slice none 0 0] 27) :: ps) ((sF false Fc ac cc code) :: Γ):=H.xA 4 1 [0,1,2,3] [0] qo qo
  have N1:Fresh _ (Ns):=N
  have K1:Kept (Ns) (Γ):=K0.behind 0 rfl
  refine sw (xI #[.pointer (some ⟨bs,0,none⟩),.int .i64 6] rfl rfl Try.call62 (vZ code s_at s_seed bs ac cc Fc (6:Int) H1 N1 K1 qg) ?_)
  clear H H1 N1 K1
  rintro _ w80 ⟨zi84,zi85,zi86,hx82,hx83,rfl,N,H⟩
  refine sp (.int .i64 zi86) (zjn (xq ?_))
  replace H:=H.nilRow 51 9
  replace H:=H.Qn (α:=vU)
  refine vg (fun m' ρ w87=>∃ (zB:Env) (k:Int) (s_at_1:Int) (s_seed_1:Int) (yF:yOA) (jy:Nat) (yD:Nat) (y_Rules:List vU) (x9:List Value) (xy:yLN),ρ=upd (upd (upd (upd zB 0 (.pointer (some ⟨bs,0,none⟩))) 2 (.pointer (some ⟨b1,0,none⟩))) 3 (.pointer (some ⟨b12,0,none⟩))) 5 (.int .i64 k)∧(ip≤s_at_1∧s_at_1+300 * k≤ip+1600)∧(0≤k∧(y_Rules.length:Int)+k≤5)∧(jG (1+zi9) y_Parents y_Rules)∧m' =k.toNat∧Fresh W0.heap.size (xy :: Ns)∧St W0 w87 ((rr yF jy yD 51 9 x9) :: (.box bs [.slice ac code.length cc,.int .i64 s_at_1,.int .u64 s_seed_1] 95) :: (.box b12 [.int .i64 (1+zi9),.slice zq xM zo,.slice yF jy yD] 27) :: (rr zq xM zo 2 1 (y_Parents.map (Value.int .i64))) :: (.box b1 [.int .i64 0,.slice none 0 0,.slice none 0 0] 27) :: ps) ((xe true xy x9 y_Rules) :: (sF false Fc ac cc code) :: Γ)) (zi86.toNat) ⟨_,zi86,zi84,zi85,none,0,0,([]:List vU),[],[],uE4,qf,(by simp;omega),(by exact jG.nil _ _),rfl,N.emp,H⟩ ?_
  clear H N
  rintro m' ρ w88 ⟨zB,k,s_at_1,s_seed_1,yF,jy,yD,y_Rules,x9,xy,rfl,j1,j2,j3,rfl,N,H⟩
  have hn_y_Rules:=H.zy (α:=vU) 0 rfl 0 rfl qj
  refine zcc (sps [.int .i64 k,.bool (decide ((k:Int) > 0))] (zjn (cD rfl (fun h89=>?_) (fun h89=>?_))))
  ·skip
   refine xB (t_n (zx (xq ?_)))
   refine c_cut (fun ρ w121=>∃ (zB:Env) (zi90:Int) (zi91:Int) (zi92:Int) (zl93:yLI) (zl94:yLI) (zl95:yLI) (zl96:yLI) (zl97:yLI) (zI98:List IntoD) (zb99:Bool) (zi100:Int) (a101:yOA) (c102:Nat) (ra103:yOA) (rc104:Nat) (ra105:yOA) (rc106:Nat) (ra107:yOA) (rc108:Nat) (ra109:yOA) (rc110:Nat) (ra111:yOA) (rc112:Nat) (ra113:yOA) (rc114:Nat) (G115:yLN) (G116:yLN) (G117:yLN) (G118:yLN) (G119:yLN) (G120:yLN),ρ=upd (upd (upd (upd zB 0 (.pointer (some ⟨bs,0,none⟩))) 2 (.pointer (some ⟨b1,0,none⟩))) 3 (.pointer (some ⟨b12,0,none⟩))) 5 (.int .i64 k)∧(s_at_1≤zi90∧zi90≤s_at_1+300)∧(RuleDr (1+zi9) y_Parents ⟨zi91,zi92,zl93,zl94,zl95,zl96,zl97,zI98,zb99⟩)∧Fresh W0.heap.size ((xy++(G115++G116++G117++G118++G119++G120)) :: Ns)∧St W0 w121 ((.box bs [.slice ac code.length cc,.int .i64 zi90,.int .u64 zi100] 95) :: (.box b12 [.int .i64 (1+zi9),.slice zq xM zo,.slice a101 (jy+1) c102] 27) :: (rr zq xM zo 2 1 (y_Parents.map (Value.int .i64))) :: (rr a101 (jy+1) c102 51 9 (x9++[.int .i64 zi91,.int .i64 zi92,.slice ra103 zl93.length rc104,.slice ra105 zl94.length rc106,.slice ra107 zl95.length rc108,.slice ra109 zl96.length rc110,.slice ra111 zl97.length rc112,.slice ra113 zI98.length rc114,.bool zb99])) :: (.box b1 [.int .i64 0,.slice none 0 0,.slice none 0 0] 27) :: ps) ((xe true (xy++(G115++G116++G117++G118++G119++G120)) (x9++[.int .i64 zi91,.int .i64 zi92,.slice ra103 zl93.length rc104,.slice ra105 zl94.length rc106,.slice ra107 zl95.length rc108,.slice ra109 zl96.length rc110,.slice ra111 zl97.length rc112,.slice ra113 zI98.length rc114,.bool zb99]) (y_Rules++[(⟨zi91,zi92,zl93,zl94,zl95,zl96,zl97,zI98,zb99⟩:vU)])) :: (sF true G120 ra113 rc114 zI98) :: (sF true G119 ra111 rc112 zl97) :: (sF true G118 ra109 rc110 zl96) :: (sF true G117 ra107 rc108 zl95) :: (sF true G116 ra105 rc106 zl94) :: (sF true G115 ra103 rc104 zl93) :: (sF false Fc ac cc code) :: Γ)) ?_ ?_
   ·skip
    refine QM rfl H [3,4] [0,1] fun H=>?_
    have S:=H.jm [3,4] [0,1]
    refine tF 0 rfl rfl S ?_
    refine rtp 2 (.pointer (some ⟨bs,0,none⟩)) S ?_
    refine zH [1,3] qh qm (zW rfl ?_ (zW rfl ?_ zI))
    ·skip
     refine zk (.slice yF jy yD) Try.isAgg25 rfl (H.cell 2 rfl rfl) (⟨H.pick [3,4] [0,1],(ro 3 rfl ?_)⟩)
     have f0:jd (⟨1+zi9,y_Parents,y_Rules⟩:qy):=frame_of i3 qf qf
     have H1:St W0 w88.drew ((.box bs [.slice ac code.length cc,.int .i64 s_at_1,.int .u64 s_seed_1] 95) :: (.box b12 [.int .i64 (1+zi9),.slice zq xM zo,.slice yF jy yD] 27) :: (rr zq xM zo 2 1 (y_Parents.map (Value.int .i64))) :: (rr yF jy yD 51 9 x9) :: (.box b1 [.int .i64 0,.slice none 0 0,.slice none 0 0] 27) :: ps) ((sF false Fc ac cc code) :: (xe true xy x9 y_Rules) :: Γ):=H.xA 5 2 [1,2,3,0,4] [1,0] qo qo
     have N1:Fresh _ (xy :: Ns):=N
     have K1:Kept (Ns) (Γ):=K0.behind 0 rfl
     refine xI #[.pointer (some ⟨bs,0,none⟩),.pointer (some ⟨b12,0,none⟩)] rfl rfl Try.call63 (dRule_ok code s_at_1 s_seed_1 bs ac cc Fc (1+zi9) y_Parents y_Rules b12 zq xM zo yF jy yD x9 xy H1 N1 K1 qg qg) ?_
     clear H H1 N1 K1
     rintro _ w123 ⟨zi127,zi128,zi129,zi130,zl131,zl132,zl133,zl134,zl135,zI136,zb137,ra138,rn139,rc140,ra141,rn142,rc143,ra144,rn145,rc146,ra147,rn148,rc149,ra150,rn151,rc152,ra153,rn154,rc155,rx156,rF157,hx125,hx126,rfl,N,H⟩
     obtain rfl:=H.zQ 4 rfl
     obtain rfl:=H.zQ 5 rfl
     obtain rfl:=H.zQ 6 rfl
     obtain rfl:=H.zQ 7 rfl
     obtain rfl:=H.zQ 8 rfl
     obtain rfl:=H.zy (α:=IntoD) 9 rfl 2 rfl qj
     refine ⟨H.pick [2,10] [1,0],(ro 4 rfl (vV H Try.underlying25 ti51 [.int .i64 zi129,.int .i64 zi130,.slice ra138 zl131.length rc140,.slice ra141 zl132.length rc143,.slice ra144 zl133.length rc146,.slice ra147 zl134.length rc149,.slice ra150 zl135.length rc152,.slice ra153 zI136.length rc155,.bool zb137] fun b158 w159 H=>⟨H.pick [3,11] [1,0],(ro 5 rfl ?_)⟩))⟩
     obtain ⟨G163,N,hn164,H⟩:=H.zX 5 rfl N (fun F hF b hb=>(List.mem_append.1 (show F∈[xy,rF157]++Ns from hF)).elim (fun h=>(H.jC (L:=[xy,rF157]) [1,2]) F h b hb) fun h=>H.awayK (K0.behind 3 rfl) F h b hb)
     try dsimp only [List.set] at H
     obtain ⟨G165,N,hn166,H⟩:=H.zX 6 rfl N (fun F hF b hb=>(List.mem_append.1 (show F∈[G163,xy,rF157]++Ns from hF)).elim (fun h=>(H.jC (L:=[G163,xy,rF157]) [0,2,3]) F h b hb) fun h=>H.awayK (K0.behind 4 rfl) F h b hb)
     try dsimp only [List.set] at H
     obtain ⟨G167,N,hn168,H⟩:=H.zX 7 rfl N (fun F hF b hb=>(List.mem_append.1 (show F∈[G165,G163,xy,rF157]++Ns from hF)).elim (fun h=>(H.jC (L:=[G165,G163,xy,rF157]) [0,1,3,4]) F h b hb) fun h=>H.awayK (K0.behind 5 rfl) F h b hb)
     try dsimp only [List.set] at H
     obtain ⟨G169,N,hn170,H⟩:=H.zX 8 rfl N (fun F hF b hb=>(List.mem_append.1 (show F∈[G167,G165,G163,xy,rF157]++Ns from hF)).elim (fun h=>(H.jC (L:=[G167,G165,G163,xy,rF157]) [0,1,2,4,5]) F h b hb) fun h=>H.awayK (K0.behind 6 rfl) F h b hb)
     try dsimp only [List.set] at H
     obtain ⟨G171,N,hn172,H⟩:=H.zX 9 rfl N (fun F hF b hb=>(List.mem_append.1 (show F∈[G169,G167,G165,G163,xy,rF157]++Ns from hF)).elim (fun h=>(H.jC (L:=[G169,G167,G165,G163,xy,rF157]) [0,1,2,3,5,6]) F h b hb) fun h=>H.awayK (K0.behind 7 rfl) F h b hb)
     try dsimp only [List.set] at H
     have H0:=H
     obtain ⟨G173,hg175,hn174,H⟩:=H.freezeR (α:=IntoD) 10 rfl 7 rfl qj
     replace N:Fresh W0.heap.size (G173 :: G171 :: G169 :: G167 :: G165 :: G163 :: xy :: Ns):=Fresh.ice (N.xA 7 [6,0,1,2,3,4,5] qo) H0 10 hg175.1 hg175.2 (fun F hF b hb=>(List.mem_append.1 (show F∈[G171,G169,G167,G165,G163,xy]++Ns from hF)).elim (fun h=>(H0.jC (L:=[G171,G169,G167,G165,G163,xy]) [0,1,2,3,4,6]) F h b hb) fun h=>H0.awayK (K0.behind 8 rfl) F h b hb)
     clear H0
     try dsimp only [List.set] at H
     refine vW H 4 rfl 0 rfl Try.underlying25 ti51 rfl qj rfl rfl rfl (by simp [Value.oneCell',Value.cells]) qp qf fun a160 c161 w162 H=>?_
     try dsimp only [List.set] at H
     replace H:=H.snoc_RuleD 7 rfl zi129 zi130 5 rfl 4 rfl 3 rfl 2 rfl 1 rfl 0 rfl zb137
     replace N:Fresh W0.heap.size ((xy++(G163++G165++G167++G169++G171++G173)) :: Ns):=(N.xA 7 [5,4,3,2,1,0,6] qo).join.join.join.join.join.swap.join
     refine ⟨H.pick [3,11] [8,7],(tF 6 rfl rfl (H.pick [3,11] [8,7]) ?_)⟩
     refine ro 7 rfl (vw H 2 [.int .i64 (1+zi9),.slice zq xM zo,.slice a160 (jy+1) c161] Try.sizeOf25 fun w176 H=>?_)
     try dsimp only [List.set] at H
     refine ⟨H.pick [3,11] [8,7],(xh qh ((meet ⟨_,zi127,zi129,zi130,zl131,zl132,zl133,zl134,zl135,zI136,zb137,zi128,a160,c161,ra138,rc140,ra141,rc143,ra144,rc146,ra147,rc149,ra150,rc152,ra153,rc155,G163,G165,G167,G169,G171,G173,uE4,hx125,hx126,N,H.xA 12 10 [1,2,3,4,11] [0,1,2,3,4,5,6,7] qo qo⟩)))⟩
    ·skip
     have f0:jd (⟨1+zi9,y_Parents,y_Rules⟩:qy):=frame_of i3 qf qf
     have H1:St W0 w88.drew ((.box bs [.slice ac code.length cc,.int .i64 s_at_1,.int .u64 s_seed_1] 95) :: (.box b12 [.int .i64 (1+zi9),.slice zq xM zo,.slice yF jy yD] 27) :: (rr zq xM zo 2 1 (y_Parents.map (Value.int .i64))) :: (rr yF jy yD 51 9 x9) :: (.box b1 [.int .i64 0,.slice none 0 0,.slice none 0 0] 27) :: ps) ((sF false Fc ac cc code) :: (xe true xy x9 y_Rules) :: Γ):=H.xA 5 2 [1,2,3,0,4] [1,0] qo qo
     have N1:Fresh _ (xy :: Ns):=N
     have K1:Kept (Ns) (Γ):=K0.behind 0 rfl
     refine xI #[.pointer (some ⟨bs,0,none⟩),.pointer (some ⟨b12,0,none⟩)] rfl rfl Try.call63 (dRule_ok code s_at_1 s_seed_1 bs ac cc Fc (1+zi9) y_Parents y_Rules b12 zq xM zo yF jy yD x9 xy H1 N1 K1 qg qg) ?_
     clear H H1 N1 K1
     rintro _ w177 ⟨zi181,zi182,zi183,zi184,zl185,zl186,zl187,zl188,zl189,zI190,zb191,ra192,rn193,rc194,ra195,rn196,rc197,ra198,rn199,rc200,ra201,rn202,rc203,ra204,rn205,rc206,ra207,rn208,rc209,rx210,rF211,hx179,hx180,rfl,N,H⟩
     obtain rfl:=H.zQ 4 rfl
     obtain rfl:=H.zQ 5 rfl
     obtain rfl:=H.zQ 6 rfl
     obtain rfl:=H.zQ 7 rfl
     obtain rfl:=H.zQ 8 rfl
     obtain rfl:=H.zy (α:=IntoD) 9 rfl 2 rfl qj
     refine ⟨H.pick [2,10] [1,0],(zH [1,4] qh qm (zW rfl ?_ (zW rfl ?_ zI)))⟩
     ·skip
      refine zk (.slice yF jy yD) Try.isAgg25 rfl (H.cell 1 rfl rfl) (⟨H.pick [2,10] [1,0],(ro 4 rfl (vV H Try.underlying25 ti51 [.int .i64 zi183,.int .i64 zi184,.slice ra192 zl185.length rc194,.slice ra195 zl186.length rc197,.slice ra198 zl187.length rc200,.slice ra201 zl188.length rc203,.slice ra204 zl189.length rc206,.slice ra207 zI190.length rc209,.bool zb191] fun b212 w213 H=>⟨H.pick [3,11] [1,0],(ro 5 rfl ?_)⟩))⟩)
      obtain ⟨G217,N,hn218,H⟩:=H.zX 5 rfl N (fun F hF b hb=>(List.mem_append.1 (show F∈[xy,rF211]++Ns from hF)).elim (fun h=>(H.jC (L:=[xy,rF211]) [1,2]) F h b hb) fun h=>H.awayK (K0.behind 3 rfl) F h b hb)
      try dsimp only [List.set] at H
      obtain ⟨G219,N,hn220,H⟩:=H.zX 6 rfl N (fun F hF b hb=>(List.mem_append.1 (show F∈[G217,xy,rF211]++Ns from hF)).elim (fun h=>(H.jC (L:=[G217,xy,rF211]) [0,2,3]) F h b hb) fun h=>H.awayK (K0.behind 4 rfl) F h b hb)
      try dsimp only [List.set] at H
      obtain ⟨G221,N,hn222,H⟩:=H.zX 7 rfl N (fun F hF b hb=>(List.mem_append.1 (show F∈[G219,G217,xy,rF211]++Ns from hF)).elim (fun h=>(H.jC (L:=[G219,G217,xy,rF211]) [0,1,3,4]) F h b hb) fun h=>H.awayK (K0.behind 5 rfl) F h b hb)
      try dsimp only [List.set] at H
      obtain ⟨G223,N,hn224,H⟩:=H.zX 8 rfl N (fun F hF b hb=>(List.mem_append.1 (show F∈[G221,G219,G217,xy,rF211]++Ns from hF)).elim (fun h=>(H.jC (L:=[G221,G219,G217,xy,rF211]) [0,1,2,4,5]) F h b hb) fun h=>H.awayK (K0.behind 6 rfl) F h b hb)
      try dsimp only [List.set] at H
      obtain ⟨G225,N,hn226,H⟩:=H.zX 9 rfl N (fun F hF b hb=>(List.mem_append.1 (show F∈[G223,G221,G219,G217,xy,rF211]++Ns from hF)).elim (fun h=>(H.jC (L:=[G223,G221,G219,G217,xy,rF211]) [0,1,2,3,5,6]) F h b hb) fun h=>H.awayK (K0.behind 7 rfl) F h b hb)
      try dsimp only [List.set] at H
      have H0:=H
      obtain ⟨G227,hg229,hn228,H⟩:=H.freezeR (α:=IntoD) 10 rfl 7 rfl qj
      replace N:Fresh W0.heap.size (G227 :: G225 :: G223 :: G221 :: G219 :: G217 :: xy :: Ns):=Fresh.ice (N.xA 7 [6,0,1,2,3,4,5] qo) H0 10 hg229.1 hg229.2 (fun F hF b hb=>(List.mem_append.1 (show F∈[G225,G223,G221,G219,G217,xy]++Ns from hF)).elim (fun h=>(H0.jC (L:=[G225,G223,G221,G219,G217,xy]) [0,1,2,3,4,6]) F h b hb) fun h=>H0.awayK (K0.behind 8 rfl) F h b hb)
      clear H0
      try dsimp only [List.set] at H
      refine vW H 4 rfl 0 rfl Try.underlying25 ti51 rfl qj rfl rfl rfl (by simp [Value.oneCell',Value.cells]) qp qf fun a214 c215 w216 H=>?_
      try dsimp only [List.set] at H
      replace H:=H.snoc_RuleD 7 rfl zi183 zi184 5 rfl 4 rfl 3 rfl 2 rfl 1 rfl 0 rfl zb191
      replace N:Fresh W0.heap.size ((xy++(G217++G219++G221++G223++G225++G227)) :: Ns):=(N.xA 7 [5,4,3,2,1,0,6] qo).join.join.join.join.join.swap.join
      refine ⟨H.pick [3,11] [8,7],(tF 6 rfl rfl (H.pick [3,11] [8,7]) ?_)⟩
      refine ro 7 rfl (vw H 2 [.int .i64 (1+zi9),.slice zq xM zo,.slice a214 (jy+1) c215] Try.sizeOf25 fun w230 H=>?_)
      try dsimp only [List.set] at H
      refine ⟨H.pick [3,11] [8,7],(xh qh ((meet ⟨_,zi181,zi183,zi184,zl185,zl186,zl187,zl188,zl189,zI190,zb191,zi182,a214,c215,ra192,rc194,ra195,rc197,ra198,rc200,ra201,rc203,ra204,rc206,ra207,rc209,G217,G219,G221,G223,G225,G227,uE4,hx179,hx180,N,H.xA 12 10 [1,2,3,4,11] [0,1,2,3,4,5,6,7] qo qo⟩)))⟩
     ·skip
      refine vV H Try.underlying25 ti51 [.int .i64 zi183,.int .i64 zi184,.slice ra192 zl185.length rc194,.slice ra195 zl186.length rc197,.slice ra198 zl187.length rc200,.slice ra201 zl188.length rc203,.slice ra204 zl189.length rc206,.slice ra207 zI190.length rc209,.bool zb191] fun b231 w232 H=>⟨H.pick [3,11] [1,0],(ro 1 rfl (zk (.slice yF jy yD) Try.isAgg25 rfl (H.cell 2 rfl rfl) (⟨H.pick [3,11] [1,0],(ro 5 rfl ?_)⟩)))⟩
      obtain ⟨G236,N,hn237,H⟩:=H.zX 5 rfl N (fun F hF b hb=>(List.mem_append.1 (show F∈[xy,rF211]++Ns from hF)).elim (fun h=>(H.jC (L:=[xy,rF211]) [1,2]) F h b hb) fun h=>H.awayK (K0.behind 3 rfl) F h b hb)
      try dsimp only [List.set] at H
      obtain ⟨G238,N,hn239,H⟩:=H.zX 6 rfl N (fun F hF b hb=>(List.mem_append.1 (show F∈[G236,xy,rF211]++Ns from hF)).elim (fun h=>(H.jC (L:=[G236,xy,rF211]) [0,2,3]) F h b hb) fun h=>H.awayK (K0.behind 4 rfl) F h b hb)
      try dsimp only [List.set] at H
      obtain ⟨G240,N,hn241,H⟩:=H.zX 7 rfl N (fun F hF b hb=>(List.mem_append.1 (show F∈[G238,G236,xy,rF211]++Ns from hF)).elim (fun h=>(H.jC (L:=[G238,G236,xy,rF211]) [0,1,3,4]) F h b hb) fun h=>H.awayK (K0.behind 5 rfl) F h b hb)
      try dsimp only [List.set] at H
      obtain ⟨G242,N,hn243,H⟩:=H.zX 8 rfl N (fun F hF b hb=>(List.mem_append.1 (show F∈[G240,G238,G236,xy,rF211]++Ns from hF)).elim (fun h=>(H.jC (L:=[G240,G238,G236,xy,rF211]) [0,1,2,4,5]) F h b hb) fun h=>H.awayK (K0.behind 6 rfl) F h b hb)
      try dsimp only [List.set] at H
      obtain ⟨G244,N,hn245,H⟩:=H.zX 9 rfl N (fun F hF b hb=>(List.mem_append.1 (show F∈[G242,G240,G238,G236,xy,rF211]++Ns from hF)).elim (fun h=>(H.jC (L:=[G242,G240,G238,G236,xy,rF211]) [0,1,2,3,5,6]) F h b hb) fun h=>H.awayK (K0.behind 7 rfl) F h b hb)
      try dsimp only [List.set] at H
      have H0:=H
      obtain ⟨G246,hg248,hn247,H⟩:=H.freezeR (α:=IntoD) 10 rfl 7 rfl qj
      replace N:Fresh W0.heap.size (G246 :: G244 :: G242 :: G240 :: G238 :: G236 :: xy :: Ns):=Fresh.ice (N.xA 7 [6,0,1,2,3,4,5] qo) H0 10 hg248.1 hg248.2 (fun F hF b hb=>(List.mem_append.1 (show F∈[G244,G242,G240,G238,G236,xy]++Ns from hF)).elim (fun h=>(H0.jC (L:=[G244,G242,G240,G238,G236,xy]) [0,1,2,3,4,6]) F h b hb) fun h=>H0.awayK (K0.behind 8 rfl) F h b hb)
      clear H0
      try dsimp only [List.set] at H
      refine vW H 4 rfl 0 rfl Try.underlying25 ti51 rfl qj rfl rfl rfl (by simp [Value.oneCell',Value.cells]) qp qf fun a233 c234 w235 H=>?_
      try dsimp only [List.set] at H
      replace H:=H.snoc_RuleD 7 rfl zi183 zi184 5 rfl 4 rfl 3 rfl 2 rfl 1 rfl 0 rfl zb191
      replace N:Fresh W0.heap.size ((xy++(G236++G238++G240++G242++G244++G246)) :: Ns):=(N.xA 7 [5,4,3,2,1,0,6] qo).join.join.join.join.join.swap.join
      refine ⟨H.pick [3,11] [8,7],(tF 6 rfl rfl (H.pick [3,11] [8,7]) ?_)⟩
      refine ro 7 rfl (vw H 2 [.int .i64 (1+zi9),.slice zq xM zo,.slice a233 (jy+1) c234] Try.sizeOf25 fun w249 H=>?_)
      try dsimp only [List.set] at H
      refine ⟨H.pick [3,11] [8,7],(xh qh ((meet ⟨_,zi181,zi183,zi184,zl185,zl186,zl187,zl188,zl189,zI190,zb191,zi182,a233,c234,ra192,rc194,ra195,rc197,ra198,rc200,ra201,rc203,ra204,rc206,ra207,rc209,G236,G238,G240,G242,G244,G246,uE4,hx179,hx180,N,H.xA 12 10 [1,2,3,4,11] [0,1,2,3,4,5,6,7] qo qo⟩)))⟩
   ·skip
    clear H N
    rintro ρ w250 ⟨zB,zi90,zi91,zi92,zl93,zl94,zl95,zl96,zl97,zI98,zb99,zi100,a101,c102,ra103,rc104,ra105,rc106,ra107,rc108,ra109,rc110,ra111,rc112,ra113,rc114,G115,G116,G117,G118,G119,G120,rfl,hx251,hx252,N,H⟩
    refine b_n (t_n (zJ (sp (.int .i64 k) (sw (o_sub k 1 rfl rfl qf (sp (.int .i64 (k - 1)) (zK ?_)))))))
    refine xH (m' :=(k - 1).toNat) qf ⟨_,k - 1,zi90,zi100,a101,jy+1,c102,(y_Rules++[(⟨zi91,zi92,zl93,zl94,zl95,zl96,zl97,zI98,zb99⟩:vU)]),(x9++[Value.int .i64 zi91,Value.int .i64 zi92,Value.slice ra103 zl93.length rc104,Value.slice ra105 zl94.length rc106,Value.slice ra107 zl95.length rc108,Value.slice ra109 zl96.length rc110,Value.slice ra111 zl97.length rc112,Value.slice ra113 zI98.length rc114,Value.bool zb99]:List Value),(xy++(G115++G116++G117++G118++G119++G120)),uE4,?_,?_,?_,rfl,N,H.xA 5 8 [3,0,1,2,4] [0,7] qo qo⟩
    · omega
    · simp;omega
    · exact j3.snoc ql
  ·skip
   refine zx4 (zcr (sw (zi [.int .i64 (1+zi9),.slice zq xM zo,.slice yF jy yD] Try.isAgg27 Try.sizeOf27 rfl (qI (H.cells 2 rfl) 0 3) (sw (xf H 4 [.int .i64 (1+zi9),.slice zq xM zo,.slice yF jy yD] Try.sizeOf27 fun w253 H=>?_)))))
   try dsimp only [List.set] at H
   refine zjr (retC H 4 rfl rfl Try.isAgg27 Try.sizeOf27 rfl ⟨_,rfl,(⟨s_at_1,s_seed_1,1+zi9,y_Parents,y_Rules,zq,xM,zo,yF,jy,yD,x9,xy,qf,(by exact sysDr_of i3 qf qf qf j3),rfl,N,H.xA 5 2 [1,3,0] [1,0] qo qo⟩)⟩)
theorem l00Min8_ok (w:World) (a:Int) (b:Int):Calls Try.prog 77 #[.int .i64 a,.int .i64 b] w (Ret (fun v w' =>v=.int .i64 (min a b)) w):=by
 refine en Try.func77 Try.ntmps77 ?_
 have H:=St.start w
 have N:=Fresh.nil w.heap.size
 refine zcr (sp (.int .i64 0) (zjcc (sps [.int .i64 a,.int .i64 b,.bool (decide ((a:Int) < b))] (zjn (cD rfl (fun h1=>?_) (fun h1=>?_))))))
 ·skip
  refine zcr (sps [.int .i64 a,.int .i64 a] (zjr (t_r (ret1 (.int .i64 a) rfl rfl ⟨_,rfl,?_,H.base⟩))))
  first | rw [Int.min_eq_left qf] | rw [Int.min_eq_right qf]
 ·skip
  refine xB (t_n (zcr (sps [.int .i64 b,.int .i64 b] (zjr (ret1 (.int .i64 b) rfl rfl ⟨_,rfl,?_,H.base⟩)))))
  first | rw [Int.min_eq_left qf] | rw [Int.min_eq_right qf]

theorem dTissue_ok {W0 w:World} {ps:List Prv} {Γ:List Fact} {Ns:List yLN} (code:List UInt8) (ip:Int) (sd:Int) (bs:Nat) (ac:yOA) (cc:Nat) (Fc:yLN) (H:St W0 w ((.box bs [.slice ac code.length cc,.int .i64 ip,.int .u64 sd] 95) :: ps) ((sF false Fc ac cc code) :: Γ)) (N:Fresh W0.heap.size (Ns)) (K0:Kept Ns Γ) (q0:0≤ip∧ip≤30000):Calls Try.prog 42 #[.pointer (some ⟨bs,0,none⟩)] w (fun e w' =>∃ v,e=.returned v∧∃ (ip_:Int) (sd_:Int) (kk_:Int) (par_:yLI) (rules_:List vU) (alive_:List Bool) (bags_:yLL) (around_:yLI) (own_:yLI) (raq:yOA) (rnq:Nat) (rcq:Nat) (raS:yOA) (rnS:Nat) (rcS:Nat) (rxS:List Value) (rFS:yLN) (raA:yOA) (rnA:Nat) (rcA:Nat) (raB:yOA) (rnB:Nat) (rcB:Nat) (rxB:List Value) (rFB:yLN) (raD:yOA) (rnD:Nat) (rcD:Nat) (rao:yOA) (rno:Nat) (rco:Nat),(ip≤ip_∧ip_≤ip+5000)∧(SysDr kk_ par_ rules_)∧(StDr kk_ par_.length 6 alive_ bags_ around_)∧(AllTo alive_)∧(MildTo rules_ rules_.length)∧(OwnDr par_.length own_)∧v=.tuple #[.agg #[.int .i64 kk_,.slice raq rnq rcq,.slice raS rnS rcS],.slice rao rno rco,.agg #[.slice raA rnA rcA,.slice raB rnB rcB,.slice raD rnD rcD]]∧Fresh W0.heap.size (rFB :: Ns)∧St W0 w' ((.box bs [.slice ac code.length cc,.int .i64 ip_,.int .u64 sd_] 95) :: (rr raq rnq rcq 2 1 (par_.map (Value.int .i64))) :: (rr raS rnS rcS 51 9 rxS) :: (rr raA rnA rcA 4 1 (alive_.map (Value.bool))) :: (rr raB rnB rcB 24 1 rxB) :: (rr raD rnD rcD 2 1 (around_.map (Value.int .i64))) :: (rr rao rno rco 2 1 (own_.map (Value.int .i64))) :: ps) ((sF false Fc ac cc code) :: (xe false rFS rxS rules_) :: (xe true rFB rxB bags_) :: Γ)):=by
 refine en Try.func42 Try.ntmps42 ?_
 have ncode:=qX (H.get 0 rfl).1
 refine zcr (sw (xx H ti27 [.int .i64 0,.slice none 0 0,.slice none 0 0] fun b1 w2 H=>sp (.slice none 0 0) (sw (xx H ti31 [.slice none 0 0,.slice none 0 0,.slice none 0 0] fun b3 w4 H=>zjc (sp (.pointer (some ⟨bs,0,none⟩)) ?_)))))
 have H1:St W0 w4 ((.box bs [.slice ac code.length cc,.int .i64 ip,.int .u64 sd] 95) :: (.box b3 [.slice none 0 0,.slice none 0 0,.slice none 0 0] 31) :: (.box b1 [.int .i64 0,.slice none 0 0,.slice none 0 0] 27) :: ps) ((sF false Fc ac cc code) :: Γ):=H.xA 3 1 [2,0,1] [0] qo qo
 have N1:Fresh _ (Ns):=N
 have K1:Kept (Ns) (Γ):=K0.behind 0 rfl
 refine sw (xI #[.pointer (some ⟨bs,0,none⟩)] rfl rfl Try.call27 (dSystem_ok code ip sd bs ac cc Fc H1 N1 K1 qg) ?_)
 clear H H1 N1 K1
 rintro _ w5 ⟨zi9,zi10,zi11,zl12,zR13,ra14,rn15,rc16,ra17,rn18,rc19,rx20,rF21,hx7,hx8,rfl,N,H⟩
 obtain rfl:=H.zQ 1 rfl
 obtain rfl:=H.zy (α:=vU) 2 rfl 1 rfl qj
 have sd:=(‹SysDr _ _ _›)
 have k1:=sd.kinds
 have k3:=sd.few
 have k4:=sd.rules
 have k5:=sd.cells
 refine sw (xx H ti27 [.int .i64 0,.slice none 0 0,.slice none 0 0] fun b22 w23 H=>sw (xf H 0 [.int .i64 zi11,.slice ra14 zl12.length rc16,.slice ra17 zR13.length rc19] Try.sizeOf27 fun w24 H=>?_))
 try dsimp only [List.set] at H
 refine zjcc (sp (.int .i64 0) (zjn (xq ?_)))
 replace H:=H.unfree 1 rfl
 refine vg (fun m' ρ w25=>∃ (zB:Env) (i:Nat) (s_at:Int) (s_seed:Int) (y_Rules:List vU) (x9:List Value) (xy:yLN),ρ=upd (upd (upd (upd (upd zB 0 (.pointer (some ⟨bs,0,none⟩))) 2 (.pointer (some ⟨b1,0,none⟩))) 4 (.pointer (some ⟨b3,0,none⟩))) 5 (.pointer (some ⟨b22,0,none⟩))) 6 (.int .i64 i)∧((i:Int)≤zR13.length)∧(ip≤s_at∧s_at≤ip+(2000+2 * i))∧(y_Rules.length≤5)∧(jG zi11 zl12 y_Rules)∧(MildTo y_Rules i)∧m' =(zR13.length - (i:Int)).toNat∧Fresh W0.heap.size (Ns)∧St W0 w25 ((.box b22 [.int .i64 zi11,.slice ra14 zl12.length rc16,.slice ra17 zR13.length rc19] 27) :: (.box bs [.slice ac code.length cc,.int .i64 s_at,.int .u64 s_seed] 95) :: (rr ra14 zl12.length rc16 2 1 (zl12.map (Value.int .i64))) :: (rr ra17 zR13.length rc19 51 9 x9) :: (.box b3 [.slice none 0 0,.slice none 0 0,.slice none 0 0] 31) :: (.box b1 [.int .i64 0,.slice none 0 0,.slice none 0 0] 27) :: ps) ((sF false Fc ac cc code) :: (xe false xy x9 y_Rules) :: Γ)) ((zR13.length - (0:Int)).toNat) ⟨_,0,zi9,zi10,zR13,rx20,rF21,uE5,qf,qf,qf,(by exact k4),(by exact fun j hj=>by omega),rfl,(N.xA 1 [] qo),H.xA 6 3 [0,1,2,3,4,5] [1,0] qo qo⟩ ?_
 clear H N
 rintro m' ρ w26 ⟨zB,i,s_at,s_seed,y_Rules,x9,xy,rfl,i0,j1,j2,j3,j4,rfl,N,H⟩
 have hn_y_Rules:=H.zy (α:=vU) 3 rfl 1 rfl qj
 refine zcc (sp (.int .i64 i) (oF rfl (oL rfl (H.cell 0 rfl rfl) (oN rfl (sp (.bool (decide ((i:Int) < zR13.length))) (zjn (cD rfl (fun h27=>?_) (fun h27=>?_))))))))
 ·skip
  refine xB (t_n (zx (xq (zcr (oF rfl (oL rfl (H.cell 0 rfl rfl) (sp (.int .i64 i) ?_)))))))
  obtain ⟨b28,rfl⟩:=H.Qv 3 rfl qf
  obtain ⟨ae29Need,ce29Need,Fe29Need,ae29Have,ce29Have,Fe29Have,ae29Lack,ce29Lack,Fe29Lack,ae29Here,ce29Here,Fe29Here,ae29Out,ce29Out,Fe29Out,ae29Into,ce29Into,Fe29Into,hx30,H⟩:=H.rowel_RuleD 3 rfl 1 rfl (iv:=i) i qf qf
  refine oI rfl rfl (oF rfl (sw (o_storePart H 3 rfl (.bool false) Try.sizeOf4 rfl rfl rfl (part_lt (hx30 8 _ rfl)) fun w31 H=>?_)))
  have hx32:=part_get (cells:=[.int .i64 ((y_Rules[i]!).qE),.int .i64 ((y_Rules[i]!).zS),.slice ae29Need (((y_Rules[i]!).xn).length) ce29Need,.slice ae29Have (((y_Rules[i]!).zf).length) ce29Have,.slice ae29Lack (((y_Rules[i]!).x8).length) ce29Lack,.slice ae29Here (((y_Rules[i]!).xW).length) ce29Here,.slice ae29Out (((y_Rules[i]!).vC).length) ce29Out,.slice ae29Into (((y_Rules[i]!).qK).length) ce29Into,.bool ((y_Rules[i]!).xU)]) hx30 8 (.bool false) (Nat.le_of_ble_eq_true rfl)
  replace hx32:∀ (q:Nat) (v:Value),([.int .i64 ((y_Rules[i]!).qE),.int .i64 ((y_Rules[i]!).zS),.slice ae29Need (((y_Rules[i]!).xn).length) ce29Need,.slice ae29Have (((y_Rules[i]!).zf).length) ce29Have,.slice ae29Lack (((y_Rules[i]!).x8).length) ce29Lack,.slice ae29Here (((y_Rules[i]!).xW).length) ce29Here,.slice ae29Out (((y_Rules[i]!).vC).length) ce29Out,.slice ae29Into (((y_Rules[i]!).qK).length) ce29Into,.bool false]:List Value)[q]? =some v→(x9.set (0+(i:Int).toNat * 9+8) (.bool false))[0+(i:Int).toNat * 9+q]? =some v:=hx32
  try dsimp only [List.set] at H
  obtain ⟨F33,H⟩:=H.part_8 7 rfl false (iv:=i) i qf (by first | omega | (simp only [List.length_set];omega))
  try dsimp only [List.set] at H
  refine zjc (sp (.pointer (some ⟨bs,0,none⟩)) ?_)
  have H1:St W0 w31 ((.box bs [.slice ac code.length cc,.int .i64 s_at,.int .u64 s_seed] 95) :: (.box b22 [.int .i64 zi11,.slice ra14 zl12.length rc16,.slice (some ⟨b28,0,none⟩) zR13.length rc19] 27) :: (rr ra14 zl12.length rc16 2 1 (zl12.map (Value.int .i64))) :: (rr (some ⟨b28,0,none⟩) zR13.length rc19 51 9 (x9.set (0+(i:Int).toNat * 9+8) (.bool false))) :: (.box b3 [.slice none 0 0,.slice none 0 0,.slice none 0 0] 31) :: (.box b1 [.int .i64 0,.slice none 0 0,.slice none 0 0] 27) :: ps) ((sF false Fc ac cc code) :: (xe false F33 (x9.set (0+(i:Int).toNat * 9+8) (.bool false)) (y_Rules.set i { y_Rules[i]! with xU:=false })) :: (sF false Fe29Need ae29Need ce29Need ((y_Rules[i]!).xn)) :: (sF false Fe29Have ae29Have ce29Have ((y_Rules[i]!).zf)) :: (sF false Fe29Lack ae29Lack ce29Lack ((y_Rules[i]!).x8)) :: (sF false Fe29Here ae29Here ce29Here ((y_Rules[i]!).xW)) :: (sF false Fe29Out ae29Out ce29Out ((y_Rules[i]!).vC)) :: (sF false Fe29Into ae29Into ce29Into ((y_Rules[i]!).qK)) :: (xe false xy x9 y_Rules) :: Γ):=H.xA 6 9 [1,0,2,3,4,5] [7,0,1,2,3,4,5,6,8] qo qo
  have N1:Fresh _ (Ns):=N
  have K1:Kept (Ns) ((xe false F33 (x9.set (0+(i:Int).toNat * 9+8) (.bool false)) (y_Rules.set i { y_Rules[i]! with xU:=false })) :: (sF false Fe29Need ae29Need ce29Need ((y_Rules[i]!).xn)) :: (sF false Fe29Have ae29Have ce29Have ((y_Rules[i]!).zf)) :: (sF false Fe29Lack ae29Lack ce29Lack ((y_Rules[i]!).x8)) :: (sF false Fe29Here ae29Here ce29Here ((y_Rules[i]!).xW)) :: (sF false Fe29Out ae29Out ce29Out ((y_Rules[i]!).vC)) :: (sF false Fe29Into ae29Into ce29Into ((y_Rules[i]!).qK)) :: (xe false xy x9 y_Rules) :: Γ):=K0.behind 8 rfl
  refine sw (xI #[.pointer (some ⟨bs,0,none⟩),.int .i64 2] rfl rfl Try.call64 (dOne_ok code s_at s_seed bs ac cc Fc (2:Int) H1 N1 K1 qg) ?_)
  clear H H1 N1 K1
  rintro _ w34 ⟨zi37,zi38,zb39,hx36,rfl,N,H⟩
  refine zjn (xZ (zb39) rfl (fun h40=>?_) (fun h40=>?_))
  ·skip
   refine QM rfl H [0,1,2,4,5] [0,1,2,3,4,5,6,7,8] fun H=>?_
   have S:=H.jm [0,1,2,4,5] [0,1,2,3,4,5,6,7,8]
   refine tF 0 rfl rfl S ?_
   refine tL 1 rfl rfl (fun _ h=>h.cell 1 rfl rfl) S ?_
   refine rtp 2 (.int .i64 i) S ?_
   refine tF 3 rfl rfl S ?_
   refine tL 4 rfl rfl (fun _ h=>h.cell 1 rfl rfl) S ?_
   refine ro 5 rfl (zg H Try.underlying24 ti2 zi11.toNat rfl rfl qf qf qf fun b42 w43 H=>⟨H.pick [1,2,3,5,6] [0,1,2,3,4,5,6,7,8],?_⟩)
   obtain ⟨ae44Need,ce44Need,Fe44Need,ae44Have,ce44Have,Fe44Have,ae44Lack,ce44Lack,Fe44Lack,ae44Here,ce44Here,Fe44Here,ae44Out,ce44Out,Fe44Out,ae44Into,ce44Into,Fe44Into,hx45,H⟩:=H.rowel_RuleD 4 rfl 1 rfl (iv:=i) i qf qf
   have S:=H.jm [1,2,3,5,6] [6,7,8,9,10,11,12,13,14]
   refine tI 6 rfl rfl rfl S ?_
   refine tF 7 rfl rfl S ?_
   refine ro 8 rfl (o_storePart H 4 rfl (.slice (some ⟨b42,0,none⟩) zi11.toNat zi11.toNat) Try.sizeOf24 rfl rfl rfl (part_lt (hx45 5 _ rfl)) fun w46 H=>?_)
   have hx47:=part_get (cells:=[.int .i64 (((y_Rules.set i { y_Rules[i]! with xU:=false })[i]!).qE),.int .i64 (((y_Rules.set i { y_Rules[i]! with xU:=false })[i]!).zS),.slice ae44Need ((((y_Rules.set i { y_Rules[i]! with xU:=false })[i]!).xn).length) ce44Need,.slice ae44Have ((((y_Rules.set i { y_Rules[i]! with xU:=false })[i]!).zf).length) ce44Have,.slice ae44Lack ((((y_Rules.set i { y_Rules[i]! with xU:=false })[i]!).x8).length) ce44Lack,.slice ae44Here ((((y_Rules.set i { y_Rules[i]! with xU:=false })[i]!).xW).length) ce44Here,.slice ae44Out ((((y_Rules.set i { y_Rules[i]! with xU:=false })[i]!).vC).length) ce44Out,.slice ae44Into ((((y_Rules.set i { y_Rules[i]! with xU:=false })[i]!).qK).length) ce44Into,.bool (((y_Rules.set i { y_Rules[i]! with xU:=false })[i]!).xU)]) hx45 5 (.slice (some ⟨b42,0,none⟩) zi11.toNat zi11.toNat) (Nat.le_of_ble_eq_true rfl)
   replace hx47:∀ (q:Nat) (v:Value),([.int .i64 (((y_Rules.set i { y_Rules[i]! with xU:=false })[i]!).qE),.int .i64 (((y_Rules.set i { y_Rules[i]! with xU:=false })[i]!).zS),.slice ae44Need ((((y_Rules.set i { y_Rules[i]! with xU:=false })[i]!).xn).length) ce44Need,.slice ae44Have ((((y_Rules.set i { y_Rules[i]! with xU:=false })[i]!).zf).length) ce44Have,.slice ae44Lack ((((y_Rules.set i { y_Rules[i]! with xU:=false })[i]!).x8).length) ce44Lack,.slice (some ⟨b42,0,none⟩) zi11.toNat zi11.toNat,.slice ae44Out ((((y_Rules.set i { y_Rules[i]! with xU:=false })[i]!).vC).length) ce44Out,.slice ae44Into ((((y_Rules.set i { y_Rules[i]! with xU:=false })[i]!).qK).length) ce44Into,.bool (((y_Rules.set i { y_Rules[i]! with xU:=false })[i]!).xU)]:List Value)[q]? =some v→((x9.set (0+(i:Int).toNat * 9+8) (.bool false)).set (0+(i:Int).toNat * 9+5) (.slice (some ⟨b42,0,none⟩) zi11.toNat zi11.toNat))[0+(i:Int).toNat * 9+q]? =some v:=hx47
   try dsimp only [List.set] at H
   refine ⟨H.pick [1,2,3,5,6] [6,7,8,9,10,11,12,13,14],(xh qh (b_n (t_n (zJ (sp (.int .i64 i) (sw (vk i 1 rfl rfl (by (first | omega | (have o7:=o5 qf;have o8:=(o6 qf).1;omega))) (sp (.int .i64 (i+1)) (zK ?_)))))))))⟩
   obtain ⟨G48,N,hn49,H⟩:=H.zX 0 rfl N (fun F hF b hb=>(List.mem_append.1 (show F∈[]++Ns from hF)).elim (fun h=>(H.jC (L:=[]) []) F h b hb) fun h=>H.awayK (K0.behind 15 rfl) F h b hb)
   try dsimp only [List.set] at H
   obtain ⟨F50,H⟩:=H.part_5 8 rfl 0 rfl (iv:=i) i qf (by first | omega | (simp only [List.length_set];omega))
   try dsimp only [List.set] at H
   refine xH (m' :=(zR13.length - ((i+1):Int)).toNat) qf ⟨_,i+1,zi37,zi38,((y_Rules.set i { y_Rules[i]! with xU:=false }).set i { (y_Rules.set i { y_Rules[i]! with xU:=false })[i]! with xW:=(List.replicate zi11.toNat (0:Int))}),((x9.set (0+(i:Int).toNat * 9+8) (.bool false)).set (0+(i:Int).toNat * 9+5) (.slice (some ⟨b42,0,none⟩) zi11.toNat zi11.toNat)),F50,uE5,?_,?_,?_,?_,?_,rfl,(N.xA 1 [] qo),H.xA 7 17 [2,1,3,4,5,6] [8,0] qo qo⟩
   · omega
   · omega
   · simp only [List.length_set];omega
   · (repeat' (first | assumption | exact j3 | exact zO.zero qf qf | (simp only [List.length_set];omega) | omega | apply jG.here | apply jG.still))
   · first | exact j4.go qf | exact (j4.go qf).here (by simp only [List.length_set];omega) (by simp only [List.length_set];omega)
  ·skip
   refine xB (b_n (t_n (zJ (sp (.int .i64 i) (sw (vk i 1 rfl rfl (by (first | omega | (have o7:=o5 qf;have o8:=(o6 qf).1;omega))) (sp (.int .i64 (i+1)) (zK (xH (m' :=(zR13.length - ((i+1):Int)).toNat) qf ⟨_,i+1,zi37,zi38,(y_Rules.set i { y_Rules[i]! with xU:=false }),(x9.set (0+(i:Int).toNat * 9+8) (.bool false)),F33,uE5,?_,?_,?_,?_,?_,rfl,N,H.xA 6 9 [1,0,2,3,4,5] [0,1] qo qo⟩)))))))))
   · omega
   · omega
   · simp only [List.length_set];omega
   · (repeat' (first | assumption | exact j3 | exact zO.zero qf qf | (simp only [List.length_set];omega) | omega | apply jG.here | apply jG.still))
   · first | exact j4.go qf | exact (j4.go qf).here (by simp only [List.length_set];omega) (by simp only [List.length_set];omega)
 ·skip
  refine zx4 (zcr (sw (o_build0 H Try.underlying24 ti2 fun b51 w52 H=>sp (.slice (some ⟨b51,0,none⟩) 0 0) (zjc (sp (.pointer (some ⟨bs,0,none⟩)) (oF rfl (oL rfl (H.cell 1 rfl rfl) (oN rfl (sw (oq (l00Min8_ok w52 3 zl12.length) H fun w54 H=>?_))))))))))
  have m1:(min 3 zl12.length:Int)≤3:=Int.min_le_left _ _
  have m2:(min 3 zl12.length:Int)≤zl12.length:=Int.min_le_right _ _
  have m0:1≤(min 3 zl12.length:Int):=Int.le_min.2 ⟨by omega,by omega⟩
  have H1:St W0 w54 ((.box bs [.slice ac code.length cc,.int .i64 s_at,.int .u64 s_seed] 95) :: (.box b51 [] 2) :: (.box b22 [.int .i64 zi11,.slice ra14 zl12.length rc16,.slice ra17 zR13.length rc19] 27) :: (rr ra14 zl12.length rc16 2 1 (zl12.map (Value.int .i64))) :: (rr ra17 zR13.length rc19 51 9 x9) :: (.box b3 [.slice none 0 0,.slice none 0 0,.slice none 0 0] 31) :: (.box b1 [.int .i64 0,.slice none 0 0,.slice none 0 0] 27) :: ps) ((sF false Fc ac cc code) :: (xe false xy x9 y_Rules) :: Γ):=H.xA 7 2 [2,0,1,3,4,5,6] [0,1] qo qo
  have N1:Fresh _ (Ns):=N
  have K1:Kept (Ns) ((xe false xy x9 y_Rules) :: Γ):=K0.behind 1 rfl
  refine sw (xI #[.pointer (some ⟨bs,0,none⟩),.int .i64 (min 3 zl12.length)] rfl rfl Try.call62 (vZ code s_at s_seed bs ac cc Fc (min 3 zl12.length) H1 N1 K1 qg) ?_)
  clear H H1 N1 K1
  rintro _ w56 ⟨zi60,zi61,zi62,hx58,hx59,rfl,N,H⟩
  refine sw (vk 1 zi62 rfl rfl (by (first | omega | (have o7:=o5 qf;have o8:=(o6 qf).1;omega))) (sp (.int .i64 (1+zi62)) (zjcc (sp (.int .i64 0) (zjn (xq ?_))))))
  replace H:=H.boxRowI 1 [] 0
  try dsimp only [List.set] at H
  refine vg (fun m' ρ w63=>∃ (zB:Env) (jE:yOA) (vT:Nat) (jD:Nat) (owners:yLI) (c:Nat) (s_at_1:Int) (s_seed_1:Int),ρ=upd (upd (upd (upd (upd (upd (upd zB 0 (.pointer (some ⟨bs,0,none⟩))) 2 (.pointer (some ⟨b1,0,none⟩))) 4 (.pointer (some ⟨b3,0,none⟩))) 5 (.pointer (some ⟨b22,0,none⟩))) 7 (.slice jE vT jD)) 8 (.int .i64 (1+zi62))) 9 (.int .i64 c)∧((c:Int)≤zl12.length)∧(ip≤s_at_1∧s_at_1≤ip+(2020+2 * c))∧(OwnTo (1+zi62) c owners)∧m' =(zl12.length - (c:Int)).toNat∧Fresh W0.heap.size (Ns)∧St W0 w63 ((.box bs [.slice ac code.length cc,.int .i64 s_at_1,.int .u64 s_seed_1] 95) :: (rr jE vT jD 2 1 (owners.map (Value.int .i64))) :: (.box b22 [.int .i64 zi11,.slice ra14 zl12.length rc16,.slice ra17 zR13.length rc19] 27) :: (rr ra14 zl12.length rc16 2 1 (zl12.map (Value.int .i64))) :: (rr ra17 zR13.length rc19 51 9 x9) :: (.box b3 [.slice none 0 0,.slice none 0 0,.slice none 0 0] 31) :: (.box b1 [.int .i64 0,.slice none 0 0,.slice none 0 0] 27) :: ps) ((sF false Fc ac cc code) :: (xe false xy x9 y_Rules) :: Γ)) ((zl12.length - (0:Int)).toNat) ⟨_,(some ⟨b51,0,none⟩),0,0,([]:yLI),0,zi60,zi61,uE7,qf,qf,(by exact OwnTo.nil _),rfl,N,H⟩ ?_
  clear H N
  rintro m' ρ w64 ⟨zB,jE,vT,jD,owners,c,s_at_1,s_seed_1,rfl,i0,o1,o2,rfl,N,H⟩
  have hn_owners:=H.zQ 1 rfl
  have o9:=o2.1
  refine zcc (sp (.int .i64 c) (oF rfl (oL rfl (H.cell 2 rfl rfl) (oN rfl (sp (.bool (decide ((c:Int) < zl12.length))) (zjn (cD rfl (fun h65=>?_) (fun h65=>?_))))))))
  ·skip
   refine xB (t_n (zx (xq (zcr (sps [.int .i64 c,.int .i64 (1+zi62),.bool (decide ((c:Int) < (1+zi62)))] (zjn (cD rfl (fun h66=>?_) (fun h66=>?_))))))))
   ·skip
    refine zJ (sps [.slice jE vT jD,.int .i64 c] (sw (vV H Try.underlying24 ti2 [.int .i64 c] fun b67 w68 H=>sw (vW H 2 rfl 0 rfl Try.underlying24 ti2 rfl qj rfl rfl rfl (by simp [Value.oneCell',Value.cells]) qp qf fun a69 c70 w71 H=>?_))))
    rw [snocI] at H
    try dsimp only [List.set] at H
    refine sp (.slice a69 (vT+1) c70) (zK (b_n (t_n (zJ (sp (.int .i64 c) (sw (vk c 1 rfl rfl (by (first | omega | (have o7:=o5 qf;have o8:=(o6 qf).1;omega))) (sp (.int .i64 (c+1)) (zK (xH (m' :=(zl12.length - ((c+1):Int)).toNat) qf ⟨_,a69,vT+1,c70,(owners++[(c:Int)]),c+1,s_at_1,s_seed_1,uE7,?_,?_,?_,rfl,N,H.xA 8 2 [1,2,3,4,5,6,7] [0,1] qo qo⟩))))))))))
    · omega
    · omega
    · first | exact o2.snoc qf (fun _=>rfl) | exact o2.snoc qf (fun h=>by omega)
   ·skip
    refine zJ (sps [.slice jE vT jD,.pointer (some ⟨bs,0,none⟩),.int .i64 (1+zi62)] ?_)
    have H1:St W0 w64 ((.box bs [.slice ac code.length cc,.int .i64 s_at_1,.int .u64 s_seed_1] 95) :: (rr jE vT jD 2 1 (owners.map (Value.int .i64))) :: (.box b22 [.int .i64 zi11,.slice ra14 zl12.length rc16,.slice ra17 zR13.length rc19] 27) :: (rr ra14 zl12.length rc16 2 1 (zl12.map (Value.int .i64))) :: (rr ra17 zR13.length rc19 51 9 x9) :: (.box b3 [.slice none 0 0,.slice none 0 0,.slice none 0 0] 31) :: (.box b1 [.int .i64 0,.slice none 0 0,.slice none 0 0] 27) :: ps) ((sF false Fc ac cc code) :: (xe false xy x9 y_Rules) :: Γ):=H.xA 7 2 [0,1,2,3,4,5,6] [0,1] qo qo
    have N1:Fresh _ (Ns):=N
    have K1:Kept (Ns) ((xe false xy x9 y_Rules) :: Γ):=K0.behind 1 rfl
    refine sw (xI #[.pointer (some ⟨bs,0,none⟩),.int .i64 (1+zi62)] rfl rfl Try.call62 (vZ code s_at_1 s_seed_1 bs ac cc Fc (1+zi62) H1 N1 K1 qg) ?_)
    clear H H1 N1 K1
    rintro _ w72 ⟨zi76,zi77,zi78,hx74,hx75,rfl,N,H⟩
    refine sw (vV H Try.underlying24 ti2 [.int .i64 zi78] fun b79 w80 H=>sw (vW H 2 rfl 0 rfl Try.underlying24 ti2 rfl qj rfl rfl rfl (by simp [Value.oneCell',Value.cells]) qp qf fun a81 c82 w83 H=>?_))
    rw [snocI] at H
    try dsimp only [List.set] at H
    refine sp (.slice a81 (vT+1) c82) (zK (b_n (t_n (zJ (sp (.int .i64 c) (sw (vk c 1 rfl rfl (by (first | omega | (have o7:=o5 qf;have o8:=(o6 qf).1;omega))) (sp (.int .i64 (c+1)) (zK (xH (m' :=(zl12.length - ((c+1):Int)).toNat) qf ⟨_,a81,vT+1,c82,(owners++[zi78]),c+1,zi76,zi77,uE7,?_,?_,?_,rfl,N,H.xA 8 2 [1,2,3,4,5,6,7] [0,1] qo qo⟩))))))))))
    · omega
    · omega
    · first | exact o2.snoc qf (fun _=>rfl) | exact o2.snoc qf (fun h=>by omega)
  ·skip
   refine zx4 (zcc (sp (.pointer (some ⟨bs,0,none⟩)) ?_))
   have H1:St W0 w64 ((.box bs [.slice ac code.length cc,.int .i64 s_at_1,.int .u64 s_seed_1] 95) :: (rr jE vT jD 2 1 (owners.map (Value.int .i64))) :: (.box b22 [.int .i64 zi11,.slice ra14 zl12.length rc16,.slice ra17 zR13.length rc19] 27) :: (rr ra14 zl12.length rc16 2 1 (zl12.map (Value.int .i64))) :: (rr ra17 zR13.length rc19 51 9 x9) :: (.box b3 [.slice none 0 0,.slice none 0 0,.slice none 0 0] 31) :: (.box b1 [.int .i64 0,.slice none 0 0,.slice none 0 0] 27) :: ps) ((sF false Fc ac cc code) :: (xe false xy x9 y_Rules) :: Γ):=H.xA 7 2 [0,1,2,3,4,5,6] [0,1] qo qo
   have N1:Fresh _ (Ns):=N
   have K1:Kept (Ns) ((xe false xy x9 y_Rules) :: Γ):=K0.behind 1 rfl
   refine sw (xI #[.pointer (some ⟨bs,0,none⟩),.int .i64 3] rfl rfl Try.call64 (dOne_ok code s_at_1 s_seed_1 bs ac cc Fc (3:Int) H1 N1 K1 qg) ?_)
   clear H H1 N1 K1
   rintro _ w84 ⟨zi87,zi88,zb89,hx86,rfl,N,H⟩
   refine zjn ?_
   refine c_cut (fun ρ w90=>∃ (zB:Env) (owners_1:yLI),ρ=upd (upd (upd (upd (upd zB 0 (.pointer (some ⟨bs,0,none⟩))) 2 (.pointer (some ⟨b1,0,none⟩))) 4 (.pointer (some ⟨b3,0,none⟩))) 5 (.pointer (some ⟨b22,0,none⟩))) 7 (.slice jE vT jD)∧(OwnDr zl12.length owners_1)∧(ip≤zi87∧zi87≤ip+2112)∧Fresh W0.heap.size (Ns)∧St W0 w90 ((.box bs [.slice ac code.length cc,.int .i64 zi87,.int .u64 zi88] 95) :: (rr jE vT jD 2 1 (owners_1.map (Value.int .i64))) :: (.box b22 [.int .i64 zi11,.slice ra14 zl12.length rc16,.slice ra17 zR13.length rc19] 27) :: (rr ra14 zl12.length rc16 2 1 (zl12.map (Value.int .i64))) :: (rr ra17 zR13.length rc19 51 9 x9) :: (.box b3 [.slice none 0 0,.slice none 0 0,.slice none 0 0] 31) :: (.box b1 [.int .i64 0,.slice none 0 0,.slice none 0 0] 27) :: ps) ((sF false Fc ac cc code) :: (xe false xy x9 y_Rules) :: Γ)) ?_ ?_
   ·skip
    refine xZ (zb89) rfl (fun h91=>?_) (fun h91=>?_)
    ·skip
     refine zcr (sp (.int .i64 0) (zjn (xq ?_)))
     refine vg (fun m' ρ w92=>∃ (zB:Env) (c_1:Nat) (owners_51:yLI),ρ=upd (upd (upd (upd (upd (upd (upd zB 0 (.pointer (some ⟨bs,0,none⟩))) 2 (.pointer (some ⟨b1,0,none⟩))) 4 (.pointer (some ⟨b3,0,none⟩))) 5 (.pointer (some ⟨b22,0,none⟩))) 7 (.slice jE vT jD)) 8 (.int .i64 (1+zi62))) 10 (.int .i64 c_1)∧((c_1:Int)≤vT)∧(TurnTo (1+zi62) c_1 owners owners_51)∧m' =(vT - (c_1:Int)).toNat∧Fresh W0.heap.size (Ns)∧St W0 w92 ((.box bs [.slice ac code.length cc,.int .i64 zi87,.int .u64 zi88] 95) :: (rr jE vT jD 2 1 (owners_51.map (Value.int .i64))) :: (.box b22 [.int .i64 zi11,.slice ra14 zl12.length rc16,.slice ra17 zR13.length rc19] 27) :: (rr ra14 zl12.length rc16 2 1 (zl12.map (Value.int .i64))) :: (rr ra17 zR13.length rc19 51 9 x9) :: (.box b3 [.slice none 0 0,.slice none 0 0,.slice none 0 0] 31) :: (.box b1 [.int .i64 0,.slice none 0 0,.slice none 0 0] 27) :: ps) ((sF false Fc ac cc code) :: (xe false xy x9 y_Rules) :: Γ)) ((vT - (0:Int)).toNat) ⟨_,0,owners,uE7,qf,(by exact TurnTo.zero _ _),rfl,N,H⟩ ?_
     clear H N
     rintro m' ρ w93 ⟨zB,c_1,owners_51,rfl,i0,o3,rfl,N,H⟩
     have hn_owners:=H.zQ 1 rfl
     have o4:=o3.1
     have o5:=fun h=>o3.at' (c:=c_1) h
     have o6:=o2.2 c_1
     refine zcc (sps [.int .i64 c_1,.slice jE vT jD] (oN rfl (sp (.bool (decide ((c_1:Int) < vT))) (zjn (cD rfl (fun h94=>?_) (fun h94=>?_))))))
     ·skip
      refine xB (t_n (zx (xq (zJ (sps [.slice jE vT jD,.int .i64 c_1,.int .i64 (1+zi62)] (sw (o_sub (1+zi62) 1 rfl rfl (by (first | omega | (have o7:=o5 qf;have o8:=(o6 qf).1;omega))) (sps [.slice jE vT jD,.int .i64 c_1] ?_))))))))
      obtain ⟨b95,rfl⟩:=H.Qv 1 rfl qf
      refine oI rfl rfl (oL rfl (H.rowInt 1 rfl (iv:=c_1) (i:=c_1) qf qf) (sw (o_sub ((1+zi62) - 1) (owners_51[c_1]!) rfl rfl (by (first | omega | (have o7:=o5 qf;have o8:=(o6 qf).1;omega))) (oI rfl rfl (sw (o_storeInt H 1 rfl (((1+zi62) - 1) - (owners_51[c_1]!)) Try.sizeOf2 rfl rfl (i:=c_1) qf qf fun w96 H=>?_))))))
      try dsimp only [List.set] at H
      refine zK (b_n (t_n (zJ (sp (.int .i64 c_1) (sw (vk c_1 1 rfl rfl (by (first | omega | (have o7:=o5 qf;have o8:=(o6 qf).1;omega))) (sp (.int .i64 (c_1+1)) (zK (xH (m' :=(vT - ((c_1+1):Int)).toNat) qf ⟨_,c_1+1,(owners_51.set c_1 (((1+zi62) - 1) - (owners_51[c_1]!))),uE7,?_,?_,rfl,N,H⟩)))))))))
      · omega
      · exact o3.go qf
     ·skip
      refine c_exit (t_x (t_x (b_x (meet ⟨_,owners_51,uE5,?_,?_,N,H⟩))))
      · first | exact o2.ok' qf qf qf | exact o3.ok' o2 qf qf qf qf
      · first | assumption | omega
    ·skip
     refine xB (meet ⟨_,owners,uE5,?_,?_,N,H⟩)
     · first | exact o2.ok' qf qf qf | exact o3.ok' o2 qf qf qf qf
     · first | assumption | omega
   ·skip
    clear H N
    rintro ρ w97 ⟨zB,owners_1,rfl,jo,jp,N,H⟩
    have hn_owners:=H.zQ 1 rfl
    refine t_n (zcr (oF rfl (oL rfl (H.cell 2 rfl rfl) (sw (zg H Try.underlying24 ti2 zi11.toNat rfl rfl qf qf qf fun b98 w99 H=>sw (xK [.slice none 0 0,.slice none 0 0,.slice (some ⟨b98,0,none⟩) zi11.toNat zi11.toNat] [(2,.slice (some ⟨b98,0,none⟩) zi11.toNat zi11.toNat)] (sw (xx H ti31 [.slice none 0 0,.slice none 0 0,.slice none 0 0] fun b100 w101 H=>sw (xf H 0 [.slice none 0 0,.slice none 0 0,.slice (some ⟨b98,0,none⟩) zi11.toNat zi11.toNat] Try.sizeOf31 fun w102 H=>?_)))))))))
    try dsimp only [List.set] at H
    refine zjcc (sp (.int .i64 0) (zjn (xq ?_)))
    replace H:=H.nilRowB 4
    replace H:=H.nilRow 24 1
    replace H:=H.Qn (α:=yLI)
    refine vg (fun m' ρ w103=>∃ (zB:Env) (c_1:Nat) (s_at_51:Int) (s_seed_51:Int) (a_t_Alive:yOA) (jO:Nat) (c_t_Alive:Nat) (t_Alive:List Bool) (Qk:yOA) (jZ:Nat) (Qh:Nat) (t_Bags:yLL) (QC:List Value) (jF:yLN),ρ=upd (upd (upd (upd (upd (upd (upd zB 0 (.pointer (some ⟨bs,0,none⟩))) 2 (.pointer (some ⟨b1,0,none⟩))) 4 (.pointer (some ⟨b3,0,none⟩))) 5 (.pointer (some ⟨b22,0,none⟩))) 7 (.slice jE vT jD)) 11 (.pointer (some ⟨b100,0,none⟩))) 12 (.int .i64 c_1)∧((c_1:Int)≤zl12.length)∧(ip≤s_at_51∧s_at_51≤ip+(2120+20 * c_1))∧(StTo zi11 6 c_1 t_Alive t_Bags)∧(AllTo t_Alive)∧m' =(zl12.length - (c_1:Int)).toNat∧Fresh W0.heap.size (jF :: Ns)∧St W0 w103 ((rr Qk jZ Qh 24 1 QC) :: (rr a_t_Alive jO c_t_Alive 4 1 (t_Alive.map (Value.bool))) :: (.box b100 [.slice a_t_Alive jO c_t_Alive,.slice Qk jZ Qh,.slice (some ⟨b98,0,none⟩) zi11.toNat zi11.toNat] 31) :: (rr (some ⟨b98,0,none⟩) zi11.toNat zi11.toNat 2 1 ((List.replicate zi11.toNat (0:Int)).map (Value.int .i64))) :: (.box bs [.slice ac code.length cc,.int .i64 s_at_51,.int .u64 s_seed_51] 95) :: (rr jE vT jD 2 1 (owners_1.map (Value.int .i64))) :: (.box b22 [.int .i64 zi11,.slice ra14 zl12.length rc16,.slice ra17 zR13.length rc19] 27) :: (rr ra14 zl12.length rc16 2 1 (zl12.map (Value.int .i64))) :: (rr ra17 zR13.length rc19 51 9 x9) :: (.box b3 [.slice none 0 0,.slice none 0 0,.slice none 0 0] 31) :: (.box b1 [.int .i64 0,.slice none 0 0,.slice none 0 0] 27) :: ps) ((xe true jF QC t_Bags) :: (sF false Fc ac cc code) :: (xe false xy x9 y_Rules) :: Γ)) ((zl12.length - (0:Int)).toNat) ⟨_,0,zi87,zi88,none,0,0,[],none,0,0,([]:yLL),[],[],uE7,qf,qf,(by exact StTo.nil _ _),(by exact AllTo.nil),rfl,N.emp,H⟩ ?_
    clear H N
    rintro m' ρ w104 ⟨zB,c_1,s_at_51,s_seed_51,a_t_Alive,jO,c_t_Alive,t_Alive,Qk,jZ,Qh,t_Bags,QC,jF,rfl,i0,t1,t2,t3,rfl,N,H⟩
    have hn_t_Alive:=H.rowNB 1 rfl
    have hn_t_Bags:=H.zy (α:=yLI) 0 rfl 0 rfl qj
    have t4:=t2.la
    have t5:=t2.lb
    refine zcc (sp (.int .i64 c_1) (oF rfl (oL rfl (H.cell 6 rfl rfl) (oN rfl (sp (.bool (decide ((c_1:Int) < zl12.length))) (zjn (cD rfl (fun h105=>?_) (fun h105=>?_))))))))
    ·skip
     refine xB (t_n (zx (xq (zcr (oF rfl (oL rfl (H.cell 2 rfl rfl) (sw (vV H Try.underlying28 ti4 [.bool true] fun b106 w107 H=>sw (vW H 2 rfl 0 rfl Try.underlying28 ti4 rfl qj rfl rfl rfl (by simp [Value.oneCell',Value.cells]) qp qf fun a108 c109 w110 H=>?_)))))))))
     rw [snocB] at H
     try dsimp only [List.set] at H
     refine oF rfl (sw (vw H 3 [.slice a108 (jO+1) c109,.slice Qk jZ Qh,.slice (some ⟨b98,0,none⟩) zi11.toNat zi11.toNat] Try.sizeOf28 fun w111 H=>?_))
     try dsimp only [List.set] at H
     refine zjn ?_
     refine c_cut (fun ρ w120=>∃ (zB:Env) (zi112:Int) (zl113:yLI) (zi114:Int) (a115:yOA) (c116:Nat) (ra117:yOA) (rc118:Nat) (G119:yLN),ρ=upd (upd (upd (upd (upd (upd (upd zB 0 (.pointer (some ⟨bs,0,none⟩))) 2 (.pointer (some ⟨b1,0,none⟩))) 4 (.pointer (some ⟨b3,0,none⟩))) 5 (.pointer (some ⟨b22,0,none⟩))) 7 (.slice jE vT jD)) 11 (.pointer (some ⟨b100,0,none⟩))) 12 (.int .i64 c_1)∧(s_at_51≤zi112∧zi112≤s_at_51+20)∧(zO zi11 (6:Int) zl113)∧Fresh W0.heap.size ((jF++G119) :: Ns)∧St W0 w120 ((.box bs [.slice ac code.length cc,.int .i64 zi112,.int .u64 zi114] 95) :: (.box b106 [.bool true] 4) :: (rr a115 (jZ+1) c116 24 1 (QC++[.slice ra117 zl113.length rc118])) :: (rr a108 (jO+1) c109 4 1 ((t_Alive++[true]).map (Value.bool))) :: (.box b100 [.slice a108 (jO+1) c109,.slice a115 (jZ+1) c116,.slice (some ⟨b98,0,none⟩) zi11.toNat zi11.toNat] 31) :: (rr (some ⟨b98,0,none⟩) zi11.toNat zi11.toNat 2 1 ((List.replicate zi11.toNat (0:Int)).map (Value.int .i64))) :: (rr jE vT jD 2 1 (owners_1.map (Value.int .i64))) :: (.box b22 [.int .i64 zi11,.slice ra14 zl12.length rc16,.slice ra17 zR13.length rc19] 27) :: (rr ra14 zl12.length rc16 2 1 (zl12.map (Value.int .i64))) :: (rr ra17 zR13.length rc19 51 9 x9) :: (.box b3 [.slice none 0 0,.slice none 0 0,.slice none 0 0] 31) :: (.box b1 [.int .i64 0,.slice none 0 0,.slice none 0 0] 27) :: ps) ((xe true (jF++G119) (QC++[.slice ra117 zl113.length rc118]) (t_Bags++[zl113])) :: (sF true G119 ra117 rc118 zl113) :: (sF false Fc ac cc code) :: (xe false xy x9 y_Rules) :: Γ)) ?_ ?_
     ·skip
      refine QM rfl H [0,2,4,6,7,8,9,10,11] [0,1,2] fun H=>?_
      have S:=H.jm [0,2,4,6,7,8,9,10,11] [0,1,2]
      refine tF 0 rfl rfl S ?_
      refine rtp 2 (.pointer (some ⟨bs,0,none⟩)) S ?_
      refine tF 3 rfl rfl S ?_
      refine tL 4 rfl rfl (fun _ h=>h.cell 4 rfl rfl) S ?_
      refine zH [1,5] qh qm (zW rfl ?_ (zW rfl ?_ zI))
      ·skip
       refine zk (.slice Qk jZ Qh) Try.isAgg29 rfl (H.cell 3 rfl rfl) (⟨H.pick [0,2,4,6,7,8,9,10,11] [0,1,2],(ro 5 rfl ?_)⟩)
       have H1:St W0 w111.drew ((.box bs [.slice ac code.length cc,.int .i64 s_at_51,.int .u64 s_seed_51] 95) :: (.box b106 [.bool true] 4) :: (rr Qk jZ Qh 24 1 QC) :: (rr a108 (jO+1) c109 4 1 ((t_Alive++[true]).map (Value.bool))) :: (.box b100 [.slice a108 (jO+1) c109,.slice Qk jZ Qh,.slice (some ⟨b98,0,none⟩) zi11.toNat zi11.toNat] 31) :: (rr (some ⟨b98,0,none⟩) zi11.toNat zi11.toNat 2 1 ((List.replicate zi11.toNat (0:Int)).map (Value.int .i64))) :: (rr jE vT jD 2 1 (owners_1.map (Value.int .i64))) :: (.box b22 [.int .i64 zi11,.slice ra14 zl12.length rc16,.slice ra17 zR13.length rc19] 27) :: (rr ra14 zl12.length rc16 2 1 (zl12.map (Value.int .i64))) :: (rr ra17 zR13.length rc19 51 9 x9) :: (.box b3 [.slice none 0 0,.slice none 0 0,.slice none 0 0] 31) :: (.box b1 [.int .i64 0,.slice none 0 0,.slice none 0 0] 27) :: ps) ((sF false Fc ac cc code) :: (xe true jF QC t_Bags) :: (xe false xy x9 y_Rules) :: Γ):=H.xA 12 3 [5,0,1,2,3,4,6,7,8,9,10,11] [1,0,2] qo qo
       have N1:Fresh _ (jF :: Ns):=N
       have K1:Kept (Ns) ((xe true jF QC t_Bags) :: (xe false xy x9 y_Rules) :: Γ):=K0.behind 2 rfl
       replace K1:=K1.cons (F:=jF) 0 rfl rfl
       refine xI #[.pointer (some ⟨bs,0,none⟩),.int .i64 zi11,.int .i64 6] rfl rfl Try.call65 (dFew_ok code s_at_51 s_seed_51 bs ac cc Fc zi11 (6:Int) H1 N1 K1 qg qg qg) ?_
       clear H H1 N1 K1
       rintro _ w122 ⟨zi126,zi127,zl128,ra129,rn130,rc131,hx124,hx125,rfl,N,H⟩
       obtain rfl:=H.zQ 1 rfl
       refine ⟨H.pick [2,4,6,7,8,9,10,11,12] [1,0,2],(ro 6 rfl (vV H Try.underlying29 ti24 [.slice ra129 zl128.length rc131] fun b132 w133 H=>⟨H.pick [3,5,7,8,9,10,11,12,13] [1,0,2],(ro 7 rfl ?_)⟩))⟩
       obtain ⟨G137,N,hn138,H⟩:=H.zX 2 rfl N (fun F hF b hb=>(List.mem_append.1 (show F∈[jF]++Ns from hF)).elim (fun h=>(H.jC (L:=[jF]) [1]) F h b hb) fun h=>H.awayK (K0.behind 3 rfl) F h b hb)
       try dsimp only [List.set] at H
       refine vW H 4 rfl 0 rfl Try.underlying29 ti24 rfl qj rfl rfl rfl (by simp [Value.oneCell',Value.cells]) qp qf fun a134 c135 w136 H=>?_
       try dsimp only [List.set] at H
       replace H:=H.repsSnoc 2 rfl 0 rfl
       replace N:Fresh W0.heap.size ((jF++G137) :: Ns):=(N.xA 2 [1,0] qo).join
       refine ⟨H.pick [3,5,7,8,9,10,11,12,13] [3,2,4],(tF 8 rfl rfl (H.pick [3,5,7,8,9,10,11,12,13] [3,2,4]) ?_)⟩
       refine ro 9 rfl (vw H 6 [.slice a108 (jO+1) c109,.slice a134 (jZ+1) c135,.slice (some ⟨b98,0,none⟩) zi11.toNat zi11.toNat] Try.sizeOf29 fun w139 H=>?_)
       try dsimp only [List.set] at H
       refine ⟨H.pick [3,5,7,8,9,10,11,12,13] [3,2,4],(xh qh ((meet ⟨_,zi126,zl128,zi127,a134,c135,ra129,rc131,G137,uE7,hx124,hx125,N,H.xA 14 5 [1,3,4,5,6,7,8,9,10,11,12,13] [0,1,2,4] qo qo⟩)))⟩
      ·skip
       have H1:St W0 w111.drew ((.box bs [.slice ac code.length cc,.int .i64 s_at_51,.int .u64 s_seed_51] 95) :: (.box b106 [.bool true] 4) :: (rr Qk jZ Qh 24 1 QC) :: (rr a108 (jO+1) c109 4 1 ((t_Alive++[true]).map (Value.bool))) :: (.box b100 [.slice a108 (jO+1) c109,.slice Qk jZ Qh,.slice (some ⟨b98,0,none⟩) zi11.toNat zi11.toNat] 31) :: (rr (some ⟨b98,0,none⟩) zi11.toNat zi11.toNat 2 1 ((List.replicate zi11.toNat (0:Int)).map (Value.int .i64))) :: (rr jE vT jD 2 1 (owners_1.map (Value.int .i64))) :: (.box b22 [.int .i64 zi11,.slice ra14 zl12.length rc16,.slice ra17 zR13.length rc19] 27) :: (rr ra14 zl12.length rc16 2 1 (zl12.map (Value.int .i64))) :: (rr ra17 zR13.length rc19 51 9 x9) :: (.box b3 [.slice none 0 0,.slice none 0 0,.slice none 0 0] 31) :: (.box b1 [.int .i64 0,.slice none 0 0,.slice none 0 0] 27) :: ps) ((sF false Fc ac cc code) :: (xe true jF QC t_Bags) :: (xe false xy x9 y_Rules) :: Γ):=H.xA 12 3 [5,0,1,2,3,4,6,7,8,9,10,11] [1,0,2] qo qo
       have N1:Fresh _ (jF :: Ns):=N
       have K1:Kept (Ns) ((xe true jF QC t_Bags) :: (xe false xy x9 y_Rules) :: Γ):=K0.behind 2 rfl
       replace K1:=K1.cons (F:=jF) 0 rfl rfl
       refine xI #[.pointer (some ⟨bs,0,none⟩),.int .i64 zi11,.int .i64 6] rfl rfl Try.call65 (dFew_ok code s_at_51 s_seed_51 bs ac cc Fc zi11 (6:Int) H1 N1 K1 qg qg qg) ?_
       clear H H1 N1 K1
       rintro _ w140 ⟨zi144,zi145,zl146,ra147,rn148,rc149,hx142,hx143,rfl,N,H⟩
       obtain rfl:=H.zQ 1 rfl
       refine ⟨H.pick [2,4,6,7,8,9,10,11,12] [1,0,2],(zH [1,6] qh qm (zW rfl ?_ (zW rfl ?_ zI)))⟩
       ·skip
        refine zk (.slice Qk jZ Qh) Try.isAgg29 rfl (H.cell 5 rfl rfl) (⟨H.pick [2,4,6,7,8,9,10,11,12] [1,0,2],(ro 6 rfl (vV H Try.underlying29 ti24 [.slice ra147 zl146.length rc149] fun b150 w151 H=>⟨H.pick [3,5,7,8,9,10,11,12,13] [1,0,2],(ro 7 rfl ?_)⟩))⟩)
        obtain ⟨G155,N,hn156,H⟩:=H.zX 2 rfl N (fun F hF b hb=>(List.mem_append.1 (show F∈[jF]++Ns from hF)).elim (fun h=>(H.jC (L:=[jF]) [1]) F h b hb) fun h=>H.awayK (K0.behind 3 rfl) F h b hb)
        try dsimp only [List.set] at H
        refine vW H 4 rfl 0 rfl Try.underlying29 ti24 rfl qj rfl rfl rfl (by simp [Value.oneCell',Value.cells]) qp qf fun a152 c153 w154 H=>?_
        try dsimp only [List.set] at H
        replace H:=H.repsSnoc 2 rfl 0 rfl
        replace N:Fresh W0.heap.size ((jF++G155) :: Ns):=(N.xA 2 [1,0] qo).join
        refine ⟨H.pick [3,5,7,8,9,10,11,12,13] [3,2,4],(tF 8 rfl rfl (H.pick [3,5,7,8,9,10,11,12,13] [3,2,4]) ?_)⟩
        refine ro 9 rfl (vw H 6 [.slice a108 (jO+1) c109,.slice a152 (jZ+1) c153,.slice (some ⟨b98,0,none⟩) zi11.toNat zi11.toNat] Try.sizeOf29 fun w157 H=>?_)
        try dsimp only [List.set] at H
        refine ⟨H.pick [3,5,7,8,9,10,11,12,13] [3,2,4],(xh qh ((meet ⟨_,zi144,zl146,zi145,a152,c153,ra147,rc149,G155,uE7,hx142,hx143,N,H.xA 14 5 [1,3,4,5,6,7,8,9,10,11,12,13] [0,1,2,4] qo qo⟩)))⟩
       ·skip
        refine vV H Try.underlying29 ti24 [.slice ra147 zl146.length rc149] fun b158 w159 H=>⟨H.pick [3,5,7,8,9,10,11,12,13] [1,0,2],(ro 1 rfl (zk (.slice Qk jZ Qh) Try.isAgg29 rfl (H.cell 6 rfl rfl) (⟨H.pick [3,5,7,8,9,10,11,12,13] [1,0,2],(ro 7 rfl ?_)⟩)))⟩
        obtain ⟨G163,N,hn164,H⟩:=H.zX 2 rfl N (fun F hF b hb=>(List.mem_append.1 (show F∈[jF]++Ns from hF)).elim (fun h=>(H.jC (L:=[jF]) [1]) F h b hb) fun h=>H.awayK (K0.behind 3 rfl) F h b hb)
        try dsimp only [List.set] at H
        refine vW H 4 rfl 0 rfl Try.underlying29 ti24 rfl qj rfl rfl rfl (by simp [Value.oneCell',Value.cells]) qp qf fun a160 c161 w162 H=>?_
        try dsimp only [List.set] at H
        replace H:=H.repsSnoc 2 rfl 0 rfl
        replace N:Fresh W0.heap.size ((jF++G163) :: Ns):=(N.xA 2 [1,0] qo).join
        refine ⟨H.pick [3,5,7,8,9,10,11,12,13] [3,2,4],(tF 8 rfl rfl (H.pick [3,5,7,8,9,10,11,12,13] [3,2,4]) ?_)⟩
        refine ro 9 rfl (vw H 6 [.slice a108 (jO+1) c109,.slice a160 (jZ+1) c161,.slice (some ⟨b98,0,none⟩) zi11.toNat zi11.toNat] Try.sizeOf29 fun w165 H=>?_)
        try dsimp only [List.set] at H
        refine ⟨H.pick [3,5,7,8,9,10,11,12,13] [3,2,4],(xh qh ((meet ⟨_,zi144,zl146,zi145,a160,c161,ra147,rc149,G163,uE7,hx142,hx143,N,H.xA 14 5 [1,3,4,5,6,7,8,9,10,11,12,13] [0,1,2,4] qo qo⟩)))⟩
     ·skip
      clear H N
      rintro ρ w166 ⟨zB,zi112,zl113,zi114,a115,c116,ra117,rc118,G119,rfl,hx167,hx168,N,H⟩
      refine b_n (t_n (zJ (sp (.int .i64 c_1) (sw (vk c_1 1 rfl rfl (by (first | omega | (have o7:=o5 qf;have o8:=(o6 qf).1;omega))) (sp (.int .i64 (c_1+1)) (zK (xH (m' :=(zl12.length - ((c_1+1):Int)).toNat) qf ⟨_,c_1+1,zi112,zi114,a108,jO+1,c109,(t_Alive++[true]),a115,jZ+1,c116,(t_Bags++[zl113]),(QC++[Value.slice ra117 zl113.length rc118]:List Value),(jF++G119),uE7,?_,?_,?_,?_,rfl,N,H.xA 12 4 [2,3,4,5,0,6,7,8,9,10,11] [0,2,3] qo qo⟩))))))))
      · omega
      · omega
      · exact t2.snoc (fun _=>rfl) ql (fun h=>by cases h)
      · exact t3.snoc
    ·skip
     refine zx4 (zx ?_)
     refine QM rfl H [0,1,2,3,4,5,6,7,8] [0,1,2] fun H=>?_
     have S:=H.jm [0,1,2,3,4,5,6,7,8] [0,1,2]
     refine rt 0 (.agg #[.int .i64 zi11,.slice ra14 zl12.length rc16,.slice ra17 zR13.length rc19]) (yj (cs:=[.int .i64 zi11,.slice ra14 zl12.length rc16,.slice ra17 zR13.length rc19]) Try.isAgg27 Try.sizeOf27 rfl (fun _ h=>qI (h.cells 6 rfl) 0 3)) S ?_
     refine rtp 1 (.slice jE vT jD) S ?_
     refine rt 2 (.agg #[.slice a_t_Alive jO c_t_Alive,.slice Qk jZ Qh,.slice (some ⟨b98,0,none⟩) zi11.toNat zi11.toNat]) (yj (cs:=[.slice a_t_Alive jO c_t_Alive,.slice Qk jZ Qh,.slice (some ⟨b98,0,none⟩) zi11.toNat zi11.toNat]) Try.isAgg31 Try.sizeOf31 rfl (fun _ h=>qI (h.cells 2 rfl) 0 3)) S ?_
     refine ro 3 rfl (xf H 10 [.int .i64 zi11,.slice ra14 zl12.length rc16,.slice ra17 zR13.length rc19] Try.sizeOf27 fun w170 H=>?_)
     try dsimp only [List.set] at H
     refine ⟨H.pick [0,1,2,3,4,5,6,7,8] [0,1,2],(rtp 4 (.slice jE vT jD) (H.pick [0,1,2,3,4,5,6,7,8] [0,1,2]) ?_)⟩
     refine ro 5 rfl (xf H 9 [.slice a_t_Alive jO c_t_Alive,.slice Qk jZ Qh,.slice (some ⟨b98,0,none⟩) zi11.toNat zi11.toNat] Try.sizeOf31 fun w171 H=>?_)
     try dsimp only [List.set] at H
     refine ⟨H.pick [0,1,2,3,4,5,6,7,8] [0,1,2],(xh qh (t_n (c_ret (retCTC H 10 rfl (.slice jE vT jD) 9 rfl rfl Try.isAgg27 Try.sizeOf27 Try.isAgg31 Try.sizeOf31 rfl rfl rfl ⟨_,rfl,?_⟩))))⟩
     have q4:=j4
     exact ⟨s_at_51,s_seed_51,zi11,zl12,y_Rules,t_Alive,t_Bags,(List.replicate zi11.toNat (0:Int)),owners_1,ra14,zl12.length,rc16,ra17,zR13.length,rc19,x9,xy,a_t_Alive,jO,c_t_Alive,Qk,jZ,Qh,QC,jF,(some ⟨b98,0,none⟩),zi11.toNat,zi11.toNat,jE,vT,jD,qf,(by exact sd.with j2 j3),(by exact stDr_of t2 qf qf qf),(by exact t3),(by exact fun j hj=>j4 j qf),(by exact jo),rfl,N,H.xA 11 3 [4,7,8,1,0,3,5] [1,2,0] qo qo⟩

theorem a2Tissue_ok {W0 w:World} {ps:List Prv} {Γ:List Fact} {Ns:List yLN} (code:List UInt8) (ac:yOA) (cc:Nat) (Fc:yLN) (H:St W0 w (ps) ((sF false Fc ac cc code) :: Γ)) (N:Fresh W0.heap.size (Ns)) (K0:Kept Ns Γ):Calls Try.prog 17 #[.slice ac code.length cc] w (fun e w' =>∃ v,e=.returned v∧∃ (kk_:Int) (par_:yLI) (rules_:List vU) (alive_:List Bool) (bags_:yLL) (around_:yLI) (own_:yLI) (raq:yOA) (rnq:Nat) (rcq:Nat) (raS:yOA) (rnS:Nat) (rcS:Nat) (rxS:List Value) (rFS:yLN) (raA:yOA) (rnA:Nat) (rcA:Nat) (raB:yOA) (rnB:Nat) (rcB:Nat) (rxB:List Value) (rFB:yLN) (raD:yOA) (rnD:Nat) (rcD:Nat) (rao:yOA) (rno:Nat) (rco:Nat),(SysDr kk_ par_ rules_)∧(StDr kk_ par_.length 6 alive_ bags_ around_)∧(AllTo alive_)∧(MildTo rules_ rules_.length)∧(OwnDr par_.length own_)∧v=.tuple #[.agg #[.int .i64 kk_,.slice raq rnq rcq,.slice raS rnS rcS],.slice rao rno rco,.agg #[.slice raA rnA rcA,.slice raB rnB rcB,.slice raD rnD rcD]]∧Fresh W0.heap.size (rFB :: Ns)∧St W0 w' ((rr raq rnq rcq 2 1 (par_.map (Value.int .i64))) :: (rr raS rnS rcS 51 9 rxS) :: (rr raA rnA rcA 4 1 (alive_.map (Value.bool))) :: (rr raB rnB rcB 24 1 rxB) :: (rr raD rnD rcD 2 1 (around_.map (Value.int .i64))) :: (rr rao rno rco 2 1 (own_.map (Value.int .i64))) :: ps) ((sF false Fc ac cc code) :: (xe false rFS rxS rules_) :: (xe true rFB rxB bags_) :: Γ)):=by
 refine en Try.func17 Try.ntmps17 ?_
 have ncode:=qX (H.get 0 rfl).1
 refine zcr (sw (xx H ti27 [.int .i64 0,.slice none 0 0,.slice none 0 0] fun b1 w2 H=>sp (.slice none 0 0) (sw (xx H ti31 [.slice none 0 0,.slice none 0 0,.slice none 0 0] fun b3 w4 H=>zjc (sp (.slice ac code.length cc) (sw (vS #[.slice ac code.length cc] rfl rfl Try.call26 (en Try.func26 Try.ntmps26 ?_))))))))
 refine zcr (sp (.pointer none) (zjc (sp (.slice ac code.length cc) (sw (xK [.slice ac code.length cc,.int .i64 0,.int .u64 0] [(0,.slice ac code.length cc)] (sw (vP H [.slice ac code.length cc,.int .i64 0,.int .u64 0] fun b5 w6 H=>sp (.pointer (some ⟨b5,0,none⟩)) (zjr (ret1 (.pointer (some ⟨b5,0,none⟩)) rfl rfl ⟨_,rfl,?_⟩)))))))))
 have H1:St W0 w6 ((.box b5 [.slice ac code.length cc,.int .i64 0,.int .u64 0] 95) :: (.box b3 [.slice none 0 0,.slice none 0 0,.slice none 0 0] 31) :: (.box b1 [.int .i64 0,.slice none 0 0,.slice none 0 0] 27) :: ps) ((sF false Fc ac cc code) :: Γ):=H.xA 3 1 [0,1,2] [0] qo qo
 have N1:Fresh _ (Ns):=N
 have K1:Kept (Ns) (Γ):=K0.behind 0 rfl
 refine sw (xI #[.pointer (some ⟨b5,0,none⟩)] rfl rfl Try.call42 (dTissue_ok code (0:Int) 0 b5 ac cc Fc H1 N1 K1 qg) ?_)
 clear H H1 N1 K1
 rintro _ w7 ⟨zi15,zi16,zi17,zl18,zR19,zm20,zL21,zl22,zl23,ra24,rn25,rc26,ra27,rn28,rc29,rx30,rF31,ra32,rn33,rc34,ra35,rn36,rc37,rx38,rF39,ra40,rn41,rc42,ra43,rn44,rc45,hx9,hx10,hx11,hx12,hx13,hx14,rfl,N,H⟩
 obtain rfl:=H.zQ 1 rfl
 obtain rfl:=H.zy (α:=vU) 2 rfl 1 rfl qj
 obtain rfl:=H.rowNB 3 rfl
 obtain rfl:=H.zy (α:=yLI) 4 rfl 2 rfl qj
 obtain rfl:=H.zQ 5 rfl
 obtain rfl:=H.zQ 6 rfl
 refine sps [.agg #[.int .i64 zi17,.slice ra24 zl18.length rc26,.slice ra27 zR19.length rc29],.slice ra43 zl23.length rc45,.agg #[.slice ra32 zm20.length rc34,.slice ra35 zL21.length rc37,.slice ra40 zl22.length rc42]] (sw (xf H 8 [.int .i64 zi17,.slice ra24 zl18.length rc26,.slice ra27 zR19.length rc29] Try.sizeOf27 fun w46 H=>?_))
 try dsimp only [List.set] at H
 refine sp (.slice ra43 zl23.length rc45) (sw (xf H 7 [.slice ra32 zm20.length rc34,.slice ra35 zL21.length rc37,.slice ra40 zl22.length rc42] Try.sizeOf31 fun w47 H=>?_))
 try dsimp only [List.set] at H
 refine zjr (retCTC H 8 rfl (.slice ra43 zl23.length rc45) 7 rfl rfl Try.isAgg27 Try.sizeOf27 Try.isAgg31 Try.sizeOf31 rfl rfl rfl ⟨_,rfl,(⟨zi17,zl18,zR19,zm20,zL21,zl22,zl23,ra24,zl18.length,rc26,ra27,zR19.length,rc29,rx30,rF31,ra32,zm20.length,rc34,ra35,zL21.length,rc37,rx38,rF39,ra40,zl22.length,rc42,ra43,zl23.length,rc45,ql,ql,ql,ql,ql,rfl,N,H.xA 9 3 [1,2,3,4,5,6] [0,1,2] qo qo⟩)⟩)
theorem a2Same_ok (w:World) (a:yLI) (b:yLI) {aa:yOA} {ca:Nat} {Fa:yLN} {ab:yOA} {cb:Nat} {Fb:yLN} (ha:qR.rep w Fa [.slice aa a.length ca] a) (hb:qR.rep w Fb [.slice ab b.length cb] b):Calls Try.prog 16 #[.slice aa a.length ca,.slice ab b.length cb] w (Ret (fun v w' =>v=.bool (decide (a=b))) w):=by
 refine en Try.func16 Try.ntmps16 ?_
 have H:=((St.start w).arg hb).arg ha
 have nha:=qX ha
 have nhb:=qX hb
 clear ha hb
 have N:=Fresh.nil w.heap.size
 refine zcr (sp (.bool false) (zjcc (sp (.slice aa a.length ca) (oN rfl (sp (.slice ab b.length cb) (oN rfl (sp (.bool ((a.length:Int) != b.length)) (zjn (xZ ((a.length:Int) != b.length) rfl (fun h1=>?_) (fun h1=>?_))))))))))
 ·skip
  replace h1:=bne_iff_ne.1 h1
  refine zcr (sp (.bool false) (zjr (t_r (ret1 (.bool false) rfl rfl ⟨_,rfl,?_,H.base⟩))))
  first | rw [decide_eq_false (fun e=>by subst e;omega)] | rw [decide_eq_false (ne_of_get (k:=i) ‹_›)] | rw [decide_eq_false (ne_of_get (k:=i) (by simpa using ‹_›))]
 ·skip
  replace h1:=zT h1
  refine xB (t_n (zcc (sp (.int .i64 0) (zjn (xq ?_)))))
  refine vg (fun m' ρ w2=>∃ (zB:Env) (i:Nat),ρ=upd (upd (upd zB 0 (.slice aa a.length ca)) 1 (.slice ab b.length cb)) 5 (.int .i64 i)∧((i:Int)≤a.length)∧(a.take i=b.take i)∧m' =(a.length - (i:Int)).toNat∧Fresh w.heap.size []∧St w w2 [] [sF false Fa aa ca a,sF false Fb ab cb b]) ((a.length - (0:Int)).toNat) ⟨_,0,uE3,qf,(by rfl),rfl,N,H⟩ ?_
  clear H N
  rintro m' ρ w3 ⟨zB,i,rfl,i0,i1,rfl,N,H⟩
  refine zcc (sps [.int .i64 i,.slice aa a.length ca] (oN rfl (sp (.bool (decide ((i:Int) < a.length))) (zjn (cD rfl (fun h4=>?_) (fun h4=>?_))))))
  ·skip
   refine xB (t_n (zx (xq (zx ?_))))
   refine y9 rfl H fun H=>rtp 0 (.slice aa a.length ca) H ?_
   refine rtp 1 (.int .i64 i) H ?_
   obtain ⟨b6,o7,rfl⟩:=H.addr 0 rfl qf
   refine tI 2 rfl rfl rfl H ?_
   refine tL 3 rfl rfl (fun _ h=>h.elemIntN 0 rfl i qf) H ?_
   refine rtp 4 (.slice ab b.length cb) H ?_
   refine rtp 5 (.int .i64 i) H ?_
   obtain ⟨b9,o10,rfl⟩:=H.addr 1 rfl qf
   refine tI 6 rfl rfl rfl H ?_
   refine tL 7 rfl rfl (fun _ h=>h.elemIntN 1 rfl i qf) H ?_
   refine rtp 8 (.bool ((a[i]! :Int) != (b[i]!))) H ?_
   refine xh qh (t_n (xZ ((a[i]! :Int) != (b[i]!)) rfl (fun h12=>?_) (fun h12=>?_)))
   ·skip
    replace h12:=bne_iff_ne.1 h12
    refine zcr (sp (.bool false) (zjr (zr5 (ret1 (.bool false) rfl rfl ⟨_,rfl,?_,H.base⟩))))
    first | rw [decide_eq_false (fun e=>by subst e;omega)] | rw [decide_eq_false (ne_of_get (k:=i) ‹_›)] | rw [decide_eq_false (ne_of_get (k:=i) (by simpa using ‹_›))]
   ·skip
    replace h12:=zT h12
    refine xB (b_n (t_n (zJ (sp (.int .i64 i) (sw (vk i 1 rfl rfl qf (sp (.int .i64 (i+1)) (zK (xH (m' :=(a.length - ((i+1):Int)).toNat) qf ⟨_,i+1,uE3,?_,?_,rfl,N,H⟩)))))))))
    · omega
    · exact eqTo_succ qf qf i1 qg
  ·skip
   refine zx4 (zcr (sp (.bool true) (zjr (ret1 (.bool true) rfl rfl ⟨_,rfl,?_,H.base⟩))))
   rw [decide_eq_true (eq_of_take (k:=i) qf qf i1)]
theorem specValid_ok (w:World) (s:qy) (t:qA) {qC:yOA} {xk:yLN} {qJ:yOA} {xN:yLN} {qU:yOA} {zF:yLN} {xE:yOA} {vF:yLN} {qN:yOA} {zh:yLN} (qW:qR.rep w xk [.slice qC s.qx.length qB] s.qx) (xG:qR.rep w xN [.slice qJ s.qw.length qG] s.qw) (zC:qR.rep w zF [.slice qU t.qF.length qQ] t.qF) (vz:qR.rep w vF [.slice xE t.qL.length xu] t.qL) (zn:qR.rep w zh [.slice qN t.qH.length qM] t.qH):Calls Try.prog 13 #[.agg #[.int .i64 s.qV,.slice qC s.qx.length qB,.slice qJ s.qw.length qG],.agg #[.slice qU t.qF.length qQ,.slice xE t.qL.length xu,.slice qN t.qH.length qM]] w (Ret (fun v w' =>v=.bool (dec (ve s∧xP s t))) w):=by
 refine en Try.func13 Try.ntmps13 ?_
 have H:=(((((St.start w).arg zn).arg vz).arg zC).arg xG).arg qW
 have zY:=qX qW
 have jw:=qX xG
 have Qq:=qX zC
 have nhtBags:=qX vz
 have yM:=qX zn
 clear qW xG zC vz zn
 have N:=Fresh.nil w.heap.size
 refine zcr (sw (vP H [.int .i64 s.qV,.slice qC s.qx.length qB,.slice qJ s.qw.length qG] fun b1 w2 H=>sw (vP H [.slice qU t.qF.length qQ,.slice xE t.qL.length xu,.slice qN t.qH.length qM] fun b3 w4 H=>sp (.bool false) (zjc (sw (oq (l02Ok_ok _ s (qI (H.cells 1 rfl) 0 3) (H.get 0 rfl).1 (H.get 1 rfl).1) H fun w5 H=>sp (.bool (dec (ve s))) ?_))))))
 cases h7:(dec (ve s))
 ·skip
  replace h7:=zD h7
  refine xQ [7] (sps [.bool false,.bool false] (zjr (ret1 (.bool false) rfl rfl ⟨_,rfl,?_,H.base⟩)))
  rw [xg (fun h=>‹¬ ve s› h.1)]
 ·skip
  replace h7:=yg h7
  refine qO 6 rfl rfl (sw (oq (l02State_ok _ s t (qI (H.cells 1 rfl) 0 3) (H.get 0 rfl).1 (H.get 1 rfl).1 (qI (H.cells 0 rfl) 0 3) (H.get 2 rfl).1 (H.get 3 rfl).1 (H.get 4 rfl).1 (by first | assumption | exact (And.left (by assumption:ve _)))) H fun w8 H=>sps [.bool (dec (xP s t)),.bool (dec (xP s t))] (zjr (ret1 (.bool (dec (xP s t))) rfl rfl ⟨_,rfl,?_,H.base⟩))))
  rw [dec_congr (show xP s t↔ve s∧xP s t from ⟨fun h=>⟨by assumption,h⟩,fun h=>h.2⟩)]
theorem implFirst_ok (w:World) (s:qy) (t:qA) {qC:yOA} {xk:yLN} {qJ:yOA} {xN:yLN} {qU:yOA} {zF:yLN} {xE:yOA} {vF:yLN} {qN:yOA} {zh:yLN} (qW:qR.rep w xk [.slice qC s.qx.length qB] s.qx) (xG:qR.rep w xN [.slice qJ s.qw.length qG] s.qw) (zC:qR.rep w zF [.slice qU t.qF.length qQ] t.qF) (vz:qR.rep w vF [.slice xE t.qL.length xu] t.qL) (zn:qR.rep w zh [.slice qN t.qH.length qM] t.qH) (p0:ve s∧xP s t):Calls Try.prog 18 #[.agg #[.int .i64 s.qV,.slice qC s.qx.length qB,.slice qJ s.qw.length qG],.agg #[.slice qU t.qF.length qQ,.slice xE t.qL.length xu,.slice qN t.qH.length qM]] w (Ret (fun v w' =>∃ (ra0:yOA) (rn0:Nat) (rc0:Nat),v=.tuple #[.slice ra0 rn0 rc0,.int .i64 0]∧Fresh w.heap.size []∧St w w' [rr ra0 rn0 rc0 2 1 ((qP s t).map (Value.int .i64))] []) w):=by
 refine en Try.func18 Try.ntmps18 ?_
 have H:=(((((St.start w).arg zn).arg vz).arg zC).arg xG).arg qW
 have zY:=qX qW
 have jw:=qX xG
 have Qq:=qX zC
 have nhtBags:=qX vz
 have yM:=qX zn
 clear qW xG zC vz zn
 have N:=Fresh.nil w.heap.size
 have p1:=p0.1
 have p2:=p0.2
 refine zcr (sw (vP H [.int .i64 s.qV,.slice qC s.qx.length qB,.slice qJ s.qw.length qG] fun b1 w2 H=>sw (vP H [.slice qU t.qF.length qQ,.slice xE t.qL.length xu,.slice qN t.qH.length qM] fun b3 w4 H=>sps [.slice none 0 0,.int .i64 0] (zjcc (sw (zi [.int .i64 s.qV,.slice qC s.qx.length qB,.slice qJ s.qw.length qG] Try.isAgg27 Try.sizeOf27 rfl (qI (H.cells 1 rfl) 0 3) ?_))))))
 refine sw (zi [.slice qU t.qF.length qQ,.slice xE t.qL.length xu,.slice qN t.qH.length qM] Try.isAgg31 Try.sizeOf31 rfl (qI (H.cells 0 rfl) 0 3) (sw (oq (validState_ok _ s t (H.get 0 rfl).1 (H.get 1 rfl).1 (H.get 2 rfl).1 (H.get 3 rfl).1 (H.get 4 rfl).1) H fun w6 H=>sp (.bool (!(dec (ve s∧xP s t)))) (zjn (xZ (!(dec (ve s∧xP s t))) rfl (fun h=>absurd p0 (zD (xF h))) (fun h8=>?_))))))
 replace h8:=xm h8
 replace h8:=yg h8
 refine xB (t_n (zcr (sw (zi [.int .i64 s.qV,.slice qC s.qx.length qB,.slice qJ s.qw.length qG] Try.isAgg27 Try.sizeOf27 rfl (qI (H.cells 1 rfl) 0 3) (sw (zi [.slice qU t.qF.length qQ,.slice xE t.qL.length xu,.slice qN t.qH.length qM] Try.isAgg31 Try.sizeOf31 rfl (qI (H.cells 0 rfl) 0 3) ?_))))))
 have sz12:=H.base.size
 refine sw (oc (firstChoice_ok _ s t (H.get 0 rfl).1 (H.get 1 rfl).1 (H.get 2 rfl).1 (H.get 3 rfl).1 (H.get 4 rfl).1 qg qg) ?_)
 rintro _ w10 ⟨ra9,rn9,rc9,rfl,M,K⟩ _
 replace H:=H.merge K M
 obtain rfl:=H.zQ 0 rfl
 refine sps [.slice ra9 ((qP s t).length) rc9,.int .i64 0] (zjr (ret2 (.slice ra9 ((qP s t).length) rc9) (.int .i64 0) rfl rfl rfl ⟨_,rfl,(⟨ra9,(qP s t).length,rc9,rfl,N,H.pick [0] []⟩),H.base⟩))
theorem law_FnPuts (w:World) (code:List UInt8) (more:List UInt8) (acode:yOA) (ccode:Nat) (Fcode:yLN) (amore:yOA) (cmore:Nat) (Fmore:yLN) (hcode:qR.rep w Fcode [.slice acode code.length ccode] code) (hmore:qR.rep w Fmore [.slice amore more.length cmore] more):Calls Try.prog 4 #[.slice acode code.length ccode,.slice amore more.length cmore] w (Ret (fun v w' =>v=.bool true) w):=by
 refine en Try.func4 Try.ntmps4 ?_
 have H:=((St.start w).arg hmore).arg hcode
 have nhcode:=qX hcode
 have nhmore:=qX hmore
 clear hcode hmore
 have N:=Fresh.nil w.heap.size
 refine zcr (sp (.bool false) (zjcc (sps [.slice acode code.length ccode,.slice amore more.length cmore] (sw (vS #[.slice acode code.length ccode,.slice amore more.length cmore] rfl rfl Try.call6 (en Try.func6 Try.ntmps6 ?_))))))
 refine zcr (sp (.bool false) (zjc (sp (.slice acode code.length ccode) (oN rfl (sps [.bool (decide ((code.length:Int) > 3000)),.bool (decide ((code.length:Int) > 3000))] ?_)))))
 cases h1:(decide ((code.length:Int) > 3000))
 ·skip
  replace h1:=of_decide_eq_false h1
  refine qO 8 rfl rfl (sp (.slice amore more.length cmore) (qO 8 rfl rfl (oN rfl (qO 8 rfl rfl (sps [.bool (decide ((more.length:Int) > 3000)),.bool (decide ((more.length:Int) > 3000)),.bool (decide ((more.length:Int) > 3000))] (zjr (ret1 (.bool (decide ((more.length:Int) > 3000))) rfl rfl ⟨_,rfl,(zjn (cD rfl (fun h2=>?_) (fun h2=>?_)))⟩)))))))
  ·skip
   refine zcr (sp (.bool true) (zjr (t_r (ret1 (.bool true) rfl rfl ⟨_,rfl,?_,H.base⟩))))
   rfl
  ·skip
   refine xB (t_n (zcr (sp (.slice acode code.length ccode) ?_)))
   have H1:St w w [] [sF false Fcode acode ccode code,sF false Fmore amore cmore more]:=H.pick [] [0,1]
   have N1:Fresh _ []:=N
   have K1:Kept [] [sF false Fmore amore cmore more]:=Kept.nil _
   refine sw (xI #[.slice acode code.length ccode] rfl rfl Try.call17 (a2Tissue_ok code acode ccode Fcode H1 N1 K1 ) ?_)
   clear H H1 N1 K1
   rintro _ w3 ⟨zi10,zl11,zR12,zm13,zL14,zl15,zl16,ra17,rn18,rc19,ra20,rn21,rc22,rx23,rF24,ra25,rn26,rc27,ra28,rn29,rc30,rx31,rF32,ra33,rn34,rc35,ra36,rn37,rc38,hx5,hx6,hx7,hx8,hx9,rfl,N,H⟩
   obtain rfl:=H.zQ 0 rfl
   obtain rfl:=H.zy (α:=vU) 1 rfl 1 rfl qj
   obtain rfl:=H.rowNB 2 rfl
   obtain rfl:=H.zy (α:=yLI) 3 rfl 2 rfl qj
   obtain rfl:=H.zQ 4 rfl
   obtain rfl:=H.zQ 5 rfl
   have sd:=(‹SysDr _ _ _›)
   have td:=(‹StDr _ _ _ _ _ _›)
   have Z:=putsAt_of sd td (‹AllTo _›) (‹MildTo _ _›)
   have k0:ve (⟨zi10,zl11,zR12⟩:qy)∧xP (⟨zi10,zl11,zR12⟩:qy) (⟨zm13,zL14,zl15⟩:qA):=⟨Z.sys,Z.st⟩
   have sc:=sd.cells
   have la:=td.la
   have lb:=td.lb
   have eK:xY (⟨zi10,zl11,zR12⟩:qy)=zi10.toNat:=rfl
   have eN:xJ (⟨zi10,zl11,zR12⟩:qy)=zl11.length:=rfl
   have kb:=sd.kinds
   have fr:=sd.few
   have fl:(qP (⟨zi10,zl11,zR12⟩:qy) (⟨zm13,zL14,zl15⟩:qA)).length=zR12.length:=(first_cnt Z.sys Z.st).1
   obtain ⟨z1,z2,z4,_,_⟩:=Z.by
   have z3:=And.intro Z.sys z4
   have ub:(xX (⟨zi10,zl11,zR12⟩:qy) (⟨zm13,zL14,zl15⟩:qA) (qP (⟨zi10,zl11,zR12⟩:qy) (⟨zm13,zL14,zl15⟩:qA))).1.qL.length=zl11.length:=z4.2.1
   have k1:=k0.1
   have k2:=k0.2
   have k3:=first_cnt k1 k2
   refine sps [.tuple #[.agg #[.int .i64 zi10,.slice ra17 zl11.length rc19,.slice ra20 zR12.length rc22],.slice ra36 zl16.length rc38,.agg #[.slice ra25 zm13.length rc27,.slice ra28 zL14.length rc30,.slice ra33 zl15.length rc35]],.agg #[.int .i64 zi10,.slice ra17 zl11.length rc19,.slice ra20 zR12.length rc22],.slice ra36 zl16.length rc38,.agg #[.slice ra25 zm13.length rc27,.slice ra28 zL14.length rc30,.slice ra33 zl15.length rc35]] (sw (xx H ti27 [.int .i64 0,.slice none 0 0,.slice none 0 0] fun b39 w40 H=>sw (xx H ti31 [.slice none 0 0,.slice none 0 0,.slice none 0 0] fun b41 w42 H=>?_)))
   refine sw (xf H 1 [.int .i64 zi10,.slice ra17 zl11.length rc19,.slice ra20 zR12.length rc22] Try.sizeOf27 fun w43 H=>sp (.slice ra36 zl16.length rc38) (sw (xf H 0 [.slice ra25 zm13.length rc27,.slice ra28 zL14.length rc30,.slice ra33 zl15.length rc35] Try.sizeOf31 fun w44 H=>zjc (sw (zi [.int .i64 zi10,.slice ra17 zl11.length rc19,.slice ra20 zR12.length rc22] Try.isAgg27 Try.sizeOf27 rfl (qI (H.cells 1 rfl) 0 3) (sw (zi [.slice ra25 zm13.length rc27,.slice ra28 zL14.length rc30,.slice ra33 zl15.length rc35] Try.isAgg31 Try.sizeOf31 rfl (qI (H.cells 0 rfl) 0 3) ?_)))))))
   obtain ⟨G45,hn46,h47⟩:=H.rowIsI 2 rfl
   obtain ⟨G48,hn49,h50⟩:=H.rowIsR (α:=vU) 3 rfl 1 rfl qj
   obtain ⟨G51,hn52,h53⟩:=H.rowIsB 4 rfl
   obtain ⟨G54,hn55,h56⟩:=H.rowIsR (α:=yLI) 5 rfl 2 rfl qj
   obtain ⟨G57,hn58,h59⟩:=H.rowIsI 6 rfl
   have sz63:=H.base.size
   refine sw (oc (implFirst_ok _ (⟨zi10,zl11,zR12⟩:qy) (⟨zm13,zL14,zl15⟩:qA) h47 h50 h53 h56 h59 qg) ?_)
   rintro _ w61 ⟨ra60a,rn60a,rc60a,rfl,M,K⟩ _
   replace H:=H.merge K M
   obtain rfl:=H.zQ 0 rfl
   refine sps [.tuple #[.slice ra60a ((qP (⟨zi10,zl11,zR12⟩:qy) (⟨zm13,zL14,zl15⟩:qA)).length) rc60a,.int .i64 0],.slice ra60a ((qP (⟨zi10,zl11,zR12⟩:qy) (⟨zm13,zL14,zl15⟩:qA)).length) rc60a,.int .i64 0,.slice ra60a ((qP (⟨zi10,zl11,zR12⟩:qy) (⟨zm13,zL14,zl15⟩:qA)).length) rc60a,.int .i64 0] (zjc (sw (zi [.int .i64 zi10,.slice ra17 zl11.length rc19,.slice ra20 zR12.length rc22] Try.isAgg27 Try.sizeOf27 rfl (qI (H.cells 2 rfl) 0 3) ?_)))
   refine sw (zi [.slice ra25 zm13.length rc27,.slice ra28 zL14.length rc30,.slice ra33 zl15.length rc35] Try.isAgg31 Try.sizeOf31 rfl (qI (H.cells 1 rfl) 0 3) (sp (.slice ra60a ((qP (⟨zi10,zl11,zR12⟩:qy) (⟨zm13,zL14,zl15⟩:qA)).length) rc60a) ?_))
   obtain ⟨G66,hn67,h68⟩:=H.rowIsI 3 rfl
   obtain ⟨G69,hn70,h71⟩:=H.rowIsR (α:=vU) 4 rfl 1 rfl qj
   obtain ⟨G72,hn73,h74⟩:=H.rowIsB 5 rfl
   obtain ⟨G75,hn76,h77⟩:=H.rowIsR (α:=yLI) 6 rfl 2 rfl qj
   obtain ⟨G78,hn79,h80⟩:=H.rowIsI 7 rfl
   obtain ⟨G81,hn82,h83⟩:=H.rowIsI 0 rfl
   have sz87:=H.base.size
   have lt88:=H.ltN (L:=[rF32]) [2]
   refine sw (oc (implBy_ok _ (⟨zi10,zl11,zR12⟩:qy) (⟨zm13,zL14,zl15⟩:qA) (qP (⟨zi10,zl11,zR12⟩:qy) (⟨zm13,zL14,zl15⟩:qA)) h68 h71 h74 h77 h80 h83) ?_)
   rintro _ w85 ⟨ra84aAlive,rn84aAlive,rc84aAlive,ra84aBags,rn84aBags,rc84aBags,rx84aBags,rF84aBags,ra84aAround,rn84aAround,rc84aAround,rfl,M,K⟩ _
   replace N:=N.merge sz87 lt88 M
   replace H:=H.merge K M
   obtain rfl:=H.rowNB 0 rfl
   obtain rfl:=H.zy (α:=yLI) 1 rfl 0 rfl qj
   obtain rfl:=H.zQ 2 rfl
   refine sps [.tuple #[.agg #[.slice ra84aAlive ((((xX (⟨zi10,zl11,zR12⟩:qy) (⟨zm13,zL14,zl15⟩:qA) (qP (⟨zi10,zl11,zR12⟩:qy) (⟨zm13,zL14,zl15⟩:qA))).1).qF).length) rc84aAlive,.slice ra84aBags ((((xX (⟨zi10,zl11,zR12⟩:qy) (⟨zm13,zL14,zl15⟩:qA) (qP (⟨zi10,zl11,zR12⟩:qy) (⟨zm13,zL14,zl15⟩:qA))).1).qL).length) rc84aBags,.slice ra84aAround ((((xX (⟨zi10,zl11,zR12⟩:qy) (⟨zm13,zL14,zl15⟩:qA) (qP (⟨zi10,zl11,zR12⟩:qy) (⟨zm13,zL14,zl15⟩:qA))).1).qH).length) rc84aAround],.int .i64 ((xX (⟨zi10,zl11,zR12⟩:qy) (⟨zm13,zL14,zl15⟩:qA) (qP (⟨zi10,zl11,zR12⟩:qy) (⟨zm13,zL14,zl15⟩:qA))).2)],.agg #[.slice ra84aAlive ((((xX (⟨zi10,zl11,zR12⟩:qy) (⟨zm13,zL14,zl15⟩:qA) (qP (⟨zi10,zl11,zR12⟩:qy) (⟨zm13,zL14,zl15⟩:qA))).1).qF).length) rc84aAlive,.slice ra84aBags ((((xX (⟨zi10,zl11,zR12⟩:qy) (⟨zm13,zL14,zl15⟩:qA) (qP (⟨zi10,zl11,zR12⟩:qy) (⟨zm13,zL14,zl15⟩:qA))).1).qL).length) rc84aBags,.slice ra84aAround ((((xX (⟨zi10,zl11,zR12⟩:qy) (⟨zm13,zL14,zl15⟩:qA) (qP (⟨zi10,zl11,zR12⟩:qy) (⟨zm13,zL14,zl15⟩:qA))).1).qH).length) rc84aAround],.int .i64 ((xX (⟨zi10,zl11,zR12⟩:qy) (⟨zm13,zL14,zl15⟩:qA) (qP (⟨zi10,zl11,zR12⟩:qy) (⟨zm13,zL14,zl15⟩:qA))).2)] ?_
   refine sw (xx H ti31 [.slice none 0 0,.slice none 0 0,.slice none 0 0] fun b92 w93 H=>?_)
   refine sw (xf H 0 [.slice ra84aAlive ((((xX (⟨zi10,zl11,zR12⟩:qy) (⟨zm13,zL14,zl15⟩:qA) (qP (⟨zi10,zl11,zR12⟩:qy) (⟨zm13,zL14,zl15⟩:qA))).1).qF).length) rc84aAlive,.slice ra84aBags ((((xX (⟨zi10,zl11,zR12⟩:qy) (⟨zm13,zL14,zl15⟩:qA) (qP (⟨zi10,zl11,zR12⟩:qy) (⟨zm13,zL14,zl15⟩:qA))).1).qL).length) rc84aBags,.slice ra84aAround ((((xX (⟨zi10,zl11,zR12⟩:qy) (⟨zm13,zL14,zl15⟩:qA) (qP (⟨zi10,zl11,zR12⟩:qy) (⟨zm13,zL14,zl15⟩:qA))).1).qH).length) rc84aAround] Try.sizeOf31 fun w94 H=>?_)
   refine sp (.int .i64 ((xX (⟨zi10,zl11,zR12⟩:qy) (⟨zm13,zL14,zl15⟩:qA) (qP (⟨zi10,zl11,zR12⟩:qy) (⟨zm13,zL14,zl15⟩:qA))).2)) (zjcc (sps [.int .i64 0,.bool false,.bool false] (qO 47 rfl rfl (sp (.int .i64 ((xX (⟨zi10,zl11,zR12⟩:qy) (⟨zm13,zL14,zl15⟩:qA) (qP (⟨zi10,zl11,zR12⟩:qy) (⟨zm13,zL14,zl15⟩:qA))).2)) (qO 47 rfl rfl ?_)))))
   refine sps [.bool (((xX (⟨zi10,zl11,zR12⟩:qy) (⟨zm13,zL14,zl15⟩:qA) (qP (⟨zi10,zl11,zR12⟩:qy) (⟨zm13,zL14,zl15⟩:qA))).2:Int) != 0),.bool (((xX (⟨zi10,zl11,zR12⟩:qy) (⟨zm13,zL14,zl15⟩:qA) (qP (⟨zi10,zl11,zR12⟩:qy) (⟨zm13,zL14,zl15⟩:qA))).2:Int) != 0),.bool (((xX (⟨zi10,zl11,zR12⟩:qy) (⟨zm13,zL14,zl15⟩:qA) (qP (⟨zi10,zl11,zR12⟩:qy) (⟨zm13,zL14,zl15⟩:qA))).2:Int) != 0)] ?_
   cases h95:(((xX (⟨zi10,zl11,zR12⟩:qy) (⟨zm13,zL14,zl15⟩:qA) (qP (⟨zi10,zl11,zR12⟩:qy) (⟨zm13,zL14,zl15⟩:qA))).2:Int) != 0)
   ·skip
    replace h95:=zT h95
    refine qO 51 rfl rfl (sp (.slice ra60a ((qP (⟨zi10,zl11,zR12⟩:qy) (⟨zm13,zL14,zl15⟩:qA)).length) rc60a) (qO 51 rfl rfl (oN rfl (qO 51 rfl rfl (oF rfl (qO 51 rfl rfl (oL rfl (H.cell 6 rfl rfl) (qO 51 rfl rfl (oN rfl (qO 51 rfl rfl (sps [.bool (((qP (⟨zi10,zl11,zR12⟩:qy) (⟨zm13,zL14,zl15⟩:qA)).length:Int) != zR12.length),.bool (((qP (⟨zi10,zl11,zR12⟩:qy) (⟨zm13,zL14,zl15⟩:qA)).length:Int) != zR12.length),.bool (((qP (⟨zi10,zl11,zR12⟩:qy) (⟨zm13,zL14,zl15⟩:qA)).length:Int) != zR12.length)] ?_)))))))))))
    cases h96:(((qP (⟨zi10,zl11,zR12⟩:qy) (⟨zm13,zL14,zl15⟩:qA)).length:Int) != zR12.length)
    ·skip
     replace h96:=zT h96
     refine qO 59 rfl rfl (sw (zi [.int .i64 zi10,.slice ra17 zl11.length rc19,.slice ra20 zR12.length rc22] Try.isAgg27 Try.sizeOf27 rfl (qI (H.cells 6 rfl) 0 3) (qO 59 rfl rfl ?_)))
     refine sw (zi [.slice ra84aAlive ((((xX (⟨zi10,zl11,zR12⟩:qy) (⟨zm13,zL14,zl15⟩:qA) (qP (⟨zi10,zl11,zR12⟩:qy) (⟨zm13,zL14,zl15⟩:qA))).1).qF).length) rc84aAlive,.slice ra84aBags ((((xX (⟨zi10,zl11,zR12⟩:qy) (⟨zm13,zL14,zl15⟩:qA) (qP (⟨zi10,zl11,zR12⟩:qy) (⟨zm13,zL14,zl15⟩:qA))).1).qL).length) rc84aBags,.slice ra84aAround ((((xX (⟨zi10,zl11,zR12⟩:qy) (⟨zm13,zL14,zl15⟩:qA) (qP (⟨zi10,zl11,zR12⟩:qy) (⟨zm13,zL14,zl15⟩:qA))).1).qH).length) rc84aAround] Try.isAgg31 Try.sizeOf31 rfl (qI (H.cells 0 rfl) 0 3) (qO 59 rfl rfl ?_))
     obtain ⟨G97,hn98,h99⟩:=H.rowIsI 7 rfl
     obtain ⟨G100,hn101,h102⟩:=H.rowIsR (α:=vU) 8 rfl 2 rfl qj
     obtain ⟨G103,hn104,h105⟩:=H.rowIsB 1 rfl
     obtain ⟨G106,hn107,h108⟩:=H.rowIsR (α:=yLI) 2 rfl 0 rfl qj
     obtain ⟨G109,hn110,h111⟩:=H.rowIsI 3 rfl
     refine sw (oq (specValid_ok _ (⟨zi10,zl11,zR12⟩:qy) ((xX (⟨zi10,zl11,zR12⟩:qy) (⟨zm13,zL14,zl15⟩:qA) (qP (⟨zi10,zl11,zR12⟩:qy) (⟨zm13,zL14,zl15⟩:qA))).1) h99 h102 h105 h108 h111) H fun w113 H=>qO 59 rfl rfl ?_)
     refine sps [.bool (!(dec (ve (⟨zi10,zl11,zR12⟩:qy)∧xP (⟨zi10,zl11,zR12⟩:qy) ((xX (⟨zi10,zl11,zR12⟩:qy) (⟨zm13,zL14,zl15⟩:qA) (qP (⟨zi10,zl11,zR12⟩:qy) (⟨zm13,zL14,zl15⟩:qA))).1)))),.bool (!(dec (ve (⟨zi10,zl11,zR12⟩:qy)∧xP (⟨zi10,zl11,zR12⟩:qy) ((xX (⟨zi10,zl11,zR12⟩:qy) (⟨zm13,zL14,zl15⟩:qA) (qP (⟨zi10,zl11,zR12⟩:qy) (⟨zm13,zL14,zl15⟩:qA))).1))))] (zjn ?_)
     refine xZ (!(dec (ve (⟨zi10,zl11,zR12⟩:qy)∧xP (⟨zi10,zl11,zR12⟩:qy) ((xX (⟨zi10,zl11,zR12⟩:qy) (⟨zm13,zL14,zl15⟩:qA) (qP (⟨zi10,zl11,zR12⟩:qy) (⟨zm13,zL14,zl15⟩:qA))).1)))) rfl (fun h=>absurd z3 (zD (xF h))) (fun h115=>?_)
     replace h115:=xm h115
     replace h115:=yg h115
     obtain ⟨G116,N,hn117,H⟩:=H.freezeB 1 rfl N (H.jC [0,3])
     have H0:=H
     obtain ⟨G118,hg120,hn119,H⟩:=H.freezeR (α:=yLI) 2 rfl 1 rfl qj
     replace N:Fresh w.heap.size [G118,G116,rF32]:=Fresh.ice (N.pick [1,0,2]) H0 2 hg120.1 hg120.2 (H0.jC [0,4])
     clear H0
     obtain ⟨G121,N,hn122,H⟩:=H.zX 3 rfl N (H.jC [0,1,5])
     obtain ⟨G123,N,hn124,H⟩:=H.freezeB 9 rfl N (H.jC [0,1,2,6])
     have H0:=H
     obtain ⟨G125,hg127,hn126,H⟩:=H.freezeR (α:=yLI) 10 rfl 7 rfl qj
     replace N:Fresh w.heap.size [G125,G123,G121,G118,G116]:=Fresh.ice (N.pick [4,0,1,2,3]) H0 10 hg127.1 hg127.2 (H0.jC [0,1,2,3])
     clear H0
     obtain ⟨G128,N,hn129,H⟩:=H.zX 11 rfl N (H.jC [0,1,2,3,4])
     obtain ⟨G130,N,hn131,H⟩:=H.zX 7 rfl N (H.jC [0,1,2,3,4,5])
     obtain ⟨G132,hg134,hn133,H⟩:=H.freezeR (α:=vU) 8 rfl 9 rfl qj
     obtain ⟨G135,N,hn136,H⟩:=H.zX 12 rfl N (H.jC [1,2,3,4,5,6,7])
     obtain ⟨G137,N,hn138,H⟩:=H.zX 4 rfl N (H.jC [0,2,3,4,5,6,7,8])
     have B0:=H.base
     have H:=H.rebase [atF b92 0 [.slice ra84aAlive ((((xX (⟨zi10,zl11,zR12⟩:qy) (⟨zm13,zL14,zl15⟩:qA) (qP (⟨zi10,zl11,zR12⟩:qy) (⟨zm13,zL14,zl15⟩:qA))).1).qF).length) rc84aAlive,.slice ra84aBags ((((xX (⟨zi10,zl11,zR12⟩:qy) (⟨zm13,zL14,zl15⟩:qA) (qP (⟨zi10,zl11,zR12⟩:qy) (⟨zm13,zL14,zl15⟩:qA))).1).qL).length) rc84aBags,.slice ra84aAround ((((xX (⟨zi10,zl11,zR12⟩:qy) (⟨zm13,zL14,zl15⟩:qA) (qP (⟨zi10,zl11,zR12⟩:qy) (⟨zm13,zL14,zl15⟩:qA))).1).qH).length) rc84aAround],atF b41 0 [.slice ra25 zm13.length rc27,.slice ra28 zL14.length rc30,.slice ra33 zl15.length rc35],atF b39 0 [.int .i64 zi10,.slice ra17 zl11.length rc19,.slice ra20 zR12.length rc22],sF true G137 ra60a rc60a (qP (⟨zi10,zl11,zR12⟩:qy) (⟨zm13,zL14,zl15⟩:qA)),sF true G135 ra36 rc38 zl16,sF false G132 ra20 rc22 zR12,sF true G130 ra17 rc19 zl11,sF true G128 ra33 rc35 zl15,sF true G125 ra28 rc30 zL14,sF true G123 ra25 rc27 zm13,sF true G121 ra84aAround rc84aAround (((xX (⟨zi10,zl11,zR12⟩:qy) (⟨zm13,zL14,zl15⟩:qA) (qP (⟨zi10,zl11,zR12⟩:qy) (⟨zm13,zL14,zl15⟩:qA))).1).qH),sF true G118 ra84aBags rc84aBags (((xX (⟨zi10,zl11,zR12⟩:qy) (⟨zm13,zL14,zl15⟩:qA) (qP (⟨zi10,zl11,zR12⟩:qy) (⟨zm13,zL14,zl15⟩:qA))).1).qL),sF true G116 ra84aAlive rc84aAlive (((xX (⟨zi10,zl11,zR12⟩:qy) (⟨zm13,zL14,zl15⟩:qA) (qP (⟨zi10,zl11,zR12⟩:qy) (⟨zm13,zL14,zl15⟩:qA))).1).qF),sF false Fcode acode ccode code,sF false Fmore amore cmore more] (yC (old_box H 0 rfl) (yC (old_box H 5 rfl) (yC (old_box H 6 rfl) (yC (QU H 0 rfl) (yC (QU H 1 rfl) (yC (QU H 2 rfl) (yC (QU H 3 rfl) (yC (QU H 4 rfl) (yC (QU H 5 rfl) (yC (QU H 6 rfl) (yC (QU H 7 rfl) (yC (QU H 8 rfl) (yC (QU H 9 rfl) (yC (QU H 11 rfl) (yC (QU H 14 rfl) olds_nil)))))))))))))))
     have N:=Fresh.nil w113.heap.size
     have HB:=H
     refine xB (t_n (zcr (sw (o_build0 H Try.underlying29 ti24 fun b139 w140 H=>sp (.slice (some ⟨b139,0,none⟩) 0 0) (zjcc (sp (.int .i64 0) (zjn (xq ?_))))))))
     replace H:=H.boxRow 0 rfl 1 0 rfl qj
     replace H:=H.Qn (α:=OwnI 2)
     refine vg (fun m' ρ w141=>∃ (zB:Env) (a_due:yOA) (yu:Nat) (c_due:Nat) (due:List (OwnI 2)) (x_due:List Value) (F_due:yLN) (c:Nat),ρ=upd (upd (upd (upd (upd (upd zB 5 (.pointer (some ⟨b39,0,none⟩))) 7 (.pointer (some ⟨b41,0,none⟩))) 8 (.slice ra60a ((qP (⟨zi10,zl11,zR12⟩:qy) (⟨zm13,zL14,zl15⟩:qA)).length) rc60a)) 10 (.pointer (some ⟨b92,0,none⟩))) 12 (.slice a_due yu c_due)) 13 (.int .i64 c)∧((c:Int)≤zL14.length)∧(DueIs (xY (⟨zi10,zl11,zR12⟩:qy)) due (c) (base0 (⟨zi10,zl11,zR12⟩:qy) (⟨zm13,zL14,zl15⟩:qA)))∧m' =(zL14.length - (c:Int)).toNat∧Fresh w113.heap.size [F_due]∧St w113 w141 [rr a_due yu c_due 24 1 x_due] [xe true F_due x_due due,atF b92 0 [.slice ra84aAlive ((((xX (⟨zi10,zl11,zR12⟩:qy) (⟨zm13,zL14,zl15⟩:qA) (qP (⟨zi10,zl11,zR12⟩:qy) (⟨zm13,zL14,zl15⟩:qA))).1).qF).length) rc84aAlive,.slice ra84aBags ((((xX (⟨zi10,zl11,zR12⟩:qy) (⟨zm13,zL14,zl15⟩:qA) (qP (⟨zi10,zl11,zR12⟩:qy) (⟨zm13,zL14,zl15⟩:qA))).1).qL).length) rc84aBags,.slice ra84aAround ((((xX (⟨zi10,zl11,zR12⟩:qy) (⟨zm13,zL14,zl15⟩:qA) (qP (⟨zi10,zl11,zR12⟩:qy) (⟨zm13,zL14,zl15⟩:qA))).1).qH).length) rc84aAround],atF b41 0 [.slice ra25 zm13.length rc27,.slice ra28 zL14.length rc30,.slice ra33 zl15.length rc35],atF b39 0 [.int .i64 zi10,.slice ra17 zl11.length rc19,.slice ra20 zR12.length rc22],sF true G137 ra60a rc60a (qP (⟨zi10,zl11,zR12⟩:qy) (⟨zm13,zL14,zl15⟩:qA)),sF false G132 ra20 rc22 zR12,sF true G130 ra17 rc19 zl11,sF true G128 ra33 rc35 zl15,sF true G125 ra28 rc30 zL14,sF true G123 ra25 rc27 zm13,sF true G121 ra84aAround rc84aAround (((xX (⟨zi10,zl11,zR12⟩:qy) (⟨zm13,zL14,zl15⟩:qA) (qP (⟨zi10,zl11,zR12⟩:qy) (⟨zm13,zL14,zl15⟩:qA))).1).qH),sF true G118 ra84aBags rc84aBags (((xX (⟨zi10,zl11,zR12⟩:qy) (⟨zm13,zL14,zl15⟩:qA) (qP (⟨zi10,zl11,zR12⟩:qy) (⟨zm13,zL14,zl15⟩:qA))).1).qL),sF true G116 ra84aAlive rc84aAlive (((xX (⟨zi10,zl11,zR12⟩:qy) (⟨zm13,zL14,zl15⟩:qA) (qP (⟨zi10,zl11,zR12⟩:qy) (⟨zm13,zL14,zl15⟩:qA))).1).qF)]) ((zL14.length - (0:Int)).toNat) ⟨_,(some ⟨b139,0,none⟩),0,0,([]:List (OwnI 2)),[],[],0,uE6,qf,(by exact DueIs.nil),rfl,N.emp,H.pick [0] [0,1,2,3,4,6,7,8,9,10,11,12,13]⟩ ?_
     clear H N
     rintro m' ρ w142 ⟨zB,a_due,yu,c_due,due,x_due,F_due,c,rfl,i0,D0,rfl,N,H⟩
     have hn_due:=H.zy (α:=OwnI 2) 0 rfl 0 rfl qj
     have dl:=D0.1
     refine zcc (sp (.int .i64 c) (oF rfl (oL rfl (H.zZ 2 rfl 1 rfl) (oN rfl (sp (.bool (decide ((c:Int) < zL14.length))) (zjn (cD rfl (fun h143=>?_) (fun h143=>?_))))))))
     ·skip
      have bl:(zL14[c]!).length=zi10.toNat:=(Z.bagOf (c:=c) qf).1
      have rl:zl15.length=zi10.toNat:=Z.rimOf.1
      refine xB (t_n (zx (xq (zJ (sp (.slice a_due yu c_due) (sw (o_build0 H Try.underlying24 ti2 fun b144 w145 H=>oF rfl (oL rfl (H.zZ 2 rfl 1 rfl) (sp (.int .i64 c) ?_)))))))))
      obtain ⟨b146,o147,rfl⟩:=H.addr 8 rfl qf
      obtain ⟨ae149,ce149,Fe149,HB⟩:=HB.QH 8 rfl c c qf qf qf
      replace H:St w113 w145 [.box b144 [] 2,rr a_due yu c_due 24 1 x_due] [sF true Fe149 ae149 ce149 (zL14[c]!),atF b146 (o147+(c:Int).toNat * 1) [.slice ae149 ((zL14[c]!).length) ce149],xe true F_due x_due due,atF b92 0 [.slice ra84aAlive ((((xX (⟨zi10,zl11,zR12⟩:qy) (⟨zm13,zL14,zl15⟩:qA) (qP (⟨zi10,zl11,zR12⟩:qy) (⟨zm13,zL14,zl15⟩:qA))).1).qF).length) rc84aAlive,.slice ra84aBags ((((xX (⟨zi10,zl11,zR12⟩:qy) (⟨zm13,zL14,zl15⟩:qA) (qP (⟨zi10,zl11,zR12⟩:qy) (⟨zm13,zL14,zl15⟩:qA))).1).qL).length) rc84aBags,.slice ra84aAround ((((xX (⟨zi10,zl11,zR12⟩:qy) (⟨zm13,zL14,zl15⟩:qA) (qP (⟨zi10,zl11,zR12⟩:qy) (⟨zm13,zL14,zl15⟩:qA))).1).qH).length) rc84aAround],atF b41 0 [.slice ra25 zm13.length rc27,.slice (some ⟨b146,o147,none⟩) zL14.length rc30,.slice ra33 zl15.length rc35],atF b39 0 [.int .i64 zi10,.slice ra17 zl11.length rc19,.slice ra20 zR12.length rc22],sF true G137 ra60a rc60a (qP (⟨zi10,zl11,zR12⟩:qy) (⟨zm13,zL14,zl15⟩:qA)),sF false G132 ra20 rc22 zR12,sF true G130 ra17 rc19 zl11,sF true G128 ra33 rc35 zl15,sF true G125 (some ⟨b146,o147,none⟩) rc30 zL14,sF true G123 ra25 rc27 zm13,sF true G121 ra84aAround rc84aAround (((xX (⟨zi10,zl11,zR12⟩:qy) (⟨zm13,zL14,zl15⟩:qA) (qP (⟨zi10,zl11,zR12⟩:qy) (⟨zm13,zL14,zl15⟩:qA))).1).qH),sF true G118 ra84aBags rc84aBags (((xX (⟨zi10,zl11,zR12⟩:qy) (⟨zm13,zL14,zl15⟩:qA) (qP (⟨zi10,zl11,zR12⟩:qy) (⟨zm13,zL14,zl15⟩:qA))).1).qL),sF true G116 ra84aAlive rc84aAlive (((xX (⟨zi10,zl11,zR12⟩:qy) (⟨zm13,zL14,zl15⟩:qA) (qP (⟨zi10,zl11,zR12⟩:qy) (⟨zm13,zL14,zl15⟩:qA))).1).qF)]:=H.oldies HB 2
      refine oI rfl rfl (oL rfl (H.zZ 1 rfl 0 rfl) ?_)
      replace H:=H.boxRowI 0 [] 0
      refine sw (o_appendIR H 0 rfl 0 rfl Try.underlying24 ti2 rfl rfl rfl qp qf fun a150 c151 w152 H=>?_)
      rw [catI] at H
      refine sw (vV H Try.underlying29 ti24 [.slice a150 (0+((zL14[c]!).length)) c151] fun b153 w154 H=>sw (vW H 2 rfl 0 rfl Try.underlying29 ti24 rfl qj rfl rfl rfl (by simp [Value.oneCell',Value.cells]) qp qf fun a155 c156 w157 H=>?_))
      obtain ⟨F158,N,H⟩:=H.snocI 1 rfl 2 rfl (N:Fresh w113.heap.size [F_due]) (H.jC [])
      refine sp (.slice a155 (yu+1) c156) (zK (b_n (t_n (zJ (sp (.int .i64 c) (sw (vk c 1 rfl rfl qf (sp (.int .i64 (c+1)) (zK (xH (m' :=(zL14.length - ((c+1):Int)).toNat) qf ⟨_,a155,yu+1,c156,(due++[⟨(([]:yLI)++(zL14[c]!))⟩]),x_due++[.slice a150 (0+((zL14[c]!).length)) c151],F158,c+1,uE6,?_,?_,rfl,N,H.pick [2] [0,4,5,6,7,8,9,10,11,12,13,14,15]⟩))))))))))
      · omega
      · exact D0.snoc (Z.bagOf (c:=c) qf).1 (Z.bagOf (c:=c) qf).2
     ·skip
      have rl:zl15.length=zi10.toNat:=Z.rimOf.1
      refine zx4 (zcr (sp (.slice a_due yu c_due) (sw (o_build0 H Try.underlying24 ti2 fun b159 w160 H=>oF rfl (oL rfl (H.zZ 2 rfl 2 rfl) ?_)))))
      replace H:=H.boxRowI 0 [] 0
      refine sw (o_appendIR H 0 rfl 7 rfl Try.underlying24 ti2 rfl rfl rfl qp qf fun a161 c162 w163 H=>?_)
      rw [catI] at H
      refine sw (vV H Try.underlying29 ti24 [.slice a161 (0+zl15.length) c162] fun b164 w165 H=>sw (vW H 2 rfl 0 rfl Try.underlying29 ti24 rfl qj rfl rfl rfl (by simp [Value.oneCell',Value.cells]) qp qf fun a166 c167 w168 H=>?_))
      obtain ⟨F169,N,H⟩:=H.snocI 1 rfl 0 rfl (N:Fresh w113.heap.size [F_due]) (H.jC [])
      refine sp (.slice a166 (yu+1) c167) (zjcc (sp (.int .i64 0) (zjn (xq ?_))))
      refine vg (fun m' ρ w170=>∃ (zB:Env) (i:Nat) (due_1:List (OwnI 2)) (x_due_1:List Value) (F_due_1:yLN),ρ=upd (upd (upd (upd (upd (upd zB 5 (.pointer (some ⟨b39,0,none⟩))) 7 (.pointer (some ⟨b41,0,none⟩))) 8 (.slice ra60a ((qP (⟨zi10,zl11,zR12⟩:qy) (⟨zm13,zL14,zl15⟩:qA)).length) rc60a)) 10 (.pointer (some ⟨b92,0,none⟩))) 12 (.slice a166 (yu+1) c167)) 14 (.int .i64 i)∧((i:Int)≤((qP (⟨zi10,zl11,zR12⟩:qy) (⟨zm13,zL14,zl15⟩:qA)).length))∧(DueIs (xY (⟨zi10,zl11,zR12⟩:qy)) due_1 (xJ (⟨zi10,zl11,zR12⟩:qy)+1) (dueN (⟨zi10,zl11,zR12⟩:qy) (⟨zm13,zL14,zl15⟩:qA) i))∧m' =(((qP (⟨zi10,zl11,zR12⟩:qy) (⟨zm13,zL14,zl15⟩:qA)).length) - (i:Int)).toNat∧Fresh w113.heap.size [F_due_1]∧St w113 w170 [.box b164 [.slice a161 (0+zl15.length) c162] 24,rr a166 (yu+1) c167 24 1 x_due_1] [xe true F_due_1 x_due_1 due_1,atF b92 0 [.slice ra84aAlive ((((xX (⟨zi10,zl11,zR12⟩:qy) (⟨zm13,zL14,zl15⟩:qA) (qP (⟨zi10,zl11,zR12⟩:qy) (⟨zm13,zL14,zl15⟩:qA))).1).qF).length) rc84aAlive,.slice ra84aBags ((((xX (⟨zi10,zl11,zR12⟩:qy) (⟨zm13,zL14,zl15⟩:qA) (qP (⟨zi10,zl11,zR12⟩:qy) (⟨zm13,zL14,zl15⟩:qA))).1).qL).length) rc84aBags,.slice ra84aAround ((((xX (⟨zi10,zl11,zR12⟩:qy) (⟨zm13,zL14,zl15⟩:qA) (qP (⟨zi10,zl11,zR12⟩:qy) (⟨zm13,zL14,zl15⟩:qA))).1).qH).length) rc84aAround],atF b41 0 [.slice ra25 zm13.length rc27,.slice ra28 zL14.length rc30,.slice ra33 zl15.length rc35],atF b39 0 [.int .i64 zi10,.slice ra17 zl11.length rc19,.slice ra20 zR12.length rc22],sF true G137 ra60a rc60a (qP (⟨zi10,zl11,zR12⟩:qy) (⟨zm13,zL14,zl15⟩:qA)),sF false G132 ra20 rc22 zR12,sF true G130 ra17 rc19 zl11,sF true G128 ra33 rc35 zl15,sF true G125 ra28 rc30 zL14,sF true G123 ra25 rc27 zm13,sF true G121 ra84aAround rc84aAround (((xX (⟨zi10,zl11,zR12⟩:qy) (⟨zm13,zL14,zl15⟩:qA) (qP (⟨zi10,zl11,zR12⟩:qy) (⟨zm13,zL14,zl15⟩:qA))).1).qH),sF true G118 ra84aBags rc84aBags (((xX (⟨zi10,zl11,zR12⟩:qy) (⟨zm13,zL14,zl15⟩:qA) (qP (⟨zi10,zl11,zR12⟩:qy) (⟨zm13,zL14,zl15⟩:qA))).1).qL),sF true G116 ra84aAlive rc84aAlive (((xX (⟨zi10,zl11,zR12⟩:qy) (⟨zm13,zL14,zl15⟩:qA) (qP (⟨zi10,zl11,zR12⟩:qy) (⟨zm13,zL14,zl15⟩:qA))).1).qF)]) ((((qP (⟨zi10,zl11,zR12⟩:qy) (⟨zm13,zL14,zl15⟩:qA)).length) - (0:Int)).toNat) ⟨_,0,(due++[⟨(([]:yLI)++zl15)⟩]),x_due++[.slice a161 (0+zl15.length) c162],F169,uE6,qf,(by exact ((D0.cast (by omega:c=xJ _)).snoc Z.rimOf.1 Z.rimOf.2).to (fun p q _ _=>dueN_0 p q)),rfl,N,H.pick [0,2] [0,2,3,4,5,6,7,8,9,10,11,12,13]⟩ ?_
      clear H N
      rintro m' ρ w171 ⟨zB,i,due_1,x_due_1,F_due_1,rfl,i0,D1,rfl,N,H⟩
      have hn_due:=H.zy (α:=OwnI 2) 1 rfl 0 rfl qj
      refine zcc (sps [.int .i64 i,.slice ra60a ((qP (⟨zi10,zl11,zR12⟩:qy) (⟨zm13,zL14,zl15⟩:qA)).length) rc60a] (oN rfl (sp (.bool (decide ((i:Int) < ((qP (⟨zi10,zl11,zR12⟩:qy) (⟨zm13,zL14,zl15⟩:qA)).length)))) (zjn (cD rfl (fun h172=>?_) (fun h172=>?_))))))
      ·skip
       have hi:i < ((⟨zi10,zl11,zR12⟩:qy)).qw.length:=by show i < zR12.length;omega
       have rc:(0≤(zR12[i]!).qE∧(zR12[i]!).qE.toNat < zl11.length)∧((zR12[i]!).xn).length=zi10.toNat:=Z.rule hi
       have dl:=D1.1
       refine xB (t_n (zx (xq (zcr (oF rfl (oL rfl (H.zZ 3 rfl 2 rfl) (sp (.int .i64 i) ?_)))))))
       obtain ⟨b173,o174,rfl⟩:=H.addr 5 rfl qf
       obtain ⟨ae176Need,ce176Need,Fe176Need,ae176Have,ce176Have,Fe176Have,ae176Lack,ce176Lack,Fe176Lack,ae176Here,ce176Here,Fe176Here,ae176Out,ce176Out,Fe176Out,ae176Into,ce176Into,Fe176Into,HB⟩:=HB.Qm 5 rfl i i qf qf qf
       replace H:St w113 w171 [.box b164 [.slice a161 (0+zl15.length) c162] 24,rr a166 (yu+1) c167 24 1 x_due_1] [sF false Fe176Need ae176Need ce176Need ((zR12[i]!).xn),sF false Fe176Have ae176Have ce176Have ((zR12[i]!).zf),sF false Fe176Lack ae176Lack ce176Lack ((zR12[i]!).x8),sF false Fe176Here ae176Here ce176Here ((zR12[i]!).xW),sF false Fe176Out ae176Out ce176Out ((zR12[i]!).vC),sF false Fe176Into ae176Into ce176Into ((zR12[i]!).qK),atF b173 (o174+(i:Int).toNat * 9) [.int .i64 ((zR12[i]!).qE),.int .i64 ((zR12[i]!).zS),.slice ae176Need (((zR12[i]!).xn).length) ce176Need,.slice ae176Have (((zR12[i]!).zf).length) ce176Have,.slice ae176Lack (((zR12[i]!).x8).length) ce176Lack,.slice ae176Here (((zR12[i]!).xW).length) ce176Here,.slice ae176Out (((zR12[i]!).vC).length) ce176Out,.slice ae176Into (((zR12[i]!).qK).length) ce176Into,.bool ((zR12[i]!).xU)],xe true F_due_1 x_due_1 due_1,atF b92 0 [.slice ra84aAlive ((((xX (⟨zi10,zl11,zR12⟩:qy) (⟨zm13,zL14,zl15⟩:qA) (qP (⟨zi10,zl11,zR12⟩:qy) (⟨zm13,zL14,zl15⟩:qA))).1).qF).length) rc84aAlive,.slice ra84aBags ((((xX (⟨zi10,zl11,zR12⟩:qy) (⟨zm13,zL14,zl15⟩:qA) (qP (⟨zi10,zl11,zR12⟩:qy) (⟨zm13,zL14,zl15⟩:qA))).1).qL).length) rc84aBags,.slice ra84aAround ((((xX (⟨zi10,zl11,zR12⟩:qy) (⟨zm13,zL14,zl15⟩:qA) (qP (⟨zi10,zl11,zR12⟩:qy) (⟨zm13,zL14,zl15⟩:qA))).1).qH).length) rc84aAround],atF b41 0 [.slice ra25 zm13.length rc27,.slice ra28 zL14.length rc30,.slice ra33 zl15.length rc35],atF b39 0 [.int .i64 zi10,.slice ra17 zl11.length rc19,.slice (some ⟨b173,o174,none⟩) zR12.length rc22],sF true G137 ra60a rc60a (qP (⟨zi10,zl11,zR12⟩:qy) (⟨zm13,zL14,zl15⟩:qA)),sF false G132 (some ⟨b173,o174,none⟩) rc22 zR12,sF true G130 ra17 rc19 zl11,sF true G128 ra33 rc35 zl15,sF true G125 ra28 rc30 zL14,sF true G123 ra25 rc27 zm13,sF true G121 ra84aAround rc84aAround (((xX (⟨zi10,zl11,zR12⟩:qy) (⟨zm13,zL14,zl15⟩:qA) (qP (⟨zi10,zl11,zR12⟩:qy) (⟨zm13,zL14,zl15⟩:qA))).1).qH),sF true G118 ra84aBags rc84aBags (((xX (⟨zi10,zl11,zR12⟩:qy) (⟨zm13,zL14,zl15⟩:qA) (qP (⟨zi10,zl11,zR12⟩:qy) (⟨zm13,zL14,zl15⟩:qA))).1).qL),sF true G116 ra84aAlive rc84aAlive (((xX (⟨zi10,zl11,zR12⟩:qy) (⟨zm13,zL14,zl15⟩:qA) (qP (⟨zi10,zl11,zR12⟩:qy) (⟨zm13,zL14,zl15⟩:qA))).1).qF)]:=H.oldies HB 7
       refine oI rfl rfl (sw (zi [.int .i64 ((zR12[i]!).qE),.int .i64 ((zR12[i]!).zS),.slice ae176Need (((zR12[i]!).xn).length) ce176Need,.slice ae176Have (((zR12[i]!).zf).length) ce176Have,.slice ae176Lack (((zR12[i]!).x8).length) ce176Lack,.slice ae176Here (((zR12[i]!).xW).length) ce176Here,.slice ae176Out (((zR12[i]!).vC).length) ce176Out,.slice ae176Into (((zR12[i]!).qK).length) ce176Into,.bool ((zR12[i]!).xU)] Try.isAgg51 Try.sizeOf51 rfl (qI (H.get 6 rfl) 0 9) ?_))
       refine sw (xx H ti51 [.int .i64 0,.int .i64 0,.slice none 0 0,.slice none 0 0,.slice none 0 0,.slice none 0 0,.slice none 0 0,.slice none 0 0,.bool false] fun b177 w178 H=>sw (xf H 0 [.int .i64 ((zR12[i]!).qE),.int .i64 ((zR12[i]!).zS),.slice ae176Need (((zR12[i]!).xn).length) ce176Need,.slice ae176Have (((zR12[i]!).zf).length) ce176Have,.slice ae176Lack (((zR12[i]!).x8).length) ce176Lack,.slice ae176Here (((zR12[i]!).xW).length) ce176Here,.slice ae176Out (((zR12[i]!).vC).length) ce176Out,.slice ae176Into (((zR12[i]!).qK).length) ce176Into,.bool ((zR12[i]!).xU)] Try.sizeOf51 fun w179 H=>zjc ?_))
       refine sp (.int .i64 0) (zjn (xq ?_))
       refine vg (fun m' ρ w180=>∃ (zB:Env) (k:Nat) (due_51:List (OwnI 2)) (Qo:List Value) (Qr:yLN),ρ=upd (upd (upd (upd (upd (upd (upd (upd zB 5 (.pointer (some ⟨b39,0,none⟩))) 7 (.pointer (some ⟨b41,0,none⟩))) 8 (.slice ra60a ((qP (⟨zi10,zl11,zR12⟩:qy) (⟨zm13,zL14,zl15⟩:qA)).length) rc60a)) 10 (.pointer (some ⟨b92,0,none⟩))) 12 (.slice a166 (yu+1) c167)) 14 (.int .i64 i)) 15 (.pointer (some ⟨b177,0,none⟩))) 16 (.int .i64 k)∧((k:Int)≤(((zR12[i]!).xn).length))∧(DueIs (xY (⟨zi10,zl11,zR12⟩:qy)) due_51 (xJ (⟨zi10,zl11,zR12⟩:qy)+1) (dueK (⟨zi10,zl11,zR12⟩:qy) (⟨zm13,zL14,zl15⟩:qA) i k))∧m' =((((zR12[i]!).xn).length) - (k:Int)).toNat∧Fresh w113.heap.size [Qr]∧St w113 w180 [.box b177 [.int .i64 ((zR12[i]!).qE),.int .i64 ((zR12[i]!).zS),.slice ae176Need (((zR12[i]!).xn).length) ce176Need,.slice ae176Have (((zR12[i]!).zf).length) ce176Have,.slice ae176Lack (((zR12[i]!).x8).length) ce176Lack,.slice ae176Here (((zR12[i]!).xW).length) ce176Here,.slice ae176Out (((zR12[i]!).vC).length) ce176Out,.slice ae176Into (((zR12[i]!).qK).length) ce176Into,.bool ((zR12[i]!).xU)] 51,.box b164 [.slice a161 (0+zl15.length) c162] 24,rr a166 (yu+1) c167 24 1 Qo] [sF false Fe176Need ae176Need ce176Need ((zR12[i]!).xn),sF false Fe176Have ae176Have ce176Have ((zR12[i]!).zf),sF false Fe176Lack ae176Lack ce176Lack ((zR12[i]!).x8),sF false Fe176Here ae176Here ce176Here ((zR12[i]!).xW),sF false Fe176Out ae176Out ce176Out ((zR12[i]!).vC),sF false Fe176Into ae176Into ce176Into ((zR12[i]!).qK),atF b173 (o174+(i:Int).toNat * 9) [.int .i64 ((zR12[i]!).qE),.int .i64 ((zR12[i]!).zS),.slice ae176Need (((zR12[i]!).xn).length) ce176Need,.slice ae176Have (((zR12[i]!).zf).length) ce176Have,.slice ae176Lack (((zR12[i]!).x8).length) ce176Lack,.slice ae176Here (((zR12[i]!).xW).length) ce176Here,.slice ae176Out (((zR12[i]!).vC).length) ce176Out,.slice ae176Into (((zR12[i]!).qK).length) ce176Into,.bool ((zR12[i]!).xU)],xe true Qr Qo due_51,atF b92 0 [.slice ra84aAlive ((((xX (⟨zi10,zl11,zR12⟩:qy) (⟨zm13,zL14,zl15⟩:qA) (qP (⟨zi10,zl11,zR12⟩:qy) (⟨zm13,zL14,zl15⟩:qA))).1).qF).length) rc84aAlive,.slice ra84aBags ((((xX (⟨zi10,zl11,zR12⟩:qy) (⟨zm13,zL14,zl15⟩:qA) (qP (⟨zi10,zl11,zR12⟩:qy) (⟨zm13,zL14,zl15⟩:qA))).1).qL).length) rc84aBags,.slice ra84aAround ((((xX (⟨zi10,zl11,zR12⟩:qy) (⟨zm13,zL14,zl15⟩:qA) (qP (⟨zi10,zl11,zR12⟩:qy) (⟨zm13,zL14,zl15⟩:qA))).1).qH).length) rc84aAround],atF b41 0 [.slice ra25 zm13.length rc27,.slice ra28 zL14.length rc30,.slice ra33 zl15.length rc35],atF b39 0 [.int .i64 zi10,.slice ra17 zl11.length rc19,.slice (some ⟨b173,o174,none⟩) zR12.length rc22],sF true G137 ra60a rc60a (qP (⟨zi10,zl11,zR12⟩:qy) (⟨zm13,zL14,zl15⟩:qA)),sF false G132 (some ⟨b173,o174,none⟩) rc22 zR12,sF true G130 ra17 rc19 zl11,sF true G128 ra33 rc35 zl15,sF true G125 ra28 rc30 zL14,sF true G123 ra25 rc27 zm13,sF true G121 ra84aAround rc84aAround (((xX (⟨zi10,zl11,zR12⟩:qy) (⟨zm13,zL14,zl15⟩:qA) (qP (⟨zi10,zl11,zR12⟩:qy) (⟨zm13,zL14,zl15⟩:qA))).1).qH),sF true G118 ra84aBags rc84aBags (((xX (⟨zi10,zl11,zR12⟩:qy) (⟨zm13,zL14,zl15⟩:qA) (qP (⟨zi10,zl11,zR12⟩:qy) (⟨zm13,zL14,zl15⟩:qA))).1).qL),sF true G116 ra84aAlive rc84aAlive (((xX (⟨zi10,zl11,zR12⟩:qy) (⟨zm13,zL14,zl15⟩:qA) (qP (⟨zi10,zl11,zR12⟩:qy) (⟨zm13,zL14,zl15⟩:qA))).1).qF)]) (((((zR12[i]!).xn).length) - (0:Int)).toNat) ⟨_,0,due_1,x_due_1,F_due_1,uE8,qf,(by exact D1.to (fun p q _ _=>dueK_0 i p q)),rfl,N,H⟩ ?_
       clear H N
       rintro m' ρ w181 ⟨zB,k,due_51,Qo,Qr,rfl,i0,D2,rfl,N,H⟩
       have hn_due:=H.zy (α:=OwnI 2) 2 rfl 7 rfl qj
       refine zcc (sp (.int .i64 k) (oF rfl (oL rfl (H.cell 0 rfl rfl) (oN rfl (sp (.bool (decide ((k:Int) < (((zR12[i]!).xn).length)))) (zjn (cD rfl (fun h182=>?_) (fun h182=>?_))))))))
       ·skip
        have hk:k < xY (⟨zi10,zl11,zR12⟩:qy):=by omega
        have mb:0≤(qP (⟨zi10,zl11,zR12⟩:qy) (⟨zm13,zL14,zl15⟩:qA))[i]! * ((zR12[i]!).xn)[k]! ∧(qP (⟨zi10,zl11,zR12⟩:qy) (⟨zm13,zL14,zl15⟩:qA))[i]! * ((zR12[i]!).xn)[k]! ≤6000:=Z.need hi hk
        have dv:=D2.at' (p:=((zR12[i]!).qE).toNat) qf hk
        have db:=Z.dueK_bd (m:=i) (k:=k) (p:=((zR12[i]!).qE).toNat) (q:=k) hi qf hk
        have dm:=D2.len (p:=((zR12[i]!).qE).toNat) qf
        rw [← dv] at db
        have dn:=D2.1
        refine xB (t_n (zx (xq ?_)))
        refine QM rfl H [0,1] [0,1,2,3,4,5,6,8,9,10,11,12,13,14,15,16,17,18,19] fun H=>?_
        have S:=H.jm [0,1] [0,1,2,3,4,5,6,8,9,10,11,12,13,14,15,16,17,18,19]
        refine rtp 0 (.slice a166 (yu+1) c167) S ?_
        refine tF 1 rfl rfl S ?_
        refine tL 2 rfl rfl (fun _ h=>h.cell 0 rfl rfl) S ?_
        obtain ⟨b184,rfl⟩:=H.Qv 2 rfl qf
        have S:=H.jm [0,1] [0,1,2,3,4,5,6,8,9,10,11,12,13,14,15,16,17,18,19]
        refine tI 3 rfl rfl rfl S ?_
        refine rtp 5 (.int .i64 k) S ?_
        refine rtp 8 (.slice ra60a ((qP (⟨zi10,zl11,zR12⟩:qy) (⟨zm13,zL14,zl15⟩:qA)).length) rc60a) S ?_
        refine rtp 9 (.int .i64 i) S ?_
        obtain ⟨b185,o186,rfl⟩:=H.addr 11 rfl qf
        have S:=H.jm [0,1] [0,1,2,3,4,5,6,8,9,10,11,12,13,14,15,16,17,18,19]
        refine tI 10 rfl rfl rfl S ?_
        refine tL 11 rfl rfl (fun _ h=>h.elemIntN 10 rfl i qf) S ?_
        refine tF 12 rfl rfl S ?_
        refine tL 13 rfl rfl (fun _ h=>h.cell 0 rfl rfl) S ?_
        refine rtp 14 (.int .i64 k) S ?_
        obtain ⟨b188,o189,rfl⟩:=H.addr 0 rfl qf
        have S:=H.jm [0,1] [0,1,2,3,4,5,6,8,9,10,11,12,13,14,15,16,17,18,19]
        refine tI 15 rfl rfl rfl S ?_
        refine tL 16 rfl rfl (fun _ h=>h.elemIntN 0 rfl k qf) S ?_
        refine rt 17 (.int .i64 (((qP (⟨zi10,zl11,zR12⟩:qy) (⟨zm13,zL14,zl15⟩:qA))[i]!) * (((zR12[i]!).xn)[k]!))) (y_mul ((qP (⟨zi10,zl11,zR12⟩:qy) (⟨zm13,zL14,zl15⟩:qA))[i]!) (((zR12[i]!).xn)[k]!) rfl rfl qf) S ?_
        refine ro 4 rfl ?_
        obtain ⟨a191,c192,hx193⟩:=H.innerHead 7 rfl (((zR12[i]!).qE).toNat) qf
        refine zk (.slice a191 ((due_51[((zR12[i]!).qE).toNat]!).l.length) c192) Try.isAgg24 rfl (H.rowGet 2 rfl (by rw [show 0+((zR12[i]!).qE:Int).toNat * 1=((zR12[i]!).qE).toNat by omega];exact hx193)) (⟨H.pick [0,1] [0,1,2,3,4,5,6,8,9,10,11,12,13,14,15,16,17,18,19],?_⟩)
        obtain ⟨b194,rfl⟩:=H.innerAddr 7 rfl (((zR12[i]!).qE).toNat) qf hx193 qf
        refine tI 6 rfl rfl rfl (H.pick [0,1] [0,1,2,3,4,5,6,8,9,10,11,12,13,14,15,16,17,18,19]) ?_
        refine ro 7 rfl (zk (.int .i64 ((due_51[((zR12[i]!).qE).toNat]!).l[k]!)) Try.isAgg2 rfl (H.innerInt 7 rfl (((zR12[i]!).qE).toNat) qf hx193 (iv:=k) (k:=k) qf qf) (⟨H.pick [0,1] [0,1,2,3,4,5,6,8,9,10,11,12,13,14,15,16,17,18,19],?_⟩))
        have S:=H.jm [0,1] [0,1,2,3,4,5,6,8,9,10,11,12,13,14,15,16,17,18,19]
        refine rt 18 (.int .i64 (((due_51[((zR12[i]!).qE).toNat]!).l[k]!) - (((qP (⟨zi10,zl11,zR12⟩:qy) (⟨zm13,zL14,zl15⟩:qA))[i]!) * (((zR12[i]!).xn)[k]!)))) (y_sub ((due_51[((zR12[i]!).qE).toNat]!).l[k]!) (((qP (⟨zi10,zl11,zR12⟩:qy) (⟨zm13,zL14,zl15⟩:qA))[i]!) * (((zR12[i]!).xn)[k]!)) rfl rfl qf) S ?_
        refine tI 19 rfl rfl rfl S ?_
        refine ro 20 rfl ?_
        have N0:=(N:Fresh w113.heap.size [Qr])
        refine o_storeII H 2 rfl 7 rfl N0 (H.jC []) [sF false Fe176Need (some ⟨b188,o189,none⟩) ce176Need ((zR12[i]!).xn),sF false Fe176Have ae176Have ce176Have ((zR12[i]!).zf),sF false Fe176Lack ae176Lack ce176Lack ((zR12[i]!).x8),sF false Fe176Here ae176Here ce176Here ((zR12[i]!).xW),sF false Fe176Out ae176Out ce176Out ((zR12[i]!).vC),sF false Fe176Into ae176Into ce176Into ((zR12[i]!).qK),atF b173 (o174+(i:Int).toNat * 9) [.int .i64 ((zR12[i]!).qE),.int .i64 ((zR12[i]!).zS),.slice (some ⟨b188,o189,none⟩) (((zR12[i]!).xn).length) ce176Need,.slice ae176Have (((zR12[i]!).zf).length) ce176Have,.slice ae176Lack (((zR12[i]!).x8).length) ce176Lack,.slice ae176Here (((zR12[i]!).xW).length) ce176Here,.slice ae176Out (((zR12[i]!).vC).length) ce176Out,.slice ae176Into (((zR12[i]!).qK).length) ce176Into,.bool ((zR12[i]!).xU)],atF b92 0 [.slice ra84aAlive ((((xX (⟨zi10,zl11,zR12⟩:qy) (⟨zm13,zL14,zl15⟩:qA) (qP (⟨zi10,zl11,zR12⟩:qy) (⟨zm13,zL14,zl15⟩:qA))).1).qF).length) rc84aAlive,.slice ra84aBags ((((xX (⟨zi10,zl11,zR12⟩:qy) (⟨zm13,zL14,zl15⟩:qA) (qP (⟨zi10,zl11,zR12⟩:qy) (⟨zm13,zL14,zl15⟩:qA))).1).qL).length) rc84aBags,.slice ra84aAround ((((xX (⟨zi10,zl11,zR12⟩:qy) (⟨zm13,zL14,zl15⟩:qA) (qP (⟨zi10,zl11,zR12⟩:qy) (⟨zm13,zL14,zl15⟩:qA))).1).qH).length) rc84aAround],atF b41 0 [.slice ra25 zm13.length rc27,.slice ra28 zL14.length rc30,.slice ra33 zl15.length rc35],atF b39 0 [.int .i64 zi10,.slice ra17 zl11.length rc19,.slice (some ⟨b173,o174,none⟩) zR12.length rc22],sF true G137 (some ⟨b185,o186,none⟩) rc60a (qP (⟨zi10,zl11,zR12⟩:qy) (⟨zm13,zL14,zl15⟩:qA)),sF false G132 (some ⟨b173,o174,none⟩) rc22 zR12,sF true G130 ra17 rc19 zl11,sF true G128 ra33 rc35 zl15,sF true G125 ra28 rc30 zL14,sF true G123 ra25 rc27 zm13,sF true G121 ra84aAround rc84aAround (((xX (⟨zi10,zl11,zR12⟩:qy) (⟨zm13,zL14,zl15⟩:qA) (qP (⟨zi10,zl11,zR12⟩:qy) (⟨zm13,zL14,zl15⟩:qA))).1).qH),sF true G118 ra84aBags rc84aBags (((xX (⟨zi10,zl11,zR12⟩:qy) (⟨zm13,zL14,zl15⟩:qA) (qP (⟨zi10,zl11,zR12⟩:qy) (⟨zm13,zL14,zl15⟩:qA))).1).qL),sF true G116 ra84aAlive rc84aAlive (((xX (⟨zi10,zl11,zR12⟩:qy) (⟨zm13,zL14,zl15⟩:qA) (qP (⟨zi10,zl11,zR12⟩:qy) (⟨zm13,zL14,zl15⟩:qA))).1).qF)] (qY (kept 0 rfl (xR (HB.ltF 0 rfl) N0)) (qY (kept 1 rfl (xR (HB.ltF 1 rfl) N0)) (qY (kept 2 rfl (xR (HB.ltF 2 rfl) N0)) (qY (kept 3 rfl (xR (HB.ltF 3 rfl) N0)) (qY (kept 4 rfl (xR (HB.ltF 4 rfl) N0)) (qY (kept 5 rfl (xR (HB.ltF 5 rfl) N0)) (qY (kept 6 rfl (xR (HB.ltF 6 rfl) N0)) (qY (kept 8 rfl (xR (HB.ltF 7 rfl) N0)) (qY (kept 9 rfl (xR (HB.ltF 8 rfl) N0)) (qY (kept 10 rfl (xR (HB.ltF 9 rfl) N0)) (qY (kept 11 rfl (xR (HB.ltF 10 rfl) N0)) (qY (kept 12 rfl (xR (HB.ltF 12 rfl) N0)) (qY (kept 13 rfl (xR (HB.ltF 13 rfl) N0)) (qY (kept 14 rfl (xR (HB.ltF 14 rfl) N0)) (qY (kept 15 rfl (xR (HB.ltF 15 rfl) N0)) (qY (kept 16 rfl (xR (HB.ltF 16 rfl) N0)) (qY (kept 17 rfl (xR (HB.ltF 17 rfl) N0)) (qY (kept 18 rfl (xR (HB.ltF 18 rfl) N0)) (qY (kept 19 rfl (xR (HB.ltF 19 rfl) N0)) keeps_nil))))))))))))))))))) (((zR12[i]!).qE).toNat) qf hx193 (((due_51[((zR12[i]!).qE).toNat]!).l[k]!) - (((qP (⟨zi10,zl11,zR12⟩:qy) (⟨zm13,zL14,zl15⟩:qA))[i]!) * (((zR12[i]!).xn)[k]!))) Try.sizeOf2 rfl rfl (q:=k) qf qf fun w195 F196 N H=>?_
        refine ⟨H.pick [0,1] [1,2,3,4,5,6,7,8,9,10,11,12,13,14,15,16,17,18,19],(xh qh (b_n (t_n (zJ (sp (.int .i64 k) (sw (vk k 1 rfl rfl qf (sp (.int .i64 (k+1)) (zK (xH (m' :=((((zR12[i]!).xn).length) - ((k+1):Int)).toNat) qf ⟨_,k+1,(due_51.set (((zR12[i]!).qE).toNat) ⟨(due_51[((zR12[i]!).qE).toNat]!).l.set k (((due_51[((zR12[i]!).qE).toNat]!).l[k]!) - (((qP (⟨zi10,zl11,zR12⟩:qy) (⟨zm13,zL14,zl15⟩:qA))[i]!) * (((zR12[i]!).xn)[k]!)))⟩),Qo,F196,uE8,?_,?_,rfl,N,H.pick [0,1,2] [1,2,3,4,5,6,7,0,8,9,10,11,12,13,14,15,16,17,18,19]⟩))))))))))⟩
        · omega
        · rw [dv];exact D2.put qf hk (fun p q _ _=>dueK_put p q)
       ·skip
        refine c_exit (t_x (t_x (b_x (b_n (t_n (zJ (sp (.int .i64 i) (sw (vk i 1 rfl rfl qf (sp (.int .i64 (i+1)) (zK (xH (m' :=(((qP (⟨zi10,zl11,zR12⟩:qy) (⟨zm13,zL14,zl15⟩:qA)).length) - ((i+1):Int)).toNat) qf ⟨_,i+1,due_51,Qo,Qr,uE6,?_,?_,rfl,N,H.pick [1,2] [7,8,9,10,11,12,13,14,15,16,17,18,19]⟩))))))))))))
        · omega
        · exact D2.to (fun p q _ hq=>by rw [show k=xY (⟨zi10,zl11,zR12⟩:qy) by omega];exact dueK_end p hq)
      ·skip
       refine zx4 (zcc (sp (.int .i64 0) (zjn (xq ?_))))
       refine vg (fun m' ρ w197=>∃ (zB:Env) (c_1:Nat) (due_51:List (OwnI 2)) (Qo:List Value) (Qr:yLN),ρ=upd (upd (upd (upd (upd zB 5 (.pointer (some ⟨b39,0,none⟩))) 7 (.pointer (some ⟨b41,0,none⟩))) 10 (.pointer (some ⟨b92,0,none⟩))) 12 (.slice a166 (yu+1) c167)) 17 (.int .i64 c_1)∧((c_1:Int)≤zL14.length)∧(DueIs (xY (⟨zi10,zl11,zR12⟩:qy)) due_51 (xJ (⟨zi10,zl11,zR12⟩:qy)+1) (dueP (⟨zi10,zl11,zR12⟩:qy) (⟨zm13,zL14,zl15⟩:qA) c_1))∧m' =(zL14.length - (c_1:Int)).toNat∧Fresh w113.heap.size [Qr]∧St w113 w197 [.box b164 [.slice a161 (0+zl15.length) c162] 24,rr a166 (yu+1) c167 24 1 Qo] [xe true Qr Qo due_51,atF b92 0 [.slice ra84aAlive ((((xX (⟨zi10,zl11,zR12⟩:qy) (⟨zm13,zL14,zl15⟩:qA) (qP (⟨zi10,zl11,zR12⟩:qy) (⟨zm13,zL14,zl15⟩:qA))).1).qF).length) rc84aAlive,.slice ra84aBags ((((xX (⟨zi10,zl11,zR12⟩:qy) (⟨zm13,zL14,zl15⟩:qA) (qP (⟨zi10,zl11,zR12⟩:qy) (⟨zm13,zL14,zl15⟩:qA))).1).qL).length) rc84aBags,.slice ra84aAround ((((xX (⟨zi10,zl11,zR12⟩:qy) (⟨zm13,zL14,zl15⟩:qA) (qP (⟨zi10,zl11,zR12⟩:qy) (⟨zm13,zL14,zl15⟩:qA))).1).qH).length) rc84aAround],atF b41 0 [.slice ra25 zm13.length rc27,.slice ra28 zL14.length rc30,.slice ra33 zl15.length rc35],atF b39 0 [.int .i64 zi10,.slice ra17 zl11.length rc19,.slice ra20 zR12.length rc22],sF false G132 ra20 rc22 zR12,sF true G130 ra17 rc19 zl11,sF true G128 ra33 rc35 zl15,sF true G125 ra28 rc30 zL14,sF true G123 ra25 rc27 zm13,sF true G121 ra84aAround rc84aAround (((xX (⟨zi10,zl11,zR12⟩:qy) (⟨zm13,zL14,zl15⟩:qA) (qP (⟨zi10,zl11,zR12⟩:qy) (⟨zm13,zL14,zl15⟩:qA))).1).qH),sF true G118 ra84aBags rc84aBags (((xX (⟨zi10,zl11,zR12⟩:qy) (⟨zm13,zL14,zl15⟩:qA) (qP (⟨zi10,zl11,zR12⟩:qy) (⟨zm13,zL14,zl15⟩:qA))).1).qL),sF true G116 ra84aAlive rc84aAlive (((xX (⟨zi10,zl11,zR12⟩:qy) (⟨zm13,zL14,zl15⟩:qA) (qP (⟨zi10,zl11,zR12⟩:qy) (⟨zm13,zL14,zl15⟩:qA))).1).qF)]) ((zL14.length - (0:Int)).toNat) ⟨_,0,due_1,x_due_1,F_due_1,uE5,qf,(by exact D1.to (fun p q _ _=>by rw [show i=zR12.length by omega];exact dueP_0 p q)),rfl,N,H.pick [0,1] [0,1,2,3,5,6,7,8,9,10,11,12]⟩ ?_
       clear H N
       rintro m' ρ w198 ⟨zB,c_1,due_51,Qo,Qr,rfl,i0,D3,rfl,N,H⟩
       have hn_due:=H.zy (α:=OwnI 2) 1 rfl 0 rfl qj
       refine zcc (sp (.int .i64 c_1) (oF rfl (oL rfl (H.zZ 2 rfl 1 rfl) (oN rfl (sp (.bool (decide ((c_1:Int) < zL14.length))) (zjn (cD rfl (fun h199=>?_) (fun h199=>?_))))))))
       ·skip
        obtain ⟨q1,q2,q3⟩:=Z.res (c:=c_1) qf
        refine xB (t_n (zx (xq (zcr (sw (zi [.int .i64 zi10,.slice ra17 zl11.length rc19,.slice ra20 zR12.length rc22] Try.isAgg27 Try.sizeOf27 rfl (qI (H.get 3 rfl) 0 3) (sw (zi [.slice ra25 zm13.length rc27,.slice ra28 zL14.length rc30,.slice ra33 zl15.length rc35] Try.isAgg31 Try.sizeOf31 rfl (qI (H.get 2 rfl) 0 3) (sp (.int .i64 c_1) ?_)))))))))
        have sz203:=H.base.size
        have lt204:=H.ltN (L:=[Qr]) [0]
        refine sw (oc (implPuts_ok _ (⟨zi10,zl11,zR12⟩:qy) (⟨zm13,zL14,zl15⟩:qA) c_1 (H.get 5 rfl).1 (H.get 4 rfl).1 (H.get 8 rfl).1 (H.get 7 rfl).1 (H.get 6 rfl).1) ?_)
        rintro _ w201 ⟨ra200a,rn200a,rc200a,rx200a,rF200a,rfl,M,K⟩ _
        replace N:=N.merge sz203 lt204 M
        replace H:=H.merge K M
        obtain rfl:=H.zy (α:=yLI) 0 rfl 0 rfl qj
        refine sps [.tuple #[.slice ra200a (((xO (⟨zi10,zl11,zR12⟩:qy) (⟨zm13,zL14,zl15⟩:qA) c_1).1).length) rc200a,.int .i64 ((xO (⟨zi10,zl11,zR12⟩:qy) (⟨zm13,zL14,zl15⟩:qA) c_1).2)],.slice ra200a (((xO (⟨zi10,zl11,zR12⟩:qy) (⟨zm13,zL14,zl15⟩:qA) c_1).1).length) rc200a,.int .i64 ((xO (⟨zi10,zl11,zR12⟩:qy) (⟨zm13,zL14,zl15⟩:qA) c_1).2),.slice ra200a (((xO (⟨zi10,zl11,zR12⟩:qy) (⟨zm13,zL14,zl15⟩:qA) c_1).1).length) rc200a,.int .i64 ((xO (⟨zi10,zl11,zR12⟩:qy) (⟨zm13,zL14,zl15⟩:qA) c_1).2)] (zjcc ?_)
        refine sps [.int .i64 ((xO (⟨zi10,zl11,zR12⟩:qy) (⟨zm13,zL14,zl15⟩:qA) c_1).2),.bool (((xO (⟨zi10,zl11,zR12⟩:qy) (⟨zm13,zL14,zl15⟩:qA) c_1).2:Int) != 0),.bool (((xO (⟨zi10,zl11,zR12⟩:qy) (⟨zm13,zL14,zl15⟩:qA) c_1).2:Int) != 0)] ?_
        cases h206:(((xO (⟨zi10,zl11,zR12⟩:qy) (⟨zm13,zL14,zl15⟩:qA) c_1).2:Int) != 0)
        ·skip
         replace h206:=zT h206
         refine qO 144 rfl rfl (sp (.slice ra200a (((xO (⟨zi10,zl11,zR12⟩:qy) (⟨zm13,zL14,zl15⟩:qA) c_1).1).length) rc200a) (qO 144 rfl rfl (oN rfl (qO 144 rfl rfl (sp (.slice a166 (yu+1) c167) (qO 144 rfl rfl (oN rfl (qO 144 rfl rfl (sps [.bool ((((xO (⟨zi10,zl11,zR12⟩:qy) (⟨zm13,zL14,zl15⟩:qA) c_1).1).length:Int) != (yu+1)),.bool ((((xO (⟨zi10,zl11,zR12⟩:qy) (⟨zm13,zL14,zl15⟩:qA) c_1).1).length:Int) != (yu+1))] (zjn ?_))))))))))
         refine xZ ((((xO (⟨zi10,zl11,zR12⟩:qy) (⟨zm13,zL14,zl15⟩:qA) c_1).1).length:Int) != (yu+1)) rfl (fun h207=>?_) (fun h207=>?_)
         ·skip
          replace h207:=bne_iff_ne.1 h207
          refine zcr (sp (.bool false) (zjr (t_r (zr5 (ret1 (.bool false) rfl rfl ⟨_,rfl,?_,(Ext.trans' B0 H.base)⟩)))))
          exfalso;first | omega | contradiction
         ·skip
          replace h207:=zT h207
          refine xB (t_n (zcr (sp (.int .i64 0) (zjn (xq ?_)))))
          refine vg (fun m' ρ w208=>∃ (zB:Env) (x:Nat) (due_52:List (OwnI 2)) (x_due_52:List Value) (F_due_52:yLN),ρ=upd (upd (upd (upd (upd (upd (upd (upd (upd (upd (upd (upd zB 5 (.pointer (some ⟨b39,0,none⟩))) 7 (.pointer (some ⟨b41,0,none⟩))) 10 (.pointer (some ⟨b92,0,none⟩))) 12 (.slice a166 (yu+1) c167)) 17 (.int .i64 c_1)) 18 (.slice ra200a (((xO (⟨zi10,zl11,zR12⟩:qy) (⟨zm13,zL14,zl15⟩:qA) c_1).1).length) rc200a)) 20 (.int .i64 x)) 145 (.slice ra200a (((xO (⟨zi10,zl11,zR12⟩:qy) (⟨zm13,zL14,zl15⟩:qA) c_1).1).length) rc200a)) 146 (.int .i64 (((xO (⟨zi10,zl11,zR12⟩:qy) (⟨zm13,zL14,zl15⟩:qA) c_1).1).length))) 147 (.slice a166 (yu+1) c167)) 148 (.int .i64 (yu+1))) 149 (.bool ((((xO (⟨zi10,zl11,zR12⟩:qy) (⟨zm13,zL14,zl15⟩:qA) c_1).1).length:Int) != (yu+1)))∧((x:Int)≤(yu+1))∧(DueIs (xY (⟨zi10,zl11,zR12⟩:qy)) due_52 (xJ (⟨zi10,zl11,zR12⟩:qy)+1) (dueX (⟨zi10,zl11,zR12⟩:qy) (⟨zm13,zL14,zl15⟩:qA) c_1 x 0))∧m' =((yu+1) - (x:Int)).toNat∧Fresh w113.heap.size [rF200a,F_due_52]∧St w113 w208 [rr ra200a (((xO (⟨zi10,zl11,zR12⟩:qy) (⟨zm13,zL14,zl15⟩:qA) c_1).1).length) rc200a 24 1 rx200a,.box b164 [.slice a161 (0+zl15.length) c162] 24,rr a166 (yu+1) c167 24 1 x_due_52] [xe true rF200a rx200a ((xO (⟨zi10,zl11,zR12⟩:qy) (⟨zm13,zL14,zl15⟩:qA) c_1).1),xe true F_due_52 x_due_52 due_52,atF b92 0 [.slice ra84aAlive ((((xX (⟨zi10,zl11,zR12⟩:qy) (⟨zm13,zL14,zl15⟩:qA) (qP (⟨zi10,zl11,zR12⟩:qy) (⟨zm13,zL14,zl15⟩:qA))).1).qF).length) rc84aAlive,.slice ra84aBags ((((xX (⟨zi10,zl11,zR12⟩:qy) (⟨zm13,zL14,zl15⟩:qA) (qP (⟨zi10,zl11,zR12⟩:qy) (⟨zm13,zL14,zl15⟩:qA))).1).qL).length) rc84aBags,.slice ra84aAround ((((xX (⟨zi10,zl11,zR12⟩:qy) (⟨zm13,zL14,zl15⟩:qA) (qP (⟨zi10,zl11,zR12⟩:qy) (⟨zm13,zL14,zl15⟩:qA))).1).qH).length) rc84aAround],atF b41 0 [.slice ra25 zm13.length rc27,.slice ra28 zL14.length rc30,.slice ra33 zl15.length rc35],atF b39 0 [.int .i64 zi10,.slice ra17 zl11.length rc19,.slice ra20 zR12.length rc22],sF false G132 ra20 rc22 zR12,sF true G130 ra17 rc19 zl11,sF true G128 ra33 rc35 zl15,sF true G125 ra28 rc30 zL14,sF true G123 ra25 rc27 zm13,sF true G121 ra84aAround rc84aAround (((xX (⟨zi10,zl11,zR12⟩:qy) (⟨zm13,zL14,zl15⟩:qA) (qP (⟨zi10,zl11,zR12⟩:qy) (⟨zm13,zL14,zl15⟩:qA))).1).qH),sF true G118 ra84aBags rc84aBags (((xX (⟨zi10,zl11,zR12⟩:qy) (⟨zm13,zL14,zl15⟩:qA) (qP (⟨zi10,zl11,zR12⟩:qy) (⟨zm13,zL14,zl15⟩:qA))).1).qL),sF true G116 ra84aAlive rc84aAlive (((xX (⟨zi10,zl11,zR12⟩:qy) (⟨zm13,zL14,zl15⟩:qA) (qP (⟨zi10,zl11,zR12⟩:qy) (⟨zm13,zL14,zl15⟩:qA))).1).qF)]) (((yu+1) - (0:Int)).toNat) ⟨_,0,due_51,Qo,Qr,uE12,qf,(by exact D3.to (fun p q _ _=>dueX_0 c_1 p q)),rfl,N,H⟩ ?_
          clear H N
          rintro m' ρ w209 ⟨zB,x,due_52,x_due_52,F_due_52,rfl,i0,D4,rfl,N,H⟩
          have hn_due:=H.zy (α:=OwnI 2) 2 rfl 1 rfl qj
          have dl:=D4.1
          refine zcc (sps [.int .i64 x,.slice a166 (yu+1) c167] (oN rfl (sp (.bool (decide ((x:Int) < (yu+1)))) (zjn (cD rfl (fun h210=>?_) (fun h210=>?_))))))
          ·skip
           refine xB (t_n (zx (xq (zcr (sp (.int .i64 0) (zjn (xq ?_)))))))
           refine vg (fun m' ρ w211=>∃ (zB:Env) (k:Nat) (due_53:List (OwnI 2)) (x_due_53:List Value) (F_due_53:yLN),ρ=upd (upd (upd (upd (upd (upd (upd (upd (upd (upd (upd (upd (upd zB 5 (.pointer (some ⟨b39,0,none⟩))) 7 (.pointer (some ⟨b41,0,none⟩))) 10 (.pointer (some ⟨b92,0,none⟩))) 12 (.slice a166 (yu+1) c167)) 17 (.int .i64 c_1)) 18 (.slice ra200a (((xO (⟨zi10,zl11,zR12⟩:qy) (⟨zm13,zL14,zl15⟩:qA) c_1).1).length) rc200a)) 20 (.int .i64 x)) 21 (.int .i64 k)) 145 (.slice ra200a (((xO (⟨zi10,zl11,zR12⟩:qy) (⟨zm13,zL14,zl15⟩:qA) c_1).1).length) rc200a)) 146 (.int .i64 (((xO (⟨zi10,zl11,zR12⟩:qy) (⟨zm13,zL14,zl15⟩:qA) c_1).1).length))) 147 (.slice a166 (yu+1) c167)) 148 (.int .i64 (yu+1))) 149 (.bool ((((xO (⟨zi10,zl11,zR12⟩:qy) (⟨zm13,zL14,zl15⟩:qA) c_1).1).length:Int) != (yu+1)))∧(DueIs (xY (⟨zi10,zl11,zR12⟩:qy)) due_53 (xJ (⟨zi10,zl11,zR12⟩:qy)+1) (dueX (⟨zi10,zl11,zR12⟩:qy) (⟨zm13,zL14,zl15⟩:qA) c_1 x k))∧(k≤xY (⟨zi10,zl11,zR12⟩:qy))∧m' =(4 - k)∧Fresh w113.heap.size [rF200a,F_due_53]∧St w113 w211 [rr ra200a (((xO (⟨zi10,zl11,zR12⟩:qy) (⟨zm13,zL14,zl15⟩:qA) c_1).1).length) rc200a 24 1 rx200a,.box b164 [.slice a161 (0+zl15.length) c162] 24,rr a166 (yu+1) c167 24 1 x_due_53] [xe true rF200a rx200a ((xO (⟨zi10,zl11,zR12⟩:qy) (⟨zm13,zL14,zl15⟩:qA) c_1).1),xe true F_due_53 x_due_53 due_53,atF b92 0 [.slice ra84aAlive ((((xX (⟨zi10,zl11,zR12⟩:qy) (⟨zm13,zL14,zl15⟩:qA) (qP (⟨zi10,zl11,zR12⟩:qy) (⟨zm13,zL14,zl15⟩:qA))).1).qF).length) rc84aAlive,.slice ra84aBags ((((xX (⟨zi10,zl11,zR12⟩:qy) (⟨zm13,zL14,zl15⟩:qA) (qP (⟨zi10,zl11,zR12⟩:qy) (⟨zm13,zL14,zl15⟩:qA))).1).qL).length) rc84aBags,.slice ra84aAround ((((xX (⟨zi10,zl11,zR12⟩:qy) (⟨zm13,zL14,zl15⟩:qA) (qP (⟨zi10,zl11,zR12⟩:qy) (⟨zm13,zL14,zl15⟩:qA))).1).qH).length) rc84aAround],atF b41 0 [.slice ra25 zm13.length rc27,.slice ra28 zL14.length rc30,.slice ra33 zl15.length rc35],atF b39 0 [.int .i64 zi10,.slice ra17 zl11.length rc19,.slice ra20 zR12.length rc22],sF false G132 ra20 rc22 zR12,sF true G130 ra17 rc19 zl11,sF true G128 ra33 rc35 zl15,sF true G125 ra28 rc30 zL14,sF true G123 ra25 rc27 zm13,sF true G121 ra84aAround rc84aAround (((xX (⟨zi10,zl11,zR12⟩:qy) (⟨zm13,zL14,zl15⟩:qA) (qP (⟨zi10,zl11,zR12⟩:qy) (⟨zm13,zL14,zl15⟩:qA))).1).qH),sF true G118 ra84aBags rc84aBags (((xX (⟨zi10,zl11,zR12⟩:qy) (⟨zm13,zL14,zl15⟩:qA) (qP (⟨zi10,zl11,zR12⟩:qy) (⟨zm13,zL14,zl15⟩:qA))).1).qL),sF true G116 ra84aAlive rc84aAlive (((xX (⟨zi10,zl11,zR12⟩:qy) (⟨zm13,zL14,zl15⟩:qA) (qP (⟨zi10,zl11,zR12⟩:qy) (⟨zm13,zL14,zl15⟩:qA))).1).qF)]) ((4 - 0)) ⟨_,0,due_52,x_due_52,F_due_52,uE13,(by exact D4),qf,rfl,N,H⟩ ?_
           clear H N
           rintro m' ρ w212 ⟨zB,k,due_53,x_due_53,F_due_53,rfl,D5,i5,rfl,N,H⟩
           have hn_due:=H.zy (α:=OwnI 2) 2 rfl 1 rfl qj
           have dn:=D5.1
           have dm:=D5.len (p:=x) qf
           obtain ⟨r1,r2⟩:=q3 x qf
           refine zcc (sps [.int .i64 k,.slice a166 (yu+1) c167,.int .i64 x] ?_)
           obtain ⟨b213,rfl⟩:=H.Qv 2 rfl qf
           refine oI rfl rfl ?_
           obtain ⟨a214,c215,hx216⟩:=H.innerHead 1 rfl x qf
           refine oL rfl (H.rowGet 2 rfl (by rw [show 0+(x:Int).toNat * 1=x by omega];exact hx216)) (oN rfl (sps [.bool (decide ((k:Int) < ((due_53[x]!).l.length))),.bool (decide ((k:Int) < ((due_53[x]!).l.length)))] ?_))
           cases h217:(decide ((k:Int) < ((due_53[x]!).l.length)))
           ·skip
            replace h217:=of_decide_eq_false h217
            refine xQ [165,166,167,168,169,170,171] (sp (.bool false) (zjn (xZ false rfl (fun h=>absurd h qj) (fun _=>c_exit (t_x (t_x (b_x (b_n (t_n (zJ (sp (.int .i64 x) (sw (vk x 1 rfl rfl qf (sp (.int .i64 (x+1)) (zK (xH (m' :=((yu+1) - ((x+1):Int)).toNat) qf ⟨_,x+1,due_53,x_due_53,F_due_53,uE12,?_,?_,rfl,N,H⟩))))))))))))))))
            · omega
            · exact D5.to (fun p q _ hq=>by rw [show k=xY (⟨zi10,zl11,zR12⟩:qy) by omega];exact dueX_row p hq)
           ·skip
            replace h217:=of_decide_eq_true h217
            refine qO 164 rfl rfl (sp (.int .i64 k) (qO 164 rfl rfl (sp (.slice ra200a (((xO (⟨zi10,zl11,zR12⟩:qy) (⟨zm13,zL14,zl15⟩:qA) c_1).1).length) rc200a) (qO 164 rfl rfl (sp (.int .i64 x) (qO 164 rfl rfl ?_))))))
            obtain ⟨b218,rfl⟩:=H.Qv 0 rfl qf
            refine oI rfl rfl (qO 164 rfl rfl ?_)
            obtain ⟨a219,c220,G221,s222,h223,H⟩:=H.jf 0 rfl 0 rfl (iv:=x) x qf qf
            refine oL rfl (h223) (qO 164 rfl rfl (oN rfl (qO 164 rfl rfl (sps [.bool (decide ((k:Int) < ((((xO (⟨zi10,zl11,zR12⟩:qy) (⟨zm13,zL14,zl15⟩:qA) c_1).1)[x]!).length))),.bool (decide ((k:Int) < ((((xO (⟨zi10,zl11,zR12⟩:qy) (⟨zm13,zL14,zl15⟩:qA) c_1).1)[x]!).length)))] (zjn (cD rfl (fun h224=>?_) (fun h224=>?_)))))))
            ·skip
             have hk2:k < xY (⟨zi10,zl11,zR12⟩:qy):=by omega
             have dv2:=D5.at' (p:=x) qf hk2
             have db2:=Z.dueX_bd (c:=c_1) (x:=x) (k:=k) (p:=x) (q:=k) qf qf hk2
             have pb2:=Z.put_bd (c:=c_1) (p:=x) (q:=k) qf hk2
             have r3:=r2 k
             rw [← dv2] at db2
             rw [← r3] at pb2
             have dm:=D5.len (p:=x) qf
             refine xB (t_n (zx (xq ?_)))
             refine c_cut (fun ρ w226=>∃ (zB:Env) (F225:yLN),ρ=upd (upd (upd (upd (upd (upd (upd (upd (upd (upd (upd (upd (upd (upd (upd (upd (upd (upd (upd (upd zB 5 (.pointer (some ⟨b39,0,none⟩))) 7 (.pointer (some ⟨b41,0,none⟩))) 10 (.pointer (some ⟨b92,0,none⟩))) 12 (.slice (some ⟨b213,0,none⟩) (yu+1) c167)) 17 (.int .i64 c_1)) 18 (.slice (some ⟨b218,0,none⟩) (((xO (⟨zi10,zl11,zR12⟩:qy) (⟨zm13,zL14,zl15⟩:qA) c_1).1).length) rc200a)) 20 (.int .i64 x)) 21 (.int .i64 k)) 145 (.slice (some ⟨b218,0,none⟩) (((xO (⟨zi10,zl11,zR12⟩:qy) (⟨zm13,zL14,zl15⟩:qA) c_1).1).length) rc200a)) 146 (.int .i64 (((xO (⟨zi10,zl11,zR12⟩:qy) (⟨zm13,zL14,zl15⟩:qA) c_1).1).length))) 147 (.slice (some ⟨b213,0,none⟩) (yu+1) c167)) 148 (.int .i64 (yu+1))) 149 (.bool ((((xO (⟨zi10,zl11,zR12⟩:qy) (⟨zm13,zL14,zl15⟩:qA) c_1).1).length:Int) != (yu+1)))) 165 (.int .i64 k)) 166 (.slice (some ⟨b218,0,none⟩) (((xO (⟨zi10,zl11,zR12⟩:qy) (⟨zm13,zL14,zl15⟩:qA) c_1).1).length) rc200a)) 167 (.int .i64 x)) 168 (.pointer (some ⟨b218,0+(x:Int).toNat * 1,none⟩))) 169 (.slice a219 ((((xO (⟨zi10,zl11,zR12⟩:qy) (⟨zm13,zL14,zl15⟩:qA) c_1).1)[x]!).length) c220)) 170 (.int .i64 ((((xO (⟨zi10,zl11,zR12⟩:qy) (⟨zm13,zL14,zl15⟩:qA) c_1).1)[x]!).length))) 171 (.bool (decide ((k:Int) < ((((xO (⟨zi10,zl11,zR12⟩:qy) (⟨zm13,zL14,zl15⟩:qA) c_1).1)[x]!).length))))∧Fresh w113.heap.size [F225,rF200a]∧St w113 w226 [rr (some ⟨b218,0,none⟩) (((xO (⟨zi10,zl11,zR12⟩:qy) (⟨zm13,zL14,zl15⟩:qA) c_1).1).length) rc200a 24 1 rx200a,.box b164 [.slice a161 (0+zl15.length) c162] 24,rr (some ⟨b213,0,none⟩) (yu+1) c167 24 1 x_due_53] [xe true F225 x_due_53 (due_53.set x ⟨(due_53[x]!).l.set k (((due_53[x]!).l[k]!)+((((xO (⟨zi10,zl11,zR12⟩:qy) (⟨zm13,zL14,zl15⟩:qA) c_1).1)[x]!)[k]!))⟩),xe true rF200a rx200a ((xO (⟨zi10,zl11,zR12⟩:qy) (⟨zm13,zL14,zl15⟩:qA) c_1).1),atF b92 0 [.slice ra84aAlive ((((xX (⟨zi10,zl11,zR12⟩:qy) (⟨zm13,zL14,zl15⟩:qA) (qP (⟨zi10,zl11,zR12⟩:qy) (⟨zm13,zL14,zl15⟩:qA))).1).qF).length) rc84aAlive,.slice ra84aBags ((((xX (⟨zi10,zl11,zR12⟩:qy) (⟨zm13,zL14,zl15⟩:qA) (qP (⟨zi10,zl11,zR12⟩:qy) (⟨zm13,zL14,zl15⟩:qA))).1).qL).length) rc84aBags,.slice ra84aAround ((((xX (⟨zi10,zl11,zR12⟩:qy) (⟨zm13,zL14,zl15⟩:qA) (qP (⟨zi10,zl11,zR12⟩:qy) (⟨zm13,zL14,zl15⟩:qA))).1).qH).length) rc84aAround],atF b41 0 [.slice ra25 zm13.length rc27,.slice ra28 zL14.length rc30,.slice ra33 zl15.length rc35],atF b39 0 [.int .i64 zi10,.slice ra17 zl11.length rc19,.slice ra20 zR12.length rc22],sF false G132 ra20 rc22 zR12,sF true G130 ra17 rc19 zl11,sF true G128 ra33 rc35 zl15,sF true G125 ra28 rc30 zL14,sF true G123 ra25 rc27 zm13,sF true G121 ra84aAround rc84aAround (((xX (⟨zi10,zl11,zR12⟩:qy) (⟨zm13,zL14,zl15⟩:qA) (qP (⟨zi10,zl11,zR12⟩:qy) (⟨zm13,zL14,zl15⟩:qA))).1).qH),sF true G118 ra84aBags rc84aBags (((xX (⟨zi10,zl11,zR12⟩:qy) (⟨zm13,zL14,zl15⟩:qA) (qP (⟨zi10,zl11,zR12⟩:qy) (⟨zm13,zL14,zl15⟩:qA))).1).qL),sF true G116 ra84aAlive rc84aAlive (((xX (⟨zi10,zl11,zR12⟩:qy) (⟨zm13,zL14,zl15⟩:qA) (qP (⟨zi10,zl11,zR12⟩:qy) (⟨zm13,zL14,zl15⟩:qA))).1).qF)]) ?_ ?_
             ·skip
              refine QM rfl H [0,1] [1,3,4,5,6,7,8,9,10,11,12,13] fun H=>?_
              have S:=H.jm [0,1] [1,3,4,5,6,7,8,9,10,11,12,13]
              refine rtp 0 (.slice (some ⟨b213,0,none⟩) (yu+1) c167) S ?_
              refine rtp 1 (.int .i64 x) S ?_
              refine tI 2 rfl rfl rfl S ?_
              refine rtp 4 (.int .i64 k) S ?_
              refine rtp 7 (.slice (some ⟨b218,0,none⟩) (((xO (⟨zi10,zl11,zR12⟩:qy) (⟨zm13,zL14,zl15⟩:qA) c_1).1).length) rc200a) S ?_
              refine rtp 8 (.int .i64 x) S ?_
              refine tI 9 rfl rfl rfl S ?_
              refine rtp 11 (.int .i64 k) S ?_
              refine zH [3,10] qh qm (zW rfl ?_ (zW rfl ?_ zI))
              ·skip
               obtain ⟨a228,c229,hx230⟩:=H.innerHead 2 rfl x qf
               refine zk (.slice a228 ((due_53[x]!).l.length) c229) Try.isAgg24 rfl (H.rowGet 2 rfl (by rw [show 0+(x:Int).toNat * 1=x by omega];exact hx230)) (⟨H.pick [0,1] [1,3,4,5,6,7,8,9,10,11,12,13],?_⟩)
               obtain ⟨b231,rfl⟩:=H.innerAddr 2 rfl x qf hx230 qf
               refine tI 5 rfl rfl rfl (H.pick [0,1] [1,3,4,5,6,7,8,9,10,11,12,13]) ?_
               refine zH [6,10] qh qm (zW rfl ?_ (zW rfl ?_ zI))
               ·skip
                refine zk (.int .i64 ((due_53[x]!).l[k]!)) Try.isAgg2 rfl (H.innerInt 2 rfl x qf hx230 (iv:=k) (k:=k) qf qf) (⟨H.pick [0,1] [1,3,4,5,6,7,8,9,10,11,12,13],(ro 10 rfl ?_)⟩)
                obtain ⟨a232,c233,G234,s235,h236,H⟩:=H.jf 0 rfl 1 rfl (iv:=x) x qf qf
                refine zk (.slice a232 ((((xO (⟨zi10,zl11,zR12⟩:qy) (⟨zm13,zL14,zl15⟩:qA) c_1).1)[x]!).length) c233) Try.isAgg24 rfl (h236) (⟨H.pick [0,1] [2,4,5,6,7,8,9,10,11,12,13,14],?_⟩)
                obtain ⟨b237,o238,rfl⟩:=H.addr 0 rfl qf
                refine tI 12 rfl rfl rfl (H.pick [0,1] [2,4,5,6,7,8,9,10,11,12,13,14]) ?_
                refine ro 13 rfl (zk (.int .i64 ((((xO (⟨zi10,zl11,zR12⟩:qy) (⟨zm13,zL14,zl15⟩:qA) c_1).1)[x]!)[k]!)) Try.isAgg2 rfl (H.jB 0 rfl k qf qf) (⟨H.pick [0,1] [2,4,5,6,7,8,9,10,11,12,13,14],?_⟩))
                have S:=H.jm [0,1] [2,4,5,6,7,8,9,10,11,12,13,14]
                refine rt 14 (.int .i64 (((due_53[x]!).l[k]!)+((((xO (⟨zi10,zl11,zR12⟩:qy) (⟨zm13,zL14,zl15⟩:qA) c_1).1)[x]!)[k]!))) (y_add ((due_53[x]!).l[k]!) ((((xO (⟨zi10,zl11,zR12⟩:qy) (⟨zm13,zL14,zl15⟩:qA) c_1).1)[x]!)[k]!) rfl rfl qf) S ?_
                refine tI 15 rfl rfl rfl S ?_
                refine ro 16 rfl ?_
                have N0:=((N.pick [1,0]):Fresh w113.heap.size [F_due_53,rF200a])
                refine o_storeII H 2 rfl 3 rfl N0 (H.jC [2]) [xe true rF200a rx200a ((xO (⟨zi10,zl11,zR12⟩:qy) (⟨zm13,zL14,zl15⟩:qA) c_1).1),atF b92 0 [.slice ra84aAlive ((((xX (⟨zi10,zl11,zR12⟩:qy) (⟨zm13,zL14,zl15⟩:qA) (qP (⟨zi10,zl11,zR12⟩:qy) (⟨zm13,zL14,zl15⟩:qA))).1).qF).length) rc84aAlive,.slice ra84aBags ((((xX (⟨zi10,zl11,zR12⟩:qy) (⟨zm13,zL14,zl15⟩:qA) (qP (⟨zi10,zl11,zR12⟩:qy) (⟨zm13,zL14,zl15⟩:qA))).1).qL).length) rc84aBags,.slice ra84aAround ((((xX (⟨zi10,zl11,zR12⟩:qy) (⟨zm13,zL14,zl15⟩:qA) (qP (⟨zi10,zl11,zR12⟩:qy) (⟨zm13,zL14,zl15⟩:qA))).1).qH).length) rc84aAround],atF b41 0 [.slice ra25 zm13.length rc27,.slice ra28 zL14.length rc30,.slice ra33 zl15.length rc35],atF b39 0 [.int .i64 zi10,.slice ra17 zl11.length rc19,.slice ra20 zR12.length rc22],sF false G132 ra20 rc22 zR12,sF true G130 ra17 rc19 zl11,sF true G128 ra33 rc35 zl15,sF true G125 ra28 rc30 zL14,sF true G123 ra25 rc27 zm13,sF true G121 ra84aAround rc84aAround (((xX (⟨zi10,zl11,zR12⟩:qy) (⟨zm13,zL14,zl15⟩:qA) (qP (⟨zi10,zl11,zR12⟩:qy) (⟨zm13,zL14,zl15⟩:qA))).1).qH),sF true G118 ra84aBags rc84aBags (((xX (⟨zi10,zl11,zR12⟩:qy) (⟨zm13,zL14,zl15⟩:qA) (qP (⟨zi10,zl11,zR12⟩:qy) (⟨zm13,zL14,zl15⟩:qA))).1).qL),sF true G116 ra84aAlive rc84aAlive (((xX (⟨zi10,zl11,zR12⟩:qy) (⟨zm13,zL14,zl15⟩:qA) (qP (⟨zi10,zl11,zR12⟩:qy) (⟨zm13,zL14,zl15⟩:qA))).1).qF)] (qY (kept 2 rfl (away_new N0 0 rfl)) (qY (kept 4 rfl (xR (HB.ltF 0 rfl) N0)) (qY (kept 5 rfl (xR (HB.ltF 1 rfl) N0)) (qY (kept 6 rfl (xR (HB.ltF 2 rfl) N0)) (qY (kept 7 rfl (xR (HB.ltF 5 rfl) N0)) (qY (kept 8 rfl (xR (HB.ltF 6 rfl) N0)) (qY (kept 9 rfl (xR (HB.ltF 7 rfl) N0)) (qY (kept 10 rfl (xR (HB.ltF 8 rfl) N0)) (qY (kept 11 rfl (xR (HB.ltF 9 rfl) N0)) (qY (kept 12 rfl (xR (HB.ltF 10 rfl) N0)) (qY (kept 13 rfl (xR (HB.ltF 11 rfl) N0)) (qY (kept 14 rfl (xR (HB.ltF 12 rfl) N0)) keeps_nil)))))))))))) x qf hx230 (((due_53[x]!).l[k]!)+((((xO (⟨zi10,zl11,zR12⟩:qy) (⟨zm13,zL14,zl15⟩:qA) c_1).1)[x]!)[k]!)) Try.sizeOf2 rfl rfl (q:=k) qf qf fun w240 F241 N H=>?_
                refine ⟨H.pick [0,1] [1,2,3,4,5,6,7,8,9,10,11,12],(xh qh ((meet ⟨_,F241,uE20,N,H⟩)))⟩
               ·skip
                obtain ⟨a242,c243,G244,s245,h246,H⟩:=H.jf 0 rfl 1 rfl (iv:=x) x qf qf
                refine zk (.slice a242 ((((xO (⟨zi10,zl11,zR12⟩:qy) (⟨zm13,zL14,zl15⟩:qA) c_1).1)[x]!).length) c243) Try.isAgg24 rfl (h246) (⟨H.pick [0,1] [2,4,5,6,7,8,9,10,11,12,13,14],?_⟩)
                obtain ⟨b247,o248,rfl⟩:=H.addr 0 rfl qf
                refine tI 12 rfl rfl rfl (H.pick [0,1] [2,4,5,6,7,8,9,10,11,12,13,14]) ?_
                refine zH [6,13] qh qm (zW rfl ?_ (zW rfl ?_ zI))
                ·skip
                 refine zk (.int .i64 ((due_53[x]!).l[k]!)) Try.isAgg2 rfl (H.innerInt 3 rfl x qf hx230 (iv:=k) (k:=k) qf qf) (⟨H.pick [0,1] [2,4,5,6,7,8,9,10,11,12,13,14],(ro 13 rfl (zk (.int .i64 ((((xO (⟨zi10,zl11,zR12⟩:qy) (⟨zm13,zL14,zl15⟩:qA) c_1).1)[x]!)[k]!)) Try.isAgg2 rfl (H.jB 0 rfl k qf qf) (⟨H.pick [0,1] [2,4,5,6,7,8,9,10,11,12,13,14],?_⟩)))⟩)
                 have S:=H.jm [0,1] [2,4,5,6,7,8,9,10,11,12,13,14]
                 refine rt 14 (.int .i64 (((due_53[x]!).l[k]!)+((((xO (⟨zi10,zl11,zR12⟩:qy) (⟨zm13,zL14,zl15⟩:qA) c_1).1)[x]!)[k]!))) (y_add ((due_53[x]!).l[k]!) ((((xO (⟨zi10,zl11,zR12⟩:qy) (⟨zm13,zL14,zl15⟩:qA) c_1).1)[x]!)[k]!) rfl rfl qf) S ?_
                 refine tI 15 rfl rfl rfl S ?_
                 refine ro 16 rfl ?_
                 have N0:=((N.pick [1,0]):Fresh w113.heap.size [F_due_53,rF200a])
                 refine o_storeII H 2 rfl 3 rfl N0 (H.jC [2]) [xe true rF200a rx200a ((xO (⟨zi10,zl11,zR12⟩:qy) (⟨zm13,zL14,zl15⟩:qA) c_1).1),atF b92 0 [.slice ra84aAlive ((((xX (⟨zi10,zl11,zR12⟩:qy) (⟨zm13,zL14,zl15⟩:qA) (qP (⟨zi10,zl11,zR12⟩:qy) (⟨zm13,zL14,zl15⟩:qA))).1).qF).length) rc84aAlive,.slice ra84aBags ((((xX (⟨zi10,zl11,zR12⟩:qy) (⟨zm13,zL14,zl15⟩:qA) (qP (⟨zi10,zl11,zR12⟩:qy) (⟨zm13,zL14,zl15⟩:qA))).1).qL).length) rc84aBags,.slice ra84aAround ((((xX (⟨zi10,zl11,zR12⟩:qy) (⟨zm13,zL14,zl15⟩:qA) (qP (⟨zi10,zl11,zR12⟩:qy) (⟨zm13,zL14,zl15⟩:qA))).1).qH).length) rc84aAround],atF b41 0 [.slice ra25 zm13.length rc27,.slice ra28 zL14.length rc30,.slice ra33 zl15.length rc35],atF b39 0 [.int .i64 zi10,.slice ra17 zl11.length rc19,.slice ra20 zR12.length rc22],sF false G132 ra20 rc22 zR12,sF true G130 ra17 rc19 zl11,sF true G128 ra33 rc35 zl15,sF true G125 ra28 rc30 zL14,sF true G123 ra25 rc27 zm13,sF true G121 ra84aAround rc84aAround (((xX (⟨zi10,zl11,zR12⟩:qy) (⟨zm13,zL14,zl15⟩:qA) (qP (⟨zi10,zl11,zR12⟩:qy) (⟨zm13,zL14,zl15⟩:qA))).1).qH),sF true G118 ra84aBags rc84aBags (((xX (⟨zi10,zl11,zR12⟩:qy) (⟨zm13,zL14,zl15⟩:qA) (qP (⟨zi10,zl11,zR12⟩:qy) (⟨zm13,zL14,zl15⟩:qA))).1).qL),sF true G116 ra84aAlive rc84aAlive (((xX (⟨zi10,zl11,zR12⟩:qy) (⟨zm13,zL14,zl15⟩:qA) (qP (⟨zi10,zl11,zR12⟩:qy) (⟨zm13,zL14,zl15⟩:qA))).1).qF)] (qY (kept 2 rfl (away_new N0 0 rfl)) (qY (kept 4 rfl (xR (HB.ltF 0 rfl) N0)) (qY (kept 5 rfl (xR (HB.ltF 1 rfl) N0)) (qY (kept 6 rfl (xR (HB.ltF 2 rfl) N0)) (qY (kept 7 rfl (xR (HB.ltF 5 rfl) N0)) (qY (kept 8 rfl (xR (HB.ltF 6 rfl) N0)) (qY (kept 9 rfl (xR (HB.ltF 7 rfl) N0)) (qY (kept 10 rfl (xR (HB.ltF 8 rfl) N0)) (qY (kept 11 rfl (xR (HB.ltF 9 rfl) N0)) (qY (kept 12 rfl (xR (HB.ltF 10 rfl) N0)) (qY (kept 13 rfl (xR (HB.ltF 11 rfl) N0)) (qY (kept 14 rfl (xR (HB.ltF 12 rfl) N0)) keeps_nil)))))))))))) x qf hx230 (((due_53[x]!).l[k]!)+((((xO (⟨zi10,zl11,zR12⟩:qy) (⟨zm13,zL14,zl15⟩:qA) c_1).1)[x]!)[k]!)) Try.sizeOf2 rfl rfl (q:=k) qf qf fun w250 F251 N H=>?_
                 refine ⟨H.pick [0,1] [1,2,3,4,5,6,7,8,9,10,11,12],(xh qh ((meet ⟨_,F251,uE20,N,H⟩)))⟩
                ·skip
                 refine zk (.int .i64 ((((xO (⟨zi10,zl11,zR12⟩:qy) (⟨zm13,zL14,zl15⟩:qA) c_1).1)[x]!)[k]!)) Try.isAgg2 rfl (H.jB 0 rfl k qf qf) (⟨H.pick [0,1] [2,4,5,6,7,8,9,10,11,12,13,14],(ro 6 rfl (zk (.int .i64 ((due_53[x]!).l[k]!)) Try.isAgg2 rfl (H.innerInt 3 rfl x qf hx230 (iv:=k) (k:=k) qf qf) (⟨H.pick [0,1] [2,4,5,6,7,8,9,10,11,12,13,14],?_⟩)))⟩)
                 have S:=H.jm [0,1] [2,4,5,6,7,8,9,10,11,12,13,14]
                 refine rt 14 (.int .i64 (((due_53[x]!).l[k]!)+((((xO (⟨zi10,zl11,zR12⟩:qy) (⟨zm13,zL14,zl15⟩:qA) c_1).1)[x]!)[k]!))) (y_add ((due_53[x]!).l[k]!) ((((xO (⟨zi10,zl11,zR12⟩:qy) (⟨zm13,zL14,zl15⟩:qA) c_1).1)[x]!)[k]!) rfl rfl qf) S ?_
                 refine tI 15 rfl rfl rfl S ?_
                 refine ro 16 rfl ?_
                 have N0:=((N.pick [1,0]):Fresh w113.heap.size [F_due_53,rF200a])
                 refine o_storeII H 2 rfl 3 rfl N0 (H.jC [2]) [xe true rF200a rx200a ((xO (⟨zi10,zl11,zR12⟩:qy) (⟨zm13,zL14,zl15⟩:qA) c_1).1),atF b92 0 [.slice ra84aAlive ((((xX (⟨zi10,zl11,zR12⟩:qy) (⟨zm13,zL14,zl15⟩:qA) (qP (⟨zi10,zl11,zR12⟩:qy) (⟨zm13,zL14,zl15⟩:qA))).1).qF).length) rc84aAlive,.slice ra84aBags ((((xX (⟨zi10,zl11,zR12⟩:qy) (⟨zm13,zL14,zl15⟩:qA) (qP (⟨zi10,zl11,zR12⟩:qy) (⟨zm13,zL14,zl15⟩:qA))).1).qL).length) rc84aBags,.slice ra84aAround ((((xX (⟨zi10,zl11,zR12⟩:qy) (⟨zm13,zL14,zl15⟩:qA) (qP (⟨zi10,zl11,zR12⟩:qy) (⟨zm13,zL14,zl15⟩:qA))).1).qH).length) rc84aAround],atF b41 0 [.slice ra25 zm13.length rc27,.slice ra28 zL14.length rc30,.slice ra33 zl15.length rc35],atF b39 0 [.int .i64 zi10,.slice ra17 zl11.length rc19,.slice ra20 zR12.length rc22],sF false G132 ra20 rc22 zR12,sF true G130 ra17 rc19 zl11,sF true G128 ra33 rc35 zl15,sF true G125 ra28 rc30 zL14,sF true G123 ra25 rc27 zm13,sF true G121 ra84aAround rc84aAround (((xX (⟨zi10,zl11,zR12⟩:qy) (⟨zm13,zL14,zl15⟩:qA) (qP (⟨zi10,zl11,zR12⟩:qy) (⟨zm13,zL14,zl15⟩:qA))).1).qH),sF true G118 ra84aBags rc84aBags (((xX (⟨zi10,zl11,zR12⟩:qy) (⟨zm13,zL14,zl15⟩:qA) (qP (⟨zi10,zl11,zR12⟩:qy) (⟨zm13,zL14,zl15⟩:qA))).1).qL),sF true G116 ra84aAlive rc84aAlive (((xX (⟨zi10,zl11,zR12⟩:qy) (⟨zm13,zL14,zl15⟩:qA) (qP (⟨zi10,zl11,zR12⟩:qy) (⟨zm13,zL14,zl15⟩:qA))).1).qF)] (qY (kept 2 rfl (away_new N0 0 rfl)) (qY (kept 4 rfl (xR (HB.ltF 0 rfl) N0)) (qY (kept 5 rfl (xR (HB.ltF 1 rfl) N0)) (qY (kept 6 rfl (xR (HB.ltF 2 rfl) N0)) (qY (kept 7 rfl (xR (HB.ltF 5 rfl) N0)) (qY (kept 8 rfl (xR (HB.ltF 6 rfl) N0)) (qY (kept 9 rfl (xR (HB.ltF 7 rfl) N0)) (qY (kept 10 rfl (xR (HB.ltF 8 rfl) N0)) (qY (kept 11 rfl (xR (HB.ltF 9 rfl) N0)) (qY (kept 12 rfl (xR (HB.ltF 10 rfl) N0)) (qY (kept 13 rfl (xR (HB.ltF 11 rfl) N0)) (qY (kept 14 rfl (xR (HB.ltF 12 rfl) N0)) keeps_nil)))))))))))) x qf hx230 (((due_53[x]!).l[k]!)+((((xO (⟨zi10,zl11,zR12⟩:qy) (⟨zm13,zL14,zl15⟩:qA) c_1).1)[x]!)[k]!)) Try.sizeOf2 rfl rfl (q:=k) qf qf fun w252 F253 N H=>?_
                 refine ⟨H.pick [0,1] [1,2,3,4,5,6,7,8,9,10,11,12],(xh qh ((meet ⟨_,F253,uE20,N,H⟩)))⟩
              ·skip
               obtain ⟨a254,c255,G256,s257,h258,H⟩:=H.jf 0 rfl 1 rfl (iv:=x) x qf qf
               refine zk (.slice a254 ((((xO (⟨zi10,zl11,zR12⟩:qy) (⟨zm13,zL14,zl15⟩:qA) c_1).1)[x]!).length) c255) Try.isAgg24 rfl (h258) (⟨H.pick [0,1] [2,4,5,6,7,8,9,10,11,12,13,14],?_⟩)
               obtain ⟨b259,o260,rfl⟩:=H.addr 0 rfl qf
               refine tI 12 rfl rfl rfl (H.pick [0,1] [2,4,5,6,7,8,9,10,11,12,13,14]) ?_
               refine zH [3,13] qh qm (zW rfl ?_ (zW rfl ?_ zI))
               ·skip
                obtain ⟨a262,c263,hx264⟩:=H.innerHead 3 rfl x qf
                refine zk (.slice a262 ((due_53[x]!).l.length) c263) Try.isAgg24 rfl (H.rowGet 2 rfl (by rw [show 0+(x:Int).toNat * 1=x by omega];exact hx264)) (⟨H.pick [0,1] [2,4,5,6,7,8,9,10,11,12,13,14],?_⟩)
                obtain ⟨b265,rfl⟩:=H.innerAddr 3 rfl x qf hx264 qf
                refine tI 5 rfl rfl rfl (H.pick [0,1] [2,4,5,6,7,8,9,10,11,12,13,14]) ?_
                refine zH [6,13] qh qm (zW rfl ?_ (zW rfl ?_ zI))
                ·skip
                 refine zk (.int .i64 ((due_53[x]!).l[k]!)) Try.isAgg2 rfl (H.innerInt 3 rfl x qf hx264 (iv:=k) (k:=k) qf qf) (⟨H.pick [0,1] [2,4,5,6,7,8,9,10,11,12,13,14],(ro 13 rfl (zk (.int .i64 ((((xO (⟨zi10,zl11,zR12⟩:qy) (⟨zm13,zL14,zl15⟩:qA) c_1).1)[x]!)[k]!)) Try.isAgg2 rfl (H.jB 0 rfl k qf qf) (⟨H.pick [0,1] [2,4,5,6,7,8,9,10,11,12,13,14],?_⟩)))⟩)
                 have S:=H.jm [0,1] [2,4,5,6,7,8,9,10,11,12,13,14]
                 refine rt 14 (.int .i64 (((due_53[x]!).l[k]!)+((((xO (⟨zi10,zl11,zR12⟩:qy) (⟨zm13,zL14,zl15⟩:qA) c_1).1)[x]!)[k]!))) (y_add ((due_53[x]!).l[k]!) ((((xO (⟨zi10,zl11,zR12⟩:qy) (⟨zm13,zL14,zl15⟩:qA) c_1).1)[x]!)[k]!) rfl rfl qf) S ?_
                 refine tI 15 rfl rfl rfl S ?_
                 refine ro 16 rfl ?_
                 have N0:=((N.pick [1,0]):Fresh w113.heap.size [F_due_53,rF200a])
                 refine o_storeII H 2 rfl 3 rfl N0 (H.jC [2]) [xe true rF200a rx200a ((xO (⟨zi10,zl11,zR12⟩:qy) (⟨zm13,zL14,zl15⟩:qA) c_1).1),atF b92 0 [.slice ra84aAlive ((((xX (⟨zi10,zl11,zR12⟩:qy) (⟨zm13,zL14,zl15⟩:qA) (qP (⟨zi10,zl11,zR12⟩:qy) (⟨zm13,zL14,zl15⟩:qA))).1).qF).length) rc84aAlive,.slice ra84aBags ((((xX (⟨zi10,zl11,zR12⟩:qy) (⟨zm13,zL14,zl15⟩:qA) (qP (⟨zi10,zl11,zR12⟩:qy) (⟨zm13,zL14,zl15⟩:qA))).1).qL).length) rc84aBags,.slice ra84aAround ((((xX (⟨zi10,zl11,zR12⟩:qy) (⟨zm13,zL14,zl15⟩:qA) (qP (⟨zi10,zl11,zR12⟩:qy) (⟨zm13,zL14,zl15⟩:qA))).1).qH).length) rc84aAround],atF b41 0 [.slice ra25 zm13.length rc27,.slice ra28 zL14.length rc30,.slice ra33 zl15.length rc35],atF b39 0 [.int .i64 zi10,.slice ra17 zl11.length rc19,.slice ra20 zR12.length rc22],sF false G132 ra20 rc22 zR12,sF true G130 ra17 rc19 zl11,sF true G128 ra33 rc35 zl15,sF true G125 ra28 rc30 zL14,sF true G123 ra25 rc27 zm13,sF true G121 ra84aAround rc84aAround (((xX (⟨zi10,zl11,zR12⟩:qy) (⟨zm13,zL14,zl15⟩:qA) (qP (⟨zi10,zl11,zR12⟩:qy) (⟨zm13,zL14,zl15⟩:qA))).1).qH),sF true G118 ra84aBags rc84aBags (((xX (⟨zi10,zl11,zR12⟩:qy) (⟨zm13,zL14,zl15⟩:qA) (qP (⟨zi10,zl11,zR12⟩:qy) (⟨zm13,zL14,zl15⟩:qA))).1).qL),sF true G116 ra84aAlive rc84aAlive (((xX (⟨zi10,zl11,zR12⟩:qy) (⟨zm13,zL14,zl15⟩:qA) (qP (⟨zi10,zl11,zR12⟩:qy) (⟨zm13,zL14,zl15⟩:qA))).1).qF)] (qY (kept 2 rfl (away_new N0 0 rfl)) (qY (kept 4 rfl (xR (HB.ltF 0 rfl) N0)) (qY (kept 5 rfl (xR (HB.ltF 1 rfl) N0)) (qY (kept 6 rfl (xR (HB.ltF 2 rfl) N0)) (qY (kept 7 rfl (xR (HB.ltF 5 rfl) N0)) (qY (kept 8 rfl (xR (HB.ltF 6 rfl) N0)) (qY (kept 9 rfl (xR (HB.ltF 7 rfl) N0)) (qY (kept 10 rfl (xR (HB.ltF 8 rfl) N0)) (qY (kept 11 rfl (xR (HB.ltF 9 rfl) N0)) (qY (kept 12 rfl (xR (HB.ltF 10 rfl) N0)) (qY (kept 13 rfl (xR (HB.ltF 11 rfl) N0)) (qY (kept 14 rfl (xR (HB.ltF 12 rfl) N0)) keeps_nil)))))))))))) x qf hx264 (((due_53[x]!).l[k]!)+((((xO (⟨zi10,zl11,zR12⟩:qy) (⟨zm13,zL14,zl15⟩:qA) c_1).1)[x]!)[k]!)) Try.sizeOf2 rfl rfl (q:=k) qf qf fun w266 F267 N H=>?_
                 refine ⟨H.pick [0,1] [1,2,3,4,5,6,7,8,9,10,11,12],(xh qh ((meet ⟨_,F267,uE20,N,H⟩)))⟩
                ·skip
                 refine zk (.int .i64 ((((xO (⟨zi10,zl11,zR12⟩:qy) (⟨zm13,zL14,zl15⟩:qA) c_1).1)[x]!)[k]!)) Try.isAgg2 rfl (H.jB 0 rfl k qf qf) (⟨H.pick [0,1] [2,4,5,6,7,8,9,10,11,12,13,14],(ro 6 rfl (zk (.int .i64 ((due_53[x]!).l[k]!)) Try.isAgg2 rfl (H.innerInt 3 rfl x qf hx264 (iv:=k) (k:=k) qf qf) (⟨H.pick [0,1] [2,4,5,6,7,8,9,10,11,12,13,14],?_⟩)))⟩)
                 have S:=H.jm [0,1] [2,4,5,6,7,8,9,10,11,12,13,14]
                 refine rt 14 (.int .i64 (((due_53[x]!).l[k]!)+((((xO (⟨zi10,zl11,zR12⟩:qy) (⟨zm13,zL14,zl15⟩:qA) c_1).1)[x]!)[k]!))) (y_add ((due_53[x]!).l[k]!) ((((xO (⟨zi10,zl11,zR12⟩:qy) (⟨zm13,zL14,zl15⟩:qA) c_1).1)[x]!)[k]!) rfl rfl qf) S ?_
                 refine tI 15 rfl rfl rfl S ?_
                 refine ro 16 rfl ?_
                 have N0:=((N.pick [1,0]):Fresh w113.heap.size [F_due_53,rF200a])
                 refine o_storeII H 2 rfl 3 rfl N0 (H.jC [2]) [xe true rF200a rx200a ((xO (⟨zi10,zl11,zR12⟩:qy) (⟨zm13,zL14,zl15⟩:qA) c_1).1),atF b92 0 [.slice ra84aAlive ((((xX (⟨zi10,zl11,zR12⟩:qy) (⟨zm13,zL14,zl15⟩:qA) (qP (⟨zi10,zl11,zR12⟩:qy) (⟨zm13,zL14,zl15⟩:qA))).1).qF).length) rc84aAlive,.slice ra84aBags ((((xX (⟨zi10,zl11,zR12⟩:qy) (⟨zm13,zL14,zl15⟩:qA) (qP (⟨zi10,zl11,zR12⟩:qy) (⟨zm13,zL14,zl15⟩:qA))).1).qL).length) rc84aBags,.slice ra84aAround ((((xX (⟨zi10,zl11,zR12⟩:qy) (⟨zm13,zL14,zl15⟩:qA) (qP (⟨zi10,zl11,zR12⟩:qy) (⟨zm13,zL14,zl15⟩:qA))).1).qH).length) rc84aAround],atF b41 0 [.slice ra25 zm13.length rc27,.slice ra28 zL14.length rc30,.slice ra33 zl15.length rc35],atF b39 0 [.int .i64 zi10,.slice ra17 zl11.length rc19,.slice ra20 zR12.length rc22],sF false G132 ra20 rc22 zR12,sF true G130 ra17 rc19 zl11,sF true G128 ra33 rc35 zl15,sF true G125 ra28 rc30 zL14,sF true G123 ra25 rc27 zm13,sF true G121 ra84aAround rc84aAround (((xX (⟨zi10,zl11,zR12⟩:qy) (⟨zm13,zL14,zl15⟩:qA) (qP (⟨zi10,zl11,zR12⟩:qy) (⟨zm13,zL14,zl15⟩:qA))).1).qH),sF true G118 ra84aBags rc84aBags (((xX (⟨zi10,zl11,zR12⟩:qy) (⟨zm13,zL14,zl15⟩:qA) (qP (⟨zi10,zl11,zR12⟩:qy) (⟨zm13,zL14,zl15⟩:qA))).1).qL),sF true G116 ra84aAlive rc84aAlive (((xX (⟨zi10,zl11,zR12⟩:qy) (⟨zm13,zL14,zl15⟩:qA) (qP (⟨zi10,zl11,zR12⟩:qy) (⟨zm13,zL14,zl15⟩:qA))).1).qF)] (qY (kept 2 rfl (away_new N0 0 rfl)) (qY (kept 4 rfl (xR (HB.ltF 0 rfl) N0)) (qY (kept 5 rfl (xR (HB.ltF 1 rfl) N0)) (qY (kept 6 rfl (xR (HB.ltF 2 rfl) N0)) (qY (kept 7 rfl (xR (HB.ltF 5 rfl) N0)) (qY (kept 8 rfl (xR (HB.ltF 6 rfl) N0)) (qY (kept 9 rfl (xR (HB.ltF 7 rfl) N0)) (qY (kept 10 rfl (xR (HB.ltF 8 rfl) N0)) (qY (kept 11 rfl (xR (HB.ltF 9 rfl) N0)) (qY (kept 12 rfl (xR (HB.ltF 10 rfl) N0)) (qY (kept 13 rfl (xR (HB.ltF 11 rfl) N0)) (qY (kept 14 rfl (xR (HB.ltF 12 rfl) N0)) keeps_nil)))))))))))) x qf hx264 (((due_53[x]!).l[k]!)+((((xO (⟨zi10,zl11,zR12⟩:qy) (⟨zm13,zL14,zl15⟩:qA) c_1).1)[x]!)[k]!)) Try.sizeOf2 rfl rfl (q:=k) qf qf fun w268 F269 N H=>?_
                 refine ⟨H.pick [0,1] [1,2,3,4,5,6,7,8,9,10,11,12],(xh qh ((meet ⟨_,F269,uE20,N,H⟩)))⟩
               ·skip
                refine zk (.int .i64 ((((xO (⟨zi10,zl11,zR12⟩:qy) (⟨zm13,zL14,zl15⟩:qA) c_1).1)[x]!)[k]!)) Try.isAgg2 rfl (H.jB 0 rfl k qf qf) (⟨H.pick [0,1] [2,4,5,6,7,8,9,10,11,12,13,14],(ro 3 rfl ?_)⟩)
                obtain ⟨a270,c271,hx272⟩:=H.innerHead 3 rfl x qf
                refine zk (.slice a270 ((due_53[x]!).l.length) c271) Try.isAgg24 rfl (H.rowGet 2 rfl (by rw [show 0+(x:Int).toNat * 1=x by omega];exact hx272)) (⟨H.pick [0,1] [2,4,5,6,7,8,9,10,11,12,13,14],?_⟩)
                obtain ⟨b273,rfl⟩:=H.innerAddr 3 rfl x qf hx272 qf
                refine tI 5 rfl rfl rfl (H.pick [0,1] [2,4,5,6,7,8,9,10,11,12,13,14]) ?_
                refine ro 6 rfl (zk (.int .i64 ((due_53[x]!).l[k]!)) Try.isAgg2 rfl (H.innerInt 3 rfl x qf hx272 (iv:=k) (k:=k) qf qf) (⟨H.pick [0,1] [2,4,5,6,7,8,9,10,11,12,13,14],?_⟩))
                have S:=H.jm [0,1] [2,4,5,6,7,8,9,10,11,12,13,14]
                refine rt 14 (.int .i64 (((due_53[x]!).l[k]!)+((((xO (⟨zi10,zl11,zR12⟩:qy) (⟨zm13,zL14,zl15⟩:qA) c_1).1)[x]!)[k]!))) (y_add ((due_53[x]!).l[k]!) ((((xO (⟨zi10,zl11,zR12⟩:qy) (⟨zm13,zL14,zl15⟩:qA) c_1).1)[x]!)[k]!) rfl rfl qf) S ?_
                refine tI 15 rfl rfl rfl S ?_
                refine ro 16 rfl ?_
                have N0:=((N.pick [1,0]):Fresh w113.heap.size [F_due_53,rF200a])
                refine o_storeII H 2 rfl 3 rfl N0 (H.jC [2]) [xe true rF200a rx200a ((xO (⟨zi10,zl11,zR12⟩:qy) (⟨zm13,zL14,zl15⟩:qA) c_1).1),atF b92 0 [.slice ra84aAlive ((((xX (⟨zi10,zl11,zR12⟩:qy) (⟨zm13,zL14,zl15⟩:qA) (qP (⟨zi10,zl11,zR12⟩:qy) (⟨zm13,zL14,zl15⟩:qA))).1).qF).length) rc84aAlive,.slice ra84aBags ((((xX (⟨zi10,zl11,zR12⟩:qy) (⟨zm13,zL14,zl15⟩:qA) (qP (⟨zi10,zl11,zR12⟩:qy) (⟨zm13,zL14,zl15⟩:qA))).1).qL).length) rc84aBags,.slice ra84aAround ((((xX (⟨zi10,zl11,zR12⟩:qy) (⟨zm13,zL14,zl15⟩:qA) (qP (⟨zi10,zl11,zR12⟩:qy) (⟨zm13,zL14,zl15⟩:qA))).1).qH).length) rc84aAround],atF b41 0 [.slice ra25 zm13.length rc27,.slice ra28 zL14.length rc30,.slice ra33 zl15.length rc35],atF b39 0 [.int .i64 zi10,.slice ra17 zl11.length rc19,.slice ra20 zR12.length rc22],sF false G132 ra20 rc22 zR12,sF true G130 ra17 rc19 zl11,sF true G128 ra33 rc35 zl15,sF true G125 ra28 rc30 zL14,sF true G123 ra25 rc27 zm13,sF true G121 ra84aAround rc84aAround (((xX (⟨zi10,zl11,zR12⟩:qy) (⟨zm13,zL14,zl15⟩:qA) (qP (⟨zi10,zl11,zR12⟩:qy) (⟨zm13,zL14,zl15⟩:qA))).1).qH),sF true G118 ra84aBags rc84aBags (((xX (⟨zi10,zl11,zR12⟩:qy) (⟨zm13,zL14,zl15⟩:qA) (qP (⟨zi10,zl11,zR12⟩:qy) (⟨zm13,zL14,zl15⟩:qA))).1).qL),sF true G116 ra84aAlive rc84aAlive (((xX (⟨zi10,zl11,zR12⟩:qy) (⟨zm13,zL14,zl15⟩:qA) (qP (⟨zi10,zl11,zR12⟩:qy) (⟨zm13,zL14,zl15⟩:qA))).1).qF)] (qY (kept 2 rfl (away_new N0 0 rfl)) (qY (kept 4 rfl (xR (HB.ltF 0 rfl) N0)) (qY (kept 5 rfl (xR (HB.ltF 1 rfl) N0)) (qY (kept 6 rfl (xR (HB.ltF 2 rfl) N0)) (qY (kept 7 rfl (xR (HB.ltF 5 rfl) N0)) (qY (kept 8 rfl (xR (HB.ltF 6 rfl) N0)) (qY (kept 9 rfl (xR (HB.ltF 7 rfl) N0)) (qY (kept 10 rfl (xR (HB.ltF 8 rfl) N0)) (qY (kept 11 rfl (xR (HB.ltF 9 rfl) N0)) (qY (kept 12 rfl (xR (HB.ltF 10 rfl) N0)) (qY (kept 13 rfl (xR (HB.ltF 11 rfl) N0)) (qY (kept 14 rfl (xR (HB.ltF 12 rfl) N0)) keeps_nil)))))))))))) x qf hx272 (((due_53[x]!).l[k]!)+((((xO (⟨zi10,zl11,zR12⟩:qy) (⟨zm13,zL14,zl15⟩:qA) c_1).1)[x]!)[k]!)) Try.sizeOf2 rfl rfl (q:=k) qf qf fun w274 F275 N H=>?_
                refine ⟨H.pick [0,1] [1,2,3,4,5,6,7,8,9,10,11,12],(xh qh ((meet ⟨_,F275,uE20,N,H⟩)))⟩
             ·skip
              clear H N
              rintro ρ w276 ⟨zB,F225,rfl,N,H⟩
              refine b_n (t_n (zJ (sp (.int .i64 k) (sw (vk k 1 rfl rfl qf (sp (.int .i64 (k+1)) (zK (xH (m' :=(4 - (k+1))) qf ⟨_,k+1,(due_53.set x ⟨(due_53[x]!).l.set k (((due_53[x]!).l[k]!)+((((xO (⟨zi10,zl11,zR12⟩:qy) (⟨zm13,zL14,zl15⟩:qA) c_1).1)[x]!)[k]!))⟩),x_due_53,F225,uE13,?_,?_,rfl,(N.pick [1,0]),H.pick [0,1,2] [1,0,2,3,4,5,6,7,8,9,10,11,12]⟩))))))))
              · rw [dv2,r3];exact D5.put qf hk2 (fun p q _ _=>dueX_put p q)
              · omega
            ·skip
             refine c_exit (t_x (t_x (b_x (b_n (t_n (zJ (sp (.int .i64 x) (sw (vk x 1 rfl rfl qf (sp (.int .i64 (x+1)) (zK (xH (m' :=((yu+1) - ((x+1):Int)).toNat) qf ⟨_,x+1,due_53,x_due_53,F_due_53,uE12,?_,?_,rfl,N,H.pick [0,1,2] [1,2,3,4,5,6,7,8,9,10,11,12,13]⟩))))))))))))
             · omega
             · exact D5.to (fun p q _ hq=>by rw [show k=xY (⟨zi10,zl11,zR12⟩:qy) by omega];exact dueX_row p hq)
          ·skip
           refine c_exit (t_x (t_x (b_x (b_n (t_n (zJ (sp (.int .i64 c_1) (sw (vk c_1 1 rfl rfl qf (sp (.int .i64 (c_1+1)) (zK (xH (m' :=(zL14.length - ((c_1+1):Int)).toNat) qf ⟨_,c_1+1,due_52,x_due_52,F_due_52,uE5,?_,?_,rfl,(N.pick [1]),H.pick [1,2] [1,2,3,4,5,6,7,8,9,10,11,12]⟩))))))))))))
           · omega
           · exact D4.to (fun p q hp _=>by rw [show x=xJ (⟨zi10,zl11,zR12⟩:qy)+1 by omega];exact dueX_end q hp)
        ·skip
         replace h206:=bne_iff_ne.1 h206
         refine xQ [145,146,147,148,149] (sp (.bool true) (zjn (xZ true rfl (fun _=>zcr (sp (.bool false) (zjr (t_r (zr5 (ret1 (.bool false) rfl rfl ⟨_,rfl,?_,(Ext.trans' B0 H.base)⟩)))))) (fun h=>absurd h qj))))
         exfalso;first | omega | contradiction
       ·skip
        have ec:c_1=xJ (⟨zi10,zl11,zR12⟩:qy):=by omega
        rw [ec] at D3
        refine zx4 (zcc (sp (.int .i64 0) (zjn (xq ?_))))
        refine vg (fun m' ρ w277=>∃ (zB:Env) (c_51:Nat),ρ=upd (upd (upd (upd zB 7 (.pointer (some ⟨b41,0,none⟩))) 10 (.pointer (some ⟨b92,0,none⟩))) 12 (.slice a166 (yu+1) c167)) 22 (.int .i64 c_51)∧((c_51:Int)≤((((xX (⟨zi10,zl11,zR12⟩:qy) (⟨zm13,zL14,zl15⟩:qA) (qP (⟨zi10,zl11,zR12⟩:qy) (⟨zm13,zL14,zl15⟩:qA))).1).qL).length))∧m' =(((((xX (⟨zi10,zl11,zR12⟩:qy) (⟨zm13,zL14,zl15⟩:qA) (qP (⟨zi10,zl11,zR12⟩:qy) (⟨zm13,zL14,zl15⟩:qA))).1).qL).length) - (c_51:Int)).toNat∧Fresh w113.heap.size [Qr]∧St w113 w277 [.box b164 [.slice a161 (0+zl15.length) c162] 24,rr a166 (yu+1) c167 24 1 Qo] [xe true Qr Qo due_51,atF b92 0 [.slice ra84aAlive ((((xX (⟨zi10,zl11,zR12⟩:qy) (⟨zm13,zL14,zl15⟩:qA) (qP (⟨zi10,zl11,zR12⟩:qy) (⟨zm13,zL14,zl15⟩:qA))).1).qF).length) rc84aAlive,.slice ra84aBags ((((xX (⟨zi10,zl11,zR12⟩:qy) (⟨zm13,zL14,zl15⟩:qA) (qP (⟨zi10,zl11,zR12⟩:qy) (⟨zm13,zL14,zl15⟩:qA))).1).qL).length) rc84aBags,.slice ra84aAround ((((xX (⟨zi10,zl11,zR12⟩:qy) (⟨zm13,zL14,zl15⟩:qA) (qP (⟨zi10,zl11,zR12⟩:qy) (⟨zm13,zL14,zl15⟩:qA))).1).qH).length) rc84aAround],atF b41 0 [.slice ra25 zm13.length rc27,.slice ra28 zL14.length rc30,.slice ra33 zl15.length rc35],sF true G128 ra33 rc35 zl15,sF true G125 ra28 rc30 zL14,sF true G123 ra25 rc27 zm13,sF true G121 ra84aAround rc84aAround (((xX (⟨zi10,zl11,zR12⟩:qy) (⟨zm13,zL14,zl15⟩:qA) (qP (⟨zi10,zl11,zR12⟩:qy) (⟨zm13,zL14,zl15⟩:qA))).1).qH),sF true G118 ra84aBags rc84aBags (((xX (⟨zi10,zl11,zR12⟩:qy) (⟨zm13,zL14,zl15⟩:qA) (qP (⟨zi10,zl11,zR12⟩:qy) (⟨zm13,zL14,zl15⟩:qA))).1).qL),sF true G116 ra84aAlive rc84aAlive (((xX (⟨zi10,zl11,zR12⟩:qy) (⟨zm13,zL14,zl15⟩:qA) (qP (⟨zi10,zl11,zR12⟩:qy) (⟨zm13,zL14,zl15⟩:qA))).1).qF)]) ((((((xX (⟨zi10,zl11,zR12⟩:qy) (⟨zm13,zL14,zl15⟩:qA) (qP (⟨zi10,zl11,zR12⟩:qy) (⟨zm13,zL14,zl15⟩:qA))).1).qL).length) - (0:Int)).toNat) ⟨_,0,uE4,qf,rfl,N,H.pick [0,1] [0,1,2,6,7,8,9,10,11]⟩ ?_
        clear H N
        rintro m' ρ w278 ⟨zB,c_51,rfl,i0,rfl,N,H⟩
        refine zcc (sp (.int .i64 c_51) (oF rfl (oL rfl (H.zZ 1 rfl 1 rfl) (oN rfl (sp (.bool (decide ((c_51:Int) < ((((xX (⟨zi10,zl11,zR12⟩:qy) (⟨zm13,zL14,zl15⟩:qA) (qP (⟨zi10,zl11,zR12⟩:qy) (⟨zm13,zL14,zl15⟩:qA))).1).qL).length)))) (zjn (cD rfl (fun h279=>?_) (fun h279=>?_))))))))
        ·skip
         refine xB (t_n (zx (xq (zx ?_))))
         refine y9 rfl H fun H=>tF 0 rfl rfl H ?_
         refine tL 1 rfl rfl (fun _ h=>h.zZ 1 rfl 1 rfl) H ?_
         refine rtp 2 (.int .i64 c_51) H ?_
         obtain ⟨b281,o282,rfl⟩:=H.addr 7 rfl qf
         obtain ⟨ae284,ce284,Fe284,HB⟩:=HB.QH 11 rfl c_51 c_51 qf qf qf
         replace H:St w113 w278.drew [.box b164 [.slice a161 (0+zl15.length) c162] 24,rr a166 (yu+1) c167 24 1 Qo] [sF true Fe284 ae284 ce284 ((((xX (⟨zi10,zl11,zR12⟩:qy) (⟨zm13,zL14,zl15⟩:qA) (qP (⟨zi10,zl11,zR12⟩:qy) (⟨zm13,zL14,zl15⟩:qA))).1).qL)[c_51]!),atF b281 (o282+(c_51:Int).toNat * 1) [.slice ae284 (((((xX (⟨zi10,zl11,zR12⟩:qy) (⟨zm13,zL14,zl15⟩:qA) (qP (⟨zi10,zl11,zR12⟩:qy) (⟨zm13,zL14,zl15⟩:qA))).1).qL)[c_51]!).length) ce284],xe true Qr Qo due_51,atF b92 0 [.slice ra84aAlive ((((xX (⟨zi10,zl11,zR12⟩:qy) (⟨zm13,zL14,zl15⟩:qA) (qP (⟨zi10,zl11,zR12⟩:qy) (⟨zm13,zL14,zl15⟩:qA))).1).qF).length) rc84aAlive,.slice (some ⟨b281,o282,none⟩) ((((xX (⟨zi10,zl11,zR12⟩:qy) (⟨zm13,zL14,zl15⟩:qA) (qP (⟨zi10,zl11,zR12⟩:qy) (⟨zm13,zL14,zl15⟩:qA))).1).qL).length) rc84aBags,.slice ra84aAround ((((xX (⟨zi10,zl11,zR12⟩:qy) (⟨zm13,zL14,zl15⟩:qA) (qP (⟨zi10,zl11,zR12⟩:qy) (⟨zm13,zL14,zl15⟩:qA))).1).qH).length) rc84aAround],atF b41 0 [.slice ra25 zm13.length rc27,.slice ra28 zL14.length rc30,.slice ra33 zl15.length rc35],sF true G128 ra33 rc35 zl15,sF true G125 ra28 rc30 zL14,sF true G123 ra25 rc27 zm13,sF true G121 ra84aAround rc84aAround (((xX (⟨zi10,zl11,zR12⟩:qy) (⟨zm13,zL14,zl15⟩:qA) (qP (⟨zi10,zl11,zR12⟩:qy) (⟨zm13,zL14,zl15⟩:qA))).1).qH),sF true G118 (some ⟨b281,o282,none⟩) rc84aBags (((xX (⟨zi10,zl11,zR12⟩:qy) (⟨zm13,zL14,zl15⟩:qA) (qP (⟨zi10,zl11,zR12⟩:qy) (⟨zm13,zL14,zl15⟩:qA))).1).qL),sF true G116 ra84aAlive rc84aAlive (((xX (⟨zi10,zl11,zR12⟩:qy) (⟨zm13,zL14,zl15⟩:qA) (qP (⟨zi10,zl11,zR12⟩:qy) (⟨zm13,zL14,zl15⟩:qA))).1).qF)]:=H.oldies HB 2
         have S:=H.jm [0,1] [2,3,4,5,6,7,8,9,10]
         refine tI 3 rfl rfl rfl S ?_
         refine rtp 5 (.slice a166 (yu+1) c167) S ?_
         refine rtp 6 (.int .i64 c_51) S ?_
         obtain ⟨b285,rfl⟩:=H.Qv 1 rfl qf
         refine tI 7 rfl rfl rfl (H.pick [0,1] [2,3,4,5,6,7,8,9,10]) ?_
         obtain ⟨a286,c287,hx288⟩:=H.innerHead 2 rfl c_51 qf
         refine tL 8 rfl rfl (fun _ h=>h.rowGet 1 rfl (by rw [show 0+(c_51:Int).toNat * 1=c_51 by omega];exact hx288)) (H.pick [0,1] [2,3,4,5,6,7,8,9,10]) ?_
         refine ro 4 rfl (zk (.slice ae284 (((((xX (⟨zi10,zl11,zR12⟩:qy) (⟨zm13,zL14,zl15⟩:qA) (qP (⟨zi10,zl11,zR12⟩:qy) (⟨zm13,zL14,zl15⟩:qA))).1).qL)[c_51]!).length) ce284) Try.isAgg24 rfl (H.zZ 1 rfl 0 rfl) (⟨H.pick [0,1] [2,3,4,5,6,7,8,9,10],(ro 9 rfl ?_)⟩))
         obtain ⟨G289,hn290,h291⟩:=H.innerRep 2 rfl c_51 qf hx288
         refine oq (a2Same_ok _ ((((xX (⟨zi10,zl11,zR12⟩:qy) (⟨zm13,zL14,zl15⟩:qA) (qP (⟨zi10,zl11,zR12⟩:qy) (⟨zm13,zL14,zl15⟩:qA))).1).qL)[c_51]!) ((due_51[c_51]!).l) (H.get 0 rfl).1 h291) H fun w293 H=>⟨H.pick [0,1] [2,3,4,5,6,7,8,9,10],(rtp 10 (.bool (!(decide (((((xX (⟨zi10,zl11,zR12⟩:qy) (⟨zm13,zL14,zl15⟩:qA) (qP (⟨zi10,zl11,zR12⟩:qy) (⟨zm13,zL14,zl15⟩:qA))).1).qL)[c_51]!)=((due_51[c_51]!).l))))) (H.pick [0,1] [2,3,4,5,6,7,8,9,10]) ?_)⟩
         refine xh qh (t_n (xZ (!(decide (((((xX (⟨zi10,zl11,zR12⟩:qy) (⟨zm13,zL14,zl15⟩:qA) (qP (⟨zi10,zl11,zR12⟩:qy) (⟨zm13,zL14,zl15⟩:qA))).1).qL)[c_51]!)=((due_51[c_51]!).l)))) rfl (fun h=>absurd (Z.bag D3 qf) (of_decide_eq_false (xF h))) (fun h295=>?_)))
         replace h295:=xm h295
         replace h295:=of_decide_eq_true h295
         refine xB (b_n (t_n (zJ (sp (.int .i64 c_51) (sw (vk c_51 1 rfl rfl qf (sp (.int .i64 (c_51+1)) (zK (xH (m' :=(((((xX (⟨zi10,zl11,zR12⟩:qy) (⟨zm13,zL14,zl15⟩:qA) (qP (⟨zi10,zl11,zR12⟩:qy) (⟨zm13,zL14,zl15⟩:qA))).1).qL).length) - ((c_51+1):Int)).toNat) qf ⟨_,c_51+1,uE4,?_,rfl,N,H.pick [0,1] [2,3,4,5,6,7,8,9,10]⟩)))))))))
         · omega
        ·skip
         refine zx4 (zx ?_)
         refine y9 rfl H fun H=>tF 0 rfl rfl H ?_
         refine tL 1 rfl rfl (fun _ h=>h.zZ 1 rfl 2 rfl) H ?_
         refine rtp 2 (.slice a166 (yu+1) c167) H ?_
         refine tF 3 rfl rfl H ?_
         refine tL 4 rfl rfl (fun _ h=>h.zZ 2 rfl 1 rfl) H ?_
         refine tN 5 rfl rfl H ?_
         obtain ⟨b297,rfl⟩:=H.Qv 1 rfl qf
         refine tI 6 rfl rfl rfl H ?_
         obtain ⟨a298,c299,hx300⟩:=H.innerHead 0 rfl zL14.length qf
         refine tL 7 rfl rfl (fun _ h=>h.rowGet 1 rfl (by rw [show 0+(zL14.length:Int).toNat * 1=zL14.length by omega];exact hx300)) H ?_
         refine ro 8 rfl ?_
         obtain ⟨G301,hn302,h303⟩:=H.innerRep 0 rfl zL14.length qf hx300
         refine oq (a2Same_ok _ (((xX (⟨zi10,zl11,zR12⟩:qy) (⟨zm13,zL14,zl15⟩:qA) (qP (⟨zi10,zl11,zR12⟩:qy) (⟨zm13,zL14,zl15⟩:qA))).1).qH) ((due_51[zL14.length]!).l) (H.get 6 rfl).1 h303) H fun w305 H=>⟨H,(rtp 9 (.bool (decide ((((xX (⟨zi10,zl11,zR12⟩:qy) (⟨zm13,zL14,zl15⟩:qA) (qP (⟨zi10,zl11,zR12⟩:qy) (⟨zm13,zL14,zl15⟩:qA))).1).qH)=((due_51[zL14.length]!).l)))) H ?_)⟩
         refine xh qh (t_n (c_ret (ret1 (.bool (decide ((((xX (⟨zi10,zl11,zR12⟩:qy) (⟨zm13,zL14,zl15⟩:qA) (qP (⟨zi10,zl11,zR12⟩:qy) (⟨zm13,zL14,zl15⟩:qA))).1).qH)=((due_51[zL14.length]!).l)))) rfl rfl ⟨_,rfl,?_,(Ext.trans' B0 H.base)⟩)))
         rw [decide_eq_true (by rw [show zL14.length=xJ (⟨zi10,zl11,zR12⟩:qy) by omega];exact Z.rim D3)]
    ·skip
     replace h96:=bne_iff_ne.1 h96
     refine xQ [60,61,62,63] (sp (.bool true) (zjn (xZ true rfl (fun _=>zcr (sp (.bool false) (zjr (t_r (ret1 (.bool false) rfl rfl ⟨_,rfl,?_,H.base⟩))))) (fun h=>absurd h qj))))
     exfalso;first | omega | contradiction
   ·skip
    replace h95:=bne_iff_ne.1 h95
    refine xQ [52,53,54,55,56,57] (sps [.bool true,.bool true] (xQ [60,61,62,63] (sp (.bool true) (zjn (xZ true rfl (fun _=>zcr (sp (.bool false) (zjr (t_r (ret1 (.bool false) rfl rfl ⟨_,rfl,?_,H.base⟩))))) (fun h=>absurd h qj))))))
    exfalso;first | omega | contradiction
 ·skip
  replace h1:=of_decide_eq_true h1
  refine xQ [9,10,11] (sps [.bool true,.bool true] (zjr (ret1 (.bool true) rfl rfl ⟨_,rfl,(zjn (xZ true rfl (fun _=>zcr (sp (.bool true) (zjr (t_r (ret1 (.bool true) rfl rfl ⟨_,rfl,?_,H.base⟩))))) (fun h=>absurd h qj)))⟩)))
  rfl
end
section
open Go.ChangeShapes Go.WideShapes Go.ChangeAt Go.RowKit Go.Joins
set_option linter.unusedVariables false
set_option linter.unusedSimpArgs false
def Reads (P:Program) (t:TypeId) (α:Type) [qR α]:Prop:=
  ∀ {H:Type} {enc:TypeId×Value→H} {w:World} {spare:Nat→Bool} {held:Bool} {fuel:Nat} {cs:List Value} {x:DataW H×List MemPlace},
    DataW.trod enc P w 0 spare held fuel t cs=some x→∃ F,∃ y:α,qR.rep w F cs y

theorem cell_spot {w:World} {a:Addr} {v:Value} (h:w.cell? a=some v):a.spot=none:=by
  unfold World.cell? at h
  split at h
  · split at h
    · cases h
    · rename_i hs;simpa using hs
  · cases h

theorem reads_slice {α:Type} [qR α] {P:Program} {t e:TypeId} (hu:P.underlying t=some (.slice e)) (hc:P.cellsOf e=qR.size α) (hz:0 < qR.size α) (he:Reads P e α):Reads P t (List α):=by
  intro H enc w spare held fuel cs x h
  rcases DataW.trod_slice hu h with ⟨rfl,_⟩ | ⟨a,len,cap,elems,rest,n,_,rfl,_,_,hlc,hcm,hel,hget,_⟩
  · exact ⟨[],[],none,0,rfl,by simp,Or.inl ⟨rfl,rfl⟩⟩
  · have hm:cap≤9223372036854775807:=by unfold maxLen at hcm;omega
    rcases Nat.eq_zero_or_pos len with h0 | h0
    · subst h0
      exact ⟨[],[],some a,cap,rfl,by simp,Or.inl ⟨rfl,rfl⟩⟩
    · have hone:∀ i,i < len→∃ ci Fi,∃ y:α,w.cells? 0 (a.add (i * qR.size α)) (qR.size α)=some ci∧qR.rep w Fi ci y:=by
        intro i hi
        have hg:=hget i hi
        rw [hc] at hg
        have hs:elems[i]? =some (elems[i]'(by omega)):=List.getElem?_eq_getElem qf
        rw [hs] at hg
        obtain ⟨ci,h1,h2⟩:=Option.bind_eq_some_iff.1 hg
        obtain ⟨Fi,y,hr⟩:=he h2
        exact ⟨ci,Fi,y,h1,hr⟩
      have hsp:a.spot=none:=by
        obtain ⟨ci,Fi,y,h1,_⟩:=hone 0 h0
        obtain ⟨_,hl,hcell⟩:=World.cells?_some h1
        have:=hcell 0 hz
        rw [List.getElem?_eq_getElem (show 0 < ci.length by omega)] at this
        have:=cell_spot this
        simpa [Addr.add] using this
      obtain ⟨b,off,sp⟩:=a
      simp only at hsp
      subst hsp
      have hadd:∀ i j:Nat,((⟨b,off,none⟩:Addr).add (i * qR.size α)).add j=⟨b,off+i * qR.size α+j,none⟩:=fun i j=>by simp [Addr.add_mid]
      have hall:∀ m,m≤len→∃ F vs,∃ l:List α,l.length=m∧reps w F vs l∧jQ w b off vs:=by
        intro m
        induction m with
        | zero=>exact fun _=>⟨[],[],[],rfl,⟨rfl,rfl⟩,fun i v hv=>by simp at hv⟩
        | succ m ih=>
          intro hm'
          obtain ⟨F,vs,l,hl,hr,hcl⟩:=ih qf
          obtain ⟨ci,Fi,y,h1,h2⟩:=hone m qf
          obtain ⟨_,hcl2,hcell⟩:=World.cells?_some h1
          refine ⟨F++Fi,vs++ci,l++[y],by simp [hl],yl hr (reps_one h2),fun i v hv=>?_⟩
          have hvl:=reps_len hr
          rw [hl] at hvl
          rcases Nat.lt_or_ge i vs.length with hi | hi
          · rw [List.getElem?_append_left hi] at hv
            exact hcl i v hv
          · rw [List.getElem?_append_right hi] at hv
            have hi2:i - vs.length < ci.length:=by
              rcases Nat.lt_or_ge (i - vs.length) ci.length with h | h
              · exact h
              · simp [h] at hv
            have:=hcell (i - vs.length) qf
            rw [hadd,hv] at this
            rw [← this]
            congr 1
            rw [show off+i=off+m * qR.size α+(i - vs.length) by omega]
      obtain ⟨F,vs,l,hl,hr,hcl⟩:=hall len (Nat.le_refl _)
      have hb:b < w.heap.size:=by
        have h1:0 < vs.length:=by rw [reps_len hr,hl];exact Nat.mul_pos h0 hz
        exact World.block_lt_of_cell? w _ (hcl 0 _ (List.getElem?_eq_getElem h1))
      subst hl
      exact ⟨b :: F,l,some ⟨b,off,none⟩,cap,rfl,⟨by omega,hlc⟩,Or.inr ⟨b,off,F,vs,rfl,rfl,hb,hr,hcl⟩⟩

theorem arg_slice {P:Program} {α:Type} [qR α] {H:Type} {enc:TypeId×Value→H} {w:World} {spare:Nat→Bool} {held:Bool} {b0:Nat} {t e:TypeId} {v:Value} {d:DataW H} {p:List MemPlace} (hu:P.underlying t=some (.slice e)) (hr:Reads P t (List α))
    (hv:Value.okWide P w .any b0 t v) (h:DataW.Trod enc P w 0 spare held t v d p):∃ (a:yOA) (c:Nat) (F:yLN) (l:List α),v=.slice a l.length c∧qR.rep w F [.slice a l.length c] l:=by
  obtain ⟨a,m,c,rfl⟩:=okWide_slice hu hv
  obtain ⟨fuel,hf⟩:=h
  obtain ⟨F,l,hl⟩:=hr hf
  have hcs:(Value.slice a m c).cells.toList=[.slice a m c]:=rfl
  rw [hcs] at hl
  obtain ⟨a',c',hc,hx⟩:=id hl
  simp only [List.cons.injEq,Value.slice.injEq,and_true] at hc
  obtain ⟨rfl,rfl,rfl⟩:=hc
  exact ⟨a,c,F,l,rfl,hl⟩
section
variable {H : Type} {enc : TypeId × Value → H} {P : Program}

theorem trodAll_below (hl:laidOutB P=true) {W W' :World} (hb:Below W.heap.size W W'):
    ∀ (ts:List TypeId) (vs:List Value) (ds:List (DataW H)) (ps:List MemPlace),(∀ t∈ts,P.readableRec t=true∧t < P.types.size)→
      DataW.TrodAll enc P W 0 (fun _=>true) true ts vs ds ps→(∀ x∈ps,x.block < W.heap.size)→
      DataW.TrodAll enc P W' 0 (fun b=>decide (b < W.heap.size)) true ts vs ds ps
  | [],vs,ds,ps,_,h,_=>by
    obtain ⟨rfl,rfl,rfl⟩:=trodAll_nil h
    exact trodAll_mk0
  | t :: ts,vs,ds,ps,hr,h,hp=>by
    obtain ⟨v,vs',d,ds',p,q,rfl,rfl,rfl,h0,h1⟩:=trodAll_cons h
    have ht:=hr t (List.mem_cons_self ..)
    exact trodAll_cons_mk (Below.trod hl ht.1 ht.2 h0 hb (fun x hx=>hp x (List.mem_append_left _ hx)))
      (trodAll_below hl hb ts vs' ds' q (fun t' ht' =>hr t' (List.mem_cons_of_mem _ ht')) h1 (fun x hx=>hp x (List.mem_append_right _ hx)))

theorem post_law {f:Func} {s:ChangeSpec} {W W' :World} {args:Array Value} {tb:TypeId} {ds gs:List (DataW H)} {before:List MemPlace}
    (hW:DataW.Whole enc P f.params.toList s.vars false W args.toList ds gs before) (hv:s.vars=[])
    (hs:s.fn H (ds++[])={ results:=[.lit (.bool true)],args:=ds }) (hr:f.resultTypes=#[tb]) (hu:P.underlying tb=some .bool)
    (hl:laidOutB P=true) (hts:∀ t∈f.params.toList,P.readableRec t=true∧t < P.types.size) (hb:Below W.heap.size W W'):
    s.post enc P f false true false false W args (.bool true) W' :=by
  have hW' :=hW
  obtain ⟨p,q,hA,hV,rfl,hz,hn⟩:=hW
  rw [hv] at hV
  obtain ⟨rfl,rfl⟩:=trodVars_none hV
  have hlt:∀ x∈p++[],x.block < W.heap.size:=fun x hx=>hW'.lt x hx
  refine ⟨ds,[],p++[],[],p,[],hW',?_,?_,?_,World.keptBut_mono (fun x hx=>⟨hx,Or.inr (Or.inl (by simpa using hx))⟩) (hb.frame (·∈p++[])),fun h=>by cases h⟩
  · rw [hs,hr]
    simp only [Value.resultList]
    exact trodAll_mk1 (shut_bool hu true)
  · rw [hs]
    exact trodAll_below hl hb _ _ _ _ hts hA (fun x hx=>hlt x (by simpa using hx))
  · rw [hv,hs]
    exact rfl
end
theorem reads_byte {P:Program} {t:TypeId} (hu:P.underlying t=some (.int .u8)):Reads P t UInt8:=fun h=>by
  obtain ⟨n,rfl,_,hw⟩:=DataW.trod_int hu h
  have hb:0≤n∧n≤255:=by
    simp [Lit.wf,IntKind.min,IntKind.max,IntKind.signed,IntKind.bits] at hw
    omega
  refine ⟨[],UInt8.ofNat n.toNat,rfl,?_⟩
  have e:(UInt8.ofNat n.toNat).toNat=n.toNat:=by
    simp
    omega
  rw [e,Int.toNat_of_nonneg hb.1]
end
end Go.Proofs.Ytcpnclokildllaa
