/- Walks and laws, printed by program and by hand: what each function comes to, for all arguments, part 6. -/
import Derived.Test.YtcpnclokildllaaGreatA5
namespace Go.Proofs.YtcpnclokildllaaGreat
open Go.Proofs.Tryz
set_option linter.unusedVariables false
set_option linter.unusedSimpArgs false
open Go.Proofs.YtcpnclokildllaaGreat.Tot (tot)
open Go.Proofs.YtcpnclokildllaaGreat.Mark (cnt mrk mkd mkd_mark cnt_mark)
section
open Go.RowKit
set_option linter.unusedVariables false
set_option linter.unusedSimpArgs false
set_option maxRecDepth 100000
set_option maxHeartbeats 4000000
variable {QH Xd yZ QG Xc yY qC qK qQ qY qL : Nat}
theorem dRule_ok {W0 w:World} {ps:List Prv} {Γ:List Fact} {Ns:List yLN} (code:List UInt8) (ip:Int) (sd:Int) (bs:Nat) (ac:yOA) (cc:Nat) (Fc:yLN) (kk:Int) (par:yLI) (rules:List jL) (bY:Nat) (rap:yOA) (rnp:Nat) (rcp:Nat) (raR:yOA) (rnR:Nat) (rcR:Nat) (rxR:List Value) (rFR:yLN) (H:St W0 w ((.box bs [Sv ac code.length cc,.int .i64 ip,.int .u64 sd] 127) :: (.box bY [.int .i64 kk,Sv rap rnp rcp,Sv raR rnR rcR] 27) :: (rr rap rnp rcp 2 1 (par.map (Value.int .i64))) :: (rr raR rnR rcR 56 9 rxR) :: ps) ((sF false Fc ac cc code) :: (xN true rFR rxR rules) :: Γ)) (N:Fresh W0.heap.size (rFR :: Ns)) (K0:Kept Ns Γ) (q0:0≤ip∧ip≤60000) (f0:yg (⟨kk,par,rules⟩:qI)):Calls Tryz.prog 144 #[.pointer (some ⟨bs,0,none⟩),.pointer (some ⟨bY,0,none⟩)] w (fun e w' =>∃ v,e=.returned v∧∃ (ip_:Int) (sd_:Int) (cell_:Int) (rank_:Int) (need_:yLI) (have_:yLI) (lack_:yLI) (here_:yLI) (out_:yLI) (into_:List IntoD) (melts_:Bool) (raN:yOA) (rnN:Nat) (rcN:Nat) (raH:yOA) (rnH:Nat) (rcH:Nat) (raL:yOA) (rnL:Nat) (rcL:Nat) (raE:yOA) (rnE:Nat) (rcE:Nat) (raO:yOA) (rnO:Nat) (rcO:Nat) (raI:yOA) (rnI:Nat) (rcI:Nat) (rxI:List Value) (rFI:yLN),(ip≤ip_∧ip_≤ip+300)∧(RuleDr kk par ⟨cell_,rank_,need_,have_,lack_,here_,out_,into_,melts_⟩)∧v=.agg #[.int .i64 cell_,.int .i64 rank_,Sv raN rnN rcN,Sv raH rnH rcH,Sv raL rnL rcL,Sv raE rnE rcE,Sv raO rnO rcO,Sv raI rnI rcI,Bv melts_]∧Fresh W0.heap.size (rFR :: rFI :: Ns)∧St W0 w' ((.box bs [Sv ac code.length cc,.int .i64 ip_,.int .u64 sd_] 127) :: (.box bY [.int .i64 kk,Sv rap rnp rcp,Sv raR rnR rcR] 27) :: (rr rap rnp rcp 2 1 (par.map (Value.int .i64))) :: (rr raR rnR rcR 56 9 rxR) :: (rr raN rnN rcN 2 1 (need_.map (Value.int .i64))) :: (rr raH rnH rcH 2 1 (have_.map (Value.int .i64))) :: (rr raL rnL rcL 2 1 (lack_.map (Value.int .i64))) :: (rr raE rnE rcE 2 1 (here_.map (Value.int .i64))) :: (rr raO rnO rcO 2 1 (out_.map (Value.int .i64))) :: (rr raI rnI rcI 142 2 rxI) :: ps) ((sF false Fc ac cc code) :: (xN true rFR rxR rules) :: (xN true rFI rxI into_) :: Γ)):=by
 refine en Tryz.func144 Tryz.ntmps144 ?_
 have ncode:=qV (H.get 0 rfl).1
 obtain rfl:=H.yx 2 rfl
 obtain rfl:=H.x8 (α:=jL) 3 rfl 1 rfl qj
 have f1:1≤kk∧kk≤8:=f0.1
 have f2:1≤par.length∧par.length≤6:=f0.2.1
 refine zcr (sw (xZ H ti56 [.int .i64 0,.int .i64 0,Sv none 0 0,Sv none 0 0,Sv none 0 0,Sv none 0 0,Sv none 0 0,Sv none 0 0,Bv false] fun b1 w2 H=>zjc (sps [.pointer (some ⟨bY,0,none⟩),.pointer (some ⟨bY,0,none⟩)] (oF rfl (oL rfl (H.cell 2 rfl rfl) (oN rfl (sp (.int .i64 par.length) (zjn (zf ?_)))))))))
 refine c_cut (fun ρ w13=>∃ (xY:Env) (zi3:Int) (zi4:Int) (zi5:Int) (zl6:yLI) (b7:Nat) (ra8:yOA) (rc9:Nat) (b10:Nat) (b11:Nat) (zi12:Int),ρ=upd (upd (upd (upd (upd xY 0 (.pointer (some ⟨bs,0,none⟩))) 1 (.pointer (some ⟨bY,0,none⟩))) 4 (.pointer (some ⟨b1,0,none⟩))) 5 (.int .i64 par.length)) 6 (.pointer (some ⟨b7,0,none⟩))∧(ip≤zi3∧zi3≤ip+2)∧(0≤zi4∧(zi4 < par.length∨zi4=0))∧(zi3≤zi5∧zi5≤zi3+24)∧(jf kk (2:Int) zl6∧Xh zl6≠0)∧Fresh W0.heap.size (rFR :: Ns)∧St W0 w13 ((.box b7 [.int .i64 zi4,.int .i64 0,Sv ra8 zl6.length rc9,Sv (some ⟨b10,0,none⟩) kk.toNat kk.toNat,Sv (some ⟨b11,0,none⟩) kk.toNat kk.toNat,Sv none 0 0,Sv none 0 0,Sv none 0 0,Bv false] 56) :: (rr (some ⟨b11,0,none⟩) kk.toNat kk.toNat 2 1 ((List.replicate kk.toNat (0:Int)).map (Value.int .i64))) :: (rr (some ⟨b10,0,none⟩) kk.toNat kk.toNat 2 1 ((List.replicate kk.toNat (0:Int)).map (Value.int .i64))) :: (.box bs [Sv ac code.length cc,.int .i64 zi5,.int .u64 zi12] 127) :: (rr ra8 zl6.length rc9 2 1 (zl6.map (Value.int .i64))) :: (.box b1 [.int .i64 0,.int .i64 0,Sv none 0 0,Sv none 0 0,Sv none 0 0,Sv none 0 0,Sv none 0 0,Sv none 0 0,Bv false] 56) :: (.box bY [.int .i64 kk,Sv rap par.length rcp,Sv raR rules.length rcR] 27) :: (rr rap par.length rcp 2 1 (par.map (Value.int .i64))) :: (rr raR rules.length rcR 56 9 rxR) :: ps) ((sF false Fc ac cc code) :: (xN true rFR rxR rules) :: Γ)) ?_ ?_
 ·skip
  refine VV rfl H [0,2,3,4] [0,1] fun H=>?_
  refine Xi (fun ρ w25=>∃ (xY:Env) (zi15:Int) (zi16:Int) (zi17:Int) (zl18:yLI) (ra19:yOA) (rc20:Nat) (b21:Nat) (b22:Nat) (zi23:Int),ρ=upd (upd (upd (upd (upd (upd (upd (upd xY 0 (.pointer (some ⟨bs,0,none⟩))) 1 (.pointer (some ⟨bY,0,none⟩))) 4 (.pointer (some ⟨b1,0,none⟩))) 5 (.int .i64 par.length)) 15 (.int .i64 zi16)) 21 (Sv ra19 zl18.length rc20)) 26 (Sv (some ⟨b21,0,none⟩) kk.toNat kk.toNat)) 31 (Sv (some ⟨b22,0,none⟩) kk.toNat kk.toNat)∧(ip≤zi15∧zi15≤ip+2)∧(0≤zi16∧(zi16 < par.length∨zi16=0))∧(zi15≤zi17∧zi17≤zi15+24)∧(jf kk (2:Int) zl18∧Xh zl18≠0)∧Fresh W0.heap.size (rFR :: Ns)∧St W0 w25 ((rr (some ⟨b22,0,none⟩) kk.toNat kk.toNat 2 1 ((List.replicate kk.toNat (0:Int)).map (Value.int .i64))) :: (rr (some ⟨b21,0,none⟩) kk.toNat kk.toNat 2 1 ((List.replicate kk.toNat (0:Int)).map (Value.int .i64))) :: (.box bs [Sv ac code.length cc,.int .i64 zi17,.int .u64 zi23] 127) :: (rr ra19 zl18.length rc20 2 1 (zl18.map (Value.int .i64))) :: (.box b1 [.int .i64 0,.int .i64 0,Sv none 0 0,Sv none 0 0,Sv none 0 0,Sv none 0 0,Sv none 0 0,Sv none 0 0,Bv false] 56) :: (.box bY [.int .i64 kk,Sv rap par.length rcp,Sv raR rules.length rcR] 27) :: (rr rap par.length rcp 2 1 (par.map (Value.int .i64))) :: (rr raR rules.length rcR 56 9 rxR) :: ps) ((sF false Fc ac cc code) :: (xN true rFR rxR rules) :: Γ)) 3 #[true,true,true,true,true,true,true,true,true,true,true,true,true,true,true,true,true,true,true,false,false,false] ?_ fun L24=>?_
  ·skip
   rintro ρ w26 ⟨xY,zi15,zi16,zi17,zl18,ra19,rc20,b21,b22,zi23,rfl,hx27,hx28,hx29,hx30,N,H⟩
   refine jb [19,20] qh qm (jQ rfl ?_ (jQ rfl ?_ jd))
   ·skip
    refine vX [.int .i64 zi16,.int .i64 0,Sv ra19 zl18.length rc20,Sv (some ⟨b21,0,none⟩) kk.toNat kk.toNat,Sv (some ⟨b22,0,none⟩) kk.toNat kk.toNat,Sv none 0 0,Sv none 0 0,Sv none 0 0,Bv false] [(0,.int .i64 zi16),(2,Sv ra19 zl18.length rc20),(3,Sv (some ⟨b21,0,none⟩) kk.toNat kk.toNat),(4,Sv (some ⟨b22,0,none⟩) kk.toNat kk.toNat)] (⟨H.pick [4,5,6,7] [0,1],(ro 20 rfl (xZ H ti56 [.int .i64 0,.int .i64 0,Sv none 0 0,Sv none 0 0,Sv none 0 0,Sv none 0 0,Sv none 0 0,Sv none 0 0,Bv false] fun b31 w32 H=>⟨H.pick [5,6,7,8] [0,1],(ro 21 rfl ?_)⟩))⟩)
    refine zu H 0 [.int .i64 zi16,.int .i64 0,Sv ra19 zl18.length rc20,Sv (some ⟨b21,0,none⟩) kk.toNat kk.toNat,Sv (some ⟨b22,0,none⟩) kk.toNat kk.toNat,Sv none 0 0,Sv none 0 0,Sv none 0 0,Bv false] sizeOf56 fun w33 H=>?_
    try dsimp only [List.set] at H
    refine ⟨H.pick [5,6,7,8] [0,1],(xJ qh ((meet ⟨_,zi15,zi16,zi17,zl18,b31,ra19,rc20,b21,b22,zi23,uE5,hx27,hx28,hx29,hx30,N,H⟩)))⟩
   ·skip
    refine xZ H ti56 [.int .i64 0,.int .i64 0,Sv none 0 0,Sv none 0 0,Sv none 0 0,Sv none 0 0,Sv none 0 0,Sv none 0 0,Bv false] fun b34 w35 H=>⟨H.pick [5,6,7,8] [0,1],(ro 19 rfl (vX [.int .i64 zi16,.int .i64 0,Sv ra19 zl18.length rc20,Sv (some ⟨b21,0,none⟩) kk.toNat kk.toNat,Sv (some ⟨b22,0,none⟩) kk.toNat kk.toNat,Sv none 0 0,Sv none 0 0,Sv none 0 0,Bv false] [(0,.int .i64 zi16),(2,Sv ra19 zl18.length rc20),(3,Sv (some ⟨b21,0,none⟩) kk.toNat kk.toNat),(4,Sv (some ⟨b22,0,none⟩) kk.toNat kk.toNat)] (⟨H.pick [5,6,7,8] [0,1],(ro 21 rfl ?_)⟩)))⟩
    refine zu H 0 [.int .i64 zi16,.int .i64 0,Sv ra19 zl18.length rc20,Sv (some ⟨b21,0,none⟩) kk.toNat kk.toNat,Sv (some ⟨b22,0,none⟩) kk.toNat kk.toNat,Sv none 0 0,Sv none 0 0,Sv none 0 0,Bv false] sizeOf56 fun w36 H=>?_
    try dsimp only [List.set] at H
    refine ⟨H.pick [5,6,7,8] [0,1],(xJ qh ((meet ⟨_,zi15,zi16,zi17,zl18,b34,ra19,rc20,b21,b22,zi23,uE5,hx27,hx28,hx29,hx30,N,H⟩)))⟩
  refine Xi (fun ρ w46=>∃ (xY:Env) (zi37:Int) (zi38:Int) (zi39:Int) (zl40:yLI) (ra41:yOA) (rc42:Nat) (b43:Nat) (zi44:Int),ρ=upd (upd (upd (upd (upd (upd (upd (upd xY 0 (.pointer (some ⟨bs,0,none⟩))) 1 (.pointer (some ⟨bY,0,none⟩))) 4 (.pointer (some ⟨b1,0,none⟩))) 5 (.int .i64 par.length)) 15 (.int .i64 zi38)) 21 (Sv ra41 zl40.length rc42)) 26 (Sv (some ⟨b43,0,none⟩) kk.toNat kk.toNat)) 30 (.int .i64 kk)∧(ip≤zi37∧zi37≤ip+2)∧(0≤zi38∧(zi38 < par.length∨zi38=0))∧(zi37≤zi39∧zi39≤zi37+24)∧(jf kk (2:Int) zl40∧Xh zl40≠0)∧Fresh W0.heap.size (rFR :: Ns)∧St W0 w46 ((rr (some ⟨b43,0,none⟩) kk.toNat kk.toNat 2 1 ((List.replicate kk.toNat (0:Int)).map (Value.int .i64))) :: (.box bs [Sv ac code.length cc,.int .i64 zi39,.int .u64 zi44] 127) :: (rr ra41 zl40.length rc42 2 1 (zl40.map (Value.int .i64))) :: (.box b1 [.int .i64 0,.int .i64 0,Sv none 0 0,Sv none 0 0,Sv none 0 0,Sv none 0 0,Sv none 0 0,Sv none 0 0,Bv false] 56) :: (.box bY [.int .i64 kk,Sv rap par.length rcp,Sv raR rules.length rcR] 27) :: (rr rap par.length rcp 2 1 (par.map (Value.int .i64))) :: (rr raR rules.length rcR 56 9 rxR) :: ps) ((sF false Fc ac cc code) :: (xN true rFR rxR rules) :: Γ)) 4 #[true,true,true,true,true,true,true,true,true,true,true,true,true,true,true,true,true,true,false,false,false,false] ?_ fun L45=>?_
  ·skip
   rintro ρ w47 ⟨xY,zi37,zi38,zi39,zl40,ra41,rc42,b43,zi44,rfl,hx48,hx49,hx50,hx51,N,H⟩
   refine jb [18,20] qh qm (jQ rfl ?_ (jQ rfl ?_ jd))
   ·skip
    refine ji H underlying24 ti2 kk.toNat rfl rfl qf qf qf fun b52 w53 H=>⟨H.pick [4,5,6,7] [0,1],(y8 L24 ⟨_,zi37,zi38,zi39,zl40,ra41,rc42,b43,b52,zi44,uE8,hx48,hx49,hx50,hx51,N,H⟩)⟩
   ·skip
    refine xZ H ti56 [.int .i64 0,.int .i64 0,Sv none 0 0,Sv none 0 0,Sv none 0 0,Sv none 0 0,Sv none 0 0,Sv none 0 0,Bv false] fun b54 w55 H=>⟨H.pick [4,5,6,7] [0,1],(ro 18 rfl (ji H underlying24 ti2 kk.toNat rfl rfl qf qf qf fun b56 w57 H=>⟨H.pick [5,6,7,8] [0,1],(ro 19 rfl ?_)⟩))⟩
    refine vX [.int .i64 zi38,.int .i64 0,Sv ra41 zl40.length rc42,Sv (some ⟨b43,0,none⟩) kk.toNat kk.toNat,Sv (some ⟨b56,0,none⟩) kk.toNat kk.toNat,Sv none 0 0,Sv none 0 0,Sv none 0 0,Bv false] [(0,.int .i64 zi38),(2,Sv ra41 zl40.length rc42),(3,Sv (some ⟨b43,0,none⟩) kk.toNat kk.toNat),(4,Sv (some ⟨b56,0,none⟩) kk.toNat kk.toNat)] (⟨H.pick [5,6,7,8] [0,1],(ro 21 rfl ?_)⟩)
    refine zu H 1 [.int .i64 zi38,.int .i64 0,Sv ra41 zl40.length rc42,Sv (some ⟨b43,0,none⟩) kk.toNat kk.toNat,Sv (some ⟨b56,0,none⟩) kk.toNat kk.toNat,Sv none 0 0,Sv none 0 0,Sv none 0 0,Bv false] sizeOf56 fun w58 H=>?_
    try dsimp only [List.set] at H
    refine ⟨H.pick [5,6,7,8] [0,1],(xJ qh ((meet ⟨_,zi37,zi38,zi39,zl40,b54,ra41,rc42,b43,b56,zi44,uE5,hx48,hx49,hx50,hx51,N,H.jg 9 2 [1,0,2,3,4,5,6,7,8] [0,1] qo qo⟩)))⟩
  refine Xi (fun ρ w68=>∃ (xY:Env) (zi59:Int) (zi60:Int) (zi61:Int) (zl62:yLI) (ra63:yOA) (rc64:Nat) (b65:Nat) (zi66:Int),ρ=upd (upd (upd (upd (upd (upd (upd (upd xY 0 (.pointer (some ⟨bs,0,none⟩))) 1 (.pointer (some ⟨bY,0,none⟩))) 4 (.pointer (some ⟨b1,0,none⟩))) 5 (.int .i64 par.length)) 15 (.int .i64 zi60)) 21 (Sv ra63 zl62.length rc64)) 25 (.int .i64 kk)) 31 (Sv (some ⟨b65,0,none⟩) kk.toNat kk.toNat)∧(ip≤zi59∧zi59≤ip+2)∧(0≤zi60∧(zi60 < par.length∨zi60=0))∧(zi59≤zi61∧zi61≤zi59+24)∧(jf kk (2:Int) zl62∧Xh zl62≠0)∧Fresh W0.heap.size (rFR :: Ns)∧St W0 w68 ((rr (some ⟨b65,0,none⟩) kk.toNat kk.toNat 2 1 ((List.replicate kk.toNat (0:Int)).map (Value.int .i64))) :: (.box bs [Sv ac code.length cc,.int .i64 zi61,.int .u64 zi66] 127) :: (rr ra63 zl62.length rc64 2 1 (zl62.map (Value.int .i64))) :: (.box b1 [.int .i64 0,.int .i64 0,Sv none 0 0,Sv none 0 0,Sv none 0 0,Sv none 0 0,Sv none 0 0,Sv none 0 0,Bv false] 56) :: (.box bY [.int .i64 kk,Sv rap par.length rcp,Sv raR rules.length rcR] 27) :: (rr rap par.length rcp 2 1 (par.map (Value.int .i64))) :: (rr raR rules.length rcR 56 9 rxR) :: ps) ((sF false Fc ac cc code) :: (xN true rFR rxR rules) :: Γ)) 4 #[true,true,true,true,true,true,true,true,true,true,true,true,true,false,true,true,true,true,true,false,false,false] ?_ fun L67=>?_
  ·skip
   rintro ρ w69 ⟨xY,zi59,zi60,zi61,zl62,ra63,rc64,b65,zi66,rfl,hx70,hx71,hx72,hx73,N,H⟩
   refine jb [13,20] qh qm (jQ rfl ?_ (jQ rfl ?_ jd))
   ·skip
    refine ji H underlying24 ti2 kk.toNat rfl rfl qf qf qf fun b74 w75 H=>⟨H.pick [4,5,6,7] [0,1],(y8 L24 ⟨_,zi59,zi60,zi61,zl62,ra63,rc64,b74,b65,zi66,uE8,hx70,hx71,hx72,hx73,N,H.jg 8 2 [1,0,2,3,4,5,6,7] [0,1] qo qo⟩)⟩
   ·skip
    refine xZ H ti56 [.int .i64 0,.int .i64 0,Sv none 0 0,Sv none 0 0,Sv none 0 0,Sv none 0 0,Sv none 0 0,Sv none 0 0,Bv false] fun b76 w77 H=>⟨H.pick [4,5,6,7] [0,1],(ro 13 rfl (ji H underlying24 ti2 kk.toNat rfl rfl qf qf qf fun b78 w79 H=>⟨H.pick [5,6,7,8] [0,1],(ro 19 rfl ?_)⟩))⟩
    refine vX [.int .i64 zi60,.int .i64 0,Sv ra63 zl62.length rc64,Sv (some ⟨b78,0,none⟩) kk.toNat kk.toNat,Sv (some ⟨b65,0,none⟩) kk.toNat kk.toNat,Sv none 0 0,Sv none 0 0,Sv none 0 0,Bv false] [(0,.int .i64 zi60),(2,Sv ra63 zl62.length rc64),(3,Sv (some ⟨b78,0,none⟩) kk.toNat kk.toNat),(4,Sv (some ⟨b65,0,none⟩) kk.toNat kk.toNat)] (⟨H.pick [5,6,7,8] [0,1],(ro 21 rfl ?_)⟩)
    refine zu H 1 [.int .i64 zi60,.int .i64 0,Sv ra63 zl62.length rc64,Sv (some ⟨b78,0,none⟩) kk.toNat kk.toNat,Sv (some ⟨b65,0,none⟩) kk.toNat kk.toNat,Sv none 0 0,Sv none 0 0,Sv none 0 0,Bv false] sizeOf56 fun w80 H=>?_
    try dsimp only [List.set] at H
    refine ⟨H.pick [5,6,7,8] [0,1],(xJ qh ((meet ⟨_,zi59,zi60,zi61,zl62,b76,ra63,rc64,b78,b65,zi66,uE5,hx70,hx71,hx72,hx73,N,H.jg 9 2 [1,2,0,3,4,5,6,7,8] [0,1] qo qo⟩)))⟩
  refine Xi (fun ρ w90=>∃ (xY:Env) (zi81:Int) (zi82:Int) (zi83:Int) (zl84:yLI) (ra85:yOA) (rc86:Nat) (b87:Nat) (zi88:Int),ρ=upd (upd (upd (upd (upd (upd (upd (upd (upd xY 0 (.pointer (some ⟨bs,0,none⟩))) 1 (.pointer (some ⟨bY,0,none⟩))) 4 (.pointer (some ⟨b1,0,none⟩))) 5 (.int .i64 par.length)) 6 (.pointer (some ⟨b87,0,none⟩))) 15 (.int .i64 zi82)) 21 (Sv ra85 zl84.length rc86)) 25 (.int .i64 kk)) 30 (.int .i64 kk)∧(ip≤zi81∧zi81≤ip+2)∧(0≤zi82∧(zi82 < par.length∨zi82=0))∧(zi81≤zi83∧zi83≤zi81+24)∧(jf kk (2:Int) zl84∧Xh zl84≠0)∧Fresh W0.heap.size (rFR :: Ns)∧St W0 w90 ((.box b87 [.int .i64 0,.int .i64 0,Sv none 0 0,Sv none 0 0,Sv none 0 0,Sv none 0 0,Sv none 0 0,Sv none 0 0,Bv false] 56) :: (.box bs [Sv ac code.length cc,.int .i64 zi83,.int .u64 zi88] 127) :: (rr ra85 zl84.length rc86 2 1 (zl84.map (Value.int .i64))) :: (.box b1 [.int .i64 0,.int .i64 0,Sv none 0 0,Sv none 0 0,Sv none 0 0,Sv none 0 0,Sv none 0 0,Sv none 0 0,Bv false] 56) :: (.box bY [.int .i64 kk,Sv rap par.length rcp,Sv raR rules.length rcR] 27) :: (rr rap par.length rcp 2 1 (par.map (Value.int .i64))) :: (rr raR rules.length rcR 56 9 rxR) :: ps) ((sF false Fc ac cc code) :: (xN true rFR rxR rules) :: Γ)) 4 #[true,true,true,true,true,true,true,true,true,true,true,true,true,false,true,true,true,true,false,false,true,false] ?_ fun L89=>?_
  ·skip
   rintro ρ w91 ⟨xY,zi81,zi82,zi83,zl84,ra85,rc86,b87,zi88,rfl,hx92,hx93,hx94,hx95,N,H⟩
   refine jb [13,18] qh qm (jQ rfl ?_ (jQ rfl ?_ jd))
   ·skip
    refine ji H underlying24 ti2 kk.toNat rfl rfl qf qf qf fun b96 w97 H=>⟨H.pick [4,5,6,7] [0,1],(ro 18 rfl (ji H underlying24 ti2 kk.toNat rfl rfl qf qf qf fun b98 w99 H=>⟨H.pick [5,6,7,8] [0,1],(ro 19 rfl (vX [.int .i64 zi82,.int .i64 0,Sv ra85 zl84.length rc86,Sv (some ⟨b96,0,none⟩) kk.toNat kk.toNat,Sv (some ⟨b98,0,none⟩) kk.toNat kk.toNat,Sv none 0 0,Sv none 0 0,Sv none 0 0,Bv false] [(0,.int .i64 zi82),(2,Sv ra85 zl84.length rc86),(3,Sv (some ⟨b96,0,none⟩) kk.toNat kk.toNat),(4,Sv (some ⟨b98,0,none⟩) kk.toNat kk.toNat)] ?_))⟩))⟩
    refine ⟨H.pick [5,6,7,8] [0,1],(ro 21 rfl (zu H 2 [.int .i64 zi82,.int .i64 0,Sv ra85 zl84.length rc86,Sv (some ⟨b96,0,none⟩) kk.toNat kk.toNat,Sv (some ⟨b98,0,none⟩) kk.toNat kk.toNat,Sv none 0 0,Sv none 0 0,Sv none 0 0,Bv false] sizeOf56 fun w100 H=>?_))⟩
    try dsimp only [List.set] at H
    refine ⟨H.pick [5,6,7,8] [0,1],(xJ qh ((meet ⟨_,zi81,zi82,zi83,zl84,b87,ra85,rc86,b96,b98,zi88,uE5,hx92,hx93,hx94,hx95,N,H.jg 9 2 [2,0,1,3,4,5,6,7,8] [0,1] qo qo⟩)))⟩
   ·skip
    refine ji H underlying24 ti2 kk.toNat rfl rfl qf qf qf fun b101 w102 H=>⟨H.pick [4,5,6,7] [0,1],(ro 13 rfl (ji H underlying24 ti2 kk.toNat rfl rfl qf qf qf fun b103 w104 H=>⟨H.pick [5,6,7,8] [0,1],(ro 19 rfl (vX [.int .i64 zi82,.int .i64 0,Sv ra85 zl84.length rc86,Sv (some ⟨b103,0,none⟩) kk.toNat kk.toNat,Sv (some ⟨b101,0,none⟩) kk.toNat kk.toNat,Sv none 0 0,Sv none 0 0,Sv none 0 0,Bv false] [(0,.int .i64 zi82),(2,Sv ra85 zl84.length rc86),(3,Sv (some ⟨b103,0,none⟩) kk.toNat kk.toNat),(4,Sv (some ⟨b101,0,none⟩) kk.toNat kk.toNat)] ?_))⟩))⟩
    refine ⟨H.pick [5,6,7,8] [0,1],(ro 21 rfl (zu H 2 [.int .i64 zi82,.int .i64 0,Sv ra85 zl84.length rc86,Sv (some ⟨b103,0,none⟩) kk.toNat kk.toNat,Sv (some ⟨b101,0,none⟩) kk.toNat kk.toNat,Sv none 0 0,Sv none 0 0,Sv none 0 0,Bv false] sizeOf56 fun w105 H=>?_))⟩
    try dsimp only [List.set] at H
    refine ⟨H.pick [5,6,7,8] [0,1],(xJ qh ((meet ⟨_,zi81,zi82,zi83,zl84,b87,ra85,rc86,b103,b101,zi88,uE5,hx92,hx93,hx94,hx95,N,H.jg 9 2 [2,1,0,3,4,5,6,7,8] [0,1] qo qo⟩)))⟩
  refine Xi (fun ρ w112=>∃ (xY:Env) (zi106:Int) (zi107:Int) (b108:Nat) (b109:Nat) (zi110:Int),ρ=upd (upd (upd (upd (upd (upd (upd (upd (upd xY 0 (.pointer (some ⟨bs,0,none⟩))) 1 (.pointer (some ⟨bY,0,none⟩))) 4 (.pointer (some ⟨b1,0,none⟩))) 5 (.int .i64 par.length)) 15 (.int .i64 zi107)) 16 (.pointer (some ⟨bs,0,none⟩))) 20 (.int .i64 kk)) 26 (Sv (some ⟨b108,0,none⟩) kk.toNat kk.toNat)) 31 (Sv (some ⟨b109,0,none⟩) kk.toNat kk.toNat)∧(ip≤zi106∧zi106≤ip+2)∧(0≤zi107∧(zi107 < par.length∨zi107=0))∧Fresh W0.heap.size (rFR :: Ns)∧St W0 w112 ((rr (some ⟨b109,0,none⟩) kk.toNat kk.toNat 2 1 ((List.replicate kk.toNat (0:Int)).map (Value.int .i64))) :: (rr (some ⟨b108,0,none⟩) kk.toNat kk.toNat 2 1 ((List.replicate kk.toNat (0:Int)).map (Value.int .i64))) :: (.box bs [Sv ac code.length cc,.int .i64 zi106,.int .u64 zi110] 127) :: (.box b1 [.int .i64 0,.int .i64 0,Sv none 0 0,Sv none 0 0,Sv none 0 0,Sv none 0 0,Sv none 0 0,Sv none 0 0,Bv false] 56) :: (.box bY [.int .i64 kk,Sv rap par.length rcp,Sv raR rules.length rcR] 27) :: (rr rap par.length rcp 2 1 (par.map (Value.int .i64))) :: (rr raR rules.length rcR 56 9 rxR) :: ps) ((sF false Fc ac cc code) :: (xN true rFR rxR rules) :: Γ)) 4 #[true,true,true,true,true,true,true,true,false,true,true,true,true,true,true,true,true,true,true,false,false,false] ?_ fun L111=>?_
  ·skip
   rintro ρ w113 ⟨xY,zi106,zi107,b108,b109,zi110,rfl,hx114,hx115,N,H⟩
   refine jb [8,20] qh qm (jQ rfl ?_ (jQ rfl ?_ jd))
   ·skip
    have H1:=H.QC 7 2 [2,0,1,3,4,5,6] [0,1] qo qo
    have N1:Fresh _ (rFR :: Ns):=N
    have K1:Kept (Ns) ((xN true rFR rxR rules) :: Γ):=K0.behind 1 rfl
    replace K1:=K1.cons (F:=rFR) 0 rfl rfl
    refine vK #[.pointer (some ⟨bs,0,none⟩),.int .i64 kk,.int .i64 2] rfl rfl call188 (Xn code zi106 zi110 bs ac cc Fc kk (2:Int) H1 N1 K1 qg qg qg) ?_
    clear H H1 N1 K1
    rintro _ w116 ⟨zi120,zi121,zl122,ra123,rn124,rc125,hx118,hx119,rfl,N,H⟩
    obtain rfl:=H.yx 1 rfl
    refine ⟨H.pick [4,5,6,7] [0,1],(y8 L24 ⟨_,zi106,zi107,zi120,zl122,ra123,rc125,b108,b109,zi121,uE8,hx114,hx115,hx118,hx119,N,H.jg 8 2 [2,3,0,1,4,5,6,7] [0,1] qo qo⟩)⟩
   ·skip
    refine xZ H ti56 [.int .i64 0,.int .i64 0,Sv none 0 0,Sv none 0 0,Sv none 0 0,Sv none 0 0,Sv none 0 0,Sv none 0 0,Bv false] fun b126 w127 H=>⟨H.pick [4,5,6,7] [0,1],(ro 8 rfl ?_)⟩
    have H1:=H.QC 8 2 [3,0,1,2,4,5,6,7] [0,1] qo qo
    have N1:Fresh _ (rFR :: Ns):=N
    have K1:Kept (Ns) ((xN true rFR rxR rules) :: Γ):=K0.behind 1 rfl
    replace K1:=K1.cons (F:=rFR) 0 rfl rfl
    refine vK #[.pointer (some ⟨bs,0,none⟩),.int .i64 kk,.int .i64 2] rfl rfl call188 (Xn code zi106 zi110 bs ac cc Fc kk (2:Int) H1 N1 K1 qg qg qg) ?_
    clear H H1 N1 K1
    rintro _ w128 ⟨zi132,zi133,zl134,ra135,rn136,rc137,hx130,hx131,rfl,N,H⟩
    obtain rfl:=H.yx 1 rfl
    refine ⟨H.pick [5,6,7,8] [0,1],(ro 19 rfl (vX [.int .i64 zi107,.int .i64 0,Sv ra135 zl134.length rc137,Sv (some ⟨b108,0,none⟩) kk.toNat kk.toNat,Sv (some ⟨b109,0,none⟩) kk.toNat kk.toNat,Sv none 0 0,Sv none 0 0,Sv none 0 0,Bv false] [(0,.int .i64 zi107),(2,Sv ra135 zl134.length rc137),(3,Sv (some ⟨b108,0,none⟩) kk.toNat kk.toNat),(4,Sv (some ⟨b109,0,none⟩) kk.toNat kk.toNat)] (⟨H.pick [5,6,7,8] [0,1],(ro 21 rfl ?_)⟩)))⟩
    refine zu H 2 [.int .i64 zi107,.int .i64 0,Sv ra135 zl134.length rc137,Sv (some ⟨b108,0,none⟩) kk.toNat kk.toNat,Sv (some ⟨b109,0,none⟩) kk.toNat kk.toNat,Sv none 0 0,Sv none 0 0,Sv none 0 0,Bv false] sizeOf56 fun w138 H=>?_
    try dsimp only [List.set] at H
    refine ⟨H.pick [5,6,7,8] [0,1],(xJ qh ((meet ⟨_,zi106,zi107,zi132,zl134,b126,ra135,rc137,b108,b109,zi133,uE5,hx114,hx115,hx130,hx131,N,H.jg 9 2 [2,3,4,0,1,5,6,7,8] [0,1] qo qo⟩)))⟩
  refine Xi (fun ρ w145=>∃ (xY:Env) (zi139:Int) (zi140:Int) (b141:Nat) (b142:Nat) (zi143:Int),ρ=upd (upd (upd (upd (upd (upd (upd (upd (upd (upd xY 0 (.pointer (some ⟨bs,0,none⟩))) 1 (.pointer (some ⟨bY,0,none⟩))) 4 (.pointer (some ⟨b1,0,none⟩))) 5 (.int .i64 par.length)) 6 (.pointer (some ⟨b142,0,none⟩))) 15 (.int .i64 zi140)) 16 (.pointer (some ⟨bs,0,none⟩))) 20 (.int .i64 kk)) 26 (Sv (some ⟨b141,0,none⟩) kk.toNat kk.toNat)) 30 (.int .i64 kk)∧(ip≤zi139∧zi139≤ip+2)∧(0≤zi140∧(zi140 < par.length∨zi140=0))∧Fresh W0.heap.size (rFR :: Ns)∧St W0 w145 ((.box b142 [.int .i64 0,.int .i64 0,Sv none 0 0,Sv none 0 0,Sv none 0 0,Sv none 0 0,Sv none 0 0,Sv none 0 0,Bv false] 56) :: (rr (some ⟨b141,0,none⟩) kk.toNat kk.toNat 2 1 ((List.replicate kk.toNat (0:Int)).map (Value.int .i64))) :: (.box bs [Sv ac code.length cc,.int .i64 zi139,.int .u64 zi143] 127) :: (.box b1 [.int .i64 0,.int .i64 0,Sv none 0 0,Sv none 0 0,Sv none 0 0,Sv none 0 0,Sv none 0 0,Sv none 0 0,Bv false] 56) :: (.box bY [.int .i64 kk,Sv rap par.length rcp,Sv raR rules.length rcR] 27) :: (rr rap par.length rcp 2 1 (par.map (Value.int .i64))) :: (rr raR rules.length rcR 56 9 rxR) :: ps) ((sF false Fc ac cc code) :: (xN true rFR rxR rules) :: Γ)) 4 #[true,true,true,true,true,true,true,true,false,true,true,true,true,true,true,true,true,true,false,false,true,false] ?_ fun L144=>?_
  ·skip
   rintro ρ w146 ⟨xY,zi139,zi140,b141,b142,zi143,rfl,hx147,hx148,N,H⟩
   refine jb [8,18] qh qm (jQ rfl ?_ (jQ rfl ?_ jd))
   ·skip
    have H1:=H.QC 7 2 [2,0,1,3,4,5,6] [0,1] qo qo
    have N1:Fresh _ (rFR :: Ns):=N
    have K1:Kept (Ns) ((xN true rFR rxR rules) :: Γ):=K0.behind 1 rfl
    replace K1:=K1.cons (F:=rFR) 0 rfl rfl
    refine vK #[.pointer (some ⟨bs,0,none⟩),.int .i64 kk,.int .i64 2] rfl rfl call188 (Xn code zi139 zi143 bs ac cc Fc kk (2:Int) H1 N1 K1 qg qg qg) ?_
    clear H H1 N1 K1
    rintro _ w149 ⟨zi153,zi154,zl155,ra156,rn157,rc158,hx151,hx152,rfl,N,H⟩
    obtain rfl:=H.yx 1 rfl
    refine ⟨H.pick [4,5,6,7] [0,1],(ro 18 rfl (ji H underlying24 ti2 kk.toNat rfl rfl qf qf qf fun b159 w160 H=>⟨H.pick [5,6,7,8] [0,1],(ro 19 rfl (vX [.int .i64 zi140,.int .i64 0,Sv ra156 zl155.length rc158,Sv (some ⟨b141,0,none⟩) kk.toNat kk.toNat,Sv (some ⟨b159,0,none⟩) kk.toNat kk.toNat,Sv none 0 0,Sv none 0 0,Sv none 0 0,Bv false] [(0,.int .i64 zi140),(2,Sv ra156 zl155.length rc158),(3,Sv (some ⟨b141,0,none⟩) kk.toNat kk.toNat),(4,Sv (some ⟨b159,0,none⟩) kk.toNat kk.toNat)] (⟨H.pick [5,6,7,8] [0,1],(ro 21 rfl ?_)⟩)))⟩))⟩
    refine zu H 3 [.int .i64 zi140,.int .i64 0,Sv ra156 zl155.length rc158,Sv (some ⟨b141,0,none⟩) kk.toNat kk.toNat,Sv (some ⟨b159,0,none⟩) kk.toNat kk.toNat,Sv none 0 0,Sv none 0 0,Sv none 0 0,Bv false] sizeOf56 fun w161 H=>?_
    try dsimp only [List.set] at H
    refine ⟨H.pick [5,6,7,8] [0,1],(xJ qh ((meet ⟨_,zi139,zi140,zi153,zl155,b142,ra156,rc158,b141,b159,zi154,uE5,hx147,hx148,hx151,hx152,N,H.jg 9 2 [3,0,4,1,2,5,6,7,8] [0,1] qo qo⟩)))⟩
   ·skip
    refine ji H underlying24 ti2 kk.toNat rfl rfl qf qf qf fun b162 w163 H=>⟨H.pick [4,5,6,7] [0,1],(ro 8 rfl ?_)⟩
    have H1:=H.QC 8 2 [3,0,1,2,4,5,6,7] [0,1] qo qo
    have N1:Fresh _ (rFR :: Ns):=N
    have K1:Kept (Ns) ((xN true rFR rxR rules) :: Γ):=K0.behind 1 rfl
    replace K1:=K1.cons (F:=rFR) 0 rfl rfl
    refine vK #[.pointer (some ⟨bs,0,none⟩),.int .i64 kk,.int .i64 2] rfl rfl call188 (Xn code zi139 zi143 bs ac cc Fc kk (2:Int) H1 N1 K1 qg qg qg) ?_
    clear H H1 N1 K1
    rintro _ w164 ⟨zi168,zi169,zl170,ra171,rn172,rc173,hx166,hx167,rfl,N,H⟩
    obtain rfl:=H.yx 1 rfl
    refine ⟨H.pick [5,6,7,8] [0,1],(ro 19 rfl (vX [.int .i64 zi140,.int .i64 0,Sv ra171 zl170.length rc173,Sv (some ⟨b141,0,none⟩) kk.toNat kk.toNat,Sv (some ⟨b162,0,none⟩) kk.toNat kk.toNat,Sv none 0 0,Sv none 0 0,Sv none 0 0,Bv false] [(0,.int .i64 zi140),(2,Sv ra171 zl170.length rc173),(3,Sv (some ⟨b141,0,none⟩) kk.toNat kk.toNat),(4,Sv (some ⟨b162,0,none⟩) kk.toNat kk.toNat)] (⟨H.pick [5,6,7,8] [0,1],(ro 21 rfl ?_)⟩)))⟩
    refine zu H 3 [.int .i64 zi140,.int .i64 0,Sv ra171 zl170.length rc173,Sv (some ⟨b141,0,none⟩) kk.toNat kk.toNat,Sv (some ⟨b162,0,none⟩) kk.toNat kk.toNat,Sv none 0 0,Sv none 0 0,Sv none 0 0,Bv false] sizeOf56 fun w174 H=>?_
    try dsimp only [List.set] at H
    refine ⟨H.pick [5,6,7,8] [0,1],(xJ qh ((meet ⟨_,zi139,zi140,zi168,zl170,b142,ra171,rc173,b141,b162,zi169,uE5,hx147,hx148,hx166,hx167,N,H.jg 9 2 [3,2,4,0,1,5,6,7,8] [0,1] qo qo⟩)))⟩
  refine Xi (fun ρ w181=>∃ (xY:Env) (zi175:Int) (zi176:Int) (b177:Nat) (b178:Nat) (zi179:Int),ρ=upd (upd (upd (upd (upd (upd (upd (upd (upd (upd xY 0 (.pointer (some ⟨bs,0,none⟩))) 1 (.pointer (some ⟨bY,0,none⟩))) 4 (.pointer (some ⟨b1,0,none⟩))) 5 (.int .i64 par.length)) 6 (.pointer (some ⟨b178,0,none⟩))) 15 (.int .i64 zi176)) 16 (.pointer (some ⟨bs,0,none⟩))) 20 (.int .i64 kk)) 25 (.int .i64 kk)) 31 (Sv (some ⟨b177,0,none⟩) kk.toNat kk.toNat)∧(ip≤zi175∧zi175≤ip+2)∧(0≤zi176∧(zi176 < par.length∨zi176=0))∧Fresh W0.heap.size (rFR :: Ns)∧St W0 w181 ((.box b178 [.int .i64 0,.int .i64 0,Sv none 0 0,Sv none 0 0,Sv none 0 0,Sv none 0 0,Sv none 0 0,Sv none 0 0,Bv false] 56) :: (rr (some ⟨b177,0,none⟩) kk.toNat kk.toNat 2 1 ((List.replicate kk.toNat (0:Int)).map (Value.int .i64))) :: (.box bs [Sv ac code.length cc,.int .i64 zi175,.int .u64 zi179] 127) :: (.box b1 [.int .i64 0,.int .i64 0,Sv none 0 0,Sv none 0 0,Sv none 0 0,Sv none 0 0,Sv none 0 0,Sv none 0 0,Bv false] 56) :: (.box bY [.int .i64 kk,Sv rap par.length rcp,Sv raR rules.length rcR] 27) :: (rr rap par.length rcp 2 1 (par.map (Value.int .i64))) :: (rr raR rules.length rcR 56 9 rxR) :: ps) ((sF false Fc ac cc code) :: (xN true rFR rxR rules) :: Γ)) 4 #[true,true,true,true,true,true,true,true,false,true,true,true,true,false,true,true,true,true,true,false,true,false] ?_ fun L180=>?_
  ·skip
   rintro ρ w182 ⟨xY,zi175,zi176,b177,b178,zi179,rfl,hx183,hx184,N,H⟩
   refine jb [8,13] qh qm (jQ rfl ?_ (jQ rfl ?_ jd))
   ·skip
    have H1:=H.QC 7 2 [2,0,1,3,4,5,6] [0,1] qo qo
    have N1:Fresh _ (rFR :: Ns):=N
    have K1:Kept (Ns) ((xN true rFR rxR rules) :: Γ):=K0.behind 1 rfl
    replace K1:=K1.cons (F:=rFR) 0 rfl rfl
    refine vK #[.pointer (some ⟨bs,0,none⟩),.int .i64 kk,.int .i64 2] rfl rfl call188 (Xn code zi175 zi179 bs ac cc Fc kk (2:Int) H1 N1 K1 qg qg qg) ?_
    clear H H1 N1 K1
    rintro _ w185 ⟨zi189,zi190,zl191,ra192,rn193,rc194,hx187,hx188,rfl,N,H⟩
    obtain rfl:=H.yx 1 rfl
    refine ⟨H.pick [4,5,6,7] [0,1],(ro 13 rfl (ji H underlying24 ti2 kk.toNat rfl rfl qf qf qf fun b195 w196 H=>⟨H.pick [5,6,7,8] [0,1],(ro 19 rfl (vX [.int .i64 zi176,.int .i64 0,Sv ra192 zl191.length rc194,Sv (some ⟨b195,0,none⟩) kk.toNat kk.toNat,Sv (some ⟨b177,0,none⟩) kk.toNat kk.toNat,Sv none 0 0,Sv none 0 0,Sv none 0 0,Bv false] [(0,.int .i64 zi176),(2,Sv ra192 zl191.length rc194),(3,Sv (some ⟨b195,0,none⟩) kk.toNat kk.toNat),(4,Sv (some ⟨b177,0,none⟩) kk.toNat kk.toNat)] (⟨H.pick [5,6,7,8] [0,1],(ro 21 rfl ?_)⟩)))⟩))⟩
    refine zu H 3 [.int .i64 zi176,.int .i64 0,Sv ra192 zl191.length rc194,Sv (some ⟨b195,0,none⟩) kk.toNat kk.toNat,Sv (some ⟨b177,0,none⟩) kk.toNat kk.toNat,Sv none 0 0,Sv none 0 0,Sv none 0 0,Bv false] sizeOf56 fun w197 H=>?_
    try dsimp only [List.set] at H
    refine ⟨H.pick [5,6,7,8] [0,1],(xJ qh ((meet ⟨_,zi175,zi176,zi189,zl191,b178,ra192,rc194,b195,b177,zi190,uE5,hx183,hx184,hx187,hx188,N,H.jg 9 2 [3,4,0,1,2,5,6,7,8] [0,1] qo qo⟩)))⟩
   ·skip
    refine ji H underlying24 ti2 kk.toNat rfl rfl qf qf qf fun b198 w199 H=>⟨H.pick [4,5,6,7] [0,1],(ro 8 rfl ?_)⟩
    have H1:=H.QC 8 2 [3,0,1,2,4,5,6,7] [0,1] qo qo
    have N1:Fresh _ (rFR :: Ns):=N
    have K1:Kept (Ns) ((xN true rFR rxR rules) :: Γ):=K0.behind 1 rfl
    replace K1:=K1.cons (F:=rFR) 0 rfl rfl
    refine vK #[.pointer (some ⟨bs,0,none⟩),.int .i64 kk,.int .i64 2] rfl rfl call188 (Xn code zi175 zi179 bs ac cc Fc kk (2:Int) H1 N1 K1 qg qg qg) ?_
    clear H H1 N1 K1
    rintro _ w200 ⟨zi204,zi205,zl206,ra207,rn208,rc209,hx202,hx203,rfl,N,H⟩
    obtain rfl:=H.yx 1 rfl
    refine ⟨H.pick [5,6,7,8] [0,1],(ro 19 rfl (vX [.int .i64 zi176,.int .i64 0,Sv ra207 zl206.length rc209,Sv (some ⟨b198,0,none⟩) kk.toNat kk.toNat,Sv (some ⟨b177,0,none⟩) kk.toNat kk.toNat,Sv none 0 0,Sv none 0 0,Sv none 0 0,Bv false] [(0,.int .i64 zi176),(2,Sv ra207 zl206.length rc209),(3,Sv (some ⟨b198,0,none⟩) kk.toNat kk.toNat),(4,Sv (some ⟨b177,0,none⟩) kk.toNat kk.toNat)] (⟨H.pick [5,6,7,8] [0,1],(ro 21 rfl ?_)⟩)))⟩
    refine zu H 3 [.int .i64 zi176,.int .i64 0,Sv ra207 zl206.length rc209,Sv (some ⟨b198,0,none⟩) kk.toNat kk.toNat,Sv (some ⟨b177,0,none⟩) kk.toNat kk.toNat,Sv none 0 0,Sv none 0 0,Sv none 0 0,Bv false] sizeOf56 fun w210 H=>?_
    try dsimp only [List.set] at H
    refine ⟨H.pick [5,6,7,8] [0,1],(xJ qh ((meet ⟨_,zi175,zi176,zi204,zl206,b178,ra207,rc209,b198,b177,zi205,uE5,hx183,hx184,hx202,hx203,N,H.jg 9 2 [3,4,2,0,1,5,6,7,8] [0,1] qo qo⟩)))⟩
  refine Xi (fun ρ w216=>∃ (xY:Env) (zi211:Int) (zi212:Int) (b213:Nat) (zi214:Int),ρ=upd (upd (upd (upd (upd (upd (upd (upd (upd xY 0 (.pointer (some ⟨bs,0,none⟩))) 1 (.pointer (some ⟨bY,0,none⟩))) 4 (.pointer (some ⟨b1,0,none⟩))) 5 (.int .i64 par.length)) 15 (.int .i64 zi212)) 16 (.pointer (some ⟨bs,0,none⟩))) 20 (.int .i64 kk)) 26 (Sv (some ⟨b213,0,none⟩) kk.toNat kk.toNat)) 30 (.int .i64 kk)∧(ip≤zi211∧zi211≤ip+2)∧(0≤zi212∧(zi212 < par.length∨zi212=0))∧Fresh W0.heap.size (rFR :: Ns)∧St W0 w216 ((rr (some ⟨b213,0,none⟩) kk.toNat kk.toNat 2 1 ((List.replicate kk.toNat (0:Int)).map (Value.int .i64))) :: (.box bs [Sv ac code.length cc,.int .i64 zi211,.int .u64 zi214] 127) :: (.box b1 [.int .i64 0,.int .i64 0,Sv none 0 0,Sv none 0 0,Sv none 0 0,Sv none 0 0,Sv none 0 0,Sv none 0 0,Bv false] 56) :: (.box bY [.int .i64 kk,Sv rap par.length rcp,Sv raR rules.length rcR] 27) :: (rr rap par.length rcp 2 1 (par.map (Value.int .i64))) :: (rr raR rules.length rcR 56 9 rxR) :: ps) ((sF false Fc ac cc code) :: (xN true rFR rxR rules) :: Γ)) 5 #[true,true,true,true,true,true,true,true,false,true,true,true,true,true,true,true,true,true,false,false,false,false] ?_ fun L215=>?_
  ·skip
   rintro ρ w217 ⟨xY,zi211,zi212,b213,zi214,rfl,hx218,hx219,N,H⟩
   refine jb [8,18,20] qh qm (jQ rfl ?_ (jQ rfl ?_ (jQ rfl ?_ jd)))
   ·skip
    have H1:=H.QC 6 2 [1,0,2,3,4,5] [0,1] qo qo
    have N1:Fresh _ (rFR :: Ns):=N
    have K1:Kept (Ns) ((xN true rFR rxR rules) :: Γ):=K0.behind 1 rfl
    replace K1:=K1.cons (F:=rFR) 0 rfl rfl
    refine vK #[.pointer (some ⟨bs,0,none⟩),.int .i64 kk,.int .i64 2] rfl rfl call188 (Xn code zi211 zi214 bs ac cc Fc kk (2:Int) H1 N1 K1 qg qg qg) ?_
    clear H H1 N1 K1
    rintro _ w220 ⟨zi224,zi225,zl226,ra227,rn228,rc229,hx222,hx223,rfl,N,H⟩
    obtain rfl:=H.yx 1 rfl
    refine ⟨H.pick [3,4,5,6] [0,1],(y8 L45 ⟨_,zi211,zi212,zi224,zl226,ra227,rc229,b213,zi225,uE8,hx218,hx219,hx222,hx223,N,H.jg 7 2 [2,0,1,3,4,5,6] [0,1] qo qo⟩)⟩
   ·skip
    refine ji H underlying24 ti2 kk.toNat rfl rfl qf qf qf fun b230 w231 H=>⟨H.pick [3,4,5,6] [0,1],(y8 L111 ⟨_,zi211,zi212,b213,b230,zi214,uE9,hx218,hx219,N,H⟩)⟩
   ·skip
    refine xZ H ti56 [.int .i64 0,.int .i64 0,Sv none 0 0,Sv none 0 0,Sv none 0 0,Sv none 0 0,Sv none 0 0,Sv none 0 0,Bv false] fun b232 w233 H=>⟨H.pick [3,4,5,6] [0,1],(y8 L144 ⟨_,zi211,zi212,b213,b232,zi214,uE10,hx218,hx219,N,H⟩)⟩
  refine Xi (fun ρ w239=>∃ (xY:Env) (zi234:Int) (zi235:Int) (b236:Nat) (zi237:Int),ρ=upd (upd (upd (upd (upd (upd (upd (upd (upd xY 0 (.pointer (some ⟨bs,0,none⟩))) 1 (.pointer (some ⟨bY,0,none⟩))) 4 (.pointer (some ⟨b1,0,none⟩))) 5 (.int .i64 par.length)) 15 (.int .i64 zi235)) 16 (.pointer (some ⟨bs,0,none⟩))) 20 (.int .i64 kk)) 25 (.int .i64 kk)) 31 (Sv (some ⟨b236,0,none⟩) kk.toNat kk.toNat)∧(ip≤zi234∧zi234≤ip+2)∧(0≤zi235∧(zi235 < par.length∨zi235=0))∧Fresh W0.heap.size (rFR :: Ns)∧St W0 w239 ((rr (some ⟨b236,0,none⟩) kk.toNat kk.toNat 2 1 ((List.replicate kk.toNat (0:Int)).map (Value.int .i64))) :: (.box bs [Sv ac code.length cc,.int .i64 zi234,.int .u64 zi237] 127) :: (.box b1 [.int .i64 0,.int .i64 0,Sv none 0 0,Sv none 0 0,Sv none 0 0,Sv none 0 0,Sv none 0 0,Sv none 0 0,Bv false] 56) :: (.box bY [.int .i64 kk,Sv rap par.length rcp,Sv raR rules.length rcR] 27) :: (rr rap par.length rcp 2 1 (par.map (Value.int .i64))) :: (rr raR rules.length rcR 56 9 rxR) :: ps) ((sF false Fc ac cc code) :: (xN true rFR rxR rules) :: Γ)) 5 #[true,true,true,true,true,true,true,true,false,true,true,true,true,false,true,true,true,true,true,false,false,false] ?_ fun L238=>?_
  ·skip
   rintro ρ w240 ⟨xY,zi234,zi235,b236,zi237,rfl,hx241,hx242,N,H⟩
   refine jb [8,13,20] qh qm (jQ rfl ?_ (jQ rfl ?_ (jQ rfl ?_ jd)))
   ·skip
    have H1:=H.QC 6 2 [1,0,2,3,4,5] [0,1] qo qo
    have N1:Fresh _ (rFR :: Ns):=N
    have K1:Kept (Ns) ((xN true rFR rxR rules) :: Γ):=K0.behind 1 rfl
    replace K1:=K1.cons (F:=rFR) 0 rfl rfl
    refine vK #[.pointer (some ⟨bs,0,none⟩),.int .i64 kk,.int .i64 2] rfl rfl call188 (Xn code zi234 zi237 bs ac cc Fc kk (2:Int) H1 N1 K1 qg qg qg) ?_
    clear H H1 N1 K1
    rintro _ w243 ⟨zi247,zi248,zl249,ra250,rn251,rc252,hx245,hx246,rfl,N,H⟩
    obtain rfl:=H.yx 1 rfl
    refine ⟨H.pick [3,4,5,6] [0,1],(y8 L67 ⟨_,zi234,zi235,zi247,zl249,ra250,rc252,b236,zi248,uE8,hx241,hx242,hx245,hx246,N,H.jg 7 2 [2,0,1,3,4,5,6] [0,1] qo qo⟩)⟩
   ·skip
    refine ji H underlying24 ti2 kk.toNat rfl rfl qf qf qf fun b253 w254 H=>⟨H.pick [3,4,5,6] [0,1],(y8 L111 ⟨_,zi234,zi235,b253,b236,zi237,uE9,hx241,hx242,N,H.jg 7 2 [1,0,2,3,4,5,6] [0,1] qo qo⟩)⟩
   ·skip
    refine xZ H ti56 [.int .i64 0,.int .i64 0,Sv none 0 0,Sv none 0 0,Sv none 0 0,Sv none 0 0,Sv none 0 0,Sv none 0 0,Bv false] fun b255 w256 H=>⟨H.pick [3,4,5,6] [0,1],(y8 L180 ⟨_,zi234,zi235,b236,b255,zi237,uE10,hx241,hx242,N,H⟩)⟩
  refine Xi (fun ρ w262=>∃ (xY:Env) (zi257:Int) (zi258:Int) (b259:Nat) (zi260:Int),ρ=upd (upd (upd (upd (upd (upd (upd (upd (upd (upd xY 0 (.pointer (some ⟨bs,0,none⟩))) 1 (.pointer (some ⟨bY,0,none⟩))) 4 (.pointer (some ⟨b1,0,none⟩))) 5 (.int .i64 par.length)) 6 (.pointer (some ⟨b259,0,none⟩))) 15 (.int .i64 zi258)) 16 (.pointer (some ⟨bs,0,none⟩))) 20 (.int .i64 kk)) 25 (.int .i64 kk)) 30 (.int .i64 kk)∧(ip≤zi257∧zi257≤ip+2)∧(0≤zi258∧(zi258 < par.length∨zi258=0))∧Fresh W0.heap.size (rFR :: Ns)∧St W0 w262 ((.box b259 [.int .i64 0,.int .i64 0,Sv none 0 0,Sv none 0 0,Sv none 0 0,Sv none 0 0,Sv none 0 0,Sv none 0 0,Bv false] 56) :: (.box bs [Sv ac code.length cc,.int .i64 zi257,.int .u64 zi260] 127) :: (.box b1 [.int .i64 0,.int .i64 0,Sv none 0 0,Sv none 0 0,Sv none 0 0,Sv none 0 0,Sv none 0 0,Sv none 0 0,Bv false] 56) :: (.box bY [.int .i64 kk,Sv rap par.length rcp,Sv raR rules.length rcR] 27) :: (rr rap par.length rcp 2 1 (par.map (Value.int .i64))) :: (rr raR rules.length rcR 56 9 rxR) :: ps) ((sF false Fc ac cc code) :: (xN true rFR rxR rules) :: Γ)) 5 #[true,true,true,true,true,true,true,true,false,true,true,true,true,false,true,true,true,true,false,false,true,false] ?_ fun L261=>?_
  ·skip
   rintro ρ w263 ⟨xY,zi257,zi258,b259,zi260,rfl,hx264,hx265,N,H⟩
   refine jb [8,13,18] qh qm (jQ rfl ?_ (jQ rfl ?_ (jQ rfl ?_ jd)))
   ·skip
    have H1:=H.QC 6 2 [1,0,2,3,4,5] [0,1] qo qo
    have N1:Fresh _ (rFR :: Ns):=N
    have K1:Kept (Ns) ((xN true rFR rxR rules) :: Γ):=K0.behind 1 rfl
    replace K1:=K1.cons (F:=rFR) 0 rfl rfl
    refine vK #[.pointer (some ⟨bs,0,none⟩),.int .i64 kk,.int .i64 2] rfl rfl call188 (Xn code zi257 zi260 bs ac cc Fc kk (2:Int) H1 N1 K1 qg qg qg) ?_
    clear H H1 N1 K1
    rintro _ w266 ⟨zi270,zi271,zl272,ra273,rn274,rc275,hx268,hx269,rfl,N,H⟩
    obtain rfl:=H.yx 1 rfl
    refine ⟨H.pick [3,4,5,6] [0,1],(y8 L89 ⟨_,zi257,zi258,zi270,zl272,ra273,rc275,b259,zi271,uE9,hx264,hx265,hx268,hx269,N,H.jg 7 2 [2,0,1,3,4,5,6] [0,1] qo qo⟩)⟩
   ·skip
    refine ji H underlying24 ti2 kk.toNat rfl rfl qf qf qf fun b276 w277 H=>⟨H.pick [3,4,5,6] [0,1],(y8 L144 ⟨_,zi257,zi258,b276,b259,zi260,uE10,hx264,hx265,N,H.jg 7 2 [1,0,2,3,4,5,6] [0,1] qo qo⟩)⟩
   ·skip
    refine ji H underlying24 ti2 kk.toNat rfl rfl qf qf qf fun b278 w279 H=>⟨H.pick [3,4,5,6] [0,1],(y8 L180 ⟨_,zi257,zi258,b278,b259,zi260,uE10,hx264,hx265,N,H.jg 7 2 [1,0,2,3,4,5,6] [0,1] qo qo⟩)⟩
  refine Xi (fun ρ w283=>∃ (xY:Env) (b280:Nat) (b281:Nat),ρ=upd (upd (upd (upd (upd (upd (upd (upd (upd (upd xY 0 (.pointer (some ⟨bs,0,none⟩))) 1 (.pointer (some ⟨bY,0,none⟩))) 4 (.pointer (some ⟨b1,0,none⟩))) 5 (.int .i64 par.length)) 13 (.pointer (some ⟨bs,0,none⟩))) 14 (.int .i64 par.length)) 16 (.pointer (some ⟨bs,0,none⟩))) 20 (.int .i64 kk)) 26 (Sv (some ⟨b280,0,none⟩) kk.toNat kk.toNat)) 31 (Sv (some ⟨b281,0,none⟩) kk.toNat kk.toNat)∧Fresh W0.heap.size (rFR :: Ns)∧St W0 w283 ((rr (some ⟨b281,0,none⟩) kk.toNat kk.toNat 2 1 ((List.replicate kk.toNat (0:Int)).map (Value.int .i64))) :: (rr (some ⟨b280,0,none⟩) kk.toNat kk.toNat 2 1 ((List.replicate kk.toNat (0:Int)).map (Value.int .i64))) :: (.box b1 [.int .i64 0,.int .i64 0,Sv none 0 0,Sv none 0 0,Sv none 0 0,Sv none 0 0,Sv none 0 0,Sv none 0 0,Bv false] 56) :: (.box bs [Sv ac code.length cc,.int .i64 ip,.int .u64 sd] 127) :: (.box bY [.int .i64 kk,Sv rap par.length rcp,Sv raR rules.length rcR] 27) :: (rr rap par.length rcp 2 1 (par.map (Value.int .i64))) :: (rr raR rules.length rcR 56 9 rxR) :: ps) ((sF false Fc ac cc code) :: (xN true rFR rxR rules) :: Γ)) 5 #[true,true,false,true,true,true,true,true,false,true,true,true,true,true,true,true,true,true,true,false,false,false] ?_ fun L282=>?_
  ·skip
   rintro ρ w284 ⟨xY,b280,b281,rfl,N,H⟩
   refine jb [2,20] qh qm (jQ rfl ?_ (jQ rfl ?_ jd))
   ·skip
    have H1:=H.QC 7 2 [3,0,1,2,4,5,6] [0,1] qo qo
    have N1:Fresh _ (rFR :: Ns):=N
    have K1:Kept (Ns) ((xN true rFR rxR rules) :: Γ):=K0.behind 1 rfl
    replace K1:=K1.cons (F:=rFR) 0 rfl rfl
    refine vK #[.pointer (some ⟨bs,0,none⟩),.int .i64 par.length] rfl rfl call68 (QO code ip sd bs ac cc Fc par.length H1 N1 K1 qg) ?_
    clear H H1 N1 K1
    rintro _ w285 ⟨zi289,zi290,zi291,hx287,hx288,rfl,N,H⟩
    refine ⟨H.pick [3,4,5,6] [0,1],(y8 L111 ⟨_,zi289,zi291,b280,b281,zi290,uE9,hx287,hx288,N,H.jg 7 2 [1,2,0,3,4,5,6] [0,1] qo qo⟩)⟩
   ·skip
    refine xZ H ti56 [.int .i64 0,.int .i64 0,Sv none 0 0,Sv none 0 0,Sv none 0 0,Sv none 0 0,Sv none 0 0,Sv none 0 0,Bv false] fun b292 w293 H=>⟨H.pick [3,5,6,7] [0,1],(ro 2 rfl ?_)⟩
    have H1:=H.QC 8 2 [4,0,1,2,3,5,6,7] [0,1] qo qo
    have N1:Fresh _ (rFR :: Ns):=N
    have K1:Kept (Ns) ((xN true rFR rxR rules) :: Γ):=K0.behind 1 rfl
    replace K1:=K1.cons (F:=rFR) 0 rfl rfl
    refine vK #[.pointer (some ⟨bs,0,none⟩),.int .i64 par.length] rfl rfl call68 (QO code ip sd bs ac cc Fc par.length H1 N1 K1 qg) ?_
    clear H H1 N1 K1
    rintro _ w294 ⟨zi298,zi299,zi300,hx296,hx297,rfl,N,H⟩
    refine ⟨H.pick [4,5,6,7] [0,1],(ro 8 rfl ?_)⟩
    have H1:=H.QC 8 2 [0,1,2,3,4,5,6,7] [0,1] qo qo
    have N1:Fresh _ (rFR :: Ns):=N
    have K1:Kept (Ns) ((xN true rFR rxR rules) :: Γ):=K0.behind 1 rfl
    replace K1:=K1.cons (F:=rFR) 0 rfl rfl
    refine vK #[.pointer (some ⟨bs,0,none⟩),.int .i64 kk,.int .i64 2] rfl rfl call188 (Xn code zi298 zi299 bs ac cc Fc kk (2:Int) H1 N1 K1 qg qg qg) ?_
    clear H H1 N1 K1
    rintro _ w301 ⟨zi305,zi306,zl307,ra308,rn309,rc310,hx303,hx304,rfl,N,H⟩
    obtain rfl:=H.yx 1 rfl
    refine ⟨H.pick [5,6,7,8] [0,1],(ro 19 rfl (vX [.int .i64 zi300,.int .i64 0,Sv ra308 zl307.length rc310,Sv (some ⟨b280,0,none⟩) kk.toNat kk.toNat,Sv (some ⟨b281,0,none⟩) kk.toNat kk.toNat,Sv none 0 0,Sv none 0 0,Sv none 0 0,Bv false] [(0,.int .i64 zi300),(2,Sv ra308 zl307.length rc310),(3,Sv (some ⟨b280,0,none⟩) kk.toNat kk.toNat),(4,Sv (some ⟨b281,0,none⟩) kk.toNat kk.toNat)] (⟨H.pick [5,6,7,8] [0,1],(ro 21 rfl ?_)⟩)))⟩
    refine zu H 2 [.int .i64 zi300,.int .i64 0,Sv ra308 zl307.length rc310,Sv (some ⟨b280,0,none⟩) kk.toNat kk.toNat,Sv (some ⟨b281,0,none⟩) kk.toNat kk.toNat,Sv none 0 0,Sv none 0 0,Sv none 0 0,Bv false] sizeOf56 fun w311 H=>?_
    try dsimp only [List.set] at H
    refine ⟨H.pick [5,6,7,8] [0,1],(xJ qh ((meet ⟨_,zi298,zi300,zi305,zl307,b292,ra308,rc310,b280,b281,zi306,uE5,hx296,hx297,hx303,hx304,N,H.jg 9 2 [2,3,4,0,1,5,6,7,8] [0,1] qo qo⟩)))⟩
  refine Xi (fun ρ w315=>∃ (xY:Env) (b312:Nat) (b313:Nat),ρ=upd (upd (upd (upd (upd (upd (upd (upd (upd (upd (upd xY 0 (.pointer (some ⟨bs,0,none⟩))) 1 (.pointer (some ⟨bY,0,none⟩))) 4 (.pointer (some ⟨b1,0,none⟩))) 5 (.int .i64 par.length)) 6 (.pointer (some ⟨b313,0,none⟩))) 13 (.pointer (some ⟨bs,0,none⟩))) 14 (.int .i64 par.length)) 16 (.pointer (some ⟨bs,0,none⟩))) 20 (.int .i64 kk)) 26 (Sv (some ⟨b312,0,none⟩) kk.toNat kk.toNat)) 30 (.int .i64 kk)∧Fresh W0.heap.size (rFR :: Ns)∧St W0 w315 ((.box b313 [.int .i64 0,.int .i64 0,Sv none 0 0,Sv none 0 0,Sv none 0 0,Sv none 0 0,Sv none 0 0,Sv none 0 0,Bv false] 56) :: (rr (some ⟨b312,0,none⟩) kk.toNat kk.toNat 2 1 ((List.replicate kk.toNat (0:Int)).map (Value.int .i64))) :: (.box b1 [.int .i64 0,.int .i64 0,Sv none 0 0,Sv none 0 0,Sv none 0 0,Sv none 0 0,Sv none 0 0,Sv none 0 0,Bv false] 56) :: (.box bs [Sv ac code.length cc,.int .i64 ip,.int .u64 sd] 127) :: (.box bY [.int .i64 kk,Sv rap par.length rcp,Sv raR rules.length rcR] 27) :: (rr rap par.length rcp 2 1 (par.map (Value.int .i64))) :: (rr raR rules.length rcR 56 9 rxR) :: ps) ((sF false Fc ac cc code) :: (xN true rFR rxR rules) :: Γ)) 5 #[true,true,false,true,true,true,true,true,false,true,true,true,true,true,true,true,true,true,false,false,true,false] ?_ fun L314=>?_
  ·skip
   rintro ρ w316 ⟨xY,b312,b313,rfl,N,H⟩
   refine jb [2,18] qh qm (jQ rfl ?_ (jQ rfl ?_ jd))
   ·skip
    have H1:=H.QC 7 2 [3,0,1,2,4,5,6] [0,1] qo qo
    have N1:Fresh _ (rFR :: Ns):=N
    have K1:Kept (Ns) ((xN true rFR rxR rules) :: Γ):=K0.behind 1 rfl
    replace K1:=K1.cons (F:=rFR) 0 rfl rfl
    refine vK #[.pointer (some ⟨bs,0,none⟩),.int .i64 par.length] rfl rfl call68 (QO code ip sd bs ac cc Fc par.length H1 N1 K1 qg) ?_
    clear H H1 N1 K1
    rintro _ w317 ⟨zi321,zi322,zi323,hx319,hx320,rfl,N,H⟩
    refine ⟨H.pick [3,4,5,6] [0,1],(y8 L144 ⟨_,zi321,zi323,b312,b313,zi322,uE10,hx319,hx320,N,H.jg 7 2 [1,2,0,3,4,5,6] [0,1] qo qo⟩)⟩
   ·skip
    refine ji H underlying24 ti2 kk.toNat rfl rfl qf qf qf fun b324 w325 H=>⟨H.pick [3,5,6,7] [0,1],(ro 2 rfl ?_)⟩
    have H1:=H.QC 8 2 [4,0,1,2,3,5,6,7] [0,1] qo qo
    have N1:Fresh _ (rFR :: Ns):=N
    have K1:Kept (Ns) ((xN true rFR rxR rules) :: Γ):=K0.behind 1 rfl
    replace K1:=K1.cons (F:=rFR) 0 rfl rfl
    refine vK #[.pointer (some ⟨bs,0,none⟩),.int .i64 par.length] rfl rfl call68 (QO code ip sd bs ac cc Fc par.length H1 N1 K1 qg) ?_
    clear H H1 N1 K1
    rintro _ w326 ⟨zi330,zi331,zi332,hx328,hx329,rfl,N,H⟩
    refine ⟨H.pick [4,5,6,7] [0,1],(ro 8 rfl ?_)⟩
    have H1:=H.QC 8 2 [0,1,2,3,4,5,6,7] [0,1] qo qo
    have N1:Fresh _ (rFR :: Ns):=N
    have K1:Kept (Ns) ((xN true rFR rxR rules) :: Γ):=K0.behind 1 rfl
    replace K1:=K1.cons (F:=rFR) 0 rfl rfl
    refine vK #[.pointer (some ⟨bs,0,none⟩),.int .i64 kk,.int .i64 2] rfl rfl call188 (Xn code zi330 zi331 bs ac cc Fc kk (2:Int) H1 N1 K1 qg qg qg) ?_
    clear H H1 N1 K1
    rintro _ w333 ⟨zi337,zi338,zl339,ra340,rn341,rc342,hx335,hx336,rfl,N,H⟩
    obtain rfl:=H.yx 1 rfl
    refine ⟨H.pick [5,6,7,8] [0,1],(ro 19 rfl (vX [.int .i64 zi332,.int .i64 0,Sv ra340 zl339.length rc342,Sv (some ⟨b312,0,none⟩) kk.toNat kk.toNat,Sv (some ⟨b324,0,none⟩) kk.toNat kk.toNat,Sv none 0 0,Sv none 0 0,Sv none 0 0,Bv false] [(0,.int .i64 zi332),(2,Sv ra340 zl339.length rc342),(3,Sv (some ⟨b312,0,none⟩) kk.toNat kk.toNat),(4,Sv (some ⟨b324,0,none⟩) kk.toNat kk.toNat)] (⟨H.pick [5,6,7,8] [0,1],(ro 21 rfl ?_)⟩)))⟩
    refine zu H 3 [.int .i64 zi332,.int .i64 0,Sv ra340 zl339.length rc342,Sv (some ⟨b312,0,none⟩) kk.toNat kk.toNat,Sv (some ⟨b324,0,none⟩) kk.toNat kk.toNat,Sv none 0 0,Sv none 0 0,Sv none 0 0,Bv false] sizeOf56 fun w343 H=>?_
    try dsimp only [List.set] at H
    refine ⟨H.pick [5,6,7,8] [0,1],(xJ qh ((meet ⟨_,zi330,zi332,zi337,zl339,b313,ra340,rc342,b312,b324,zi338,uE5,hx328,hx329,hx335,hx336,N,H.jg 9 2 [3,2,4,0,1,5,6,7,8] [0,1] qo qo⟩)))⟩
  refine Xi (fun ρ w347=>∃ (xY:Env) (b344:Nat) (b345:Nat),ρ=upd (upd (upd (upd (upd (upd (upd (upd (upd (upd (upd xY 0 (.pointer (some ⟨bs,0,none⟩))) 1 (.pointer (some ⟨bY,0,none⟩))) 4 (.pointer (some ⟨b1,0,none⟩))) 5 (.int .i64 par.length)) 6 (.pointer (some ⟨b345,0,none⟩))) 13 (.pointer (some ⟨bs,0,none⟩))) 14 (.int .i64 par.length)) 16 (.pointer (some ⟨bs,0,none⟩))) 20 (.int .i64 kk)) 25 (.int .i64 kk)) 31 (Sv (some ⟨b344,0,none⟩) kk.toNat kk.toNat)∧Fresh W0.heap.size (rFR :: Ns)∧St W0 w347 ((.box b345 [.int .i64 0,.int .i64 0,Sv none 0 0,Sv none 0 0,Sv none 0 0,Sv none 0 0,Sv none 0 0,Sv none 0 0,Bv false] 56) :: (rr (some ⟨b344,0,none⟩) kk.toNat kk.toNat 2 1 ((List.replicate kk.toNat (0:Int)).map (Value.int .i64))) :: (.box b1 [.int .i64 0,.int .i64 0,Sv none 0 0,Sv none 0 0,Sv none 0 0,Sv none 0 0,Sv none 0 0,Sv none 0 0,Bv false] 56) :: (.box bs [Sv ac code.length cc,.int .i64 ip,.int .u64 sd] 127) :: (.box bY [.int .i64 kk,Sv rap par.length rcp,Sv raR rules.length rcR] 27) :: (rr rap par.length rcp 2 1 (par.map (Value.int .i64))) :: (rr raR rules.length rcR 56 9 rxR) :: ps) ((sF false Fc ac cc code) :: (xN true rFR rxR rules) :: Γ)) 5 #[true,true,false,true,true,true,true,true,false,true,true,true,true,false,true,true,true,true,true,false,true,false] ?_ fun L346=>?_
  ·skip
   rintro ρ w348 ⟨xY,b344,b345,rfl,N,H⟩
   refine jb [2,13] qh qm (jQ rfl ?_ (jQ rfl ?_ jd))
   ·skip
    have H1:=H.QC 7 2 [3,0,1,2,4,5,6] [0,1] qo qo
    have N1:Fresh _ (rFR :: Ns):=N
    have K1:Kept (Ns) ((xN true rFR rxR rules) :: Γ):=K0.behind 1 rfl
    replace K1:=K1.cons (F:=rFR) 0 rfl rfl
    refine vK #[.pointer (some ⟨bs,0,none⟩),.int .i64 par.length] rfl rfl call68 (QO code ip sd bs ac cc Fc par.length H1 N1 K1 qg) ?_
    clear H H1 N1 K1
    rintro _ w349 ⟨zi353,zi354,zi355,hx351,hx352,rfl,N,H⟩
    refine ⟨H.pick [3,4,5,6] [0,1],(y8 L180 ⟨_,zi353,zi355,b344,b345,zi354,uE10,hx351,hx352,N,H.jg 7 2 [1,2,0,3,4,5,6] [0,1] qo qo⟩)⟩
   ·skip
    refine ji H underlying24 ti2 kk.toNat rfl rfl qf qf qf fun b356 w357 H=>⟨H.pick [3,5,6,7] [0,1],(ro 2 rfl ?_)⟩
    have H1:=H.QC 8 2 [4,0,1,2,3,5,6,7] [0,1] qo qo
    have N1:Fresh _ (rFR :: Ns):=N
    have K1:Kept (Ns) ((xN true rFR rxR rules) :: Γ):=K0.behind 1 rfl
    replace K1:=K1.cons (F:=rFR) 0 rfl rfl
    refine vK #[.pointer (some ⟨bs,0,none⟩),.int .i64 par.length] rfl rfl call68 (QO code ip sd bs ac cc Fc par.length H1 N1 K1 qg) ?_
    clear H H1 N1 K1
    rintro _ w358 ⟨zi362,zi363,zi364,hx360,hx361,rfl,N,H⟩
    refine ⟨H.pick [4,5,6,7] [0,1],(ro 8 rfl ?_)⟩
    have H1:=H.QC 8 2 [0,1,2,3,4,5,6,7] [0,1] qo qo
    have N1:Fresh _ (rFR :: Ns):=N
    have K1:Kept (Ns) ((xN true rFR rxR rules) :: Γ):=K0.behind 1 rfl
    replace K1:=K1.cons (F:=rFR) 0 rfl rfl
    refine vK #[.pointer (some ⟨bs,0,none⟩),.int .i64 kk,.int .i64 2] rfl rfl call188 (Xn code zi362 zi363 bs ac cc Fc kk (2:Int) H1 N1 K1 qg qg qg) ?_
    clear H H1 N1 K1
    rintro _ w365 ⟨zi369,zi370,zl371,ra372,rn373,rc374,hx367,hx368,rfl,N,H⟩
    obtain rfl:=H.yx 1 rfl
    refine ⟨H.pick [5,6,7,8] [0,1],(ro 19 rfl (vX [.int .i64 zi364,.int .i64 0,Sv ra372 zl371.length rc374,Sv (some ⟨b356,0,none⟩) kk.toNat kk.toNat,Sv (some ⟨b344,0,none⟩) kk.toNat kk.toNat,Sv none 0 0,Sv none 0 0,Sv none 0 0,Bv false] [(0,.int .i64 zi364),(2,Sv ra372 zl371.length rc374),(3,Sv (some ⟨b356,0,none⟩) kk.toNat kk.toNat),(4,Sv (some ⟨b344,0,none⟩) kk.toNat kk.toNat)] (⟨H.pick [5,6,7,8] [0,1],(ro 21 rfl ?_)⟩)))⟩
    refine zu H 3 [.int .i64 zi364,.int .i64 0,Sv ra372 zl371.length rc374,Sv (some ⟨b356,0,none⟩) kk.toNat kk.toNat,Sv (some ⟨b344,0,none⟩) kk.toNat kk.toNat,Sv none 0 0,Sv none 0 0,Sv none 0 0,Bv false] sizeOf56 fun w375 H=>?_
    try dsimp only [List.set] at H
    refine ⟨H.pick [5,6,7,8] [0,1],(xJ qh ((meet ⟨_,zi362,zi364,zi369,zl371,b345,ra372,rc374,b356,b344,zi370,uE5,hx360,hx361,hx367,hx368,N,H.jg 9 2 [3,4,2,0,1,5,6,7,8] [0,1] qo qo⟩)))⟩
  have S:=H.yj [0,2,3,4] [0,1]
  refine rtp 0 (.pointer (some ⟨bs,0,none⟩)) S ?_
  refine rtp 1 (.int .i64 par.length) S ?_
  refine rtp 3 (.pointer (some ⟨bs,0,none⟩)) S ?_
  refine rtp 4 (.pointer (some ⟨bY,0,none⟩)) S ?_
  refine rtp 5 (.pointer (some ⟨bY,0,none⟩)) S ?_
  refine tF 6 rfl rfl S ?_
  refine tL 7 rfl rfl (fun _ h=>h.cell 1 rfl rfl) S ?_
  refine rtp 9 (.pointer (some ⟨bY,0,none⟩)) S ?_
  refine rtp 10 (.pointer (some ⟨bY,0,none⟩)) S ?_
  refine tF 11 rfl rfl S ?_
  refine tL 12 rfl rfl (fun _ h=>h.cell 1 rfl rfl) S ?_
  refine rtp 14 (.pointer (some ⟨bY,0,none⟩)) S ?_
  refine rtp 15 (.pointer (some ⟨bY,0,none⟩)) S ?_
  refine tF 16 rfl rfl S ?_
  refine tL 17 rfl rfl (fun _ h=>h.cell 1 rfl rfl) S ?_
  refine jb [2,13,18,20] qh qm (jQ rfl ?_ (jQ rfl ?_ (jQ rfl ?_ (jQ rfl ?_ jd))))
  ·skip
   have H1:=H.QC 5 2 [1,0,2,3,4] [0,1] qo qo
   have N1:Fresh _ (rFR :: Ns):=N
   have K1:Kept (Ns) ((xN true rFR rxR rules) :: Γ):=K0.behind 1 rfl
   replace K1:=K1.cons (F:=rFR) 0 rfl rfl
   refine vK #[.pointer (some ⟨bs,0,none⟩),.int .i64 par.length] rfl rfl call68 (QO code ip sd bs ac cc Fc par.length H1 N1 K1 qg) ?_
   clear H H1 N1 K1
   rintro _ w376 ⟨zi380,zi381,zi382,hx378,hx379,rfl,N,H⟩
   refine ⟨H.pick [1,2,3,4] [0,1],(jb [8,13,18,20] qh qm (jQ rfl ?_ (jQ rfl ?_ (jQ rfl ?_ (jQ rfl ?_ jd)))))⟩
   ·skip
    have H1:=H.QC 5 2 [0,1,2,3,4] [0,1] qo qo
    have N1:Fresh _ (rFR :: Ns):=N
    have K1:Kept (Ns) ((xN true rFR rxR rules) :: Γ):=K0.behind 1 rfl
    replace K1:=K1.cons (F:=rFR) 0 rfl rfl
    refine vK #[.pointer (some ⟨bs,0,none⟩),.int .i64 kk,.int .i64 2] rfl rfl call188 (Xn code zi380 zi381 bs ac cc Fc kk (2:Int) H1 N1 K1 qg qg qg) ?_
    clear H H1 N1 K1
    rintro _ w383 ⟨zi387,zi388,zl389,ra390,rn391,rc392,hx385,hx386,rfl,N,H⟩
    obtain rfl:=H.yx 1 rfl
    refine ⟨H.pick [2,3,4,5] [0,1],(jb [13,18,20] qh qm (jQ rfl ?_ (jQ rfl ?_ (jQ rfl ?_ jd))))⟩
    ·skip
     refine ji H underlying24 ti2 kk.toNat rfl rfl qf qf qf fun b393 w394 H=>⟨H.pick [3,4,5,6] [0,1],(y8 L45 ⟨_,zi380,zi382,zi387,zl389,ra390,rc392,b393,zi388,uE8,hx378,hx379,hx385,hx386,N,H⟩)⟩
    ·skip
     refine ji H underlying24 ti2 kk.toNat rfl rfl qf qf qf fun b395 w396 H=>⟨H.pick [3,4,5,6] [0,1],(y8 L67 ⟨_,zi380,zi382,zi387,zl389,ra390,rc392,b395,zi388,uE8,hx378,hx379,hx385,hx386,N,H⟩)⟩
    ·skip
     refine xZ H ti56 [.int .i64 0,.int .i64 0,Sv none 0 0,Sv none 0 0,Sv none 0 0,Sv none 0 0,Sv none 0 0,Sv none 0 0,Bv false] fun b397 w398 H=>⟨H.pick [3,4,5,6] [0,1],(y8 L89 ⟨_,zi380,zi382,zi387,zl389,ra390,rc392,b397,zi388,uE9,hx378,hx379,hx385,hx386,N,H⟩)⟩
   ·skip
    refine ji H underlying24 ti2 kk.toNat rfl rfl qf qf qf fun b399 w400 H=>⟨H.pick [2,3,4,5] [0,1],(y8 L215 ⟨_,zi380,zi382,b399,zi381,uE9,hx378,hx379,N,H⟩)⟩
   ·skip
    refine ji H underlying24 ti2 kk.toNat rfl rfl qf qf qf fun b401 w402 H=>⟨H.pick [2,3,4,5] [0,1],(y8 L238 ⟨_,zi380,zi382,b401,zi381,uE9,hx378,hx379,N,H⟩)⟩
   ·skip
    refine xZ H ti56 [.int .i64 0,.int .i64 0,Sv none 0 0,Sv none 0 0,Sv none 0 0,Sv none 0 0,Sv none 0 0,Sv none 0 0,Bv false] fun b403 w404 H=>⟨H.pick [2,3,4,5] [0,1],(y8 L261 ⟨_,zi380,zi382,b403,zi381,uE10,hx378,hx379,N,H⟩)⟩
  ·skip
   refine ji H underlying24 ti2 kk.toNat rfl rfl qf qf qf fun b405 w406 H=>⟨H.pick [1,3,4,5] [0,1],(jb [2,18,20] qh qm (jQ rfl ?_ (jQ rfl ?_ (jQ rfl ?_ jd))))⟩
   ·skip
    have H1:=H.QC 6 2 [2,0,1,3,4,5] [0,1] qo qo
    have N1:Fresh _ (rFR :: Ns):=N
    have K1:Kept (Ns) ((xN true rFR rxR rules) :: Γ):=K0.behind 1 rfl
    replace K1:=K1.cons (F:=rFR) 0 rfl rfl
    refine vK #[.pointer (some ⟨bs,0,none⟩),.int .i64 par.length] rfl rfl call68 (QO code ip sd bs ac cc Fc par.length H1 N1 K1 qg) ?_
    clear H H1 N1 K1
    rintro _ w407 ⟨zi411,zi412,zi413,hx409,hx410,rfl,N,H⟩
    refine ⟨H.pick [2,3,4,5] [0,1],(y8 L215 ⟨_,zi411,zi413,b405,zi412,uE9,hx409,hx410,N,H.jg 6 2 [1,0,2,3,4,5] [0,1] qo qo⟩)⟩
   ·skip
    refine ji H underlying24 ti2 kk.toNat rfl rfl qf qf qf fun b414 w415 H=>⟨H.pick [2,4,5,6] [0,1],(y8 L282 ⟨_,b405,b414,uE10,N,H⟩)⟩
   ·skip
    refine xZ H ti56 [.int .i64 0,.int .i64 0,Sv none 0 0,Sv none 0 0,Sv none 0 0,Sv none 0 0,Sv none 0 0,Sv none 0 0,Bv false] fun b416 w417 H=>⟨H.pick [2,4,5,6] [0,1],(y8 L314 ⟨_,b405,b416,uE11,N,H⟩)⟩
  ·skip
   refine ji H underlying24 ti2 kk.toNat rfl rfl qf qf qf fun b418 w419 H=>⟨H.pick [1,3,4,5] [0,1],(jb [2,13,20] qh qm (jQ rfl ?_ (jQ rfl ?_ (jQ rfl ?_ jd))))⟩
   ·skip
    have H1:=H.QC 6 2 [2,0,1,3,4,5] [0,1] qo qo
    have N1:Fresh _ (rFR :: Ns):=N
    have K1:Kept (Ns) ((xN true rFR rxR rules) :: Γ):=K0.behind 1 rfl
    replace K1:=K1.cons (F:=rFR) 0 rfl rfl
    refine vK #[.pointer (some ⟨bs,0,none⟩),.int .i64 par.length] rfl rfl call68 (QO code ip sd bs ac cc Fc par.length H1 N1 K1 qg) ?_
    clear H H1 N1 K1
    rintro _ w420 ⟨zi424,zi425,zi426,hx422,hx423,rfl,N,H⟩
    refine ⟨H.pick [2,3,4,5] [0,1],(y8 L238 ⟨_,zi424,zi426,b418,zi425,uE9,hx422,hx423,N,H.jg 6 2 [1,0,2,3,4,5] [0,1] qo qo⟩)⟩
   ·skip
    refine ji H underlying24 ti2 kk.toNat rfl rfl qf qf qf fun b427 w428 H=>⟨H.pick [2,4,5,6] [0,1],(y8 L282 ⟨_,b427,b418,uE10,N,H.jg 7 2 [1,0,2,3,4,5,6] [0,1] qo qo⟩)⟩
   ·skip
    refine xZ H ti56 [.int .i64 0,.int .i64 0,Sv none 0 0,Sv none 0 0,Sv none 0 0,Sv none 0 0,Sv none 0 0,Sv none 0 0,Bv false] fun b429 w430 H=>⟨H.pick [2,4,5,6] [0,1],(y8 L346 ⟨_,b418,b429,uE11,N,H⟩)⟩
  ·skip
   refine xZ H ti56 [.int .i64 0,.int .i64 0,Sv none 0 0,Sv none 0 0,Sv none 0 0,Sv none 0 0,Sv none 0 0,Sv none 0 0,Bv false] fun b431 w432 H=>⟨H.pick [1,3,4,5] [0,1],(jb [2,13,18] qh qm (jQ rfl ?_ (jQ rfl ?_ (jQ rfl ?_ jd))))⟩
   ·skip
    have H1:=H.QC 6 2 [2,0,1,3,4,5] [0,1] qo qo
    have N1:Fresh _ (rFR :: Ns):=N
    have K1:Kept (Ns) ((xN true rFR rxR rules) :: Γ):=K0.behind 1 rfl
    replace K1:=K1.cons (F:=rFR) 0 rfl rfl
    refine vK #[.pointer (some ⟨bs,0,none⟩),.int .i64 par.length] rfl rfl call68 (QO code ip sd bs ac cc Fc par.length H1 N1 K1 qg) ?_
    clear H H1 N1 K1
    rintro _ w433 ⟨zi437,zi438,zi439,hx435,hx436,rfl,N,H⟩
    refine ⟨H.pick [2,3,4,5] [0,1],(y8 L261 ⟨_,zi437,zi439,b431,zi438,uE10,hx435,hx436,N,H.jg 6 2 [1,0,2,3,4,5] [0,1] qo qo⟩)⟩
   ·skip
    refine ji H underlying24 ti2 kk.toNat rfl rfl qf qf qf fun b440 w441 H=>⟨H.pick [2,4,5,6] [0,1],(y8 L314 ⟨_,b440,b431,uE11,N,H.jg 7 2 [1,0,2,3,4,5,6] [0,1] qo qo⟩)⟩
   ·skip
    refine ji H underlying24 ti2 kk.toNat rfl rfl qf qf qf fun b442 w443 H=>⟨H.pick [2,4,5,6] [0,1],(y8 L346 ⟨_,b442,b431,uE11,N,H.jg 7 2 [1,0,2,3,4,5,6] [0,1] qo qo⟩)⟩
 ·skip
  clear H N
  rintro ρ w444 ⟨xY,zi3,zi4,zi5,zl6,b7,ra8,rc9,b10,b11,zi12,rfl,hx445,hx446,hx447,hx448,N,H⟩
  refine t_n (zcr (sps [.pointer (some ⟨bs,0,none⟩),.pointer (some ⟨bY,0,none⟩),.pointer (some ⟨bY,0,none⟩)] (oF rfl (oL rfl (H.cell 6 rfl rfl) ?_))))
  have H1:=H.QC 9 2 [3,0,1,2,4,5,6,7,8] [0,1] qo qo
  have N1:Fresh _ (rFR :: Ns):=N
  have K1:Kept (Ns) ((xN true rFR rxR rules) :: Γ):=K0.behind 1 rfl
  replace K1:=K1.cons (F:=rFR) 0 rfl rfl
  refine sw (vK #[.pointer (some ⟨bs,0,none⟩),.int .i64 kk,.int .i64 2] rfl rfl call145 (dFew_ok code zi5 zi12 bs ac cc Fc kk (2:Int) H1 N1 K1 qg qg qg) ?_)
  clear H H1 N1 K1
  rintro _ w449 ⟨zi453,zi454,zl455,ra456,rn457,rc458,hx451,hx452,rfl,N,H⟩
  obtain rfl:=H.yx 1 rfl
  refine oF rfl (sw (zh H 2 [.int .i64 zi4,.int .i64 0,Sv ra8 zl6.length rc9,Sv (some ⟨b10,0,none⟩) kk.toNat kk.toNat,Sv (some ⟨b11,0,none⟩) kk.toNat kk.toNat,Sv ra456 zl455.length rc458,Sv none 0 0,Sv none 0 0,Bv false] sizeOf24 fun w459 H=>?_))
  try dsimp only [List.set] at H
  refine zjc (sps [.pointer (some ⟨bs,0,none⟩),.pointer (some ⟨bY,0,none⟩),.pointer (some ⟨bY,0,none⟩)] (oF rfl (oL rfl (H.cell 7 rfl rfl) ?_)))
  have H1:=H.QC 10 2 [0,1,2,3,4,5,6,7,8,9] [0,1] qo qo
  have N1:Fresh _ (rFR :: Ns):=N
  have K1:Kept (Ns) ((xN true rFR rxR rules) :: Γ):=K0.behind 1 rfl
  replace K1:=K1.cons (F:=rFR) 0 rfl rfl
  refine sw (vK #[.pointer (some ⟨bs,0,none⟩),.int .i64 kk,.int .i64 1] rfl rfl call145 (dFew_ok code zi453 zi454 bs ac cc Fc kk (1:Int) H1 N1 K1 qg qg qg) ?_)
  clear H H1 N1 K1
  rintro _ w460 ⟨zi464,zi465,zl466,ra467,rn468,rc469,hx462,hx463,rfl,N,H⟩
  obtain rfl:=H.yx 1 rfl
  refine oF rfl (sw (zh H 3 [.int .i64 zi4,.int .i64 0,Sv ra8 zl6.length rc9,Sv (some ⟨b10,0,none⟩) kk.toNat kk.toNat,Sv (some ⟨b11,0,none⟩) kk.toNat kk.toNat,Sv ra456 zl455.length rc458,Sv ra467 zl466.length rc469,Sv none 0 0,Bv false] sizeOf24 fun w470 H=>?_))
  try dsimp only [List.set] at H
  refine zjcc (sp (.pointer (some ⟨bs,0,none⟩)) ?_)
  have H1:=H.QC 11 2 [0,1,2,3,4,5,6,7,8,9,10] [0,1] qo qo
  have N1:Fresh _ (rFR :: Ns):=N
  have K1:Kept (Ns) ((xN true rFR rxR rules) :: Γ):=K0.behind 1 rfl
  replace K1:=K1.cons (F:=rFR) 0 rfl rfl
  refine sw (vK #[.pointer (some ⟨bs,0,none⟩),.int .i64 5] rfl rfl call66 (dOne_ok code zi464 zi465 bs ac cc Fc (5:Int) H1 N1 K1 qg) ?_)
  clear H H1 N1 K1
  rintro _ w471 ⟨zi474,zi475,zb476,hx473,rfl,N,H⟩
  refine zjn ?_
  refine c_cut (fun ρ w477=>∃ (xY:Env) (s_at:Int) (s_seed:Int) (Qk:yOA) (Qi:Nat) (Qj:Nat) (r_Have:yLI),ρ=upd (upd (upd (upd (upd xY 0 (.pointer (some ⟨bs,0,none⟩))) 1 (.pointer (some ⟨bY,0,none⟩))) 4 (.pointer (some ⟨b1,0,none⟩))) 5 (.int .i64 par.length)) 6 (.pointer (some ⟨b7,0,none⟩))∧(jf kk 1 r_Have)∧(ip≤s_at∧s_at≤ip+92)∧Fresh W0.heap.size (rFR :: Ns)∧St W0 w477 ((.box bs [Sv ac code.length cc,.int .i64 s_at,.int .u64 s_seed] 127) :: (rr ra467 zl466.length rc469 2 1 (zl466.map (Value.int .i64))) :: (rr ra456 zl455.length rc458 2 1 (zl455.map (Value.int .i64))) :: (.box b7 [.int .i64 zi4,.int .i64 0,Sv ra8 zl6.length rc9,Sv Qk Qi Qj,Sv (some ⟨b11,0,none⟩) kk.toNat kk.toNat,Sv ra456 zl455.length rc458,Sv ra467 zl466.length rc469,Sv none 0 0,Bv false] 56) :: (rr (some ⟨b11,0,none⟩) kk.toNat kk.toNat 2 1 ((List.replicate kk.toNat (0:Int)).map (Value.int .i64))) :: (rr Qk Qi Qj 2 1 (r_Have.map (Value.int .i64))) :: (rr ra8 zl6.length rc9 2 1 (zl6.map (Value.int .i64))) :: (.box b1 [.int .i64 0,.int .i64 0,Sv none 0 0,Sv none 0 0,Sv none 0 0,Sv none 0 0,Sv none 0 0,Sv none 0 0,Bv false] 56) :: (.box bY [.int .i64 kk,Sv rap par.length rcp,Sv raR rules.length rcR] 27) :: (rr rap par.length rcp 2 1 (par.map (Value.int .i64))) :: (rr raR rules.length rcR 56 9 rxR) :: ps) ((sF false Fc ac cc code) :: (xN true rFR rxR rules) :: Γ)) ?_ ?_
  ·skip
   refine xK (zb476) rfl (fun h478=>?_) (fun h478=>?_)
   ·skip
    refine zg (sps [.pointer (some ⟨bs,0,none⟩),.pointer (some ⟨bY,0,none⟩),.pointer (some ⟨bY,0,none⟩)] (oF rfl (oL rfl (H.cell 8 rfl rfl) ?_)))
    have H1:=H.QC 11 2 [0,1,2,3,4,5,6,7,8,9,10] [0,1] qo qo
    have N1:Fresh _ (rFR :: Ns):=N
    have K1:Kept (Ns) ((xN true rFR rxR rules) :: Γ):=K0.behind 1 rfl
    replace K1:=K1.cons (F:=rFR) 0 rfl rfl
    refine sw (vK #[.pointer (some ⟨bs,0,none⟩),.int .i64 kk,.int .i64 1] rfl rfl call188 (Xn code zi474 zi475 bs ac cc Fc kk (1:Int) H1 N1 K1 qg qg qg) ?_)
    clear H H1 N1 K1
    rintro _ w479 ⟨zi483,zi484,zl485,ra486,rn487,rc488,hx481,hx482,rfl,N,H⟩
    obtain rfl:=H.yx 1 rfl
    refine oF rfl (sw (zh H 4 [.int .i64 zi4,.int .i64 0,Sv ra8 zl6.length rc9,Sv ra486 zl485.length rc488,Sv (some ⟨b11,0,none⟩) kk.toNat kk.toNat,Sv ra456 zl455.length rc458,Sv ra467 zl466.length rc469,Sv none 0 0,Bv false] sizeOf24 fun w489 H=>?_))
    try dsimp only [List.set] at H
    refine zi (meet ⟨_,zi483,zi484,ra486,zl485.length,rc488,zl485,uE5,?_,?_,N,H.jg 12 2 [0,2,3,4,5,1,7,8,9,10,11] [0,1] qo qo⟩)
    · first | exact (‹jf kk 1 _∧_›).1 | exact jf.zero qf qf
    · first | assumption | omega
   ·skip
    refine xk (meet ⟨_,zi474,zi475,(some ⟨b10,0,none⟩),kk.toNat,kk.toNat,(List.replicate kk.toNat (0:Int)),uE5,?_,?_,N,H⟩)
    · first | exact (‹jf kk 1 _∧_›).1 | exact jf.zero qf qf
    · first | assumption | omega
  ·skip
   clear H N
   rintro ρ w490 ⟨xY,s_at,s_seed,Qk,Qi,Qj,r_Have,rfl,jh,jhp,N,H⟩
   have hn_r_Have:=H.yx 5 rfl
   refine t_n (zcc (sp (.pointer (some ⟨bs,0,none⟩)) ?_))
   have H1:=H.QC 11 2 [0,1,2,3,4,5,6,7,8,9,10] [0,1] qo qo
   have N1:Fresh _ (rFR :: Ns):=N
   have K1:Kept (Ns) ((xN true rFR rxR rules) :: Γ):=K0.behind 1 rfl
   replace K1:=K1.cons (F:=rFR) 0 rfl rfl
   refine sw (vK #[.pointer (some ⟨bs,0,none⟩),.int .i64 5] rfl rfl call66 (dOne_ok code s_at s_seed bs ac cc Fc (5:Int) H1 N1 K1 qg) ?_)
   clear H H1 N1 K1
   rintro _ w491 ⟨zi494,zi495,zb496,hx493,rfl,N,H⟩
   refine zjn ?_
   refine c_cut (fun ρ w497=>∃ (xY:Env) (s_at_1:Int) (s_seed_1:Int) (QF:yOA) (QD:Nat) (QE:Nat) (r_Lack:yLI),ρ=upd (upd (upd (upd (upd xY 0 (.pointer (some ⟨bs,0,none⟩))) 1 (.pointer (some ⟨bY,0,none⟩))) 4 (.pointer (some ⟨b1,0,none⟩))) 5 (.int .i64 par.length)) 6 (.pointer (some ⟨b7,0,none⟩))∧(jf kk 1 r_Lack)∧(ip≤s_at_1∧s_at_1≤ip+118)∧Fresh W0.heap.size (rFR :: Ns)∧St W0 w497 ((.box bs [Sv ac code.length cc,.int .i64 s_at_1,.int .u64 s_seed_1] 127) :: (rr ra467 zl466.length rc469 2 1 (zl466.map (Value.int .i64))) :: (rr ra456 zl455.length rc458 2 1 (zl455.map (Value.int .i64))) :: (.box b7 [.int .i64 zi4,.int .i64 0,Sv ra8 zl6.length rc9,Sv Qk Qi Qj,Sv QF QD QE,Sv ra456 zl455.length rc458,Sv ra467 zl466.length rc469,Sv none 0 0,Bv false] 56) :: (rr QF QD QE 2 1 (r_Lack.map (Value.int .i64))) :: (rr Qk Qi Qj 2 1 (r_Have.map (Value.int .i64))) :: (rr ra8 zl6.length rc9 2 1 (zl6.map (Value.int .i64))) :: (.box b1 [.int .i64 0,.int .i64 0,Sv none 0 0,Sv none 0 0,Sv none 0 0,Sv none 0 0,Sv none 0 0,Sv none 0 0,Bv false] 56) :: (.box bY [.int .i64 kk,Sv rap par.length rcp,Sv raR rules.length rcR] 27) :: (rr rap par.length rcp 2 1 (par.map (Value.int .i64))) :: (rr raR rules.length rcR 56 9 rxR) :: ps) ((sF false Fc ac cc code) :: (xN true rFR rxR rules) :: Γ)) ?_ ?_
   ·skip
    refine xK (zb496) rfl (fun h498=>?_) (fun h498=>?_)
    ·skip
     refine zg (sps [.pointer (some ⟨bs,0,none⟩),.pointer (some ⟨bY,0,none⟩),.pointer (some ⟨bY,0,none⟩)] (oF rfl (oL rfl (H.cell 8 rfl rfl) ?_)))
     have H1:=H.QC 11 2 [0,1,2,3,4,5,6,7,8,9,10] [0,1] qo qo
     have N1:Fresh _ (rFR :: Ns):=N
     have K1:Kept (Ns) ((xN true rFR rxR rules) :: Γ):=K0.behind 1 rfl
     replace K1:=K1.cons (F:=rFR) 0 rfl rfl
     refine sw (vK #[.pointer (some ⟨bs,0,none⟩),.int .i64 kk,.int .i64 1] rfl rfl call188 (Xn code zi494 zi495 bs ac cc Fc kk (1:Int) H1 N1 K1 qg qg qg) ?_)
     clear H H1 N1 K1
     rintro _ w499 ⟨zi503,zi504,zl505,ra506,rn507,rc508,hx501,hx502,rfl,N,H⟩
     obtain rfl:=H.yx 1 rfl
     refine oF rfl (sw (zh H 4 [.int .i64 zi4,.int .i64 0,Sv ra8 zl6.length rc9,Sv Qk Qi Qj,Sv ra506 zl505.length rc508,Sv ra456 zl455.length rc458,Sv ra467 zl466.length rc469,Sv none 0 0,Bv false] sizeOf24 fun w509 H=>?_))
     try dsimp only [List.set] at H
     refine zi (meet ⟨_,zi503,zi504,ra506,zl505.length,rc508,zl505,uE5,?_,?_,N,H.jg 12 2 [0,2,3,4,1,6,7,8,9,10,11] [0,1] qo qo⟩)
     · first | exact (‹jf kk 1 _∧_›).1 | exact jf.zero qf qf
     · first | assumption | omega
    ·skip
     refine xk (meet ⟨_,zi494,zi495,(some ⟨b11,0,none⟩),kk.toNat,kk.toNat,(List.replicate kk.toNat (0:Int)),uE5,?_,?_,N,H⟩)
     · first | exact (‹jf kk 1 _∧_›).1 | exact jf.zero qf qf
     · first | assumption | omega
   ·skip
    clear H N
    rintro ρ w510 ⟨xY,s_at_1,s_seed_1,QF,QD,QE,r_Lack,rfl,jl,jlp,N,H⟩
    have hn_r_Lack:=H.yx 4 rfl
    refine t_n (zcc (sp (.pointer (some ⟨bs,0,none⟩)) ?_))
    have H1:=H.QC 11 2 [0,1,2,3,4,5,6,7,8,9,10] [0,1] qo qo
    have N1:Fresh _ (rFR :: Ns):=N
    have K1:Kept (Ns) ((xN true rFR rxR rules) :: Γ):=K0.behind 1 rfl
    replace K1:=K1.cons (F:=rFR) 0 rfl rfl
    refine sw (vK #[.pointer (some ⟨bs,0,none⟩),.int .i64 4] rfl rfl call66 (dOne_ok code s_at_1 s_seed_1 bs ac cc Fc (4:Int) H1 N1 K1 qg) ?_)
    clear H H1 N1 K1
    rintro _ w511 ⟨zi514,zi515,zb516,hx513,rfl,N,H⟩
    refine zjn ?_
    refine c_cut (fun ρ w517=>∃ (xY:Env) (s_at_51:Int) (s_seed_51:Int) (r_Rank:Int),ρ=upd (upd (upd (upd (upd xY 0 (.pointer (some ⟨bs,0,none⟩))) 1 (.pointer (some ⟨bY,0,none⟩))) 4 (.pointer (some ⟨b1,0,none⟩))) 5 (.int .i64 par.length)) 6 (.pointer (some ⟨b7,0,none⟩))∧(0≤r_Rank∧r_Rank≤2)∧(ip≤s_at_51∧s_at_51≤ip+122)∧Fresh W0.heap.size (rFR :: Ns)∧St W0 w517 ((.box bs [Sv ac code.length cc,.int .i64 s_at_51,.int .u64 s_seed_51] 127) :: (rr ra467 zl466.length rc469 2 1 (zl466.map (Value.int .i64))) :: (rr ra456 zl455.length rc458 2 1 (zl455.map (Value.int .i64))) :: (.box b7 [.int .i64 zi4,.int .i64 r_Rank,Sv ra8 zl6.length rc9,Sv Qk Qi Qj,Sv QF QD QE,Sv ra456 zl455.length rc458,Sv ra467 zl466.length rc469,Sv none 0 0,Bv false] 56) :: (rr QF QD QE 2 1 (r_Lack.map (Value.int .i64))) :: (rr Qk Qi Qj 2 1 (r_Have.map (Value.int .i64))) :: (rr ra8 zl6.length rc9 2 1 (zl6.map (Value.int .i64))) :: (.box b1 [.int .i64 0,.int .i64 0,Sv none 0 0,Sv none 0 0,Sv none 0 0,Sv none 0 0,Sv none 0 0,Sv none 0 0,Bv false] 56) :: (.box bY [.int .i64 kk,Sv rap par.length rcp,Sv raR rules.length rcR] 27) :: (rr rap par.length rcp 2 1 (par.map (Value.int .i64))) :: (rr raR rules.length rcR 56 9 rxR) :: ps) ((sF false Fc ac cc code) :: (xN true rFR rxR rules) :: Γ)) ?_ ?_
    ·skip
     refine xK (zb516) rfl (fun h518=>?_) (fun h518=>?_)
     ·skip
      refine zg (sp (.pointer (some ⟨bs,0,none⟩)) ?_)
      have H1:=H.QC 11 2 [0,1,2,3,4,5,6,7,8,9,10] [0,1] qo qo
      have N1:Fresh _ (rFR :: Ns):=N
      have K1:Kept (Ns) ((xN true rFR rxR rules) :: Γ):=K0.behind 1 rfl
      replace K1:=K1.cons (F:=rFR) 0 rfl rfl
      refine sw (vK #[.pointer (some ⟨bs,0,none⟩),.int .i64 3] rfl rfl call68 (QO code zi514 zi515 bs ac cc Fc (3:Int) H1 N1 K1 qg) ?_)
      clear H H1 N1 K1
      rintro _ w519 ⟨zi523,zi524,zi525,hx521,hx522,rfl,N,H⟩
      refine oF rfl (sw (zh H 3 [.int .i64 zi4,.int .i64 zi525,Sv ra8 zl6.length rc9,Sv Qk Qi Qj,Sv QF QD QE,Sv ra456 zl455.length rc458,Sv ra467 zl466.length rc469,Sv none 0 0,Bv false] sizeOf2 fun w526 H=>?_))
      try dsimp only [List.set] at H
      refine zi (meet ⟨_,zi523,zi524,zi525,uE5,?_,?_,N,H⟩)
      · first | assumption | omega
      · first | assumption | omega
     ·skip
      refine xk (meet ⟨_,zi514,zi515,0,uE5,?_,?_,N,H⟩)
      · first | assumption | omega
      · first | assumption | omega
    ·skip
     clear H N
     rintro ρ w527 ⟨xY,s_at_51,s_seed_51,r_Rank,rfl,jr,jrp,N,H⟩
     refine t_n (zcc (sp (.int .i64 1) (zjn (xg ?_))))
     replace H:=H.nilRow 142 2
     replace H:=H.vT (α:=IntoD)
     refine zJ (fun m' ρ w528=>∃ (xY:Env) (c:Nat) (s_at_52:Int) (s_seed_52:Int) (Q7:yOA) (yD:Nat) (Q5:Nat) (r_Into:List IntoD) (XJ:List Value) (jS:yLN),ρ=upd (upd (upd (upd (upd (upd xY 0 (.pointer (some ⟨bs,0,none⟩))) 1 (.pointer (some ⟨bY,0,none⟩))) 4 (.pointer (some ⟨b1,0,none⟩))) 5 (.int .i64 par.length)) 6 (.pointer (some ⟨b7,0,none⟩))) 7 (.int .i64 c)∧((c:Int)≤par.length)∧(ip≤s_at_52∧s_at_52≤ip+126+26 * c)∧(1≤(c:Int))∧(r_Into.length≤3∧IntoDr kk par zi4 r_Into c)∧m' =(par.length - (c:Int)).toNat∧Fresh W0.heap.size (rFR :: jS :: Ns)∧St W0 w528 ((rr Q7 yD Q5 142 2 XJ) :: (.box bs [Sv ac code.length cc,.int .i64 s_at_52,.int .u64 s_seed_52] 127) :: (rr ra467 zl466.length rc469 2 1 (zl466.map (Value.int .i64))) :: (rr ra456 zl455.length rc458 2 1 (zl455.map (Value.int .i64))) :: (.box b7 [.int .i64 zi4,.int .i64 r_Rank,Sv ra8 zl6.length rc9,Sv Qk Qi Qj,Sv QF QD QE,Sv ra456 zl455.length rc458,Sv ra467 zl466.length rc469,Sv Q7 yD Q5,Bv false] 56) :: (rr QF QD QE 2 1 (r_Lack.map (Value.int .i64))) :: (rr Qk Qi Qj 2 1 (r_Have.map (Value.int .i64))) :: (rr ra8 zl6.length rc9 2 1 (zl6.map (Value.int .i64))) :: (.box b1 [.int .i64 0,.int .i64 0,Sv none 0 0,Sv none 0 0,Sv none 0 0,Sv none 0 0,Sv none 0 0,Sv none 0 0,Bv false] 56) :: (.box bY [.int .i64 kk,Sv rap par.length rcp,Sv raR rules.length rcR] 27) :: (rr rap par.length rcp 2 1 (par.map (Value.int .i64))) :: (rr raR rules.length rcR 56 9 rxR) :: ps) ((xN true jS XJ r_Into) :: (sF false Fc ac cc code) :: (xN true rFR rxR rules) :: Γ)) ((par.length - (1:Int)).toNat) ⟨_,1,s_at_51,s_seed_51,none,0,0,([]:List IntoD),[],[],uE6,qf,qf,qf,(by exact ⟨by simp,IntoDr.nil _ _ _ _⟩),rfl,(N.emp.jg 2 [1,0] qo),H⟩ ?_
     clear H N
     rintro m' ρ w529 ⟨xY,c,s_at_52,s_seed_52,Q7,yD,Q5,r_Into,XJ,jS,rfl,i0,i1,i2,i3,rfl,N,H⟩
     have hn_r_Into:=H.x8 (α:=IntoD) 0 rfl 0 rfl qj
     refine zcc (sps [.int .i64 c,.int .i64 par.length,Bv (decide ((c:Int) < par.length))] (zjn (cD rfl (fun h530=>?_) (fun h530=>?_))))
     ·skip
      refine xk (t_n (zf (xg (zcr (sps [.pointer (some ⟨bY,0,none⟩),.int .i64 c] (oF rfl (oL rfl (H.cell 4 rfl rfl) ?_)))))))
      obtain ⟨G531,hn532,h533⟩:=H.QW 10 rfl
      obtain ⟨G534,hn535,h536⟩:=H.QK (α:=jL) 11 rfl 2 rfl qj
      have c1:CellIn (⟨kk,par,rules⟩:qI) c:=⟨by show (0:Int)≤c;omega,by show (c:Int)≤(par.length:Int) - 1;omega⟩
      refine sw (oq (l02In_ok _ (⟨kk,par,rules⟩:qI) c zi4 (qJ (H.cells 9 rfl) 0 3) h533 h536 ql ql) H fun w537 H=>sp (Bv (dec (Lies (⟨kk,par,rules⟩:qI).qA zi4 c))) ?_)
      cases h539:(dec (Lies (⟨kk,par,rules⟩:qI).qA zi4 c))
      ·skip
       replace h539:=ve h539
       refine xW [81,82,83,84] (sps [Bv false,Bv false] (xW [87,88] (sp (Bv false) (zjn (xK false rfl (fun h=>absurd h qj) (fun _=>xk (b_n (t_n (zg (sp (.int .i64 c) (sw (zL c 1 rfl rfl qf (sp (.int .i64 (c+1)) (zi (xq (m' :=(par.length - ((c+1):Int)).toNat) qf ⟨_,c+1,s_at_52,s_seed_52,Q7,yD,Q5,r_Into,XJ,jS,uE6,?_,?_,?_,?_,rfl,N,H⟩)))))))))))))))
       · omega
       · omega
       · omega
       · first | exact ⟨by omega,i3.2.mono qf⟩ | exact ⟨by simp;omega,i3.2.snoc qf ‹Lies par _ _› (‹jf kk 1 _∧_›).1 (‹jf kk 1 _∧_›).2⟩
      ·skip
       replace h539:=Qq h539
       refine qR 80 rfl rfl (oF rfl (qR 80 rfl rfl (oL rfl (H.cell 4 rfl rfl) (qR 80 rfl rfl (oN rfl (qR 80 rfl rfl (sps [Bv (decide ((yD:Int) < 3)),Bv (decide ((yD:Int) < 3)),Bv (decide ((yD:Int) < 3))] ?_)))))))
       cases h540:(decide ((yD:Int) < 3))
       ·skip
        replace h540:=of_decide_eq_false h540
        refine xW [87,88] (sp (Bv false) (zjn (xK false rfl (fun h=>absurd h qj) (fun _=>xk (b_n (t_n (zg (sp (.int .i64 c) (sw (zL c 1 rfl rfl qf (sp (.int .i64 (c+1)) (zi (xq (m' :=(par.length - ((c+1):Int)).toNat) qf ⟨_,c+1,s_at_52,s_seed_52,Q7,yD,Q5,r_Into,XJ,jS,uE6,?_,?_,?_,?_,rfl,N,H⟩)))))))))))))
        · omega
        · omega
        · omega
        · first | exact ⟨by omega,i3.2.mono qf⟩ | exact ⟨by simp;omega,i3.2.snoc qf ‹Lies par _ _› (‹jf kk 1 _∧_›).1 (‹jf kk 1 _∧_›).2⟩
       ·skip
        replace h540:=of_decide_eq_true h540
        refine qR 86 rfl rfl (sp (.pointer (some ⟨bs,0,none⟩)) (qR 86 rfl rfl ?_))
        have H1:=H.QC 12 3 [1,0,2,3,4,5,6,7,8,9,10,11] [1,0,2] qo qo
        have N1:Fresh _ (rFR :: jS :: Ns):=N
        have K1:Kept (Ns) ((xN true jS XJ r_Into) :: (xN true rFR rxR rules) :: Γ):=K0.behind 2 rfl
        replace K1:=K1.cons (F:=jS) 0 rfl rfl
        replace K1:=K1.cons (F:=rFR) 1 rfl rfl
        refine sw (vK #[.pointer (some ⟨bs,0,none⟩),.int .i64 3] rfl rfl call66 (dOne_ok code s_at_52 s_seed_52 bs ac cc Fc (3:Int) H1 N1 K1 qg) ?_)
        clear H H1 N1 K1
        rintro _ w541 ⟨zi544,zi545,zb546,hx543,rfl,N,H⟩
        refine sp (Bv zb546) (zjn (xK (zb546) rfl (fun h547=>?_) (fun h547=>?_)))
        ·skip
         refine c_cut (fun ρ w556=>∃ (xY:Env) (zi548:Int) (zl549:yLI) (zi550:Int) (a551:yOA) (c552:Nat) (ra553:yOA) (rc554:Nat) (G555:yLN),ρ=upd (upd (upd (upd (upd (upd (upd (upd (upd (upd (upd (upd xY 0 (.pointer (some ⟨bs,0,none⟩))) 1 (.pointer (some ⟨bY,0,none⟩))) 4 (.pointer (some ⟨b1,0,none⟩))) 5 (.int .i64 par.length)) 6 (.pointer (some ⟨b7,0,none⟩))) 7 (.int .i64 c)) 81 (.pointer (some ⟨b7,0+7,none⟩))) 82 (Sv Q7 yD Q5)) 83 (.int .i64 yD)) 84 (Bv true)) 87 (.pointer (some ⟨bs,0,none⟩))) 88 (Bv zb546)∧(zi544≤zi548∧zi548≤zi544+24)∧(jf kk (1:Int) zl549∧Xh zl549≠0)∧Fresh W0.heap.size ((jS++G555) :: rFR :: Ns)∧St W0 w556 ((.box bs [Sv ac code.length cc,.int .i64 zi548,.int .u64 zi550] 127) :: (rr a551 (yD+1) c552 142 2 (XJ++[.int .i64 c,Sv ra553 zl549.length rc554])) :: (rr ra467 zl466.length rc469 2 1 (zl466.map (Value.int .i64))) :: (rr ra456 zl455.length rc458 2 1 (zl455.map (Value.int .i64))) :: (.box b7 [.int .i64 zi4,.int .i64 r_Rank,Sv ra8 zl6.length rc9,Sv Qk Qi Qj,Sv QF QD QE,Sv ra456 zl455.length rc458,Sv ra467 zl466.length rc469,Sv a551 (yD+1) c552,Bv false] 56) :: (rr QF QD QE 2 1 (r_Lack.map (Value.int .i64))) :: (rr Qk Qi Qj 2 1 (r_Have.map (Value.int .i64))) :: (rr ra8 zl6.length rc9 2 1 (zl6.map (Value.int .i64))) :: (.box b1 [.int .i64 0,.int .i64 0,Sv none 0 0,Sv none 0 0,Sv none 0 0,Sv none 0 0,Sv none 0 0,Sv none 0 0,Bv false] 56) :: (.box bY [.int .i64 kk,Sv rap par.length rcp,Sv raR rules.length rcR] 27) :: (rr rap par.length rcp 2 1 (par.map (Value.int .i64))) :: (rr raR rules.length rcR 56 9 rxR) :: ps) ((xN true (jS++G555) (XJ++[.int .i64 c,Sv ra553 zl549.length rc554]) (r_Into++[(⟨c,zl549⟩:IntoD)])) :: (sF true G555 ra553 rc554 zl549) :: (sF false Fc ac cc code) :: (xN true rFR rxR rules) :: Γ)) ?_ ?_
         ·skip
          refine VV rfl H [2,3,5,6,7,8,9,10,11] [0,1,2] fun H=>?_
          have S:=H.yj [2,3,5,6,7,8,9,10,11] [0,1,2]
          refine tF 0 rfl rfl S ?_
          refine rtp 2 (.int .i64 c) S ?_
          refine rtp 3 (.pointer (some ⟨bs,0,none⟩)) S ?_
          refine rtp 4 (.pointer (some ⟨bY,0,none⟩)) S ?_
          refine rtp 5 (.pointer (some ⟨bY,0,none⟩)) S ?_
          refine tF 6 rfl rfl S ?_
          refine tL 7 rfl rfl (fun _ h=>h.cell 6 rfl rfl) S ?_
          refine jb [1,8] qh qm (jQ rfl ?_ (jQ rfl ?_ jd))
          ·skip
           refine zF (Sv Q7 yD Q5) isAgg54 rfl (H.cell 4 rfl rfl) (⟨H.pick [2,3,5,6,7,8,9,10,11] [0,1,2],(ro 8 rfl ?_)⟩)
           have H1:=H.QC 12 3 [0,1,2,3,4,5,6,7,8,9,10,11] [0,1,2] qo qo
           have N1:Fresh _ (rFR :: jS :: Ns):=N
           have K1:Kept (Ns) ((xN true jS XJ r_Into) :: (xN true rFR rxR rules) :: Γ):=K0.behind 2 rfl
           replace K1:=K1.cons (F:=jS) 0 rfl rfl
           replace K1:=K1.cons (F:=rFR) 1 rfl rfl
           refine vK #[.pointer (some ⟨bs,0,none⟩),.int .i64 kk,.int .i64 1] rfl rfl call188 (Xn code zi544 zi545 bs ac cc Fc kk (1:Int) H1 N1 K1 qg qg qg) ?_
           clear H H1 N1 K1
           rintro _ w558 ⟨zi562,zi563,zl564,ra565,rn566,rc567,hx560,hx561,rfl,N,H⟩
           obtain rfl:=H.yx 1 rfl
           refine ⟨H.pick [3,4,6,7,8,9,10,11,12] [0,1,2],(ro 9 rfl (vX [.int .i64 c,Sv ra565 zl564.length rc567] [(0,.int .i64 c),(1,Sv ra565 zl564.length rc567)] (⟨H.pick [3,4,6,7,8,9,10,11,12] [0,1,2],(ro 10 rfl (zy H underlying54 ti142 [.int .i64 c,Sv ra565 zl564.length rc567] fun b568 w569 H=>⟨H.pick [4,5,7,8,9,10,11,12,13] [0,1,2],(ro 11 rfl ?_)⟩))⟩)))⟩
           obtain ⟨G573,N,hn574,H⟩:=H.zT 2 rfl N (fun F hF b hb=>(List.mem_append.1 (show F∈[rFR,jS]++Ns from hF)).elim (fun h=>(H.jR (L:=[rFR,jS]) [2,1]) F h b hb) fun h=>H.VC (K0.behind 3 rfl) F h b hb)
           try dsimp only [List.set] at H
           refine zC H 3 rfl 0 rfl underlying54 ti142 rfl qj rfl rfl rfl qw qp qf fun a570 c571 w572 H=>?_
           try dsimp only [List.set] at H
           replace H:=H.snoc_IntoD 2 rfl c 0 rfl
           replace N:Fresh W0.heap.size ((jS++G573) :: rFR :: Ns):=(N.jg 3 [2,0,1] qo).join
           refine ⟨H.pick [4,5,7,8,9,10,11,12,13] [2,3,4],(tF 12 rfl rfl (H.pick [4,5,7,8,9,10,11,12,13] [2,3,4]) ?_)⟩
           refine ro 13 rfl (zh H 6 [.int .i64 zi4,.int .i64 r_Rank,Sv ra8 zl6.length rc9,Sv Qk Qi Qj,Sv QF QD QE,Sv ra456 zl455.length rc458,Sv ra467 zl466.length rc469,Sv a570 (yD+1) c571,Bv false] sizeOf54 fun w575 H=>?_)
           try dsimp only [List.set] at H
           refine ⟨H.pick [4,5,7,8,9,10,11,12,13] [2,3,4],(xJ qh ((meet ⟨_,zi562,zl564,zi563,a570,c571,ra565,rc567,G573,uE12,hx560,hx561,N,H.jg 14 5 [1,3,4,5,6,7,8,9,10,11,12,13] [0,1,2,4] qo qo⟩)))⟩
          ·skip
           have H1:=H.QC 12 3 [0,1,2,3,4,5,6,7,8,9,10,11] [0,1,2] qo qo
           have N1:Fresh _ (rFR :: jS :: Ns):=N
           have K1:Kept (Ns) ((xN true jS XJ r_Into) :: (xN true rFR rxR rules) :: Γ):=K0.behind 2 rfl
           replace K1:=K1.cons (F:=jS) 0 rfl rfl
           replace K1:=K1.cons (F:=rFR) 1 rfl rfl
           refine vK #[.pointer (some ⟨bs,0,none⟩),.int .i64 kk,.int .i64 1] rfl rfl call188 (Xn code zi544 zi545 bs ac cc Fc kk (1:Int) H1 N1 K1 qg qg qg) ?_
           clear H H1 N1 K1
           rintro _ w576 ⟨zi580,zi581,zl582,ra583,rn584,rc585,hx578,hx579,rfl,N,H⟩
           obtain rfl:=H.yx 1 rfl
           refine ⟨H.pick [3,4,6,7,8,9,10,11,12] [0,1,2],(jb [1,9] qh qm (jQ rfl ?_ (jQ rfl ?_ jd)))⟩
           ·skip
            refine zF (Sv Q7 yD Q5) isAgg54 rfl (H.cell 5 rfl rfl) (⟨H.pick [3,4,6,7,8,9,10,11,12] [0,1,2],(ro 9 rfl (vX [.int .i64 c,Sv ra583 zl582.length rc585] [(0,.int .i64 c),(1,Sv ra583 zl582.length rc585)] (⟨H.pick [3,4,6,7,8,9,10,11,12] [0,1,2],(ro 10 rfl (zy H underlying54 ti142 [.int .i64 c,Sv ra583 zl582.length rc585] fun b586 w587 H=>⟨H.pick [4,5,7,8,9,10,11,12,13] [0,1,2],(ro 11 rfl ?_)⟩))⟩)))⟩)
            obtain ⟨G591,N,hn592,H⟩:=H.zT 2 rfl N (fun F hF b hb=>(List.mem_append.1 (show F∈[rFR,jS]++Ns from hF)).elim (fun h=>(H.jR (L:=[rFR,jS]) [2,1]) F h b hb) fun h=>H.VC (K0.behind 3 rfl) F h b hb)
            try dsimp only [List.set] at H
            refine zC H 3 rfl 0 rfl underlying54 ti142 rfl qj rfl rfl rfl qw qp qf fun a588 c589 w590 H=>?_
            try dsimp only [List.set] at H
            replace H:=H.snoc_IntoD 2 rfl c 0 rfl
            replace N:Fresh W0.heap.size ((jS++G591) :: rFR :: Ns):=(N.jg 3 [2,0,1] qo).join
            refine ⟨H.pick [4,5,7,8,9,10,11,12,13] [2,3,4],(tF 12 rfl rfl (H.pick [4,5,7,8,9,10,11,12,13] [2,3,4]) ?_)⟩
            refine ro 13 rfl (zh H 6 [.int .i64 zi4,.int .i64 r_Rank,Sv ra8 zl6.length rc9,Sv Qk Qi Qj,Sv QF QD QE,Sv ra456 zl455.length rc458,Sv ra467 zl466.length rc469,Sv a588 (yD+1) c589,Bv false] sizeOf54 fun w593 H=>?_)
            try dsimp only [List.set] at H
            refine ⟨H.pick [4,5,7,8,9,10,11,12,13] [2,3,4],(xJ qh ((meet ⟨_,zi580,zl582,zi581,a588,c589,ra583,rc585,G591,uE12,hx578,hx579,N,H.jg 14 5 [1,3,4,5,6,7,8,9,10,11,12,13] [0,1,2,4] qo qo⟩)))⟩
           ·skip
            refine vX [.int .i64 c,Sv ra583 zl582.length rc585] [(0,.int .i64 c),(1,Sv ra583 zl582.length rc585)] (⟨H.pick [3,4,6,7,8,9,10,11,12] [0,1,2],(jb [1,10] qh qm (jQ rfl ?_ (jQ rfl ?_ jd)))⟩)
            ·skip
             refine zF (Sv Q7 yD Q5) isAgg54 rfl (H.cell 5 rfl rfl) (⟨H.pick [3,4,6,7,8,9,10,11,12] [0,1,2],(ro 10 rfl (zy H underlying54 ti142 [.int .i64 c,Sv ra583 zl582.length rc585] fun b594 w595 H=>⟨H.pick [4,5,7,8,9,10,11,12,13] [0,1,2],(ro 11 rfl ?_)⟩))⟩)
             obtain ⟨G599,N,hn600,H⟩:=H.zT 2 rfl N (fun F hF b hb=>(List.mem_append.1 (show F∈[rFR,jS]++Ns from hF)).elim (fun h=>(H.jR (L:=[rFR,jS]) [2,1]) F h b hb) fun h=>H.VC (K0.behind 3 rfl) F h b hb)
             try dsimp only [List.set] at H
             refine zC H 3 rfl 0 rfl underlying54 ti142 rfl qj rfl rfl rfl qw qp qf fun a596 c597 w598 H=>?_
             try dsimp only [List.set] at H
             replace H:=H.snoc_IntoD 2 rfl c 0 rfl
             replace N:Fresh W0.heap.size ((jS++G599) :: rFR :: Ns):=(N.jg 3 [2,0,1] qo).join
             refine ⟨H.pick [4,5,7,8,9,10,11,12,13] [2,3,4],(tF 12 rfl rfl (H.pick [4,5,7,8,9,10,11,12,13] [2,3,4]) ?_)⟩
             refine ro 13 rfl (zh H 6 [.int .i64 zi4,.int .i64 r_Rank,Sv ra8 zl6.length rc9,Sv Qk Qi Qj,Sv QF QD QE,Sv ra456 zl455.length rc458,Sv ra467 zl466.length rc469,Sv a596 (yD+1) c597,Bv false] sizeOf54 fun w601 H=>?_)
             try dsimp only [List.set] at H
             refine ⟨H.pick [4,5,7,8,9,10,11,12,13] [2,3,4],(xJ qh ((meet ⟨_,zi580,zl582,zi581,a596,c597,ra583,rc585,G599,uE12,hx578,hx579,N,H.jg 14 5 [1,3,4,5,6,7,8,9,10,11,12,13] [0,1,2,4] qo qo⟩)))⟩
            ·skip
             refine zy H underlying54 ti142 [.int .i64 c,Sv ra583 zl582.length rc585] fun b602 w603 H=>⟨H.pick [4,5,7,8,9,10,11,12,13] [0,1,2],(ro 1 rfl (zF (Sv Q7 yD Q5) isAgg54 rfl (H.cell 6 rfl rfl) (⟨H.pick [4,5,7,8,9,10,11,12,13] [0,1,2],(ro 11 rfl ?_)⟩)))⟩
             obtain ⟨G607,N,hn608,H⟩:=H.zT 2 rfl N (fun F hF b hb=>(List.mem_append.1 (show F∈[rFR,jS]++Ns from hF)).elim (fun h=>(H.jR (L:=[rFR,jS]) [2,1]) F h b hb) fun h=>H.VC (K0.behind 3 rfl) F h b hb)
             try dsimp only [List.set] at H
             refine zC H 3 rfl 0 rfl underlying54 ti142 rfl qj rfl rfl rfl qw qp qf fun a604 c605 w606 H=>?_
             try dsimp only [List.set] at H
             replace H:=H.snoc_IntoD 2 rfl c 0 rfl
             replace N:Fresh W0.heap.size ((jS++G607) :: rFR :: Ns):=(N.jg 3 [2,0,1] qo).join
             refine ⟨H.pick [4,5,7,8,9,10,11,12,13] [2,3,4],(tF 12 rfl rfl (H.pick [4,5,7,8,9,10,11,12,13] [2,3,4]) ?_)⟩
             refine ro 13 rfl (zh H 6 [.int .i64 zi4,.int .i64 r_Rank,Sv ra8 zl6.length rc9,Sv Qk Qi Qj,Sv QF QD QE,Sv ra456 zl455.length rc458,Sv ra467 zl466.length rc469,Sv a604 (yD+1) c605,Bv false] sizeOf54 fun w609 H=>?_)
             try dsimp only [List.set] at H
             refine ⟨H.pick [4,5,7,8,9,10,11,12,13] [2,3,4],(xJ qh ((meet ⟨_,zi580,zl582,zi581,a604,c605,ra583,rc585,G607,uE12,hx578,hx579,N,H.jg 14 5 [1,3,4,5,6,7,8,9,10,11,12,13] [0,1,2,4] qo qo⟩)))⟩
         ·skip
          clear H N
          rintro ρ w610 ⟨xY,zi548,zl549,zi550,a551,c552,ra553,rc554,G555,rfl,hx611,hx612,N,H⟩
          refine b_n (t_n (zg (sp (.int .i64 c) (sw (zL c 1 rfl rfl qf (sp (.int .i64 (c+1)) (zi (xq (m' :=(par.length - ((c+1):Int)).toNat) qf ⟨_,c+1,zi548,zi550,a551,yD+1,c552,(r_Into++[(⟨c,zl549⟩:IntoD)]),(XJ++[Value.int .i64 c,Value.slice ra553 zl549.length rc554]:List Value),(jS++G555),uE6,?_,?_,?_,?_,rfl,(N.jg 2 [1,0] qo),H.jg 12 4 [1,0,2,3,4,5,6,7,8,9,10,11] [0,2,3] qo qo⟩))))))))
          · omega
          · omega
          · omega
          · first | exact ⟨by omega,i3.2.mono qf⟩ | exact ⟨by simp;omega,i3.2.snoc qf ‹Lies par _ _› (‹jf kk 1 _∧_›).1 (‹jf kk 1 _∧_›).2⟩
        ·skip
         refine xk (b_n (t_n (zg (sp (.int .i64 c) (sw (zL c 1 rfl rfl qf (sp (.int .i64 (c+1)) (zi (xq (m' :=(par.length - ((c+1):Int)).toNat) qf ⟨_,c+1,zi544,zi545,Q7,yD,Q5,r_Into,XJ,jS,uE6,?_,?_,?_,?_,rfl,N,H.jg 12 3 [1,0,2,3,4,5,6,7,8,9,10,11] [1,0,2] qo qo⟩)))))))))
         · omega
         · omega
         · omega
         · first | exact ⟨by omega,i3.2.mono qf⟩ | exact ⟨by simp;omega,i3.2.snoc qf ‹Lies par _ _› (‹jf kk 1 _∧_›).1 (‹jf kk 1 _∧_›).2⟩
     ·skip
      refine zx4 (zcr (oF rfl (oL rfl (H.cell 4 rfl rfl) (sps [Bv (decide ((zi4:Int) > 0)),Bv (decide ((zi4:Int) > 0))] ?_))))
      cases h613:(decide ((zi4:Int) > 0))
      ·skip
       replace h613:=of_decide_eq_false h613
       refine xW [107,108] (sp (Bv false) (oF rfl (sw (zh H 4 [.int .i64 zi4,.int .i64 r_Rank,Sv ra8 zl6.length rc9,Sv Qk Qi Qj,Sv QF QD QE,Sv ra456 zl455.length rc458,Sv ra467 zl466.length rc469,Sv Q7 yD Q5,Bv false] sizeOf4 fun w614 H=>?_))))
       try dsimp only [List.set] at H
       refine zjc (sw (xU [.int .i64 zi4,.int .i64 r_Rank,Sv ra8 zl6.length rc9,Sv Qk Qi Qj,Sv QF QD QE,Sv ra456 zl455.length rc458,Sv ra467 zl466.length rc469,Sv Q7 yD Q5,Bv false] isAgg56 sizeOf56 rfl (qJ (H.cells 4 rfl) 0 9) (sw (zu H 8 [.int .i64 zi4,.int .i64 r_Rank,Sv ra8 zl6.length rc9,Sv Qk Qi Qj,Sv QF QD QE,Sv ra456 zl455.length rc458,Sv ra467 zl466.length rc469,Sv Q7 yD Q5,Bv false] sizeOf56 fun w615 H=>?_))))
       try dsimp only [List.set] at H
       refine zjr (retC H 8 rfl rfl isAgg56 sizeOf56 rfl ⟨_,rfl,?_⟩)
       have he:(c:Int)=par.length:=by omega
       exact ⟨s_at_52,s_seed_52,zi4,r_Rank,zl6,r_Have,r_Lack,zl455,zl466,r_Into,false,ra8,zl6.length,rc9,Qk,Qi,Qj,QF,QD,QE,ra456,zl455.length,rc458,ra467,zl466.length,rc469,Q7,yD,Q5,XJ,jS,qf,(by exact ruleDr_of qf qg (by first | exact (fun _=>by omega) | exact (fun h=>by cases h)) ql jh jl ql ql ⟨i3.1,he▸i3.2⟩),rfl,N,H.jg 12 3 [1,9,10,11,7,6,5,3,2,0] [1,2,0] qo qo⟩
      ·skip
       replace h613:=of_decide_eq_true h613
       refine qR 106 rfl rfl (sp (.pointer (some ⟨bs,0,none⟩)) (qR 106 rfl rfl ?_))
       have H1:=H.QC 12 3 [1,0,2,3,4,5,6,7,8,9,10,11] [1,0,2] qo qo
       have N1:Fresh _ (rFR :: jS :: Ns):=N
       have K1:Kept (Ns) ((xN true jS XJ r_Into) :: (xN true rFR rxR rules) :: Γ):=K0.behind 2 rfl
       replace K1:=K1.cons (F:=jS) 0 rfl rfl
       replace K1:=K1.cons (F:=rFR) 1 rfl rfl
       refine sw (vK #[.pointer (some ⟨bs,0,none⟩),.int .i64 6] rfl rfl call66 (dOne_ok code s_at_52 s_seed_52 bs ac cc Fc (6:Int) H1 N1 K1 qg) ?_)
       clear H H1 N1 K1
       rintro _ w616 ⟨zi619,zi620,zb621,hx618,rfl,N,H⟩
       refine sp (Bv zb621) (oF rfl (sw (zh H 4 [.int .i64 zi4,.int .i64 r_Rank,Sv ra8 zl6.length rc9,Sv Qk Qi Qj,Sv QF QD QE,Sv ra456 zl455.length rc458,Sv ra467 zl466.length rc469,Sv Q7 yD Q5,Bv zb621] sizeOf4 fun w622 H=>?_)))
       try dsimp only [List.set] at H
       refine zjc (sw (xU [.int .i64 zi4,.int .i64 r_Rank,Sv ra8 zl6.length rc9,Sv Qk Qi Qj,Sv QF QD QE,Sv ra456 zl455.length rc458,Sv ra467 zl466.length rc469,Sv Q7 yD Q5,Bv zb621] isAgg56 sizeOf56 rfl (qJ (H.cells 4 rfl) 0 9) (sw (zu H 8 [.int .i64 zi4,.int .i64 r_Rank,Sv ra8 zl6.length rc9,Sv Qk Qi Qj,Sv QF QD QE,Sv ra456 zl455.length rc458,Sv ra467 zl466.length rc469,Sv Q7 yD Q5,Bv zb621] sizeOf56 fun w623 H=>?_))))
       try dsimp only [List.set] at H
       refine zjr (retC H 8 rfl rfl isAgg56 sizeOf56 rfl ⟨_,rfl,?_⟩)
       have he:(c:Int)=par.length:=by omega
       exact ⟨zi619,zi620,zi4,r_Rank,zl6,r_Have,r_Lack,zl455,zl466,r_Into,zb621,ra8,zl6.length,rc9,Qk,Qi,Qj,QF,QD,QE,ra456,zl455.length,rc458,ra467,zl466.length,rc469,Q7,yD,Q5,XJ,jS,qf,(by exact ruleDr_of qf qg (by first | exact (fun _=>by omega) | exact (fun h=>by cases h)) ql jh jl ql ql ⟨i3.1,he▸i3.2⟩),rfl,N,H.jg 12 3 [0,9,10,11,7,6,5,3,2,1] [0,2,1] qo qo⟩
theorem dSystem_ok {W0 w:World} {ps:List Prv} {Γ:List Fact} {Ns:List yLN} (code:List UInt8) (ip:Int) (sd:Int) (bs:Nat) (ac:yOA) (cc:Nat) (Fc:yLN) (H:St W0 w ((.box bs [Sv ac code.length cc,.int .i64 ip,.int .u64 sd] 127) :: ps) ((sF false Fc ac cc code) :: Γ)) (N:Fresh W0.heap.size (Ns)) (K0:Kept Ns Γ) (q0:0≤ip∧ip≤50000):Calls Tryz.prog 78 #[.pointer (some ⟨bs,0,none⟩)] w (fun e w' =>∃ v,e=.returned v∧∃ (ip_:Int) (sd_:Int) (kk_:Int) (par_:yLI) (rules_:List jL) (raq:yOA) (rnq:Nat) (rcq:Nat) (raS:yOA) (rnS:Nat) (rcS:Nat) (rxS:List Value) (rFS:yLN),(ip≤ip_∧ip_≤ip+2000)∧(SysDr kk_ par_ rules_)∧v=.agg #[.int .i64 kk_,Sv raq rnq rcq,Sv raS rnS rcS]∧Fresh W0.heap.size (rFS :: Ns)∧St W0 w' ((.box bs [Sv ac code.length cc,.int .i64 ip_,.int .u64 sd_] 127) :: (rr raq rnq rcq 2 1 (par_.map (Value.int .i64))) :: (rr raS rnS rcS 56 9 rxS) :: ps) ((sF false Fc ac cc code) :: (xN true rFS rxS rules_) :: Γ)):=by
 refine en Tryz.func78 Tryz.ntmps78 ?_
 have ncode:=qV (H.get 0 rfl).1
 refine zcr (sw (xZ H ti27 [.int .i64 0,Sv none 0 0,Sv none 0 0] fun b1 w2 H=>zjc (sp (.pointer (some ⟨bs,0,none⟩)) ?_)))
 have H1:=H.QC 2 1 [1,0] [0] qo qo
 have N1:Fresh _ (Ns):=N
 have K1:Kept (Ns) (Γ):=K0.behind 0 rfl
 refine sw (vK #[.pointer (some ⟨bs,0,none⟩),.int .i64 3] rfl rfl call68 (QO code ip sd bs ac cc Fc (3:Int) H1 N1 K1 qg) ?_)
 clear H H1 N1 K1
 rintro _ w3 ⟨zi7,zi8,zi9,hx5,hx6,rfl,N,H⟩
 refine sw (zL 1 zi9 rfl rfl qf (sw (zy H underlying24 ti2 [.int .i64 (-1)] fun b10 w11 H=>sw (vX [.int .i64 (1+zi9),Sv (some ⟨b10,0,none⟩) 1 1,Sv none 0 0] [(0,.int .i64 (1+zi9)),(1,Sv (some ⟨b10,0,none⟩) 1 1)] (sw (xZ H ti27 [.int .i64 0,Sv none 0 0,Sv none 0 0] fun b12 w13 H=>sw (zu H 0 [.int .i64 (1+zi9),Sv (some ⟨b10,0,none⟩) 1 1,Sv none 0 0] sizeOf27 fun w14 H=>?_)))))))
 try dsimp only [List.set] at H
 refine zjcc (sp (.pointer (some ⟨bs,0,none⟩)) ?_)
 have H1:=H.QC 4 1 [2,0,1,3] [0] qo qo
 have N1:Fresh _ (Ns):=N
 have K1:Kept (Ns) (Γ):=K0.behind 0 rfl
 refine sw (vK #[.pointer (some ⟨bs,0,none⟩),.int .i64 3] rfl rfl call68 (QO code zi7 zi8 bs ac cc Fc (3:Int) H1 N1 K1 qg) ?_)
 clear H H1 N1 K1
 rintro _ w15 ⟨zi19,zi20,zi21,hx17,hx18,rfl,N,H⟩
 refine sp (.int .i64 zi21) (zjn (xg ?_))
 replace H:=H.boxRowI 2 [(-1)] 1
 try dsimp only [List.set] at H
 refine zJ (fun m' ρ w22=>∃ (xY:Env) (c:Int) (s_at:Int) (s_seed:Int) (yf:yOA) (zZ:Nat) (yc:Nat) (y_Parents:yLI),ρ=upd (upd (upd (upd xY 0 (.pointer (some ⟨bs,0,none⟩))) 2 (.pointer (some ⟨b1,0,none⟩))) 3 (.pointer (some ⟨b12,0,none⟩))) 4 (.int .i64 c)∧(ip≤s_at∧s_at+2 * c≤ip+8)∧(0≤c∧(y_Parents.length:Int)+c≤3)∧(ParDr y_Parents)∧m' =c.toNat∧Fresh W0.heap.size (Ns)∧St W0 w22 ((.box bs [Sv ac code.length cc,.int .i64 s_at,.int .u64 s_seed] 127) :: (.box b12 [.int .i64 (1+zi9),Sv yf zZ yc,Sv none 0 0] 27) :: (rr yf zZ yc 2 1 (y_Parents.map (Value.int .i64))) :: (.box b1 [.int .i64 0,Sv none 0 0,Sv none 0 0] 27) :: ps) ((sF false Fc ac cc code) :: Γ)) (zi21.toNat) ⟨_,zi21,zi19,zi20,(some ⟨b10,0,none⟩),1,1,[(-1)],uE4,qf,qy,(by exact ParDr.one),rfl,N,H⟩ ?_
 clear H N
 rintro m' ρ w23 ⟨xY,c,s_at,s_seed,yf,zZ,yc,y_Parents,rfl,i1,i2,i3,rfl,N,H⟩
 have hn_y_Parents:=H.yx 2 rfl
 have i4:=i3.1
 refine zcc (sps [.int .i64 c,Bv (decide ((c:Int) > 0))] (zjn (cD rfl (fun h24=>?_) (fun h24=>?_))))
 ·skip
  refine xk (t_n (zf (xg ?_)))
  refine c_cut (fun ρ w30=>∃ (xY:Env) (zi25:Int) (zi26:Int) (zi27:Int) (a28:yOA) (c29:Nat),ρ=upd (upd (upd (upd xY 0 (.pointer (some ⟨bs,0,none⟩))) 2 (.pointer (some ⟨b1,0,none⟩))) 3 (.pointer (some ⟨b12,0,none⟩))) 4 (.int .i64 c)∧(s_at≤zi25∧zi25≤s_at+2)∧(0≤zi26∧(zi26 < zZ∨zi26=0))∧Fresh W0.heap.size (Ns)∧St W0 w30 ((.box bs [Sv ac code.length cc,.int .i64 zi25,.int .u64 zi27] 127) :: (.box b12 [.int .i64 (1+zi9),Sv a28 (zZ+1) c29,Sv none 0 0] 27) :: (rr a28 (zZ+1) c29 2 1 ((y_Parents++[zi26]).map (Value.int .i64))) :: (.box b1 [.int .i64 0,Sv none 0 0,Sv none 0 0] 27) :: ps) ((sF false Fc ac cc code) :: Γ)) ?_ ?_
  ·skip
   refine VV rfl H [3] [0] fun H=>?_
   have S:=H.yj [3] [0]
   refine tF 0 rfl rfl S ?_
   refine rtp 2 (.pointer (some ⟨bs,0,none⟩)) S ?_
   refine tF 3 rfl rfl S ?_
   refine jb [1,4] qh qm (jQ rfl ?_ (jQ rfl ?_ jd))
   ·skip
    refine zF (Sv yf zZ yc) isAgg24 rfl (H.cell 1 rfl rfl) (⟨H.pick [3] [0],(ro 4 rfl (zF (Sv yf zZ yc) isAgg24 rfl (H.cell 1 rfl rfl) (⟨H.pick [3] [0],(tN 5 rfl rfl (H.pick [3] [0]) ?_)⟩)))⟩)
    refine ro 6 rfl ?_
    have H1:=H.QC 4 1 [0,1,2,3] [0] qo qo
    have N1:Fresh _ (Ns):=N
    have K1:Kept (Ns) (Γ):=K0.behind 0 rfl
    refine vK #[.pointer (some ⟨bs,0,none⟩),.int .i64 zZ] rfl rfl call68 (QO code s_at s_seed bs ac cc Fc zZ H1 N1 K1 qg) ?_
    clear H H1 N1 K1
    rintro _ w32 ⟨zi36,zi37,zi38,hx34,hx35,rfl,N,H⟩
    refine ⟨H.pick [3] [0],(ro 7 rfl (zy H underlying24 ti2 [.int .i64 zi38] fun b39 w40 H=>⟨H.pick [4] [0],(ro 8 rfl (zC H 3 rfl 0 rfl underlying24 ti2 rfl qj rfl rfl rfl qw qp qf fun a41 c42 w43 H=>?_))⟩))⟩
    rw [snocI] at H
    try dsimp only [List.set] at H
    refine ⟨H.pick [4] [0],(tF 9 rfl rfl (H.pick [4] [0]) ?_)⟩
    refine ro 10 rfl (zh H 2 [.int .i64 (1+zi9),Sv a41 (zZ+1) c42,Sv none 0 0] sizeOf24 fun w44 H=>?_)
    try dsimp only [List.set] at H
    refine ⟨H.pick [4] [0],(xJ qh ((meet ⟨_,zi36,zi38,zi37,a41,c42,uE4,hx34,hx35,N,H.jg 5 1 [1,2,3,4] [0] qo qo⟩)))⟩
   ·skip
    refine zF (Sv yf zZ yc) isAgg24 rfl (H.cell 1 rfl rfl) (⟨H.pick [3] [0],(tN 5 rfl rfl (H.pick [3] [0]) ?_)⟩)
    refine jb [1,6] qh qm (jQ rfl ?_ (jQ rfl ?_ jd))
    ·skip
     refine zF (Sv yf zZ yc) isAgg24 rfl (H.cell 1 rfl rfl) (⟨H.pick [3] [0],(ro 6 rfl ?_)⟩)
     have H1:=H.QC 4 1 [0,1,2,3] [0] qo qo
     have N1:Fresh _ (Ns):=N
     have K1:Kept (Ns) (Γ):=K0.behind 0 rfl
     refine vK #[.pointer (some ⟨bs,0,none⟩),.int .i64 zZ] rfl rfl call68 (QO code s_at s_seed bs ac cc Fc zZ H1 N1 K1 qg) ?_
     clear H H1 N1 K1
     rintro _ w45 ⟨zi49,zi50,zi51,hx47,hx48,rfl,N,H⟩
     refine ⟨H.pick [3] [0],(ro 7 rfl (zy H underlying24 ti2 [.int .i64 zi51] fun b52 w53 H=>⟨H.pick [4] [0],(ro 8 rfl (zC H 3 rfl 0 rfl underlying24 ti2 rfl qj rfl rfl rfl qw qp qf fun a54 c55 w56 H=>?_))⟩))⟩
     rw [snocI] at H
     try dsimp only [List.set] at H
     refine ⟨H.pick [4] [0],(tF 9 rfl rfl (H.pick [4] [0]) ?_)⟩
     refine ro 10 rfl (zh H 2 [.int .i64 (1+zi9),Sv a54 (zZ+1) c55,Sv none 0 0] sizeOf24 fun w57 H=>?_)
     try dsimp only [List.set] at H
     refine ⟨H.pick [4] [0],(xJ qh ((meet ⟨_,zi49,zi51,zi50,a54,c55,uE4,hx47,hx48,N,H.jg 5 1 [1,2,3,4] [0] qo qo⟩)))⟩
    ·skip
     have H1:=H.QC 4 1 [0,1,2,3] [0] qo qo
     have N1:Fresh _ (Ns):=N
     have K1:Kept (Ns) (Γ):=K0.behind 0 rfl
     refine vK #[.pointer (some ⟨bs,0,none⟩),.int .i64 zZ] rfl rfl call68 (QO code s_at s_seed bs ac cc Fc zZ H1 N1 K1 qg) ?_
     clear H H1 N1 K1
     rintro _ w58 ⟨zi62,zi63,zi64,hx60,hx61,rfl,N,H⟩
     refine ⟨H.pick [3] [0],(jb [1,7] qh qm (jQ rfl ?_ (jQ rfl ?_ jd)))⟩
     ·skip
      refine zF (Sv yf zZ yc) isAgg24 rfl (H.cell 1 rfl rfl) (⟨H.pick [3] [0],(ro 7 rfl (zy H underlying24 ti2 [.int .i64 zi64] fun b65 w66 H=>⟨H.pick [4] [0],(ro 8 rfl (zC H 3 rfl 0 rfl underlying24 ti2 rfl qj rfl rfl rfl qw qp qf fun a67 c68 w69 H=>?_))⟩))⟩)
      rw [snocI] at H
      try dsimp only [List.set] at H
      refine ⟨H.pick [4] [0],(tF 9 rfl rfl (H.pick [4] [0]) ?_)⟩
      refine ro 10 rfl (zh H 2 [.int .i64 (1+zi9),Sv a67 (zZ+1) c68,Sv none 0 0] sizeOf24 fun w70 H=>?_)
      try dsimp only [List.set] at H
      refine ⟨H.pick [4] [0],(xJ qh ((meet ⟨_,zi62,zi64,zi63,a67,c68,uE4,hx60,hx61,N,H.jg 5 1 [1,2,3,4] [0] qo qo⟩)))⟩
     ·skip
      refine zy H underlying24 ti2 [.int .i64 zi64] fun b71 w72 H=>⟨H.pick [4] [0],(ro 1 rfl (zF (Sv yf zZ yc) isAgg24 rfl (H.cell 2 rfl rfl) (⟨H.pick [4] [0],(ro 8 rfl (zC H 3 rfl 0 rfl underlying24 ti2 rfl qj rfl rfl rfl qw qp qf fun a73 c74 w75 H=>?_))⟩)))⟩
      rw [snocI] at H
      try dsimp only [List.set] at H
      refine ⟨H.pick [4] [0],(tF 9 rfl rfl (H.pick [4] [0]) ?_)⟩
      refine ro 10 rfl (zh H 2 [.int .i64 (1+zi9),Sv a73 (zZ+1) c74,Sv none 0 0] sizeOf24 fun w76 H=>?_)
      try dsimp only [List.set] at H
      refine ⟨H.pick [4] [0],(xJ qh ((meet ⟨_,zi62,zi64,zi63,a73,c74,uE4,hx60,hx61,N,H.jg 5 1 [1,2,3,4] [0] qo qo⟩)))⟩
  ·skip
   clear H N
   rintro ρ w77 ⟨xY,zi25,zi26,zi27,a28,c29,rfl,hx78,hx79,N,H⟩
   refine b_n (t_n (zg (sp (.int .i64 c) (sw (o_sub c 1 rfl rfl qf (sp (.int .i64 (c - 1)) (zi (xq (m' :=(c - 1).toNat) qf ⟨_,c - 1,zi25,zi27,a28,zZ+1,c29,(y_Parents++[zi26]),uE4,?_,?_,?_,rfl,N,H⟩))))))))
   · omega
   · simp;omega
   · exact i3.snoc (by have:=i3.1;omega)
 ·skip
  refine zx4 (zcc (sp (.pointer (some ⟨bs,0,none⟩)) ?_))
  have H1:=H.QC 4 1 [0,1,2,3] [0] qo qo
  have N1:Fresh _ (Ns):=N
  have K1:Kept (Ns) (Γ):=K0.behind 0 rfl
  refine sw (vK #[.pointer (some ⟨bs,0,none⟩),.int .i64 6] rfl rfl call68 (QO code s_at s_seed bs ac cc Fc (6:Int) H1 N1 K1 qg) ?_)
  clear H H1 N1 K1
  rintro _ w80 ⟨zi84,zi85,zi86,hx82,hx83,rfl,N,H⟩
  refine sp (.int .i64 zi86) (zjn (xg ?_))
  replace H:=H.nilRow 56 9
  replace H:=H.vT (α:=jL)
  refine zJ (fun m' ρ w87=>∃ (xY:Env) (k:Int) (s_at_1:Int) (s_seed_1:Int) (Vp:yOA) (QS:Nat) (Vl:Nat) (y_Rules:List jL) (x_y_Rules:List Value) (zN:yLN),ρ=upd (upd (upd (upd xY 0 (.pointer (some ⟨bs,0,none⟩))) 2 (.pointer (some ⟨b1,0,none⟩))) 3 (.pointer (some ⟨b12,0,none⟩))) 5 (.int .i64 k)∧(ip≤s_at_1∧s_at_1+300 * k≤ip+1600)∧(0≤k∧(y_Rules.length:Int)+k≤5)∧(QU (1+zi9) y_Parents y_Rules)∧m' =k.toNat∧Fresh W0.heap.size (zN :: Ns)∧St W0 w87 ((rr Vp QS Vl 56 9 x_y_Rules) :: (.box bs [Sv ac code.length cc,.int .i64 s_at_1,.int .u64 s_seed_1] 127) :: (.box b12 [.int .i64 (1+zi9),Sv yf zZ yc,Sv Vp QS Vl] 27) :: (rr yf zZ yc 2 1 (y_Parents.map (Value.int .i64))) :: (.box b1 [.int .i64 0,Sv none 0 0,Sv none 0 0] 27) :: ps) ((xN true zN x_y_Rules y_Rules) :: (sF false Fc ac cc code) :: Γ)) (zi86.toNat) ⟨_,zi86,zi84,zi85,none,0,0,([]:List jL),[],[],uE4,qf,qy,(by exact QU.nil _ _),rfl,N.emp,H⟩ ?_
  clear H N
  rintro m' ρ w88 ⟨xY,k,s_at_1,s_seed_1,Vp,QS,Vl,y_Rules,x_y_Rules,zN,rfl,j1,j2,j3,rfl,N,H⟩
  have hn_y_Rules:=H.x8 (α:=jL) 0 rfl 0 rfl qj
  refine zcc (sps [.int .i64 k,Bv (decide ((k:Int) > 0))] (zjn (cD rfl (fun h89=>?_) (fun h89=>?_))))
  ·skip
   refine xk (t_n (zf (xg ?_)))
   refine c_cut (fun ρ w121=>∃ (xY:Env) (zi90:Int) (zi91:Int) (zi92:Int) (zl93:yLI) (zl94:yLI) (zl95:yLI) (zl96:yLI) (zl97:yLI) (zI98:List IntoD) (zb99:Bool) (zi100:Int) (a101:yOA) (c102:Nat) (ra103:yOA) (rc104:Nat) (ra105:yOA) (rc106:Nat) (ra107:yOA) (rc108:Nat) (ra109:yOA) (rc110:Nat) (ra111:yOA) (rc112:Nat) (ra113:yOA) (rc114:Nat) (G115:yLN) (G116:yLN) (G117:yLN) (G118:yLN) (G119:yLN) (G120:yLN),ρ=upd (upd (upd (upd xY 0 (.pointer (some ⟨bs,0,none⟩))) 2 (.pointer (some ⟨b1,0,none⟩))) 3 (.pointer (some ⟨b12,0,none⟩))) 5 (.int .i64 k)∧(s_at_1≤zi90∧zi90≤s_at_1+300)∧(RuleDr (1+zi9) y_Parents ⟨zi91,zi92,zl93,zl94,zl95,zl96,zl97,zI98,zb99⟩)∧Fresh W0.heap.size ((zN++(G115++G116++G117++G118++G119++G120)) :: Ns)∧St W0 w121 ((.box bs [Sv ac code.length cc,.int .i64 zi90,.int .u64 zi100] 127) :: (.box b12 [.int .i64 (1+zi9),Sv yf zZ yc,Sv a101 (QS+1) c102] 27) :: (rr yf zZ yc 2 1 (y_Parents.map (Value.int .i64))) :: (rr a101 (QS+1) c102 56 9 (x_y_Rules++[.int .i64 zi91,.int .i64 zi92,Sv ra103 zl93.length rc104,Sv ra105 zl94.length rc106,Sv ra107 zl95.length rc108,Sv ra109 zl96.length rc110,Sv ra111 zl97.length rc112,Sv ra113 zI98.length rc114,Bv zb99])) :: (.box b1 [.int .i64 0,Sv none 0 0,Sv none 0 0] 27) :: ps) ((xN true (zN++(G115++G116++G117++G118++G119++G120)) (x_y_Rules++[.int .i64 zi91,.int .i64 zi92,Sv ra103 zl93.length rc104,Sv ra105 zl94.length rc106,Sv ra107 zl95.length rc108,Sv ra109 zl96.length rc110,Sv ra111 zl97.length rc112,Sv ra113 zI98.length rc114,Bv zb99]) (y_Rules++[(⟨zi91,zi92,zl93,zl94,zl95,zl96,zl97,zI98,zb99⟩:jL)])) :: (sF true G120 ra113 rc114 zI98) :: (sF true G119 ra111 rc112 zl97) :: (sF true G118 ra109 rc110 zl96) :: (sF true G117 ra107 rc108 zl95) :: (sF true G116 ra105 rc106 zl94) :: (sF true G115 ra103 rc104 zl93) :: (sF false Fc ac cc code) :: Γ)) ?_ ?_
   ·skip
    refine VV rfl H [3,4] [0,1] fun H=>?_
    have S:=H.yj [3,4] [0,1]
    refine tF 0 rfl rfl S ?_
    refine rtp 2 (.pointer (some ⟨bs,0,none⟩)) S ?_
    refine jb [1,3] qh qm (jQ rfl ?_ (jQ rfl ?_ jd))
    ·skip
     refine zF (Sv Vp QS Vl) isAgg25 rfl (H.cell 2 rfl rfl) (⟨H.pick [3,4] [0,1],(ro 3 rfl ?_)⟩)
     have f0:yg (⟨1+zi9,y_Parents,y_Rules⟩:qI):=frame_of i3 qf qf
     have H1:=H.QC 5 2 [1,2,3,0,4] [1,0] qo qo
     have N1:Fresh _ (zN :: Ns):=N
     have K1:Kept (Ns) (Γ):=K0.behind 0 rfl
     refine vK #[.pointer (some ⟨bs,0,none⟩),.pointer (some ⟨b12,0,none⟩)] rfl rfl call144 (dRule_ok code s_at_1 s_seed_1 bs ac cc Fc (1+zi9) y_Parents y_Rules b12 yf zZ yc Vp QS Vl x_y_Rules zN H1 N1 K1 qg qg) ?_
     clear H H1 N1 K1
     rintro _ w123 ⟨zi127,zi128,zi129,zi130,zl131,zl132,zl133,zl134,zl135,zI136,zb137,ra138,rn139,rc140,ra141,rn142,rc143,ra144,rn145,rc146,ra147,rn148,rc149,ra150,rn151,rc152,ra153,rn154,rc155,rx156,rF157,hx125,hx126,rfl,N,H⟩
     obtain rfl:=H.yx 4 rfl
     obtain rfl:=H.yx 5 rfl
     obtain rfl:=H.yx 6 rfl
     obtain rfl:=H.yx 7 rfl
     obtain rfl:=H.yx 8 rfl
     obtain rfl:=H.x8 (α:=IntoD) 9 rfl 2 rfl qj
     refine ⟨H.pick [2,10] [1,0],(ro 4 rfl (zy H underlying25 ti56 [.int .i64 zi129,.int .i64 zi130,Sv ra138 zl131.length rc140,Sv ra141 zl132.length rc143,Sv ra144 zl133.length rc146,Sv ra147 zl134.length rc149,Sv ra150 zl135.length rc152,Sv ra153 zI136.length rc155,Bv zb137] fun b158 w159 H=>⟨H.pick [3,11] [1,0],(ro 5 rfl ?_)⟩))⟩
     obtain ⟨G163,N,hn164,H⟩:=H.zT 5 rfl N (fun F hF b hb=>(List.mem_append.1 (show F∈[zN,rF157]++Ns from hF)).elim (fun h=>(H.jR (L:=[zN,rF157]) [1,2]) F h b hb) fun h=>H.VC (K0.behind 3 rfl) F h b hb)
     try dsimp only [List.set] at H
     obtain ⟨G165,N,hn166,H⟩:=H.zT 6 rfl N (fun F hF b hb=>(List.mem_append.1 (show F∈[G163,zN,rF157]++Ns from hF)).elim (fun h=>(H.jR (L:=[G163,zN,rF157]) [0,2,3]) F h b hb) fun h=>H.VC (K0.behind 4 rfl) F h b hb)
     try dsimp only [List.set] at H
     obtain ⟨G167,N,hn168,H⟩:=H.zT 7 rfl N (fun F hF b hb=>(List.mem_append.1 (show F∈[G165,G163,zN,rF157]++Ns from hF)).elim (fun h=>(H.jR (L:=[G165,G163,zN,rF157]) [0,1,3,4]) F h b hb) fun h=>H.VC (K0.behind 5 rfl) F h b hb)
     try dsimp only [List.set] at H
     obtain ⟨G169,N,hn170,H⟩:=H.zT 8 rfl N (fun F hF b hb=>(List.mem_append.1 (show F∈[G167,G165,G163,zN,rF157]++Ns from hF)).elim (fun h=>(H.jR (L:=[G167,G165,G163,zN,rF157]) [0,1,2,4,5]) F h b hb) fun h=>H.VC (K0.behind 6 rfl) F h b hb)
     try dsimp only [List.set] at H
     obtain ⟨G171,N,hn172,H⟩:=H.zT 9 rfl N (fun F hF b hb=>(List.mem_append.1 (show F∈[G169,G167,G165,G163,zN,rF157]++Ns from hF)).elim (fun h=>(H.jR (L:=[G169,G167,G165,G163,zN,rF157]) [0,1,2,3,5,6]) F h b hb) fun h=>H.VC (K0.behind 7 rfl) F h b hb)
     try dsimp only [List.set] at H
     have H0:=H
     obtain ⟨G173,hg175,hn174,H⟩:=H.Xz (α:=IntoD) 10 rfl 7 rfl qj
     replace N:Fresh W0.heap.size (G173 :: G171 :: G169 :: G167 :: G165 :: G163 :: zN :: Ns):=Fresh.ice (N.jg 7 [6,0,1,2,3,4,5] qo) H0 10 hg175.1 hg175.2 (fun F hF b hb=>(List.mem_append.1 (show F∈[G171,G169,G167,G165,G163,zN]++Ns from hF)).elim (fun h=>(H0.jR (L:=[G171,G169,G167,G165,G163,zN]) [0,1,2,3,4,6]) F h b hb) fun h=>H0.VC (K0.behind 8 rfl) F h b hb)
     clear H0
     try dsimp only [List.set] at H
     refine zC H 4 rfl 0 rfl underlying25 ti56 rfl qj rfl rfl rfl qw qp qf fun a160 c161 w162 H=>?_
     try dsimp only [List.set] at H
     replace H:=H.snoc_RuleD 7 rfl zi129 zi130 5 rfl 4 rfl 3 rfl 2 rfl 1 rfl 0 rfl zb137
     replace N:Fresh W0.heap.size ((zN++(G163++G165++G167++G169++G171++G173)) :: Ns):=(N.jg 7 [5,4,3,2,1,0,6] qo).join.join.join.join.join.swap.join
     refine ⟨H.pick [3,11] [8,7],(tF 6 rfl rfl (H.pick [3,11] [8,7]) ?_)⟩
     refine ro 7 rfl (zh H 2 [.int .i64 (1+zi9),Sv yf zZ yc,Sv a160 (QS+1) c161] sizeOf25 fun w176 H=>?_)
     try dsimp only [List.set] at H
     refine ⟨H.pick [3,11] [8,7],(xJ qh ((meet ⟨_,zi127,zi129,zi130,zl131,zl132,zl133,zl134,zl135,zI136,zb137,zi128,a160,c161,ra138,rc140,ra141,rc143,ra144,rc146,ra147,rc149,ra150,rc152,ra153,rc155,G163,G165,G167,G169,G171,G173,uE4,hx125,hx126,N,H.jg 12 10 [1,2,3,4,11] [0,1,2,3,4,5,6,7] qo qo⟩)))⟩
    ·skip
     have f0:yg (⟨1+zi9,y_Parents,y_Rules⟩:qI):=frame_of i3 qf qf
     have H1:=H.QC 5 2 [1,2,3,0,4] [1,0] qo qo
     have N1:Fresh _ (zN :: Ns):=N
     have K1:Kept (Ns) (Γ):=K0.behind 0 rfl
     refine vK #[.pointer (some ⟨bs,0,none⟩),.pointer (some ⟨b12,0,none⟩)] rfl rfl call144 (dRule_ok code s_at_1 s_seed_1 bs ac cc Fc (1+zi9) y_Parents y_Rules b12 yf zZ yc Vp QS Vl x_y_Rules zN H1 N1 K1 qg qg) ?_
     clear H H1 N1 K1
     rintro _ w177 ⟨zi181,zi182,zi183,zi184,zl185,zl186,zl187,zl188,zl189,zI190,zb191,ra192,rn193,rc194,ra195,rn196,rc197,ra198,rn199,rc200,ra201,rn202,rc203,ra204,rn205,rc206,ra207,rn208,rc209,rx210,rF211,hx179,hx180,rfl,N,H⟩
     obtain rfl:=H.yx 4 rfl
     obtain rfl:=H.yx 5 rfl
     obtain rfl:=H.yx 6 rfl
     obtain rfl:=H.yx 7 rfl
     obtain rfl:=H.yx 8 rfl
     obtain rfl:=H.x8 (α:=IntoD) 9 rfl 2 rfl qj
     refine ⟨H.pick [2,10] [1,0],(jb [1,4] qh qm (jQ rfl ?_ (jQ rfl ?_ jd)))⟩
     ·skip
      refine zF (Sv Vp QS Vl) isAgg25 rfl (H.cell 1 rfl rfl) (⟨H.pick [2,10] [1,0],(ro 4 rfl (zy H underlying25 ti56 [.int .i64 zi183,.int .i64 zi184,Sv ra192 zl185.length rc194,Sv ra195 zl186.length rc197,Sv ra198 zl187.length rc200,Sv ra201 zl188.length rc203,Sv ra204 zl189.length rc206,Sv ra207 zI190.length rc209,Bv zb191] fun b212 w213 H=>⟨H.pick [3,11] [1,0],(ro 5 rfl ?_)⟩))⟩)
      obtain ⟨G217,N,hn218,H⟩:=H.zT 5 rfl N (fun F hF b hb=>(List.mem_append.1 (show F∈[zN,rF211]++Ns from hF)).elim (fun h=>(H.jR (L:=[zN,rF211]) [1,2]) F h b hb) fun h=>H.VC (K0.behind 3 rfl) F h b hb)
      try dsimp only [List.set] at H
      obtain ⟨G219,N,hn220,H⟩:=H.zT 6 rfl N (fun F hF b hb=>(List.mem_append.1 (show F∈[G217,zN,rF211]++Ns from hF)).elim (fun h=>(H.jR (L:=[G217,zN,rF211]) [0,2,3]) F h b hb) fun h=>H.VC (K0.behind 4 rfl) F h b hb)
      try dsimp only [List.set] at H
      obtain ⟨G221,N,hn222,H⟩:=H.zT 7 rfl N (fun F hF b hb=>(List.mem_append.1 (show F∈[G219,G217,zN,rF211]++Ns from hF)).elim (fun h=>(H.jR (L:=[G219,G217,zN,rF211]) [0,1,3,4]) F h b hb) fun h=>H.VC (K0.behind 5 rfl) F h b hb)
      try dsimp only [List.set] at H
      obtain ⟨G223,N,hn224,H⟩:=H.zT 8 rfl N (fun F hF b hb=>(List.mem_append.1 (show F∈[G221,G219,G217,zN,rF211]++Ns from hF)).elim (fun h=>(H.jR (L:=[G221,G219,G217,zN,rF211]) [0,1,2,4,5]) F h b hb) fun h=>H.VC (K0.behind 6 rfl) F h b hb)
      try dsimp only [List.set] at H
      obtain ⟨G225,N,hn226,H⟩:=H.zT 9 rfl N (fun F hF b hb=>(List.mem_append.1 (show F∈[G223,G221,G219,G217,zN,rF211]++Ns from hF)).elim (fun h=>(H.jR (L:=[G223,G221,G219,G217,zN,rF211]) [0,1,2,3,5,6]) F h b hb) fun h=>H.VC (K0.behind 7 rfl) F h b hb)
      try dsimp only [List.set] at H
      have H0:=H
      obtain ⟨G227,hg229,hn228,H⟩:=H.Xz (α:=IntoD) 10 rfl 7 rfl qj
      replace N:Fresh W0.heap.size (G227 :: G225 :: G223 :: G221 :: G219 :: G217 :: zN :: Ns):=Fresh.ice (N.jg 7 [6,0,1,2,3,4,5] qo) H0 10 hg229.1 hg229.2 (fun F hF b hb=>(List.mem_append.1 (show F∈[G225,G223,G221,G219,G217,zN]++Ns from hF)).elim (fun h=>(H0.jR (L:=[G225,G223,G221,G219,G217,zN]) [0,1,2,3,4,6]) F h b hb) fun h=>H0.VC (K0.behind 8 rfl) F h b hb)
      clear H0
      try dsimp only [List.set] at H
      refine zC H 4 rfl 0 rfl underlying25 ti56 rfl qj rfl rfl rfl qw qp qf fun a214 c215 w216 H=>?_
      try dsimp only [List.set] at H
      replace H:=H.snoc_RuleD 7 rfl zi183 zi184 5 rfl 4 rfl 3 rfl 2 rfl 1 rfl 0 rfl zb191
      replace N:Fresh W0.heap.size ((zN++(G217++G219++G221++G223++G225++G227)) :: Ns):=(N.jg 7 [5,4,3,2,1,0,6] qo).join.join.join.join.join.swap.join
      refine ⟨H.pick [3,11] [8,7],(tF 6 rfl rfl (H.pick [3,11] [8,7]) ?_)⟩
      refine ro 7 rfl (zh H 2 [.int .i64 (1+zi9),Sv yf zZ yc,Sv a214 (QS+1) c215] sizeOf25 fun w230 H=>?_)
      try dsimp only [List.set] at H
      refine ⟨H.pick [3,11] [8,7],(xJ qh ((meet ⟨_,zi181,zi183,zi184,zl185,zl186,zl187,zl188,zl189,zI190,zb191,zi182,a214,c215,ra192,rc194,ra195,rc197,ra198,rc200,ra201,rc203,ra204,rc206,ra207,rc209,G217,G219,G221,G223,G225,G227,uE4,hx179,hx180,N,H.jg 12 10 [1,2,3,4,11] [0,1,2,3,4,5,6,7] qo qo⟩)))⟩
     ·skip
      refine zy H underlying25 ti56 [.int .i64 zi183,.int .i64 zi184,Sv ra192 zl185.length rc194,Sv ra195 zl186.length rc197,Sv ra198 zl187.length rc200,Sv ra201 zl188.length rc203,Sv ra204 zl189.length rc206,Sv ra207 zI190.length rc209,Bv zb191] fun b231 w232 H=>⟨H.pick [3,11] [1,0],(ro 1 rfl (zF (Sv Vp QS Vl) isAgg25 rfl (H.cell 2 rfl rfl) (⟨H.pick [3,11] [1,0],(ro 5 rfl ?_)⟩)))⟩
      obtain ⟨G236,N,hn237,H⟩:=H.zT 5 rfl N (fun F hF b hb=>(List.mem_append.1 (show F∈[zN,rF211]++Ns from hF)).elim (fun h=>(H.jR (L:=[zN,rF211]) [1,2]) F h b hb) fun h=>H.VC (K0.behind 3 rfl) F h b hb)
      try dsimp only [List.set] at H
      obtain ⟨G238,N,hn239,H⟩:=H.zT 6 rfl N (fun F hF b hb=>(List.mem_append.1 (show F∈[G236,zN,rF211]++Ns from hF)).elim (fun h=>(H.jR (L:=[G236,zN,rF211]) [0,2,3]) F h b hb) fun h=>H.VC (K0.behind 4 rfl) F h b hb)
      try dsimp only [List.set] at H
      obtain ⟨G240,N,hn241,H⟩:=H.zT 7 rfl N (fun F hF b hb=>(List.mem_append.1 (show F∈[G238,G236,zN,rF211]++Ns from hF)).elim (fun h=>(H.jR (L:=[G238,G236,zN,rF211]) [0,1,3,4]) F h b hb) fun h=>H.VC (K0.behind 5 rfl) F h b hb)
      try dsimp only [List.set] at H
      obtain ⟨G242,N,hn243,H⟩:=H.zT 8 rfl N (fun F hF b hb=>(List.mem_append.1 (show F∈[G240,G238,G236,zN,rF211]++Ns from hF)).elim (fun h=>(H.jR (L:=[G240,G238,G236,zN,rF211]) [0,1,2,4,5]) F h b hb) fun h=>H.VC (K0.behind 6 rfl) F h b hb)
      try dsimp only [List.set] at H
      obtain ⟨G244,N,hn245,H⟩:=H.zT 9 rfl N (fun F hF b hb=>(List.mem_append.1 (show F∈[G242,G240,G238,G236,zN,rF211]++Ns from hF)).elim (fun h=>(H.jR (L:=[G242,G240,G238,G236,zN,rF211]) [0,1,2,3,5,6]) F h b hb) fun h=>H.VC (K0.behind 7 rfl) F h b hb)
      try dsimp only [List.set] at H
      have H0:=H
      obtain ⟨G246,hg248,hn247,H⟩:=H.Xz (α:=IntoD) 10 rfl 7 rfl qj
      replace N:Fresh W0.heap.size (G246 :: G244 :: G242 :: G240 :: G238 :: G236 :: zN :: Ns):=Fresh.ice (N.jg 7 [6,0,1,2,3,4,5] qo) H0 10 hg248.1 hg248.2 (fun F hF b hb=>(List.mem_append.1 (show F∈[G244,G242,G240,G238,G236,zN]++Ns from hF)).elim (fun h=>(H0.jR (L:=[G244,G242,G240,G238,G236,zN]) [0,1,2,3,4,6]) F h b hb) fun h=>H0.VC (K0.behind 8 rfl) F h b hb)
      clear H0
      try dsimp only [List.set] at H
      refine zC H 4 rfl 0 rfl underlying25 ti56 rfl qj rfl rfl rfl qw qp qf fun a233 c234 w235 H=>?_
      try dsimp only [List.set] at H
      replace H:=H.snoc_RuleD 7 rfl zi183 zi184 5 rfl 4 rfl 3 rfl 2 rfl 1 rfl 0 rfl zb191
      replace N:Fresh W0.heap.size ((zN++(G236++G238++G240++G242++G244++G246)) :: Ns):=(N.jg 7 [5,4,3,2,1,0,6] qo).join.join.join.join.join.swap.join
      refine ⟨H.pick [3,11] [8,7],(tF 6 rfl rfl (H.pick [3,11] [8,7]) ?_)⟩
      refine ro 7 rfl (zh H 2 [.int .i64 (1+zi9),Sv yf zZ yc,Sv a233 (QS+1) c234] sizeOf25 fun w249 H=>?_)
      try dsimp only [List.set] at H
      refine ⟨H.pick [3,11] [8,7],(xJ qh ((meet ⟨_,zi181,zi183,zi184,zl185,zl186,zl187,zl188,zl189,zI190,zb191,zi182,a233,c234,ra192,rc194,ra195,rc197,ra198,rc200,ra201,rc203,ra204,rc206,ra207,rc209,G236,G238,G240,G242,G244,G246,uE4,hx179,hx180,N,H.jg 12 10 [1,2,3,4,11] [0,1,2,3,4,5,6,7] qo qo⟩)))⟩
   ·skip
    clear H N
    rintro ρ w250 ⟨xY,zi90,zi91,zi92,zl93,zl94,zl95,zl96,zl97,zI98,zb99,zi100,a101,c102,ra103,rc104,ra105,rc106,ra107,rc108,ra109,rc110,ra111,rc112,ra113,rc114,G115,G116,G117,G118,G119,G120,rfl,hx251,hx252,N,H⟩
    refine b_n (t_n (zg (sp (.int .i64 k) (sw (o_sub k 1 rfl rfl qf (sp (.int .i64 (k - 1)) (zi ?_)))))))
    refine xq (m' :=(k - 1).toNat) qf ⟨_,k - 1,zi90,zi100,a101,QS+1,c102,(y_Rules++[(⟨zi91,zi92,zl93,zl94,zl95,zl96,zl97,zI98,zb99⟩:jL)]),(x_y_Rules++[Value.int .i64 zi91,Value.int .i64 zi92,Value.slice ra103 zl93.length rc104,Value.slice ra105 zl94.length rc106,Value.slice ra107 zl95.length rc108,Value.slice ra109 zl96.length rc110,Value.slice ra111 zl97.length rc112,Value.slice ra113 zI98.length rc114,Value.bool zb99]:List Value),(zN++(G115++G116++G117++G118++G119++G120)),uE4,?_,?_,?_,rfl,N,H.jg 5 8 [3,0,1,2,4] [0,7] qo qo⟩
    · omega
    · simp;omega
    · exact j3.snoc ql
  ·skip
   refine zx4 (zcr (sw (xU [.int .i64 (1+zi9),Sv yf zZ yc,Sv Vp QS Vl] isAgg27 sizeOf27 rfl (qJ (H.cells 2 rfl) 0 3) (sw (zu H 4 [.int .i64 (1+zi9),Sv yf zZ yc,Sv Vp QS Vl] sizeOf27 fun w253 H=>?_)))))
   try dsimp only [List.set] at H
   refine zjr (retC H 4 rfl rfl isAgg27 sizeOf27 rfl ⟨_,rfl,(⟨s_at_1,s_seed_1,1+zi9,y_Parents,y_Rules,yf,zZ,yc,Vp,QS,Vl,x_y_Rules,zN,qf,(by exact sysDr_of i3 qf qf qf j3),rfl,N,H.jg 5 2 [1,3,0] [1,0] qo qo⟩)⟩)

theorem dState_ok {W0 w:World} {ps:List Prv} {Γ:List Fact} {Ns:List yLN} (code:List UInt8) (ip:Int) (sd:Int) (bs:Nat) (ac:yOA) (cc:Nat) (Fc:yLN) (kk:Int) (par:yLI) (rules:List jL) (bY:Nat) (rap:yOA) (rnp:Nat) (rcp:Nat) (raR:yOA) (rnR:Nat) (rcR:Nat) (rxR:List Value) (rFR:yLN) (frR:Bool) (most:Int) (H:St W0 w ((.box bs [Sv ac code.length cc,.int .i64 ip,.int .u64 sd] 127) :: (.box bY [.int .i64 kk,Sv rap rnp rcp,Sv raR rnR rcR] 27) :: (rr rap rnp rcp 2 1 (par.map (Value.int .i64))) :: (rr raR rnR rcR 56 9 rxR) :: ps) ((sF false Fc ac cc code) :: (xN frR rFR rxR rules) :: Γ)) (N:Fresh W0.heap.size (Ns)) (K0:Kept Ns Γ) (q0:0≤ip∧ip≤40000) (f0:yg (⟨kk,par,rules⟩:qI)) (q2:1≤most∧most≤6):Calls Tryz.prog 79 #[.pointer (some ⟨bs,0,none⟩),.pointer (some ⟨bY,0,none⟩),.int .i64 most] w (fun e w' =>∃ v,e=.returned v∧∃ (ip_:Int) (sd_:Int) (alive_:List Bool) (bags_:yLL) (around_:yLI) (raA:yOA) (rnA:Nat) (rcA:Nat) (raB:yOA) (rnB:Nat) (rcB:Nat) (rxB:List Value) (rFB:yLN) (raD:yOA) (rnD:Nat) (rcD:Nat),(ip≤ip_∧ip_≤ip+200)∧(StDr kk par.length most alive_ bags_ around_)∧v=.agg #[Sv raA rnA rcA,Sv raB rnB rcB,Sv raD rnD rcD]∧Fresh W0.heap.size (rFB :: Ns)∧St W0 w' ((.box bs [Sv ac code.length cc,.int .i64 ip_,.int .u64 sd_] 127) :: (.box bY [.int .i64 kk,Sv rap rnp rcp,Sv raR rnR rcR] 27) :: (rr rap rnp rcp 2 1 (par.map (Value.int .i64))) :: (rr raR rnR rcR 56 9 rxR) :: (rr raA rnA rcA 4 1 (alive_.map (Value.bool))) :: (rr raB rnB rcB 24 1 rxB) :: (rr raD rnD rcD 2 1 (around_.map (Value.int .i64))) :: ps) ((sF false Fc ac cc code) :: (xN frR rFR rxR rules) :: (xN true rFB rxB bags_) :: Γ)):=by
 refine en Tryz.func79 Tryz.ntmps79 ?_
 have ncode:=qV (H.get 0 rfl).1
 obtain rfl:=H.yx 2 rfl
 obtain rfl:=H.x8 (α:=jL) 3 rfl 1 rfl qj
 have f1:1≤kk∧kk≤8:=f0.1
 have f2:1≤par.length∧par.length≤6:=f0.2.1
 refine zcr (sw (xZ H ti31 [Sv none 0 0,Sv none 0 0,Sv none 0 0] fun b1 w2 H=>zjc (sps [.pointer (some ⟨bY,0,none⟩),.pointer (some ⟨bY,0,none⟩)] (oF rfl (oL rfl (H.cell 2 rfl rfl) (sw (ji H underlying24 ti2 kk.toNat rfl rfl qf qf qf fun b3 w4 H=>sw (vX [Sv none 0 0,Sv none 0 0,Sv (some ⟨b3,0,none⟩) kk.toNat kk.toNat] [(2,Sv (some ⟨b3,0,none⟩) kk.toNat kk.toNat)] (sw (xZ H ti31 [Sv none 0 0,Sv none 0 0,Sv none 0 0] fun b5 w6 H=>?_))))))))))
 refine sw (zu H 0 [Sv none 0 0,Sv none 0 0,Sv (some ⟨b3,0,none⟩) kk.toNat kk.toNat] sizeOf31 fun w7 H=>?_)
 try dsimp only [List.set] at H
 refine zjcc (sp (.int .i64 0) (zjn (xg ?_)))
 replace H:=H.nilRowB 4
 replace H:=H.nilRow 24 1
 replace H:=H.vT (α:=yLI)
 refine zJ (fun m' ρ w8=>∃ (xY:Env) (c:Nat) (s_at:Int) (s_seed:Int) (VP:yOA) (Qz:Nat) (VM:Nat) (t_Alive:List Bool) (VG:yOA) (QZ:Nat) (VB:Nat) (t_Bags:yLL) (Vr:List Value) (yw:yLN),ρ=upd (upd (upd (upd (upd (upd xY 0 (.pointer (some ⟨bs,0,none⟩))) 1 (.pointer (some ⟨bY,0,none⟩))) 2 (.int .i64 most)) 6 (.pointer (some ⟨b1,0,none⟩))) 7 (.pointer (some ⟨b5,0,none⟩))) 8 (.int .i64 c)∧((c:Int)≤par.length)∧(ip≤s_at∧s_at≤ip+22 * c)∧(StTo kk most c t_Alive t_Bags)∧m' =(par.length - (c:Int)).toNat∧Fresh W0.heap.size (yw :: Ns)∧St W0 w8 ((rr VG QZ VB 24 1 Vr) :: (rr VP Qz VM 4 1 (t_Alive.map (Value.bool))) :: (.box b5 [Sv VP Qz VM,Sv VG QZ VB,Sv (some ⟨b3,0,none⟩) kk.toNat kk.toNat] 31) :: (rr (some ⟨b3,0,none⟩) kk.toNat kk.toNat 2 1 ((List.replicate kk.toNat (0:Int)).map (Value.int .i64))) :: (.box b1 [Sv none 0 0,Sv none 0 0,Sv none 0 0] 31) :: (.box bs [Sv ac code.length cc,.int .i64 s_at,.int .u64 s_seed] 127) :: (.box bY [.int .i64 kk,Sv rap par.length rcp,Sv raR rules.length rcR] 27) :: (rr rap par.length rcp 2 1 (par.map (Value.int .i64))) :: (rr raR rules.length rcR 56 9 rxR) :: ps) ((xN true yw Vr t_Bags) :: (sF false Fc ac cc code) :: (xN frR rFR rxR rules) :: Γ)) ((par.length - (0:Int)).toNat) ⟨_,0,ip,sd,none,0,0,[],none,0,0,([]:yLL),[],[],uE6,qf,qf,(by exact StTo.nil _ _),rfl,N.emp,H⟩ ?_
 clear H N
 rintro m' ρ w9 ⟨xY,c,s_at,s_seed,VP,Qz,VM,t_Alive,VG,QZ,VB,t_Bags,Vr,yw,rfl,i0,i1,i2,rfl,N,H⟩
 have hn_t_Alive:=H.rowNB 1 rfl
 have hn_t_Bags:=H.x8 (α:=yLI) 0 rfl 0 rfl qj
 have i3:=i2.la
 have i4:=i2.lb
 refine zcc (sps [.int .i64 c,.pointer (some ⟨bY,0,none⟩),.pointer (some ⟨bY,0,none⟩)] (oF rfl (oL rfl (H.cell 6 rfl rfl) (oN rfl (sp (Bv (decide ((c:Int) < par.length))) (zjn (cD rfl (fun h10=>?_) (fun h10=>?_))))))))
 ·skip
  refine xk (t_n (zf (xg (zcr (sps [.int .i64 c,Bv ((c:Int) == 0),Bv ((c:Int) == 0)] ?_)))))
  cases h11:((c:Int) == 0)
  ·skip
   replace h11:=ne_of_beq_false h11
   refine qR 28 rfl rfl (sp (.pointer (some ⟨bs,0,none⟩)) (qR 28 rfl rfl ?_))
   have H1:=H.QC 9 3 [5,0,1,2,3,4,6,7,8] [1,0,2] qo qo
   have N1:Fresh _ (yw :: Ns):=N
   have K1:Kept (Ns) ((xN true yw Vr t_Bags) :: (xN frR rFR rxR rules) :: Γ):=K0.behind 2 rfl
   replace K1:=K1.cons (F:=yw) 0 rfl rfl
   refine sw (vK #[.pointer (some ⟨bs,0,none⟩),.int .i64 8] rfl rfl call66 (dOne_ok code s_at s_seed bs ac cc Fc (8:Int) H1 N1 K1 qg) ?_)
   clear H H1 N1 K1
   rintro _ w12 ⟨zi15,zi16,zb17,hx14,rfl,N,H⟩
   refine qR 28 rfl rfl (sps [Bv !zb17,Bv !zb17,Bv !zb17] (zjc (sps [.pointer (some ⟨bY,0,none⟩),.pointer (some ⟨bY,0,none⟩)] (oF rfl (oL rfl (H.cell 6 rfl rfl) (sw (ji H underlying24 ti2 kk.toNat rfl rfl qf qf qf fun b18 w19 H=>sp (Sv (some ⟨b18,0,none⟩) kk.toNat kk.toNat) (zjcc (sp (Bv !zb17) (zjn (xK (!zb17) rfl (fun h20=>?_) (fun h20=>?_))))))))))))
   ·skip
    replace h20:=xM h20
    refine zg (sps [.pointer (some ⟨bs,0,none⟩),.pointer (some ⟨bY,0,none⟩),.pointer (some ⟨bY,0,none⟩)] (oF rfl (oL rfl (H.cell 7 rfl rfl) (sp (.int .i64 most) ?_))))
    have H1:=H.QC 10 3 [1,0,2,3,4,5,6,7,8,9] [0,1,2] qo qo
    have N1:Fresh _ (yw :: Ns):=N
    have K1:Kept (Ns) ((xN true yw Vr t_Bags) :: (xN frR rFR rxR rules) :: Γ):=K0.behind 2 rfl
    replace K1:=K1.cons (F:=yw) 0 rfl rfl
    refine sw (vK #[.pointer (some ⟨bs,0,none⟩),.int .i64 kk,.int .i64 most] rfl rfl call145 (dFew_ok code zi15 zi16 bs ac cc Fc kk most H1 N1 K1 qg qg qg) ?_)
    clear H H1 N1 K1
    rintro _ w21 ⟨zi25,zi26,zl27,ra28,rn29,rc30,hx23,hx24,rfl,N,H⟩
    obtain rfl:=H.yx 1 rfl
    refine sp (Sv ra28 zl27.length rc30) (zjc (oF rfl (oL rfl (H.cell 5 rfl rfl) (sp (Bv !zb17) (sw (zy H underlying28 ti4 [Bv !zb17] fun b31 w32 H=>sw (zC H 5 rfl 0 rfl underlying28 ti4 rfl qj rfl rfl rfl qw qp qf fun a33 c34 w35 H=>?_)))))))
    rw [snocB] at H
    try dsimp only [List.set] at H
    refine oF rfl (sw (zh H 6 [Sv a33 (Qz+1) c34,Sv VG QZ VB,Sv (some ⟨b3,0,none⟩) kk.toNat kk.toNat] sizeOf28 fun w36 H=>?_))
    try dsimp only [List.set] at H
    refine zjn (zg (oF rfl (oL rfl (H.cell 6 rfl rfl) (sp (Sv ra28 zl27.length rc30) (sw (zy H underlying29 ti24 [Sv ra28 zl27.length rc30] fun b37 w38 H=>?_))))))
    obtain ⟨G42,N,hn43,H⟩:=H.zT 3 rfl N (fun F hF b hb=>(List.mem_append.1 (show F∈[yw]++Ns from hF)).elim (fun h=>(H.jR (L:=[yw]) [1]) F h b hb) fun h=>H.VC (K0.behind 3 rfl) F h b hb)
    try dsimp only [List.set] at H
    refine sw (zC H 5 rfl 0 rfl underlying29 ti24 rfl qj rfl rfl rfl qw qp qf fun a39 c40 w41 H=>?_)
    try dsimp only [List.set] at H
    replace H:=H.yt 2 rfl 0 rfl
    replace N:Fresh W0.heap.size ((yw++G42) :: Ns):=(N.jg 2 [1,0] qo).join
    refine oF rfl (sw (zh H 7 [Sv a33 (Qz+1) c34,Sv a39 (QZ+1) c40,Sv (some ⟨b3,0,none⟩) kk.toNat kk.toNat] sizeOf29 fun w44 H=>?_))
    try dsimp only [List.set] at H
    refine zi (b_n (t_n (zg (sp (.int .i64 c) (sw (zL c 1 rfl rfl qf (sp (.int .i64 (c+1)) (zi (xq (m' :=(par.length - ((c+1):Int)).toNat) qf ⟨_,c+1,zi25,zi26,a33,Qz+1,c34,(t_Alive++[!zb17]),a39,QZ+1,c40,(t_Bags++[zl27]),(Vr++[Value.slice ra28 zl27.length rc30]:List Value),(yw++G42),uE6,?_,?_,?_,rfl,N,H.jg 13 5 [5,6,7,8,9,2,10,11,12] [0,2,4] qo qo⟩)))))))))
    · omega
    · omega
    · first | exact i2.snoc (fun _=>rfl) ql (fun h=>by cases h) | exact i2.snoc (fun h=>by omega) ql (fun h=>by simp_all) | exact i2.snoc (fun h=>by omega) (jf.zero qf qf) (fun _=>sum_zeros _)
   ·skip
    replace h20:=xG h20
    refine xk (t_n (zcr (oF rfl (oL rfl (H.cell 4 rfl rfl) (sp (Bv !zb17) (sw (zy H underlying28 ti4 [Bv !zb17] fun b45 w46 H=>sw (zC H 4 rfl 0 rfl underlying28 ti4 rfl qj rfl rfl rfl qw qp qf fun a47 c48 w49 H=>?_))))))))
    rw [snocB] at H
    try dsimp only [List.set] at H
    refine oF rfl (sw (zh H 5 [Sv a47 (Qz+1) c48,Sv VG QZ VB,Sv (some ⟨b3,0,none⟩) kk.toNat kk.toNat] sizeOf28 fun w50 H=>?_))
    try dsimp only [List.set] at H
    refine zjn (zg (oF rfl (oL rfl (H.cell 5 rfl rfl) (sp (Sv (some ⟨b18,0,none⟩) kk.toNat kk.toNat) (sw (zy H underlying29 ti24 [Sv (some ⟨b18,0,none⟩) kk.toNat kk.toNat] fun b51 w52 H=>?_))))))
    obtain ⟨G56,N,hn57,H⟩:=H.zT 2 rfl N (fun F hF b hb=>(List.mem_append.1 (show F∈[yw]++Ns from hF)).elim (fun h=>(H.jR (L:=[yw]) [1]) F h b hb) fun h=>H.VC (K0.behind 3 rfl) F h b hb)
    try dsimp only [List.set] at H
    refine sw (zC H 4 rfl 0 rfl underlying29 ti24 rfl qj rfl rfl rfl qw qp qf fun a53 c54 w55 H=>?_)
    try dsimp only [List.set] at H
    replace H:=H.yt 2 rfl 0 rfl
    replace N:Fresh W0.heap.size ((yw++G56) :: Ns):=(N.jg 2 [1,0] qo).join
    refine oF rfl (sw (zh H 6 [Sv a47 (Qz+1) c48,Sv a53 (QZ+1) c54,Sv (some ⟨b3,0,none⟩) kk.toNat kk.toNat] sizeOf29 fun w58 H=>?_))
    try dsimp only [List.set] at H
    refine zi (b_n (t_n (zg (sp (.int .i64 c) (sw (zL c 1 rfl rfl qf (sp (.int .i64 (c+1)) (zi (xq (m' :=(par.length - ((c+1):Int)).toNat) qf ⟨_,c+1,zi15,zi16,a47,Qz+1,c48,(t_Alive++[!zb17]),a53,QZ+1,c54,(t_Bags++[(List.replicate kk.toNat (0:Int))]),(Vr++[Value.slice (some ⟨b18,0,none⟩) kk.toNat kk.toNat]:List Value),(yw++G56),uE6,?_,?_,?_,rfl,N,H.jg 12 5 [4,5,6,7,8,3,9,10,11] [0,2,4] qo qo⟩)))))))))
    · omega
    · omega
    · first | exact i2.snoc (fun _=>rfl) ql (fun h=>by cases h) | exact i2.snoc (fun h=>by omega) ql (fun h=>by simp_all) | exact i2.snoc (fun h=>by omega) (jf.zero qf qf) (fun _=>sum_zeros _)
  ·skip
   replace h11:=eq_of_beq h11
   refine xW [29,30,31] (sps [Bv true,Bv true] (zjc (sps [.pointer (some ⟨bY,0,none⟩),.pointer (some ⟨bY,0,none⟩)] (oF rfl (oL rfl (H.cell 6 rfl rfl) (sw (ji H underlying24 ti2 kk.toNat rfl rfl qf qf qf fun b59 w60 H=>sp (Sv (some ⟨b59,0,none⟩) kk.toNat kk.toNat) (zjcc (sp (Bv true) (zjn (xK true rfl (fun _=>zg (sps [.pointer (some ⟨bs,0,none⟩),.pointer (some ⟨bY,0,none⟩),.pointer (some ⟨bY,0,none⟩)] (oF rfl (oL rfl (H.cell 7 rfl rfl) (sp (.int .i64 most) ?_))))) (fun h=>absurd h qj))))))))))))
   have H1:=H.QC 10 3 [6,0,1,2,3,4,5,7,8,9] [1,0,2] qo qo
   have N1:Fresh _ (yw :: Ns):=N
   have K1:Kept (Ns) ((xN true yw Vr t_Bags) :: (xN frR rFR rxR rules) :: Γ):=K0.behind 2 rfl
   replace K1:=K1.cons (F:=yw) 0 rfl rfl
   refine sw (vK #[.pointer (some ⟨bs,0,none⟩),.int .i64 kk,.int .i64 most] rfl rfl call145 (dFew_ok code s_at s_seed bs ac cc Fc kk most H1 N1 K1 qg qg qg) ?_)
   clear H H1 N1 K1
   rintro _ w61 ⟨zi65,zi66,zl67,ra68,rn69,rc70,hx63,hx64,rfl,N,H⟩
   obtain rfl:=H.yx 1 rfl
   refine sp (Sv ra68 zl67.length rc70) (zjc (oF rfl (oL rfl (H.cell 5 rfl rfl) (sp (Bv true) (sw (zy H underlying28 ti4 [Bv true] fun b71 w72 H=>sw (zC H 5 rfl 0 rfl underlying28 ti4 rfl qj rfl rfl rfl qw qp qf fun a73 c74 w75 H=>?_)))))))
   rw [snocB] at H
   try dsimp only [List.set] at H
   refine oF rfl (sw (zh H 6 [Sv a73 (Qz+1) c74,Sv VG QZ VB,Sv (some ⟨b3,0,none⟩) kk.toNat kk.toNat] sizeOf28 fun w76 H=>?_))
   try dsimp only [List.set] at H
   refine zjn (zg (oF rfl (oL rfl (H.cell 6 rfl rfl) (sp (Sv ra68 zl67.length rc70) (sw (zy H underlying29 ti24 [Sv ra68 zl67.length rc70] fun b77 w78 H=>?_))))))
   obtain ⟨G82,N,hn83,H⟩:=H.zT 3 rfl N (fun F hF b hb=>(List.mem_append.1 (show F∈[yw]++Ns from hF)).elim (fun h=>(H.jR (L:=[yw]) [1]) F h b hb) fun h=>H.VC (K0.behind 3 rfl) F h b hb)
   try dsimp only [List.set] at H
   refine sw (zC H 5 rfl 0 rfl underlying29 ti24 rfl qj rfl rfl rfl qw qp qf fun a79 c80 w81 H=>?_)
   try dsimp only [List.set] at H
   replace H:=H.yt 2 rfl 0 rfl
   replace N:Fresh W0.heap.size ((yw++G82) :: Ns):=(N.jg 2 [1,0] qo).join
   refine oF rfl (sw (zh H 7 [Sv a73 (Qz+1) c74,Sv a79 (QZ+1) c80,Sv (some ⟨b3,0,none⟩) kk.toNat kk.toNat] sizeOf29 fun w84 H=>?_))
   try dsimp only [List.set] at H
   refine zi (b_n (t_n (zg (sp (.int .i64 c) (sw (zL c 1 rfl rfl qf (sp (.int .i64 (c+1)) (zi (xq (m' :=(par.length - ((c+1):Int)).toNat) qf ⟨_,c+1,zi65,zi66,a73,Qz+1,c74,(t_Alive++[true]),a79,QZ+1,c80,(t_Bags++[zl67]),(Vr++[Value.slice ra68 zl67.length rc70]:List Value),(yw++G82),uE6,?_,?_,?_,rfl,N,H.jg 13 5 [5,6,7,8,9,2,10,11,12] [0,2,4] qo qo⟩)))))))))
   · omega
   · omega
   · first | exact i2.snoc (fun _=>rfl) ql (fun h=>by cases h) | exact i2.snoc (fun h=>by omega) ql (fun h=>by simp_all) | exact i2.snoc (fun h=>by omega) (jf.zero qf qf) (fun _=>sum_zeros _)
 ·skip
  refine zx4 (zcc (sp (.pointer (some ⟨bs,0,none⟩)) ?_))
  have H1:=H.QC 9 3 [5,0,1,2,3,4,6,7,8] [1,0,2] qo qo
  have N1:Fresh _ (yw :: Ns):=N
  have K1:Kept (Ns) ((xN true yw Vr t_Bags) :: (xN frR rFR rxR rules) :: Γ):=K0.behind 2 rfl
  replace K1:=K1.cons (F:=yw) 0 rfl rfl
  refine sw (vK #[.pointer (some ⟨bs,0,none⟩),.int .i64 3] rfl rfl call66 (dOne_ok code s_at s_seed bs ac cc Fc (3:Int) H1 N1 K1 qg) ?_)
  clear H H1 N1 K1
  rintro _ w85 ⟨zi88,zi89,zb90,hx87,rfl,N,H⟩
  refine zjn (xK (zb90) rfl (fun h91=>?_) (fun h91=>?_))
  ·skip
   refine zg (sps [.pointer (some ⟨bs,0,none⟩),.pointer (some ⟨bY,0,none⟩),.pointer (some ⟨bY,0,none⟩)] (oF rfl (oL rfl (H.cell 6 rfl rfl) ?_)))
   have H1:=H.QC 9 3 [0,1,2,3,4,5,6,7,8] [0,1,2] qo qo
   have N1:Fresh _ (yw :: Ns):=N
   have K1:Kept (Ns) ((xN true yw Vr t_Bags) :: (xN frR rFR rxR rules) :: Γ):=K0.behind 2 rfl
   replace K1:=K1.cons (F:=yw) 0 rfl rfl
   refine sw (vK #[.pointer (some ⟨bs,0,none⟩),.int .i64 kk,.int .i64 2] rfl rfl call145 (dFew_ok code zi88 zi89 bs ac cc Fc kk (2:Int) H1 N1 K1 qg qg qg) ?_)
   clear H H1 N1 K1
   rintro _ w92 ⟨zi96,zi97,zl98,ra99,rn100,rc101,hx94,hx95,rfl,N,H⟩
   obtain rfl:=H.yx 1 rfl
   refine oF rfl (sw (zh H 4 [Sv VP Qz VM,Sv VG QZ VB,Sv ra99 zl98.length rc101] sizeOf24 fun w102 H=>?_))
   try dsimp only [List.set] at H
   refine zjc (sw (xU [Sv VP Qz VM,Sv VG QZ VB,Sv ra99 zl98.length rc101] isAgg31 sizeOf31 rfl (qJ (H.cells 4 rfl) 0 3) (sw (zu H 6 [Sv VP Qz VM,Sv VG QZ VB,Sv ra99 zl98.length rc101] sizeOf31 fun w103 H=>?_))))
   try dsimp only [List.set] at H
   refine zjr (retC H 6 rfl rfl isAgg31 sizeOf31 rfl ⟨_,rfl,?_⟩)
   obtain rfl:c=par.length:=by omega
   exact ⟨zi96,zi97,t_Alive,t_Bags,zl98,VP,Qz,VM,VG,QZ,VB,Vr,yw,ra99,zl98.length,rc101,qf,(by first | exact ⟨i2.la,i2.lb,i2.skin qf,by assumption,i2.bags⟩ | exact ⟨i2.la,i2.lb,i2.skin qf,jf.zero qf qf,i2.bags⟩),rfl,N,H.jg 10 3 [0,7,8,9,3,2,1] [0,2,1] qo qo⟩
  ·skip
   refine xk (t_n (zcr (sw (xU [Sv VP Qz VM,Sv VG QZ VB,Sv (some ⟨b3,0,none⟩) kk.toNat kk.toNat] isAgg31 sizeOf31 rfl (qJ (H.cells 3 rfl) 0 3) (sw (zu H 5 [Sv VP Qz VM,Sv VG QZ VB,Sv (some ⟨b3,0,none⟩) kk.toNat kk.toNat] sizeOf31 fun w104 H=>?_))))))
   try dsimp only [List.set] at H
   refine zjr (retC H 5 rfl rfl isAgg31 sizeOf31 rfl ⟨_,rfl,?_⟩)
   obtain rfl:c=par.length:=by omega
   exact ⟨zi88,zi89,t_Alive,t_Bags,(List.replicate kk.toNat (0:Int)),VP,Qz,VM,VG,QZ,VB,Vr,yw,(some ⟨b3,0,none⟩),kk.toNat,kk.toNat,qf,(by first | exact ⟨i2.la,i2.lb,i2.skin qf,by assumption,i2.bags⟩ | exact ⟨i2.la,i2.lb,i2.skin qf,jf.zero qf qf,i2.bags⟩),rfl,N,H.jg 9 3 [0,6,7,8,2,1,4] [0,2,1] qo qo⟩
theorem a2System_ok {W0 w:World} {ps:List Prv} {Γ:List Fact} {Ns:List yLN} (code:List UInt8) (ac:yOA) (cc:Nat) (Fc:yLN) (H:St W0 w (ps) ((sF false Fc ac cc code) :: Γ)) (N:Fresh W0.heap.size (Ns)) (K0:Kept Ns Γ):Calls Tryz.prog 24 #[Sv ac code.length cc] w (fun e w' =>∃ v,e=.returned v∧∃ (kk_:Int) (par_:yLI) (rules_:List jL) (alive_:List Bool) (bags_:yLL) (around_:yLI) (raq:yOA) (rnq:Nat) (rcq:Nat) (raS:yOA) (rnS:Nat) (rcS:Nat) (rxS:List Value) (rFS:yLN) (raA:yOA) (rnA:Nat) (rcA:Nat) (raB:yOA) (rnB:Nat) (rcB:Nat) (rxB:List Value) (rFB:yLN) (raD:yOA) (rnD:Nat) (rcD:Nat),(SysDr kk_ par_ rules_)∧(StDr kk_ par_.length 5 alive_ bags_ around_)∧v=.tuple #[.agg #[.int .i64 kk_,Sv raq rnq rcq,Sv raS rnS rcS],.agg #[Sv raA rnA rcA,Sv raB rnB rcB,Sv raD rnD rcD]]∧Fresh W0.heap.size (rFS :: rFB :: Ns)∧St W0 w' ((rr raq rnq rcq 2 1 (par_.map (Value.int .i64))) :: (rr raS rnS rcS 56 9 rxS) :: (rr raA rnA rcA 4 1 (alive_.map (Value.bool))) :: (rr raB rnB rcB 24 1 rxB) :: (rr raD rnD rcD 2 1 (around_.map (Value.int .i64))) :: ps) ((sF false Fc ac cc code) :: (xN true rFS rxS rules_) :: (xN true rFB rxB bags_) :: Γ)):=by
 refine en Tryz.func24 Tryz.ntmps24 ?_
 have ncode:=qV (H.get 0 rfl).1
 refine zcr (sw (xZ H ti27 [.int .i64 0,Sv none 0 0,Sv none 0 0] fun b1 w2 H=>sw (xZ H ti31 [Sv none 0 0,Sv none 0 0,Sv none 0 0] fun b3 w4 H=>zjc (sp (Sv ac code.length cc) (sw (vk #[Sv ac code.length cc] rfl rfl call46 (en Tryz.func46 Tryz.ntmps46 ?_)))))))
 refine zcr (sp (.pointer none) (zjc (sp (Sv ac code.length cc) (sw (vX [Sv ac code.length cc,.int .i64 0,.int .u64 0] [(0,Sv ac code.length cc)] (sw (zW H [Sv ac code.length cc,.int .i64 0,.int .u64 0] fun b5 w6 H=>sp (.pointer (some ⟨b5,0,none⟩)) (zjr (ret1 (.pointer (some ⟨b5,0,none⟩)) rfl rfl ⟨_,rfl,(sp (.pointer (some ⟨b5,0,none⟩)) (zjc (sp (.pointer (some ⟨b5,0,none⟩)) ?_)))⟩)))))))))
 have H1:=H.QC 3 1 [0,1,2] [0] qo qo
 have N1:Fresh _ (Ns):=N
 have K1:Kept (Ns) (Γ):=K0.behind 0 rfl
 refine sw (vK #[.pointer (some ⟨b5,0,none⟩)] rfl rfl call78 (dSystem_ok code (0:Int) 0 b5 ac cc Fc H1 N1 K1 qg) ?_)
 clear H H1 N1 K1
 rintro _ w7 ⟨zi11,zi12,zi13,zl14,zR15,ra16,rn17,rc18,ra19,rn20,rc21,rx22,rF23,hx9,hx10,rfl,N,H⟩
 obtain rfl:=H.yx 1 rfl
 obtain rfl:=H.x8 (α:=jL) 2 rfl 1 rfl qj
 refine sw (xZ H ti27 [.int .i64 0,Sv none 0 0,Sv none 0 0] fun b24 w25 H=>sw (zu H 0 [.int .i64 zi13,Sv ra16 zl14.length rc18,Sv ra19 zR15.length rc21] sizeOf27 fun w26 H=>?_))
 try dsimp only [List.set] at H
 refine zjn (zf ?_)
 refine VV rfl H [0,2,3] [0,1] fun H=>?_
 have S:=H.yj [0,2,3] [0,1]
 refine rt 0 (.agg #[.int .i64 zi13,Sv ra16 zl14.length rc18,Sv ra19 zR15.length rc21]) (Qv (cs:=[.int .i64 zi13,Sv ra16 zl14.length rc18,Sv ra19 zR15.length rc21]) isAgg27 sizeOf27 rfl (fun _ h=>qJ (h.cells 0 rfl) 0 3)) S ?_
 refine rtp 1 (.pointer (some ⟨b5,0,none⟩)) S ?_
 refine ro 2 rfl ?_
 have f0:yg (⟨zi13,zl14,zR15⟩:qI):=SysDr.frame ql
 have H1:=H.QC 6 2 [1,0,2,3,4,5] [0,1,1] qo qo
 have N1:Fresh _ (rF23 :: Ns):=N
 have K1:Kept (Ns) ((xN true rF23 rx22 zR15) :: Γ):=K0.behind 1 rfl
 replace K1:=K1.cons (F:=rF23) 0 rfl rfl
 refine vK #[.pointer (some ⟨b5,0,none⟩),.pointer (some ⟨b24,0,none⟩),.int .i64 5] rfl rfl call79 (dState_ok code zi11 zi12 b5 ac cc Fc zi13 zl14 zR15 b24 ra16 zl14.length rc18 ra19 zR15.length rc21 rx22 rF23 true (5:Int) H1 N1 K1 qg qg qg) ?_
 clear H H1 N1 K1
 rintro _ w28 ⟨zi32,zi33,zm34,zL35,zl36,ra37,rn38,rc39,ra40,rn41,rc42,rx43,rF44,ra45,rn46,rc47,hx30,hx31,rfl,N,H⟩
 obtain rfl:=H.rowNB 4 rfl
 obtain rfl:=H.x8 (α:=yLI) 5 rfl 2 rfl qj
 obtain rfl:=H.yx 6 rfl
 refine ⟨H.pick [1,2,3] [0,3],(ro 3 rfl (zu H 8 [.int .i64 zi13,Sv ra16 zl14.length rc18,Sv ra19 zR15.length rc21] sizeOf27 fun w48 H=>?_))⟩
 try dsimp only [List.set] at H
 refine ⟨H.pick [1,2,3] [0,3],(ro 4 rfl (zu H 7 [Sv ra37 zm34.length rc39,Sv ra40 zL35.length rc42,Sv ra45 zl36.length rc47] sizeOf31 fun w49 H=>?_))⟩
 try dsimp only [List.set] at H
 refine ⟨H.pick [1,2,3] [0,3],(xJ qh (t_n (c_ret (retCC H 8 rfl 7 rfl rfl isAgg27 sizeOf27 isAgg31 sizeOf31 rfl rfl ⟨_,rfl,(⟨zi13,zl14,zR15,zm34,zL35,zl36,ra16,zl14.length,rc18,ra19,zR15.length,rc21,rx22,rF23,ra37,zm34.length,rc39,ra40,zL35.length,rc42,rx43,rF44,ra45,zl36.length,rc47,ql,ql,rfl,(N.jg 2 [1,0] qo),H.jg 9 4 [2,3,4,5,6] [0,1,2] qo qo⟩)⟩))))⟩
theorem specSame_ok (w:World) (a:qP) (b:qP) {QJ:yOA} {FaAlive:yLN} {XC:yOA} {FaBags:yLN} {y7:yOA} {Ve:yLN} {QI:yOA} {FbAlive:yLN} {XB:yOA} {FbBags:yLN} {y5:yOA} {Vd:yLN} (V9:qX.rep w FaAlive [Sv QJ a.qG.length QH] a.qG) (haBags:qX.rep w FaBags [Sv XC a.qH.length Xd] a.qH) (XO:qX.rep w Ve [Sv y7 a.qF.length yZ] a.qF) (V8:qX.rep w FbAlive [Sv QI b.qG.length QG] b.qG) (hbBags:qX.rep w FbBags [Sv XB b.qH.length Xc] b.qH) (XN:qX.rep w Vd [Sv y5 b.qF.length yY] b.qF):Calls Tryz.prog 34 #[.agg #[Sv QJ a.qG.length QH,Sv XC a.qH.length Xd,Sv y7 a.qF.length yZ],.agg #[Sv QI b.qG.length QG,Sv XB b.qH.length Xc,Sv y5 b.qF.length yY]] w (Ret (fun v w' =>v=Bv (decide (a=b))) w):=by
 refine en Tryz.func34 Tryz.ntmps34 ?_
 have H:=((((((St.start w).arg XN).arg hbBags).arg V8).arg XO).arg haBags).arg V9
 have nhaAlive:=qV V9
 have nhaBags:=qV haBags
 have nhaAround:=qV XO
 have nhbAlive:=qV V8
 have nhbBags:=qV hbBags
 have nhbAround:=qV XN
 clear V9 haBags XO V8 hbBags XN
 have N:=Fresh.nil w.heap.size
 refine zcr (sw (zW H [Sv QJ a.qG.length QH,Sv XC a.qH.length Xd,Sv y7 a.qF.length yZ] fun b1 w2 H=>sw (zW H [Sv QI b.qG.length QG,Sv XB b.qH.length Xc,Sv y5 b.qF.length yY] fun b3 w4 H=>sp (Bv false) (zjc (sw (oq (l02Same_ok _ a b (qJ (H.cells 1 rfl) 0 3) (H.get 0 rfl).1 (H.get 1 rfl).1 (H.get 2 rfl).1 (qJ (H.cells 0 rfl) 0 3) (H.get 3 rfl).1 (H.get 4 rfl).1 (H.get 5 rfl).1) H fun w6 H=>sp (Bv (decide (a=b))) (zjr (ret1 (Bv (decide (a=b))) rfl rfl ⟨_,rfl,?_,H.base⟩))))))))
 rfl

theorem isHalted_ok (w:World) (s:qI) (t:qP) {qE:yOA} {xe:yLN} {qO:yOA} {xE:yLN} {qU:yOA} {xO:yLN} {xf:yOA} {zo:yLN} {qM:yOA} {xB:yLN} (qZ:qX.rep w xe [Sv qE s.qA.length qC] s.qA) (xC:qX.rep w xE [Sv qO s.qB.length qK] s.qB) (xQ:qX.rep w xO [Sv qU t.qG.length qQ] t.qG) (zA:qX.rep w zo [Sv xf t.qH.length qY] t.qH) (xH:qX.rep w xB [Sv qM t.qF.length qL] t.qF) (p0:zQ s∧xI s t):Calls Tryz.prog 32 #[.agg #[.int .i64 s.xh,Sv qE s.qA.length qC,Sv qO s.qB.length qK],.agg #[Sv qU t.qG.length qQ,Sv xf t.qH.length qY,Sv qM t.qF.length qL]] w (Ret (fun v w' =>v=.tuple #[Bv (dec (Halted s t)),.int .i64 0]) w):=by
 refine en Tryz.func32 Tryz.ntmps32 ?_
 have H:=(((((St.start w).arg xH).arg zA).arg xQ).arg xC).arg qZ
 have zX:=qV qZ
 have jo:=qV xC
 have yC:=qV xQ
 have Qm:=qV zA
 have jH:=qV xH
 clear qZ xC xQ zA xH
 have N:=Fresh.nil w.heap.size
 have p1:=p0.1
 have p2:=p0.2
 refine zcr (sw (zW H [.int .i64 s.xh,Sv qE s.qA.length qC,Sv qO s.qB.length qK] fun b1 w2 H=>sw (zW H [Sv qU t.qG.length qQ,Sv xf t.qH.length qY,Sv qM t.qF.length qL] fun b3 w4 H=>sps [Bv false,.int .i64 0] (zjcc (sw (xU [.int .i64 s.xh,Sv qE s.qA.length qC,Sv qO s.qB.length qK] isAgg27 sizeOf27 rfl (qJ (H.cells 1 rfl) 0 3) ?_))))))
 refine sw (xU [Sv qU t.qG.length qQ,Sv xf t.qH.length qY,Sv qM t.qF.length qL] isAgg31 sizeOf31 rfl (qJ (H.cells 0 rfl) 0 3) (sw (oq (Xk _ s t (H.get 0 rfl).1 (H.get 1 rfl).1 (H.get 2 rfl).1 (H.get 3 rfl).1 (H.get 4 rfl).1) H fun w6 H=>sp (Bv (!(dec (zQ s∧xI s t)))) (zjn (cQ rfl (fun h8=>?_) (fun h8=>?_))))))
 ·skip
  exact absurd p0 h8
 ·skip
  refine xk (t_n (zcr (sw (xU [.int .i64 s.xh,Sv qE s.qA.length qC,Sv qO s.qB.length qK] isAgg27 sizeOf27 rfl (qJ (H.cells 1 rfl) 0 3) (sw (xU [Sv qU t.qG.length qQ,Sv xf t.qH.length qY,Sv qM t.qF.length qL] isAgg31 sizeOf31 rfl (qJ (H.cells 0 rfl) 0 3) ?_))))))
  have sz12:=H.base.size
  refine sw (oc (Xp _ s t (H.get 0 rfl).1 (H.get 1 rfl).1 (H.get 2 rfl).1 (H.get 3 rfl).1 (H.get 4 rfl).1 qg qg) ?_)
  rintro _ w10 ⟨ra9,rn9,rc9,rfl,M,K⟩ _
  replace H:=H.merge K M
  obtain rfl:=H.yx 0 rfl
  refine oN rfl (sps [Bv (((appls s t).length:Int) == 0),Bv (((appls s t).length:Int) == 0),.int .i64 0] (zjr (ret2 (Bv (((appls s t).length:Int) == 0)) (.int .i64 0) rfl rfl rfl ⟨_,rfl,?_,H.base⟩)))
  rw [halt_eq]
theorem a2Kid_ok (w:World) (l:yLI) (c:Int) {al:yOA} {cl:Nat} {Fl:yLN} (hl:qX.rep w Fl [Sv al l.length cl] l):Calls Tryz.prog 16 #[Sv al l.length cl,.int .i64 c] w (Ret (fun v w' =>v=Bv (decide ((c:Int)∈l))) w):=by
 refine en Tryz.func16 Tryz.ntmps16 ?_
 have H:=(St.start w).arg hl
 have nhl:=qV hl
 clear hl
 have N:=Fresh.nil w.heap.size
 refine zcr (sp (Bv false) (zjcc (sp (.int .i64 0) (zjn (xg ?_)))))
 refine zJ (fun m' ρ w1=>∃ (xY:Env) (i:Nat),ρ=upd (upd (upd xY 0 (Sv al l.length cl)) 1 (.int .i64 c)) 5 (.int .i64 i)∧((i:Int)≤l.length)∧(∀ j,j < i→l[j]! ≠c)∧m' =(l.length - (i:Int)).toNat∧Fresh w.heap.size []∧St w w1 [] [sF false Fl al cl l]) ((l.length - (0:Int)).toNat) ⟨_,0,uE3,qf,qx,rfl,N,H⟩ ?_
 clear H N
 rintro m' ρ w2 ⟨xY,i,rfl,i0,i1,rfl,N,H⟩
 refine zcc (sps [.int .i64 i,Sv al l.length cl] (oN rfl (sp (Bv (decide ((i:Int) < l.length))) (zjn (cD rfl (fun h3=>?_) (fun h3=>?_))))))
 ·skip
  refine xk (t_n (zf (xg (zcr (sps [Sv al l.length cl,.int .i64 i] ?_)))))
  obtain ⟨b4,o5,rfl⟩:=H.addr 0 rfl qf
  refine oI rfl rfl (oL rfl (H.yF 0 rfl i qf qf) (sps [.int .i64 c,Bv ((l[i]! :Int) == c)] (zjn (cE rfl (fun h7=>?_) (fun h7=>?_)))))
  ·skip
   refine zcr (sp (Bv true) (zjr (zr5 (ret1 (Bv true) rfl rfl ⟨_,rfl,?_,H.base⟩))))
   rw [decide_eq_true (mem_atI (k:=i) qf ‹_›)]
  ·skip
   refine xk (b_n (t_n (zg (sp (.int .i64 i) (sw (zL i 1 rfl rfl qf (sp (.int .i64 (i+1)) (zi (xq (m' :=(l.length - ((i+1):Int)).toNat) qf ⟨_,i+1,uE3,?_,?_,rfl,N,H⟩)))))))))
   · omega
   · exact fun j hj=>if e:j=i then by rw [e];assumption else i1 j qf
 ·skip
  refine zx4 (zcr (sp (Bv false) (zjr (ret1 (Bv false) rfl rfl ⟨_,rfl,?_,H.base⟩))))
  rw [decide_eq_false (no_mem (i:=i) i1 qf)]
theorem change_ok (w:World) (s:qI) (t:qP) (r:jL) {qE:yOA} {xe:yLN} {qO:yOA} {xE:yLN} {qU:yOA} {xO:yLN} {xf:yOA} {zo:yLN} {qM:yOA} {xB:yLN} {jW:yOA} {jT:Nat} {XF:yLN} {jY:yOA} {jV:Nat} {XI:yLN} {jX:yOA} {jU:Nat} {XG:yLN} {jO:yOA} {jM:Nat} {XH:yLN} {Qs:yOA} {Qr:Nat} {FrOut:yLN} {jE:yOA} {jD:Nat} {VJ:yLN} (qZ:qX.rep w xe [Sv qE s.qA.length qC] s.qA) (xC:qX.rep w xE [Sv qO s.qB.length qK] s.qB) (xQ:qX.rep w xO [Sv qU t.qG.length qQ] t.qG) (zA:qX.rep w zo [Sv xf t.qH.length qY] t.qH) (xH:qX.rep w xB [Sv qM t.qF.length qL] t.qF) (hrNeed:qX.rep w XF [Sv jW r.xR.length jT] r.xR) (hrHave:qX.rep w XI [Sv jY r.zM.length jV] r.zM) (hrLack:qX.rep w XG [Sv jX r.zK.length jU] r.zK) (hrHere:qX.rep w XH [Sv jO r.zH.length jM] r.zH) (hrOut:qX.rep w FrOut [Sv Qs r.jC.length Qr] r.jC) (hrInto:qX.rep w VJ [Sv jE r.qW.length jD] r.qW) (p0:zQ s) (p1:xI s t) (q:RuleOk s r):Calls Tryz.prog 85 #[.agg #[.int .i64 s.xh,Sv qE s.qA.length qC,Sv qO s.qB.length qK],.agg #[Sv qU t.qG.length qQ,Sv xf t.qH.length qY,Sv qM t.qF.length qL],.agg #[.int .i64 r.qN,.int .i64 r.vP,Sv jW r.xR.length jT,Sv jY r.zM.length jV,Sv jX r.zK.length jU,Sv jO r.zH.length jM,Sv Qs r.jC.length Qr,Sv jE r.qW.length jD,Bv r.vF]] w (Ret (fun v w' =>∃ (ra:yOA) (rn:Nat) (rc:Nat) (rx:List Value) (rF:yLN),v=Sv ra rn rc∧Fresh w.heap.size [rF]∧St w w' [rr ra rn rc 24 1 rx] [xN true rF rx (chgL s t r)]) w):=by
 refine en Tryz.func85 Tryz.ntmps85 ?_
 have H:=(((((((((((St.start w).arg hrInto).arg hrOut).arg hrHere).arg hrLack).arg hrHave).arg hrNeed).arg xH).arg zA).arg xQ).arg xC).arg qZ
 have zX:=qV qZ
 have jo:=qV xC
 have yC:=qV xQ
 have Qm:=qV zA
 have jH:=qV xH
 have nhrNeed:=qV hrNeed
 have nhrHave:=qV hrHave
 have nhrLack:=qV hrLack
 have nhrHere:=qV hrHere
 have nhrOut:=qV hrOut
 have nhrInto:=qV hrInto
 clear qZ xC xQ zA xH hrNeed hrHave hrLack hrHere hrOut hrInto
 have N:=Fresh.nil w.heap.size
 have p5:=p0.2.1
 have p7:=p1.2.1
 have p8:=kinds_le p0
 have p9:=p0.1.2.1
 have p12:=p1.1
 have p15:=p0.1
 have p16:=p0.1.1
 have qc:=q.1
 have qk:=q.cell
 have qr:=q.2.1
 have qn:=q.2.2.2.1
 have bn1:=q.2.2.2.2.1
 have bn2:=q.2.2.2.2.2.2.2.1
 have bn3:=q.2.2.2.2.2.2.2.2.1
 have ln1:=bn1.len
 have ln2:=bn2.len
 have ln3:=bn3.len
 refine zcr (sw (zW H [.int .i64 s.xh,Sv qE s.qA.length qC,Sv qO s.qB.length qK] fun b1 w2 H=>sw (zW H [Sv qU t.qG.length qQ,Sv xf t.qH.length qY,Sv qM t.qF.length qL] fun b3 w4 H=>sw (zW H [.int .i64 r.qN,.int .i64 r.vP,Sv jW r.xR.length jT,Sv jY r.zM.length jV,Sv jX r.zK.length jU,Sv jO r.zH.length jM,Sv Qs r.jC.length Qr,Sv jE r.qW.length jD,Bv r.vF] fun b5 w6 H=>sp (Sv none 0 0) (zjc ?_)))))
 refine sw (je H underlying29 ti24 fun b7 w8 H=>sp (Sv (some ⟨b7,0,none⟩) 0 0) (zjcc (sw (xU [.int .i64 s.xh,Sv qE s.qA.length qC,Sv qO s.qB.length qK] isAgg27 sizeOf27 rfl (qJ (H.cells 3 rfl) 0 3) (sw (oq (VO _ s (H.get 0 rfl).1 (H.get 1 rfl).1) H fun w10 H=>sw (zL s.qA.length 1 rfl rfl qf (sp (.int .i64 0) (zjn (xg ?_))))))))))
 replace H:=H.boxRow 0 rfl 1 0 rfl qj
 replace H:=H.vT (α:=yLI)
 refine zJ (fun m' ρ w12=>∃ (xY:Env) (a_bags:yOA) (Vj:Nat) (VN:Nat) (bags:yLL) (x_bags:List Value) (F_bags:yLN) (k:Nat),ρ=upd (upd (upd (upd (upd (upd xY 3 (.pointer (some ⟨b1,0,none⟩))) 4 (.pointer (some ⟨b3,0,none⟩))) 5 (.pointer (some ⟨b5,0,none⟩))) 7 (Sv a_bags Vj VN)) 11 (.int .i64 (s.qA.length+1))) 12 (.int .i64 k)∧((k:Int)≤(s.qA.length+1))∧(Ent (k) (zI s) (fun p q=>0) (0) bags)∧(bags.length=k)∧m' =((s.qA.length+1) - (k:Int)).toNat∧Fresh w.heap.size [F_bags]∧St w w12 [rr a_bags Vj VN 24 1 x_bags,.box b5 [.int .i64 r.qN,.int .i64 r.vP,Sv jW r.xR.length jT,Sv jY r.zM.length jV,Sv jX r.zK.length jU,Sv jO r.zH.length jM,Sv Qs r.jC.length Qr,Sv jE r.qW.length jD,Bv r.vF] 56,.box b3 [Sv qU t.qG.length qQ,Sv xf t.qH.length qY,Sv qM t.qF.length qL] 31,.box b1 [.int .i64 s.xh,Sv qE s.qA.length qC,Sv qO s.qB.length qK] 27] [xN true F_bags x_bags bags,sF false xe qE qC s.qA,sF false xE qO qK s.qB,sF false xO qU qQ t.qG,sF false zo xf qY t.qH,sF false xB qM qL t.qF,sF false XF jW jT r.xR,sF false XI jY jV r.zM,sF false XG jX jU r.zK,sF false XH jO jM r.zH,sF false FrOut Qs Qr r.jC,sF false VJ jE jD r.qW]) (((s.qA.length+1) - (0:Int)).toNat) ⟨_,(some ⟨b7,0,none⟩),0,0,([]:yLL),[],[],0,uE6,qf,(by exact ent_nil),(by rfl),rfl,N.emp,H⟩ ?_
 clear H N
 rintro m' ρ w13 ⟨xY,a_bags,Vj,VN,bags,x_bags,F_bags,k,rfl,i0,E_bags,z_bags,rfl,N,H⟩
 have hn_bags:=H.x8 (α:=yLI) 0 rfl 0 rfl qj
 refine zcr (sp (Bv (decide ((k:Int) < (s.qA.length+1)))) (zjn (zf (cD rfl (fun h14=>?_) (fun h14=>?_)))))
 ·skip
  refine xk (t_n (zf (xg (zg (sp (Sv a_bags Vj VN) (oF rfl (oL rfl (H.cell 3 rfl rfl) (sw (ji H underlying24 ti2 s.xh.toNat rfl rfl qf qf qf fun b15 w16 H=>sw (zy H underlying29 ti24 [Sv (some ⟨b15,0,none⟩) s.xh.toNat s.xh.toNat] fun b17 w18 H=>?_))))))))))
  obtain ⟨G22,N,hn23,H⟩:=H.zT 1 rfl N (H.jR [0])
  refine sw (zC H 2 rfl 0 rfl underlying29 ti24 rfl qj rfl rfl rfl qw qp qf fun a19 c20 w21 H=>?_)
  replace H:=H.yt 1 rfl 0 rfl
  replace N:Fresh w.heap.size [(F_bags++G22)]:=(N.pick [1,0]).join
  refine sp (Sv a19 (Vj+1) c20) (zi (b_n (t_n (zg (sw (zL k 1 rfl rfl qf (sp (.int .i64 (k+1)) (zi (xq (m' :=((s.qA.length+1) - ((k+1):Int)).toNat) qf ⟨_,a19,Vj+1,c20,(bags++[(List.replicate s.xh.toNat (0:Int))]),x_bags++[Sv (some ⟨b15,0,none⟩) s.xh.toNat s.xh.toNat],(F_bags++G22),k+1,uE6,?_,?_,?_,rfl,N,H.pick [2,3,4,5] [0,3,4,5,6,7,8,9,10,11,12,13]⟩)))))))))
  · omega
  · exact ent_zero E_bags
  · simp [z_bags]
 ·skip
  have ek:k=s.qA.length+1:=by omega
  rw [ek] at E_bags
  refine zx4 (zf ?_)
  refine yR rfl H [1,2,3] fun H=>?_
  have S:=H.yj [1,2,3] [0,1,2,3,4,5,6,7,8,9,10,11]
  refine rtp 0 (Sv a_bags Vj VN) S ?_
  refine tF 1 rfl rfl S ?_
  refine tL 2 rfl rfl (fun _ h=>h.cell 0 rfl rfl) S ?_
  refine rtp 3 (Sv a_bags Vj VN) S ?_
  refine tF 4 rfl rfl S ?_
  refine tL 5 rfl rfl (fun _ h=>h.cell 0 rfl rfl) S ?_
  obtain ⟨b25,rfl⟩:=H.Qe 0 rfl qf
  have S:=H.yj [1,2,3] [0,1,2,3,4,5,6,7,8,9,10,11]
  refine tI 6 rfl rfl rfl S ?_
  refine tF 8 rfl rfl S ?_
  refine tL 9 rfl rfl (fun _ h=>h.cell 0 rfl rfl) S ?_
  refine ro 7 rfl ?_
  obtain ⟨a26,c27,G28,s29,h30,H⟩:=H.jP 0 rfl 0 rfl (iv:=r.qN) r.qN.toNat qf qf
  refine zF (Sv a26 ((bags[r.qN.toNat]!).length) c27) isAgg24 rfl (h30) (⟨H.pick [1,2,3] [1,2,3,4,5,6,7,8,9,10,11,12],(ro 10 rfl ?_)⟩)
  obtain ⟨u1,u2⟩:=E_bags.sh.row (c:=r.qN.toNat) qf p8 qf
  have u4:=(by first | exact bn1.jA qf | exact bn2.jA qf | exact bn3.jA qf | exact bn4.jA qf:Vb r.xR (-1))
  have sz31:=H.base.size
  have lt32:=H.ltN (L:=[F_bags]) [1]
  refine oc (V4 _ (bags[r.qN.toNat]!) r.xR (-1) (H.get 0 rfl).1 (H.get 7 rfl).1 qg qg qg) ?_
  rintro v36 w34 r36 x35
  replace H:=H.zB x35 r36
  obtain ⟨a37,c38,rfl,hc39,hm40⟩:=H.jG 0 rfl
  refine ⟨H.pick [2,3,4] [1,2,3,4,5,6,7,8,9,10,11,12],(tI 11 rfl rfl rfl (H.pick [2,3,4] [1,2,3,4,5,6,7,8,9,10,11,12]) ?_)⟩
  refine ro 12 rfl ?_
  obtain ⟨G42,N,hn43,H⟩:=H.zT 0 rfl N (H.jR [1])
  refine jy true H 1 rfl 2 rfl (Sv a37 ((vZ (bags[r.qN.toNat]!) r.xR (-1)).length) c38) 0 rfl rfl sizeOf24 rfl rfl (i:=r.qN.toNat) qf qf qm fun w41 xs44 F45 hs46 H=>?_
  replace N:Fresh w.heap.size [F45]:=(N.pick [1,0]).repl hs46
  refine ⟨H.pick [2,3,4] [3,4,5,6,7,8,9,10,11,12,13,14],(xJ qh (t_n (zcr (sw (xU [.int .i64 s.xh,Sv qE s.qA.length qC,Sv qO s.qB.length qK] isAgg27 sizeOf27 rfl (qJ (H.cells 4 rfl) 0 3) (sw (xU [Sv qU t.qG.length qQ,Sv xf t.qH.length qY,Sv qM t.qF.length qL] isAgg31 sizeOf31 rfl (qJ (H.cells 3 rfl) 0 3) (sp (Sv (some ⟨b25,0,none⟩) Vj VN) ?_))))))))⟩
  refine sw (xU [.int .i64 r.qN,.int .i64 r.vP,Sv jW r.xR.length jT,Sv jY r.zM.length jV,Sv jX r.zK.length jU,Sv jO r.zH.length jM,Sv Qs r.jC.length Qr,Sv jE r.qW.length jD,Bv r.vF] isAgg56 sizeOf56 rfl (qJ (H.cells 2 rfl) 0 9) ?_)
  obtain ⟨bg47,e_bg47⟩:∃ z,z=(bags.set r.qN.toNat (vZ (bags[r.qN.toNat]!) r.xR (-1))):=⟨_,rfl⟩
  rw [← e_bg47] at H
  have E_bg47:=Ent.add (D:=1000000) E_bags e_bg47 qf (by first | exact bn1.mul qf | exact bn2.mul qf | exact bn3.mul qf | exact bn4.mul qf) qf
  have z_bg47:=E_bg47.sh.1
  have E_cur:=E_bg47
  refine sw (vk #[.agg #[.int .i64 s.xh,Sv qE s.qA.length qC,Sv qO s.qB.length qK],.agg #[Sv qU t.qG.length qQ,Sv xf t.qH.length qY,Sv qM t.qF.length qL],Sv (some ⟨b25,0,none⟩) Vj VN,.agg #[.int .i64 r.qN,.int .i64 r.vP,Sv jW r.xR.length jT,Sv jY r.zM.length jV,Sv jX r.zK.length jU,Sv jO r.zH.length jM,Sv Qs r.jC.length Qr,Sv jE r.qW.length jD,Bv r.vF],.int .i64 1] rfl rfl call105 (en Tryz.func105 Tryz.ntmps105 ?_))
  refine zcr (sw (zW H [.int .i64 s.xh,Sv qE s.qA.length qC,Sv qO s.qB.length qK] fun b48 w49 H=>sw (zW H [Sv qU t.qG.length qQ,Sv xf t.qH.length qY,Sv qM t.qF.length qL] fun b50 w51 H=>sw (zW H [Sv (some ⟨b25,0,none⟩) Vj VN] fun b52 w53 H=>?_))))
  refine sw (zW H [.int .i64 r.qN,.int .i64 r.vP,Sv jW r.xR.length jT,Sv jY r.zM.length jV,Sv jX r.zK.length jU,Sv jO r.zH.length jM,Sv Qs r.jC.length Qr,Sv jE r.qW.length jD,Bv r.vF] fun b54 w55 H=>sw (zW H [.int .i64 1] fun b56 w57 H=>zjc (sps [.func (.func 173) #[] #[.pointer (some ⟨b52,0,none⟩),.pointer (some ⟨b56,0,none⟩)],.func (.func 173) #[] #[.pointer (some ⟨b52,0,none⟩),.pointer (some ⟨b56,0,none⟩)]] (zjc (sp (.func (.func 173) #[] #[.pointer (some ⟨b52,0,none⟩),.pointer (some ⟨b56,0,none⟩)]) ?_)))))
  refine oF rfl (oL rfl (H.cell 1 rfl rfl) (oF rfl (oL rfl (H.cell 1 rfl rfl) (sw (vk #[.int .i64 r.qN,Sv jO r.zH.length jM,.pointer (some ⟨b52,0,none⟩),.pointer (some ⟨b56,0,none⟩)] rfl rfl call173 (en Tryz.func173 Tryz.ntmps173 ?_))))))
  refine yR rfl H [0,1,2,3,4,5,7,8,9] fun H=>?_
  have S:=H.yj [0,1,2,3,4,5,7,8,9] [0,1,2,3,4,5,6,7,8,9,10,11,12,13,14]
  refine tL 0 rfl rfl (fun _ h=>h.cell 2 rfl rfl) S ?_
  refine rtp 1 (.int .i64 r.qN) S ?_
  refine tL 2 rfl rfl (fun _ h=>h.cell 2 rfl rfl) S ?_
  refine rtp 3 (.int .i64 r.qN) S ?_
  refine tI 4 rfl rfl rfl S ?_
  refine rtp 6 (Sv jO r.zH.length jM) S ?_
  refine tL 7 rfl rfl (fun _ h=>h.cell 0 rfl rfl) S ?_
  refine ro 5 rfl ?_
  obtain ⟨a59,c60,G61,s62,h63,H⟩:=H.jP 6 rfl 0 rfl (iv:=r.qN) r.qN.toNat qf qf
  refine zF (Sv a59 ((bg47[r.qN.toNat]!).length) c60) isAgg24 rfl (h63) (⟨H.pick [0,1,2,3,4,5,7,8,9] [1,2,3,4,5,6,7,8,9,10,11,12,13,14,15],(ro 8 rfl ?_)⟩)
  obtain ⟨u1,u2⟩:=E_bg47.sh.row (c:=r.qN.toNat) qf p8 qf
  have u4:=(by first | exact bn1.jA qf | exact bn2.jA qf | exact bn3.jA qf | exact bn4.jA qf:Vb r.zH 1)
  have sz64:=H.base.size
  have lt65:=H.ltN (L:=[F45]) [1]
  refine oc (V4 _ (bg47[r.qN.toNat]!) r.zH 1 (H.get 0 rfl).1 (H.get 13 rfl).1 qg qg qg) ?_
  rintro v69 w67 r69 x68
  replace H:=H.zB x68 r69
  obtain ⟨a70,c71,rfl,hc72,hm73⟩:=H.jG 0 rfl
  refine ⟨H.pick [1,2,3,4,5,6,8,9,10] [1,2,3,4,5,6,7,8,9,10,11,12,13,14,15],(tI 9 rfl rfl rfl (H.pick [1,2,3,4,5,6,8,9,10] [1,2,3,4,5,6,7,8,9,10,11,12,13,14,15]) ?_)⟩
  refine ro 10 rfl ?_
  obtain ⟨G75,N,hn76,H⟩:=H.zT 0 rfl N (H.jR [1])
  refine jy true H 7 rfl 2 rfl (Sv a70 ((vZ (bg47[r.qN.toNat]!) r.zH 1).length) c71) 0 rfl rfl sizeOf24 rfl rfl (i:=r.qN.toNat) qf qf qm fun w74 xs77 F78 hs79 H=>?_
  replace N:Fresh w.heap.size [F78]:=(N.pick [1,0]).repl hs79
  refine ⟨H.pick [1,2,3,4,5,6,8,9,10] [3,4,5,6,7,8,9,10,11,12,13,14,15,16,17],(xJ qh ((ret0 rfl ⟨_,rfl,?_⟩)))⟩
  replace H:=H.erases [6,0]
  dsimp only [vM,List.eraseIdx] at H
  obtain ⟨bg80,e_bg80⟩:∃ z,z=(bg47.set r.qN.toNat (vZ (bg47[r.qN.toNat]!) r.zH 1)):=⟨_,rfl⟩
  rw [← e_bg80] at H
  have E_bg80:=Ent.add (D:=1000000) E_bg47 e_bg80 qf (by first | exact bn1.mul qf | exact bn2.mul qf | exact bn3.mul qf | exact bn4.mul qf) qf
  have z_bg80:=E_bg80.sh.1
  have E_cur:=E_bg80
  refine zjcc (sw (xU [.int .i64 s.xh,Sv qE s.qA.length qC,Sv qO s.qB.length qK] isAgg27 sizeOf27 rfl (qJ (H.cells 4 rfl) 0 3) (sw (xU [Sv qU t.qG.length qQ,Sv xf t.qH.length qY,Sv qM t.qF.length qL] isAgg31 sizeOf31 rfl (qJ (H.cells 3 rfl) 0 3) (oF rfl (oL rfl (H.cell 1 rfl rfl) ?_))))))
  have qc' :=qc
  refine sw (oq (parentNow_ok _ s t r.qN (H.get 7 rfl).1 (H.get 8 rfl).1 (H.get 9 rfl).1 (H.get 10 rfl).1 (H.get 11 rfl).1 qg qg qg) H fun w82 H=>?_)
  have pl:=parentNow_lt p15 p1.2.2.1 qc
  refine sp (.int .i64 (xm s t r.qN)) (zjc (sps [.int .i64 (xm s t r.qN),Bv (decide ((xm s t r.qN:Int)≥0))] (zjn (cD rfl (fun h84=>?_) (fun h84=>?_)))))
  ·skip
   have po:=outPl_in (r:=r) p15 ‹_›
   refine zg (sps [.func (.func 173) #[] #[.pointer (some ⟨b52,0,none⟩),.pointer (some ⟨b56,0,none⟩)],.int .i64 (xm s t r.qN)] (oF rfl (oL rfl (H.cell 1 rfl rfl) (sw (vk #[.int .i64 (xm s t r.qN),Sv Qs r.jC.length Qr,.pointer (some ⟨b52,0,none⟩),.pointer (some ⟨b56,0,none⟩)] rfl rfl call173 (en Tryz.func173 Tryz.ntmps173 ?_))))))
   refine yR rfl H [0,1,2,3,4,6,7,8] fun H=>?_
   have S:=H.yj [0,1,2,3,4,6,7,8] [0,1,2,3,4,5,6,7,8,9,10,11,12,13,14,15,16,17]
   refine tL 0 rfl rfl (fun _ h=>h.cell 2 rfl rfl) S ?_
   refine rtp 1 (.int .i64 (xm s t r.qN)) S ?_
   refine tL 2 rfl rfl (fun _ h=>h.cell 2 rfl rfl) S ?_
   refine rtp 3 (.int .i64 (xm s t r.qN)) S ?_
   refine tI 4 rfl rfl rfl S ?_
   refine rtp 6 (Sv Qs r.jC.length Qr) S ?_
   refine tL 7 rfl rfl (fun _ h=>h.cell 0 rfl rfl) S ?_
   refine ro 5 rfl ?_
   obtain ⟨a86,c87,G88,s89,h90,H⟩:=H.jP 5 rfl 0 rfl (iv:=xm s t r.qN) ((xm s t r.qN).toNat) qf qf
   refine zF (Sv a86 ((bg80[(xm s t r.qN).toNat]!).length) c87) isAgg24 rfl (h90) (⟨H.pick [0,1,2,3,4,6,7,8] [1,2,3,4,5,6,7,8,9,10,11,12,13,14,15,16,17,18],(ro 8 rfl ?_)⟩)
   obtain ⟨u1,u2⟩:=E_bg80.sh.row (c:=(xm s t r.qN).toNat) qf p8 qf
   have u4:=(by first | exact bn1.jA qf | exact bn2.jA qf | exact bn3.jA qf | exact bn4.jA qf:Vb r.jC 1)
   have sz91:=H.base.size
   have lt92:=H.ltN (L:=[F78]) [1]
   refine oc (V4 _ (bg80[(xm s t r.qN).toNat]!) r.jC 1 (H.get 0 rfl).1 (H.get 17 rfl).1 qg qg qg) ?_
   rintro v96 w94 r96 x95
   replace H:=H.zB x95 r96
   obtain ⟨a97,c98,rfl,hc99,hm100⟩:=H.jG 0 rfl
   refine ⟨H.pick [1,2,3,4,5,7,8,9] [1,2,3,4,5,6,7,8,9,10,11,12,13,14,15,16,17,18],(tI 9 rfl rfl rfl (H.pick [1,2,3,4,5,7,8,9] [1,2,3,4,5,6,7,8,9,10,11,12,13,14,15,16,17,18]) ?_)⟩
   refine ro 10 rfl ?_
   obtain ⟨G102,N,hn103,H⟩:=H.zT 0 rfl N (H.jR [1])
   refine jy true H 6 rfl 2 rfl (Sv a97 ((vZ (bg80[(xm s t r.qN).toNat]!) r.jC 1).length) c98) 0 rfl rfl sizeOf24 rfl rfl (i:=((xm s t r.qN).toNat)) qf qf qm fun w101 xs104 F105 hs106 H=>?_
   replace N:Fresh w.heap.size [F105]:=(N.pick [1,0]).repl hs106
   refine ⟨H.pick [1,2,3,4,5,7,8,9] [3,4,5,6,7,8,9,10,11,12,13,14,15,16,17,18,19,20],(xJ qh ((ret0 rfl ⟨_,rfl,?_⟩)))⟩
   replace H:=H.erases [0]
   dsimp only [vM,List.eraseIdx] at H
   obtain ⟨bg107,e_bg107⟩:∃ z,z=(bg80.set ((xm s t r.qN).toNat) (vZ (bg80[(xm s t r.qN).toNat]!) r.jC 1)):=⟨_,rfl⟩
   rw [← e_bg107] at H
   have E_bg107:=Ent.add (D:=1000000) E_bg80 e_bg107 qf (by first | exact bn1.mul qf | exact bn2.mul qf | exact bn3.mul qf | exact bn4.mul qf) qf
   have z_bg107:=E_bg107.sh.1
   have E_cur:=E_bg107
   refine zjc (oF rfl (oL rfl (H.cell 1 rfl rfl) (oN rfl (sp (.int .i64 0) (zjn (xg ?_))))))
   refine zJ (fun m' ρ w108=>∃ (xY:Env) (k_1:Nat) (bags_1:yLL) (Qw:List Value) (QB:yLN),ρ=upd (upd (upd (upd xY 10 (.func (.func 173) #[] #[.pointer (some ⟨b52,0,none⟩),.pointer (some ⟨b56,0,none⟩)])) 40 (Sv jE r.qW.length jD)) 41 (.int .i64 r.qW.length)) 42 (.int .i64 k_1)∧((k_1:Int)≤r.qW.length)∧(Ent (s.qA.length+1) (zI s) (fun p q=>0+at' p r.qN.toNat (-1 * (r.xR)[q]!)+at' p r.qN.toNat (1 * (r.zH)[q]!)+at' p (outPl s t r) (1 * (r.jC)[q]!)+XX r 1 k_1 p q) (3000000+1000000 * k_1) bags_1)∧(bags_1.length=s.qA.length+1)∧m' =(r.qW.length - (k_1:Int)).toNat∧Fresh w.heap.size [QB]∧St w w108 [.box b56 [.int .i64 1] 2,.box b54 [.int .i64 r.qN,.int .i64 r.vP,Sv jW r.xR.length jT,Sv jY r.zM.length jV,Sv jX r.zK.length jU,Sv jO r.zH.length jM,Sv Qs r.jC.length Qr,Sv jE r.qW.length jD,Bv r.vF] 56,.box b52 [Sv (some ⟨b25,0,none⟩) Vj VN] 29,.box b50 [Sv qU t.qG.length qQ,Sv xf t.qH.length qY,Sv qM t.qF.length qL] 31,.box b48 [.int .i64 s.xh,Sv qE s.qA.length qC,Sv qO s.qB.length qK] 27,rr (some ⟨b25,0,none⟩) Vj VN 24 1 Qw,.box b5 [.int .i64 r.qN,.int .i64 r.vP,Sv jW r.xR.length jT,Sv jY r.zM.length jV,Sv jX r.zK.length jU,Sv jO r.zH.length jM,Sv Qs r.jC.length Qr,Sv jE r.qW.length jD,Bv r.vF] 56,.box b3 [Sv qU t.qG.length qQ,Sv xf t.qH.length qY,Sv qM t.qF.length qL] 31,.box b1 [.int .i64 s.xh,Sv qE s.qA.length qC,Sv qO s.qB.length qK] 27] [xN true QB Qw bags_1,sF true G42 a37 c38 (vZ (bags[r.qN.toNat]!) r.xR (-1)),sF true G28 a26 c27 (bags[r.qN.toNat]!),sF false xe qE qC s.qA,sF false xE qO qK s.qB,sF false xO qU qQ t.qG,sF false zo xf qY t.qH,sF false xB qM qL t.qF,sF false XF jW jT r.xR,sF false XI jY jV r.zM,sF false XG jX jU r.zK,sF false XH jO jM r.zH,sF false FrOut Qs Qr r.jC,sF false VJ jE jD r.qW]) ((r.qW.length - (0:Int)).toNat) ⟨_,0,bg107,xs104,F105,uE4,qf,(by exact E_cur.to (fun p q=>by rw [po];simp only [XX];first | omega | (simp only [Int.toNat_natCast];omega)) qf),qf,rfl,N,H.pick [0,1,2,3,4,5,6,7,8] [0,7,8,10,11,12,13,14,15,16,17,18,19,20]⟩ ?_
   clear H N
   rintro m' ρ w109 ⟨xY,k_1,bags_1,Qw,QB,rfl,i0,E_bags_1,z_bags_1,rfl,N,H⟩
   have hn_bags:=H.x8 (α:=yLI) 5 rfl 0 rfl qj
   refine zcr (sp (Bv (decide ((k_1:Int) < r.qW.length))) (zjn (zf (cD rfl (fun h110=>?_) (fun h110=>?_)))))
   ·skip
    have qi:=q.2.2.2.2.2.2.2.2.2.2 k_1 qf
    have qi1:=qi.1
    have bn4:=qi.2.2.1
    have ln4:=bn4.len
    refine xk (t_n (zf (xg (zcr ?_))))
    obtain ⟨b111,o112,rfl⟩:=H.addr 13 rfl qf
    obtain ⟨ae114Bag,ce114Bag,Fe114Bag,H⟩:=H.Qd 13 rfl k_1 k_1 qf qf qf
    refine oI rfl rfl (sw (xU [.int .i64 ((r.qW[k_1]!).qN),Sv ae114Bag (((r.qW[k_1]!).QP).length) ce114Bag] isAgg142 sizeOf142 rfl (qJ (H.get 1 rfl) 0 2) (sw (xZ H ti142 [.int .i64 0,Sv none 0 0] fun b115 w116 H=>sw (zu H 0 [.int .i64 ((r.qW[k_1]!).qN),Sv ae114Bag (((r.qW[k_1]!).QP).length) ce114Bag] sizeOf142 fun w117 H=>zjn (zg (sp (.func (.func 173) #[] #[.pointer (some ⟨b52,0,none⟩),.pointer (some ⟨b56,0,none⟩)]) (oF rfl (oL rfl (H.cell 0 rfl rfl) (oF rfl (oL rfl (H.cell 0 rfl rfl) ?_)))))))))))
    refine sw (vk #[.int .i64 ((r.qW[k_1]!).qN),Sv ae114Bag (((r.qW[k_1]!).QP).length) ce114Bag,.pointer (some ⟨b52,0,none⟩),.pointer (some ⟨b56,0,none⟩)] rfl rfl call173 (en Tryz.func173 Tryz.ntmps173 ?_))
    refine yR rfl H [0,1,2,3,4,5,7,8,9] fun H=>?_
    have S:=H.yj [0,1,2,3,4,5,7,8,9] [0,1,2,3,4,5,6,7,8,9,10,11,12,13,14,15]
    refine tL 0 rfl rfl (fun _ h=>h.cell 3 rfl rfl) S ?_
    refine rtp 1 (.int .i64 ((r.qW[k_1]!).qN)) S ?_
    refine tL 2 rfl rfl (fun _ h=>h.cell 3 rfl rfl) S ?_
    refine rtp 3 (.int .i64 ((r.qW[k_1]!).qN)) S ?_
    refine tI 4 rfl rfl rfl S ?_
    refine rtp 6 (Sv ae114Bag (((r.qW[k_1]!).QP).length) ce114Bag) S ?_
    refine tL 7 rfl rfl (fun _ h=>h.cell 1 rfl rfl) S ?_
    refine ro 5 rfl ?_
    obtain ⟨a119,c120,G121,s122,h123,H⟩:=H.jP 6 rfl 2 rfl (iv:=(r.qW[k_1]!).qN) (((r.qW[k_1]!).qN).toNat) qf qf
    refine zF (Sv a119 ((bags_1[((r.qW[k_1]!).qN).toNat]!).length) c120) isAgg24 rfl (h123) (⟨H.pick [0,1,2,3,4,5,7,8,9] [1,2,3,4,5,6,7,8,9,10,11,12,13,14,15,16],(ro 8 rfl ?_)⟩)
    obtain ⟨u1,u2⟩:=E_bags_1.sh.row (c:=((r.qW[k_1]!).qN).toNat) qf p8 qf
    have u4:=(by first | exact bn1.jA qf | exact bn2.jA qf | exact bn3.jA qf | exact bn4.jA qf:Vb ((r.qW[k_1]!).QP) 1)
    have sz124:=H.base.size
    have lt125:=H.ltN (L:=[QB]) [3]
    refine oc (V4 _ (bags_1[((r.qW[k_1]!).qN).toNat]!) ((r.qW[k_1]!).QP) 1 (H.get 0 rfl).1 (H.get 1 rfl).1 qg qg qg) ?_
    rintro v129 w127 r129 x128
    replace H:=H.zB x128 r129
    obtain ⟨a130,c131,rfl,hc132,hm133⟩:=H.jG 0 rfl
    refine ⟨H.pick [1,2,3,4,5,6,8,9,10] [1,2,3,4,5,6,7,8,9,10,11,12,13,14,15,16],(tI 9 rfl rfl rfl (H.pick [1,2,3,4,5,6,8,9,10] [1,2,3,4,5,6,7,8,9,10,11,12,13,14,15,16]) ?_)⟩
    refine ro 10 rfl ?_
    obtain ⟨G135,N,hn136,H⟩:=H.zT 0 rfl N (H.jR [3])
    refine jy true H 7 rfl 4 rfl (Sv a130 ((vZ (bags_1[((r.qW[k_1]!).qN).toNat]!) ((r.qW[k_1]!).QP) 1).length) c131) 0 rfl rfl sizeOf24 rfl rfl (i:=(((r.qW[k_1]!).qN).toNat)) qf qf qm fun w134 xs137 F138 hs139 H=>?_
    replace N:Fresh w.heap.size [F138]:=(N.pick [1,0]).repl hs139
    refine ⟨H.pick [1,2,3,4,5,6,8,9,10] [3,4,5,6,7,8,9,10,11,12,13,14,15,16,17,18],(xJ qh ((ret0 rfl ⟨_,rfl,?_⟩)))⟩
    replace H:=H.erases [0]
    dsimp only [vM,List.eraseIdx] at H
    obtain ⟨bg140,e_bg140⟩:∃ z,z=(bags_1.set (((r.qW[k_1]!).qN).toNat) (vZ (bags_1[((r.qW[k_1]!).qN).toNat]!) ((r.qW[k_1]!).QP) 1)):=⟨_,rfl⟩
    rw [← e_bg140] at H
    have E_bg140:=Ent.add (D:=1000000) E_bags_1 e_bg140 qf (by first | exact bn1.mul qf | exact bn2.mul qf | exact bn3.mul qf | exact bn4.mul qf) qf
    have z_bg140:=E_bg140.sh.1
    have E_cur:=E_bg140
    refine zi (b_n (t_n (zg (sw (zL k_1 1 rfl rfl qf (sp (.int .i64 (k_1+1)) (zi (xq (m' :=(r.qW.length - ((k_1+1):Int)).toNat) qf ⟨_,k_1+1,bg140,xs137,F138,uE4,?_,?_,?_,rfl,N,H.pick [1,2,3,4,5,6,7,8,9] [0,6,7,8,9,10,11,12,13,14,15,16,17,18]⟩))))))))
    · omega
    · exact E_cur.to (fun p q=>by simp only [XX];omega) qf
    · omega
   ·skip
    refine c_exit (t_x (t_x (b_x (ret0 rfl ⟨_,rfl,?_⟩))))
    replace H:=H.erases [4,3,2,1,0]
    dsimp only [vM,List.eraseIdx] at H
    refine zjc (sps [Sv (some ⟨b25,0,none⟩) Vj VN,Sv (some ⟨b25,0,none⟩) Vj VN] (zjr (ret1 (Sv (some ⟨b25,0,none⟩) Vj VN) rfl rfl ⟨_,rfl,?_,H.base⟩)))
    rw [show chgL s t r=bags_1 from (E_bags_1.to (fun p q=>by rw [show k_1=(r.qW).length by omega];simp only [chgP,putF];omega) (Int.le_refl _)).tab.symm]
    exact ⟨(some ⟨b25,0,none⟩),Vj,VN,Qw,QB,rfl,N,H.pick [0] [0]⟩
  ·skip
   have po:=outPl_out (r:=r) p15 p1.2.2.1 qc qf
   refine yR rfl H [0,1,2,3,4,6,7,8] fun H=>?_
   have S:=H.yj [0,1,2,3,4,6,7,8] [0,1,2,3,4,5,6,7,8,9,10,11,12,13,14,15,16,17]
   refine rtp 0 (.func (.func 173) #[] #[.pointer (some ⟨b52,0,none⟩),.pointer (some ⟨b56,0,none⟩)]) S ?_
   refine rt 1 (.agg #[.int .i64 s.xh,Sv qE s.qA.length qC,Sv qO s.qB.length qK]) (Qv (cs:=[.int .i64 s.xh,Sv qE s.qA.length qC,Sv qO s.qB.length qK]) isAgg27 sizeOf27 rfl (fun _ h=>qJ (h.cells 4 rfl) 0 3)) S ?_
   refine tF 3 rfl rfl S ?_
   refine tL 4 rfl rfl (fun _ h=>h.cell 1 rfl rfl) S ?_
   refine ro 2 rfl (oq (VO _ s (H.get 7 rfl).1 (H.get 8 rfl).1) H fun w143 H=>⟨H.pick [0,1,2,3,4,6,7,8] [0,1,2,3,4,5,6,7,8,9,10,11,12,13,14,15,16,17],(ro 5 rfl (vk #[.int .i64 s.qA.length,Sv Qs r.jC.length Qr,.pointer (some ⟨b52,0,none⟩),.pointer (some ⟨b56,0,none⟩)] rfl rfl call173 (en Tryz.func173 Tryz.ntmps173 ?_)))⟩)
   refine yR rfl H [0,1,2,3,4,6,7,8] fun H=>?_
   have S:=H.yj [0,1,2,3,4,6,7,8] [0,1,2,3,4,5,6,7,8,9,10,11,12,13,14,15,16,17]
   refine tL 0 rfl rfl (fun _ h=>h.cell 2 rfl rfl) S ?_
   refine rtp 1 (.int .i64 s.qA.length) S ?_
   refine tL 2 rfl rfl (fun _ h=>h.cell 2 rfl rfl) S ?_
   refine rtp 3 (.int .i64 s.qA.length) S ?_
   refine tI 4 rfl rfl rfl S ?_
   refine rtp 6 (Sv Qs r.jC.length Qr) S ?_
   refine tL 7 rfl rfl (fun _ h=>h.cell 0 rfl rfl) S ?_
   refine ro 5 rfl ?_
   obtain ⟨a146,c147,G148,s149,h150,H⟩:=H.jP 5 rfl 0 rfl (iv:=s.qA.length) s.qA.length qf qf
   refine zF (Sv a146 ((bg80[s.qA.length]!).length) c147) isAgg24 rfl (h150) (⟨H.pick [0,1,2,3,4,6,7,8] [1,2,3,4,5,6,7,8,9,10,11,12,13,14,15,16,17,18],(ro 8 rfl ?_)⟩)
   obtain ⟨u1,u2⟩:=E_bg80.sh.row (c:=s.qA.length) qf p8 qf
   have u4:=(by first | exact bn1.jA qf | exact bn2.jA qf | exact bn3.jA qf | exact bn4.jA qf:Vb r.jC 1)
   have sz151:=H.base.size
   have lt152:=H.ltN (L:=[F78]) [1]
   refine oc (V4 _ (bg80[s.qA.length]!) r.jC 1 (H.get 0 rfl).1 (H.get 17 rfl).1 qg qg qg) ?_
   rintro v156 w154 r156 x155
   replace H:=H.zB x155 r156
   obtain ⟨a157,c158,rfl,hc159,hm160⟩:=H.jG 0 rfl
   refine ⟨H.pick [1,2,3,4,5,7,8,9] [1,2,3,4,5,6,7,8,9,10,11,12,13,14,15,16,17,18],(tI 9 rfl rfl rfl (H.pick [1,2,3,4,5,7,8,9] [1,2,3,4,5,6,7,8,9,10,11,12,13,14,15,16,17,18]) ?_)⟩
   refine ro 10 rfl ?_
   obtain ⟨G162,N,hn163,H⟩:=H.zT 0 rfl N (H.jR [1])
   refine jy true H 6 rfl 2 rfl (Sv a157 ((vZ (bg80[s.qA.length]!) r.jC 1).length) c158) 0 rfl rfl sizeOf24 rfl rfl (i:=s.qA.length) qf qf qm fun w161 xs164 F165 hs166 H=>?_
   replace N:Fresh w.heap.size [F165]:=(N.pick [1,0]).repl hs166
   refine ⟨H.pick [1,2,3,4,5,7,8,9] [3,4,5,6,7,8,9,10,11,12,13,14,15,16,17,18,19,20],(xJ qh ((ret0 rfl ⟨_,rfl,?_⟩)))⟩
   replace H:=H.erases [0]
   dsimp only [vM,List.eraseIdx] at H
   obtain ⟨bg167,e_bg167⟩:∃ z,z=(bg80.set s.qA.length (vZ (bg80[s.qA.length]!) r.jC 1)):=⟨_,rfl⟩
   rw [← e_bg167] at H
   have E_bg167:=Ent.add (D:=1000000) E_bg80 e_bg167 qf (by first | exact bn1.mul qf | exact bn2.mul qf | exact bn3.mul qf | exact bn4.mul qf) qf
   have z_bg167:=E_bg167.sh.1
   have E_cur:=E_bg167
   refine ⟨H.pick [0,1,2,3,4,6,7,8] [3,4,5,6,7,8,9,10,11,12,13,14,15,16,17,18,19,20],(xJ qh (t_n (zcr (oF rfl (oL rfl (H.cell 1 rfl rfl) (oN rfl (sp (.int .i64 0) (zjn (xg ?_)))))))))⟩
   refine zJ (fun m' ρ w168=>∃ (xY:Env) (k_1:Nat) (bags_1:yLL) (Qw:List Value) (QB:yLN),ρ=upd (upd (upd (upd xY 10 (.func (.func 173) #[] #[.pointer (some ⟨b52,0,none⟩),.pointer (some ⟨b56,0,none⟩)])) 40 (Sv jE r.qW.length jD)) 41 (.int .i64 r.qW.length)) 42 (.int .i64 k_1)∧((k_1:Int)≤r.qW.length)∧(Ent (s.qA.length+1) (zI s) (fun p q=>0+at' p r.qN.toNat (-1 * (r.xR)[q]!)+at' p r.qN.toNat (1 * (r.zH)[q]!)+at' p (outPl s t r) (1 * (r.jC)[q]!)+XX r 1 k_1 p q) (3000000+1000000 * k_1) bags_1)∧(bags_1.length=s.qA.length+1)∧m' =(r.qW.length - (k_1:Int)).toNat∧Fresh w.heap.size [QB]∧St w w168 [.box b56 [.int .i64 1] 2,.box b54 [.int .i64 r.qN,.int .i64 r.vP,Sv jW r.xR.length jT,Sv jY r.zM.length jV,Sv jX r.zK.length jU,Sv jO r.zH.length jM,Sv Qs r.jC.length Qr,Sv jE r.qW.length jD,Bv r.vF] 56,.box b52 [Sv (some ⟨b25,0,none⟩) Vj VN] 29,.box b50 [Sv qU t.qG.length qQ,Sv xf t.qH.length qY,Sv qM t.qF.length qL] 31,.box b48 [.int .i64 s.xh,Sv qE s.qA.length qC,Sv qO s.qB.length qK] 27,rr (some ⟨b25,0,none⟩) Vj VN 24 1 Qw,.box b5 [.int .i64 r.qN,.int .i64 r.vP,Sv jW r.xR.length jT,Sv jY r.zM.length jV,Sv jX r.zK.length jU,Sv jO r.zH.length jM,Sv Qs r.jC.length Qr,Sv jE r.qW.length jD,Bv r.vF] 56,.box b3 [Sv qU t.qG.length qQ,Sv xf t.qH.length qY,Sv qM t.qF.length qL] 31,.box b1 [.int .i64 s.xh,Sv qE s.qA.length qC,Sv qO s.qB.length qK] 27] [xN true QB Qw bags_1,sF true G42 a37 c38 (vZ (bags[r.qN.toNat]!) r.xR (-1)),sF true G28 a26 c27 (bags[r.qN.toNat]!),sF false xe qE qC s.qA,sF false xE qO qK s.qB,sF false xO qU qQ t.qG,sF false zo xf qY t.qH,sF false xB qM qL t.qF,sF false XF jW jT r.xR,sF false XI jY jV r.zM,sF false XG jX jU r.zK,sF false XH jO jM r.zH,sF false FrOut Qs Qr r.jC,sF false VJ jE jD r.qW]) ((r.qW.length - (0:Int)).toNat) ⟨_,0,bg167,xs164,F165,uE4,qf,(by exact E_cur.to (fun p q=>by rw [po];simp only [XX];first | omega | (simp only [Int.toNat_natCast];omega)) qf),qf,rfl,N,H.pick [0,1,2,3,4,5,6,7,8] [0,7,8,10,11,12,13,14,15,16,17,18,19,20]⟩ ?_
   clear H N
   rintro m' ρ w169 ⟨xY,k_1,bags_1,Qw,QB,rfl,i0,E_bags_1,z_bags_1,rfl,N,H⟩
   have hn_bags:=H.x8 (α:=yLI) 5 rfl 0 rfl qj
   refine zcr (sp (Bv (decide ((k_1:Int) < r.qW.length))) (zjn (zf (cD rfl (fun h170=>?_) (fun h170=>?_)))))
   ·skip
    have qi:=q.2.2.2.2.2.2.2.2.2.2 k_1 qf
    have qi1:=qi.1
    have bn4:=qi.2.2.1
    have ln4:=bn4.len
    refine xk (t_n (zf (xg (zcr ?_))))
    obtain ⟨b171,o172,rfl⟩:=H.addr 13 rfl qf
    obtain ⟨ae174Bag,ce174Bag,Fe174Bag,H⟩:=H.Qd 13 rfl k_1 k_1 qf qf qf
    refine oI rfl rfl (sw (xU [.int .i64 ((r.qW[k_1]!).qN),Sv ae174Bag (((r.qW[k_1]!).QP).length) ce174Bag] isAgg142 sizeOf142 rfl (qJ (H.get 1 rfl) 0 2) (sw (xZ H ti142 [.int .i64 0,Sv none 0 0] fun b175 w176 H=>sw (zu H 0 [.int .i64 ((r.qW[k_1]!).qN),Sv ae174Bag (((r.qW[k_1]!).QP).length) ce174Bag] sizeOf142 fun w177 H=>zjn (zg (sp (.func (.func 173) #[] #[.pointer (some ⟨b52,0,none⟩),.pointer (some ⟨b56,0,none⟩)]) (oF rfl (oL rfl (H.cell 0 rfl rfl) (oF rfl (oL rfl (H.cell 0 rfl rfl) ?_)))))))))))
    refine sw (vk #[.int .i64 ((r.qW[k_1]!).qN),Sv ae174Bag (((r.qW[k_1]!).QP).length) ce174Bag,.pointer (some ⟨b52,0,none⟩),.pointer (some ⟨b56,0,none⟩)] rfl rfl call173 (en Tryz.func173 Tryz.ntmps173 ?_))
    refine yR rfl H [0,1,2,3,4,5,7,8,9] fun H=>?_
    have S:=H.yj [0,1,2,3,4,5,7,8,9] [0,1,2,3,4,5,6,7,8,9,10,11,12,13,14,15]
    refine tL 0 rfl rfl (fun _ h=>h.cell 3 rfl rfl) S ?_
    refine rtp 1 (.int .i64 ((r.qW[k_1]!).qN)) S ?_
    refine tL 2 rfl rfl (fun _ h=>h.cell 3 rfl rfl) S ?_
    refine rtp 3 (.int .i64 ((r.qW[k_1]!).qN)) S ?_
    refine tI 4 rfl rfl rfl S ?_
    refine rtp 6 (Sv ae174Bag (((r.qW[k_1]!).QP).length) ce174Bag) S ?_
    refine tL 7 rfl rfl (fun _ h=>h.cell 1 rfl rfl) S ?_
    refine ro 5 rfl ?_
    obtain ⟨a179,c180,G181,s182,h183,H⟩:=H.jP 6 rfl 2 rfl (iv:=(r.qW[k_1]!).qN) (((r.qW[k_1]!).qN).toNat) qf qf
    refine zF (Sv a179 ((bags_1[((r.qW[k_1]!).qN).toNat]!).length) c180) isAgg24 rfl (h183) (⟨H.pick [0,1,2,3,4,5,7,8,9] [1,2,3,4,5,6,7,8,9,10,11,12,13,14,15,16],(ro 8 rfl ?_)⟩)
    obtain ⟨u1,u2⟩:=E_bags_1.sh.row (c:=((r.qW[k_1]!).qN).toNat) qf p8 qf
    have u4:=(by first | exact bn1.jA qf | exact bn2.jA qf | exact bn3.jA qf | exact bn4.jA qf:Vb ((r.qW[k_1]!).QP) 1)
    have sz184:=H.base.size
    have lt185:=H.ltN (L:=[QB]) [3]
    refine oc (V4 _ (bags_1[((r.qW[k_1]!).qN).toNat]!) ((r.qW[k_1]!).QP) 1 (H.get 0 rfl).1 (H.get 1 rfl).1 qg qg qg) ?_
    rintro v189 w187 r189 x188
    replace H:=H.zB x188 r189
    obtain ⟨a190,c191,rfl,hc192,hm193⟩:=H.jG 0 rfl
    refine ⟨H.pick [1,2,3,4,5,6,8,9,10] [1,2,3,4,5,6,7,8,9,10,11,12,13,14,15,16],(tI 9 rfl rfl rfl (H.pick [1,2,3,4,5,6,8,9,10] [1,2,3,4,5,6,7,8,9,10,11,12,13,14,15,16]) ?_)⟩
    refine ro 10 rfl ?_
    obtain ⟨G195,N,hn196,H⟩:=H.zT 0 rfl N (H.jR [3])
    refine jy true H 7 rfl 4 rfl (Sv a190 ((vZ (bags_1[((r.qW[k_1]!).qN).toNat]!) ((r.qW[k_1]!).QP) 1).length) c191) 0 rfl rfl sizeOf24 rfl rfl (i:=(((r.qW[k_1]!).qN).toNat)) qf qf qm fun w194 xs197 F198 hs199 H=>?_
    replace N:Fresh w.heap.size [F198]:=(N.pick [1,0]).repl hs199
    refine ⟨H.pick [1,2,3,4,5,6,8,9,10] [3,4,5,6,7,8,9,10,11,12,13,14,15,16,17,18],(xJ qh ((ret0 rfl ⟨_,rfl,?_⟩)))⟩
    replace H:=H.erases [0]
    dsimp only [vM,List.eraseIdx] at H
    obtain ⟨bg200,e_bg200⟩:∃ z,z=(bags_1.set (((r.qW[k_1]!).qN).toNat) (vZ (bags_1[((r.qW[k_1]!).qN).toNat]!) ((r.qW[k_1]!).QP) 1)):=⟨_,rfl⟩
    rw [← e_bg200] at H
    have E_bg200:=Ent.add (D:=1000000) E_bags_1 e_bg200 qf (by first | exact bn1.mul qf | exact bn2.mul qf | exact bn3.mul qf | exact bn4.mul qf) qf
    have z_bg200:=E_bg200.sh.1
    have E_cur:=E_bg200
    refine zi (b_n (t_n (zg (sw (zL k_1 1 rfl rfl qf (sp (.int .i64 (k_1+1)) (zi (xq (m' :=(r.qW.length - ((k_1+1):Int)).toNat) qf ⟨_,k_1+1,bg200,xs197,F198,uE4,?_,?_,?_,rfl,N,H.pick [1,2,3,4,5,6,7,8,9] [0,6,7,8,9,10,11,12,13,14,15,16,17,18]⟩))))))))
    · omega
    · exact E_cur.to (fun p q=>by simp only [XX];omega) qf
    · omega
   ·skip
    refine c_exit (t_x (t_x (b_x (ret0 rfl ⟨_,rfl,?_⟩))))
    replace H:=H.erases [4,3,2,1,0]
    dsimp only [vM,List.eraseIdx] at H
    refine zjc (sps [Sv (some ⟨b25,0,none⟩) Vj VN,Sv (some ⟨b25,0,none⟩) Vj VN] (zjr (ret1 (Sv (some ⟨b25,0,none⟩) Vj VN) rfl rfl ⟨_,rfl,?_,H.base⟩)))
    rw [show chgL s t r=bags_1 from (E_bags_1.to (fun p q=>by rw [show k_1=(r.qW).length by omega];simp only [chgP,putF];omega) (Int.le_refl _)).tab.symm]
    exact ⟨(some ⟨b25,0,none⟩),Vj,VN,Qw,QB,rfl,N,H.pick [0] [0]⟩
end
end Go.Proofs.YtcpnclokildllaaGreat
