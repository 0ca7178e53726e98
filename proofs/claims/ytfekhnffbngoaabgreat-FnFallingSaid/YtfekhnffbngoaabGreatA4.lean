/- Walks and laws, printed by program and by hand: what each function comes to, for all arguments, part 4. -/
import Derived.Test.YtfekhnffbngoaabGreatA3
namespace Go.Proofs.YtfekhnffbngoaabGreat
set_option linter.unusedVariables false
set_option linter.unusedSimpArgs false
open Go.Proofs.YtfekhnffbngoaabGreat.Tot (tot)
open Go.Proofs.YtfekhnffbngoaabGreat.Mark (cnt mrk mkd mkd_mark cnt_mark)
section
open Go.RowKit
set_option linter.unusedVariables false
set_option linter.unusedSimpArgs false
set_option maxRecDepth 100000
set_option maxHeartbeats 4000000
variable {qC qH : Nat}
theorem dRule_ok {W0 w:World} {ps:List Prv} {Γ:List Fact} {Ns:List yLN} (code:List UInt8) (ip:Int) (sd:Int) (bs:Nat) (ac:yOA) (cc:Nat) (Fc:yLN) (kk:Int) (par:yLI) (rules:List zK) (bY:Nat) (rap:yOA) (rnp:Nat) (rcp:Nat) (raR:yOA) (rnR:Nat) (rcR:Nat) (rxR:List Value) (rFR:yLN) (H:St W0 w ((.box bs [.slice ac code.length cc,.int .i64 ip,.int .u64 sd] 68) :: (.box bY [.int .i64 kk,.slice rap rnp rcp,.slice raR rnR rcR] 27) :: (rr rap rnp rcp 2 1 (par.map (Value.int .i64))) :: (rr raR rnR rcR 49 9 rxR) :: ps) ((sF false Fc ac cc code) :: (xB true rFR rxR rules) :: Γ)) (N:Fresh W0.heap.size (rFR :: Ns)) (K0:Kept Ns Γ) (q0:0≤ip∧ip≤60000) (f0:zN (⟨kk,par,rules⟩:qG)):Calls Tryz.prog 67 #[.pointer (some ⟨bs,0,none⟩),.pointer (some ⟨bY,0,none⟩)] w (fun e w' =>∃ v,e=.returned v∧∃ (ip_:Int) (sd_:Int) (cell_:Int) (rank_:Int) (need_:yLI) (have_:yLI) (lack_:yLI) (here_:yLI) (out_:yLI) (into_:List y5) (melts_:Bool) (raN:yOA) (rnN:Nat) (rcN:Nat) (raH:yOA) (rnH:Nat) (rcH:Nat) (raL:yOA) (rnL:Nat) (rcL:Nat) (raE:yOA) (rnE:Nat) (rcE:Nat) (raO:yOA) (rnO:Nat) (rcO:Nat) (raI:yOA) (rnI:Nat) (rcI:Nat) (rxI:List Value) (rFI:yLN),(ip≤ip_∧ip_≤ip+300)∧(RuleDr kk par ⟨cell_,rank_,need_,have_,lack_,here_,out_,into_,melts_⟩)∧v=.agg #[.int .i64 cell_,.int .i64 rank_,.slice raN rnN rcN,.slice raH rnH rcH,.slice raL rnL rcL,.slice raE rnE rcE,.slice raO rnO rcO,.slice raI rnI rcI,.bool melts_]∧Fresh W0.heap.size (rFR :: rFI :: Ns)∧St W0 w' ((.box bs [.slice ac code.length cc,.int .i64 ip_,.int .u64 sd_] 68) :: (.box bY [.int .i64 kk,.slice rap rnp rcp,.slice raR rnR rcR] 27) :: (rr rap rnp rcp 2 1 (par.map (Value.int .i64))) :: (rr raR rnR rcR 49 9 rxR) :: (rr raN rnN rcN 2 1 (need_.map (Value.int .i64))) :: (rr raH rnH rcH 2 1 (have_.map (Value.int .i64))) :: (rr raL rnL rcL 2 1 (lack_.map (Value.int .i64))) :: (rr raE rnE rcE 2 1 (here_.map (Value.int .i64))) :: (rr raO rnO rcO 2 1 (out_.map (Value.int .i64))) :: (rr raI rnI rcI 111 2 rxI) :: ps) ((sF false Fc ac cc code) :: (xB true rFR rxR rules) :: (xB true rFI rxI into_) :: Γ)):=by
 refine en Tryz.func67 Tryz.ntmps67 ?_
 have ncode:=qU (H.get 0 rfl).1
 obtain rfl:=H.jb 2 rfl
 obtain rfl:=H.zO (α:=zK) 3 rfl 1 rfl qj
 have f1:1≤kk∧kk≤8:=f0.1
 have f2:1≤par.length∧par.length≤6:=f0.2.1
 refine zcr (sw (x9 H ti49 [.int .i64 0,.int .i64 0,.slice none 0 0,.slice none 0 0,.slice none 0 0,.slice none 0 0,.slice none 0 0,.slice none 0 0,.bool false] fun b1 w2 H=>zjc (sps [.pointer (some ⟨bY,0,none⟩),.pointer (some ⟨bY,0,none⟩)] (oF rfl (oL rfl (H.cell 2 rfl rfl) (oN rfl (sp (.int .i64 par.length) (zjn (x8 ?_)))))))))
 refine c_cut (fun ρ w13=>∃ (xU:Env) (zi3:Int) (zi4:Int) (zi5:Int) (zl6:yLI) (b7:Nat) (ra8:yOA) (rc9:Nat) (b10:Nat) (b11:Nat) (zi12:Int),ρ=upd (upd (upd (upd (upd xU 0 (.pointer (some ⟨bs,0,none⟩))) 1 (.pointer (some ⟨bY,0,none⟩))) 4 (.pointer (some ⟨b1,0,none⟩))) 5 (.int .i64 par.length)) 6 (.pointer (some ⟨b7,0,none⟩))∧(ip≤zi3∧zi3≤ip+2)∧(0≤zi4∧(zi4 < par.length∨zi4=0))∧(zi3≤zi5∧zi5≤zi3+24)∧(zx kk (2:Int) zl6∧Xc zl6≠0)∧Fresh W0.heap.size (rFR :: Ns)∧St W0 w13 ((.box b7 [.int .i64 zi4,.int .i64 0,.slice ra8 zl6.length rc9,.slice (some ⟨b10,0,none⟩) kk.toNat kk.toNat,.slice (some ⟨b11,0,none⟩) kk.toNat kk.toNat,.slice none 0 0,.slice none 0 0,.slice none 0 0,.bool false] 49) :: (rr (some ⟨b11,0,none⟩) kk.toNat kk.toNat 2 1 ((List.replicate kk.toNat (0:Int)).map (Value.int .i64))) :: (rr (some ⟨b10,0,none⟩) kk.toNat kk.toNat 2 1 ((List.replicate kk.toNat (0:Int)).map (Value.int .i64))) :: (.box bs [.slice ac code.length cc,.int .i64 zi5,.int .u64 zi12] 68) :: (rr ra8 zl6.length rc9 2 1 (zl6.map (Value.int .i64))) :: (.box b1 [.int .i64 0,.int .i64 0,.slice none 0 0,.slice none 0 0,.slice none 0 0,.slice none 0 0,.slice none 0 0,.slice none 0 0,.bool false] 49) :: (.box bY [.int .i64 kk,.slice rap par.length rcp,.slice raR rules.length rcR] 27) :: (rr rap par.length rcp 2 1 (par.map (Value.int .i64))) :: (rr raR rules.length rcR 49 9 rxR) :: ps) ((sF false Fc ac cc code) :: (xB true rFR rxR rules) :: Γ)) ?_ ?_
 ·skip
  refine QZ rfl H [0,2,3,4] [0,1] fun H=>?_
  refine r_have (fun ρ w25=>∃ (xU:Env) (zi15:Int) (zi16:Int) (zi17:Int) (zl18:yLI) (ra19:yOA) (rc20:Nat) (b21:Nat) (b22:Nat) (zi23:Int),ρ=upd (upd (upd (upd (upd (upd (upd (upd xU 0 (.pointer (some ⟨bs,0,none⟩))) 1 (.pointer (some ⟨bY,0,none⟩))) 4 (.pointer (some ⟨b1,0,none⟩))) 5 (.int .i64 par.length)) 15 (.int .i64 zi16)) 21 (.slice ra19 zl18.length rc20)) 26 (.slice (some ⟨b21,0,none⟩) kk.toNat kk.toNat)) 31 (.slice (some ⟨b22,0,none⟩) kk.toNat kk.toNat)∧(ip≤zi15∧zi15≤ip+2)∧(0≤zi16∧(zi16 < par.length∨zi16=0))∧(zi15≤zi17∧zi17≤zi15+24)∧(zx kk (2:Int) zl18∧Xc zl18≠0)∧Fresh W0.heap.size (rFR :: Ns)∧St W0 w25 ((rr (some ⟨b22,0,none⟩) kk.toNat kk.toNat 2 1 ((List.replicate kk.toNat (0:Int)).map (Value.int .i64))) :: (rr (some ⟨b21,0,none⟩) kk.toNat kk.toNat 2 1 ((List.replicate kk.toNat (0:Int)).map (Value.int .i64))) :: (.box bs [.slice ac code.length cc,.int .i64 zi17,.int .u64 zi23] 68) :: (rr ra19 zl18.length rc20 2 1 (zl18.map (Value.int .i64))) :: (.box b1 [.int .i64 0,.int .i64 0,.slice none 0 0,.slice none 0 0,.slice none 0 0,.slice none 0 0,.slice none 0 0,.slice none 0 0,.bool false] 49) :: (.box bY [.int .i64 kk,.slice rap par.length rcp,.slice raR rules.length rcR] 27) :: (rr rap par.length rcp 2 1 (par.map (Value.int .i64))) :: (rr raR rules.length rcR 49 9 rxR) :: ps) ((sF false Fc ac cc code) :: (xB true rFR rxR rules) :: Γ)) 3 #[true,true,true,true,true,true,true,true,true,true,true,true,true,true,true,true,true,true,true,false,false,false] ?_ fun L24=>?_
  ·skip
   rintro ρ w26 ⟨xU,zi15,zi16,zi17,zl18,ra19,rc20,b21,b22,zi23,rfl,hx27,hx28,hx29,hx30,N,H⟩
   refine jd [19,20] qh qm (jI rfl ?_ (jI rfl ?_ je))
   ·skip
    refine jg [.int .i64 zi16,.int .i64 0,.slice ra19 zl18.length rc20,.slice (some ⟨b21,0,none⟩) kk.toNat kk.toNat,.slice (some ⟨b22,0,none⟩) kk.toNat kk.toNat,.slice none 0 0,.slice none 0 0,.slice none 0 0,.bool false] [(0,.int .i64 zi16),(2,.slice ra19 zl18.length rc20),(3,.slice (some ⟨b21,0,none⟩) kk.toNat kk.toNat),(4,.slice (some ⟨b22,0,none⟩) kk.toNat kk.toNat)] (⟨H.pick [4,5,6,7] [0,1],(ro 20 rfl (x9 H ti49 [.int .i64 0,.int .i64 0,.slice none 0 0,.slice none 0 0,.slice none 0 0,.slice none 0 0,.slice none 0 0,.slice none 0 0,.bool false] fun b31 w32 H=>⟨H.pick [5,6,7,8] [0,1],(ro 21 rfl ?_)⟩))⟩)
    refine xP H 0 [.int .i64 zi16,.int .i64 0,.slice ra19 zl18.length rc20,.slice (some ⟨b21,0,none⟩) kk.toNat kk.toNat,.slice (some ⟨b22,0,none⟩) kk.toNat kk.toNat,.slice none 0 0,.slice none 0 0,.slice none 0 0,.bool false] Tryz.sizeOf49 fun w33 H=>?_
    try dsimp only [List.set] at H
    refine ⟨H.pick [5,6,7,8] [0,1],(xH qh ((meet ⟨_,zi15,zi16,zi17,zl18,b31,ra19,rc20,b21,b22,zi23,uE5,hx27,hx28,hx29,hx30,N,H⟩)))⟩
   ·skip
    refine x9 H ti49 [.int .i64 0,.int .i64 0,.slice none 0 0,.slice none 0 0,.slice none 0 0,.slice none 0 0,.slice none 0 0,.slice none 0 0,.bool false] fun b34 w35 H=>⟨H.pick [5,6,7,8] [0,1],(ro 19 rfl (jg [.int .i64 zi16,.int .i64 0,.slice ra19 zl18.length rc20,.slice (some ⟨b21,0,none⟩) kk.toNat kk.toNat,.slice (some ⟨b22,0,none⟩) kk.toNat kk.toNat,.slice none 0 0,.slice none 0 0,.slice none 0 0,.bool false] [(0,.int .i64 zi16),(2,.slice ra19 zl18.length rc20),(3,.slice (some ⟨b21,0,none⟩) kk.toNat kk.toNat),(4,.slice (some ⟨b22,0,none⟩) kk.toNat kk.toNat)] (⟨H.pick [5,6,7,8] [0,1],(ro 21 rfl ?_)⟩)))⟩
    refine xP H 0 [.int .i64 zi16,.int .i64 0,.slice ra19 zl18.length rc20,.slice (some ⟨b21,0,none⟩) kk.toNat kk.toNat,.slice (some ⟨b22,0,none⟩) kk.toNat kk.toNat,.slice none 0 0,.slice none 0 0,.slice none 0 0,.bool false] Tryz.sizeOf49 fun w36 H=>?_
    try dsimp only [List.set] at H
    refine ⟨H.pick [5,6,7,8] [0,1],(xH qh ((meet ⟨_,zi15,zi16,zi17,zl18,b34,ra19,rc20,b21,b22,zi23,uE5,hx27,hx28,hx29,hx30,N,H⟩)))⟩
  refine r_have (fun ρ w46=>∃ (xU:Env) (zi37:Int) (zi38:Int) (zi39:Int) (zl40:yLI) (ra41:yOA) (rc42:Nat) (b43:Nat) (zi44:Int),ρ=upd (upd (upd (upd (upd (upd (upd (upd xU 0 (.pointer (some ⟨bs,0,none⟩))) 1 (.pointer (some ⟨bY,0,none⟩))) 4 (.pointer (some ⟨b1,0,none⟩))) 5 (.int .i64 par.length)) 15 (.int .i64 zi38)) 21 (.slice ra41 zl40.length rc42)) 26 (.slice (some ⟨b43,0,none⟩) kk.toNat kk.toNat)) 30 (.int .i64 kk)∧(ip≤zi37∧zi37≤ip+2)∧(0≤zi38∧(zi38 < par.length∨zi38=0))∧(zi37≤zi39∧zi39≤zi37+24)∧(zx kk (2:Int) zl40∧Xc zl40≠0)∧Fresh W0.heap.size (rFR :: Ns)∧St W0 w46 ((rr (some ⟨b43,0,none⟩) kk.toNat kk.toNat 2 1 ((List.replicate kk.toNat (0:Int)).map (Value.int .i64))) :: (.box bs [.slice ac code.length cc,.int .i64 zi39,.int .u64 zi44] 68) :: (rr ra41 zl40.length rc42 2 1 (zl40.map (Value.int .i64))) :: (.box b1 [.int .i64 0,.int .i64 0,.slice none 0 0,.slice none 0 0,.slice none 0 0,.slice none 0 0,.slice none 0 0,.slice none 0 0,.bool false] 49) :: (.box bY [.int .i64 kk,.slice rap par.length rcp,.slice raR rules.length rcR] 27) :: (rr rap par.length rcp 2 1 (par.map (Value.int .i64))) :: (rr raR rules.length rcR 49 9 rxR) :: ps) ((sF false Fc ac cc code) :: (xB true rFR rxR rules) :: Γ)) 4 #[true,true,true,true,true,true,true,true,true,true,true,true,true,true,true,true,true,true,false,false,false,false] ?_ fun L45=>?_
  ·skip
   rintro ρ w47 ⟨xU,zi37,zi38,zi39,zl40,ra41,rc42,b43,zi44,rfl,hx48,hx49,hx50,hx51,N,H⟩
   refine jd [18,20] qh qm (jI rfl ?_ (jI rfl ?_ je))
   ·skip
    refine jk H Tryz.underlying24 ti2 kk.toNat rfl rfl qf qf qf fun b52 w53 H=>⟨H.pick [4,5,6,7] [0,1],(Qu L24 ⟨_,zi37,zi38,zi39,zl40,ra41,rc42,b43,b52,zi44,uE8,hx48,hx49,hx50,hx51,N,H⟩)⟩
   ·skip
    refine x9 H ti49 [.int .i64 0,.int .i64 0,.slice none 0 0,.slice none 0 0,.slice none 0 0,.slice none 0 0,.slice none 0 0,.slice none 0 0,.bool false] fun b54 w55 H=>⟨H.pick [4,5,6,7] [0,1],(ro 18 rfl (jk H Tryz.underlying24 ti2 kk.toNat rfl rfl qf qf qf fun b56 w57 H=>⟨H.pick [5,6,7,8] [0,1],(ro 19 rfl ?_)⟩))⟩
    refine jg [.int .i64 zi38,.int .i64 0,.slice ra41 zl40.length rc42,.slice (some ⟨b43,0,none⟩) kk.toNat kk.toNat,.slice (some ⟨b56,0,none⟩) kk.toNat kk.toNat,.slice none 0 0,.slice none 0 0,.slice none 0 0,.bool false] [(0,.int .i64 zi38),(2,.slice ra41 zl40.length rc42),(3,.slice (some ⟨b43,0,none⟩) kk.toNat kk.toNat),(4,.slice (some ⟨b56,0,none⟩) kk.toNat kk.toNat)] (⟨H.pick [5,6,7,8] [0,1],(ro 21 rfl ?_)⟩)
    refine xP H 1 [.int .i64 zi38,.int .i64 0,.slice ra41 zl40.length rc42,.slice (some ⟨b43,0,none⟩) kk.toNat kk.toNat,.slice (some ⟨b56,0,none⟩) kk.toNat kk.toNat,.slice none 0 0,.slice none 0 0,.slice none 0 0,.bool false] Tryz.sizeOf49 fun w58 H=>?_
    try dsimp only [List.set] at H
    refine ⟨H.pick [5,6,7,8] [0,1],(xH qh ((meet ⟨_,zi37,zi38,zi39,zl40,b54,ra41,rc42,b43,b56,zi44,uE5,hx48,hx49,hx50,hx51,N,H.zC 9 2 [1,0,2,3,4,5,6,7,8] [0,1] qo qo⟩)))⟩
  refine r_have (fun ρ w68=>∃ (xU:Env) (zi59:Int) (zi60:Int) (zi61:Int) (zl62:yLI) (ra63:yOA) (rc64:Nat) (b65:Nat) (zi66:Int),ρ=upd (upd (upd (upd (upd (upd (upd (upd xU 0 (.pointer (some ⟨bs,0,none⟩))) 1 (.pointer (some ⟨bY,0,none⟩))) 4 (.pointer (some ⟨b1,0,none⟩))) 5 (.int .i64 par.length)) 15 (.int .i64 zi60)) 21 (.slice ra63 zl62.length rc64)) 25 (.int .i64 kk)) 31 (.slice (some ⟨b65,0,none⟩) kk.toNat kk.toNat)∧(ip≤zi59∧zi59≤ip+2)∧(0≤zi60∧(zi60 < par.length∨zi60=0))∧(zi59≤zi61∧zi61≤zi59+24)∧(zx kk (2:Int) zl62∧Xc zl62≠0)∧Fresh W0.heap.size (rFR :: Ns)∧St W0 w68 ((rr (some ⟨b65,0,none⟩) kk.toNat kk.toNat 2 1 ((List.replicate kk.toNat (0:Int)).map (Value.int .i64))) :: (.box bs [.slice ac code.length cc,.int .i64 zi61,.int .u64 zi66] 68) :: (rr ra63 zl62.length rc64 2 1 (zl62.map (Value.int .i64))) :: (.box b1 [.int .i64 0,.int .i64 0,.slice none 0 0,.slice none 0 0,.slice none 0 0,.slice none 0 0,.slice none 0 0,.slice none 0 0,.bool false] 49) :: (.box bY [.int .i64 kk,.slice rap par.length rcp,.slice raR rules.length rcR] 27) :: (rr rap par.length rcp 2 1 (par.map (Value.int .i64))) :: (rr raR rules.length rcR 49 9 rxR) :: ps) ((sF false Fc ac cc code) :: (xB true rFR rxR rules) :: Γ)) 4 #[true,true,true,true,true,true,true,true,true,true,true,true,true,false,true,true,true,true,true,false,false,false] ?_ fun L67=>?_
  ·skip
   rintro ρ w69 ⟨xU,zi59,zi60,zi61,zl62,ra63,rc64,b65,zi66,rfl,hx70,hx71,hx72,hx73,N,H⟩
   refine jd [13,20] qh qm (jI rfl ?_ (jI rfl ?_ je))
   ·skip
    refine jk H Tryz.underlying24 ti2 kk.toNat rfl rfl qf qf qf fun b74 w75 H=>⟨H.pick [4,5,6,7] [0,1],(Qu L24 ⟨_,zi59,zi60,zi61,zl62,ra63,rc64,b74,b65,zi66,uE8,hx70,hx71,hx72,hx73,N,H.zC 8 2 [1,0,2,3,4,5,6,7] [0,1] qo qo⟩)⟩
   ·skip
    refine x9 H ti49 [.int .i64 0,.int .i64 0,.slice none 0 0,.slice none 0 0,.slice none 0 0,.slice none 0 0,.slice none 0 0,.slice none 0 0,.bool false] fun b76 w77 H=>⟨H.pick [4,5,6,7] [0,1],(ro 13 rfl (jk H Tryz.underlying24 ti2 kk.toNat rfl rfl qf qf qf fun b78 w79 H=>⟨H.pick [5,6,7,8] [0,1],(ro 19 rfl ?_)⟩))⟩
    refine jg [.int .i64 zi60,.int .i64 0,.slice ra63 zl62.length rc64,.slice (some ⟨b78,0,none⟩) kk.toNat kk.toNat,.slice (some ⟨b65,0,none⟩) kk.toNat kk.toNat,.slice none 0 0,.slice none 0 0,.slice none 0 0,.bool false] [(0,.int .i64 zi60),(2,.slice ra63 zl62.length rc64),(3,.slice (some ⟨b78,0,none⟩) kk.toNat kk.toNat),(4,.slice (some ⟨b65,0,none⟩) kk.toNat kk.toNat)] (⟨H.pick [5,6,7,8] [0,1],(ro 21 rfl ?_)⟩)
    refine xP H 1 [.int .i64 zi60,.int .i64 0,.slice ra63 zl62.length rc64,.slice (some ⟨b78,0,none⟩) kk.toNat kk.toNat,.slice (some ⟨b65,0,none⟩) kk.toNat kk.toNat,.slice none 0 0,.slice none 0 0,.slice none 0 0,.bool false] Tryz.sizeOf49 fun w80 H=>?_
    try dsimp only [List.set] at H
    refine ⟨H.pick [5,6,7,8] [0,1],(xH qh ((meet ⟨_,zi59,zi60,zi61,zl62,b76,ra63,rc64,b78,b65,zi66,uE5,hx70,hx71,hx72,hx73,N,H.zC 9 2 [1,2,0,3,4,5,6,7,8] [0,1] qo qo⟩)))⟩
  refine r_have (fun ρ w90=>∃ (xU:Env) (zi81:Int) (zi82:Int) (zi83:Int) (zl84:yLI) (ra85:yOA) (rc86:Nat) (b87:Nat) (zi88:Int),ρ=upd (upd (upd (upd (upd (upd (upd (upd (upd xU 0 (.pointer (some ⟨bs,0,none⟩))) 1 (.pointer (some ⟨bY,0,none⟩))) 4 (.pointer (some ⟨b1,0,none⟩))) 5 (.int .i64 par.length)) 6 (.pointer (some ⟨b87,0,none⟩))) 15 (.int .i64 zi82)) 21 (.slice ra85 zl84.length rc86)) 25 (.int .i64 kk)) 30 (.int .i64 kk)∧(ip≤zi81∧zi81≤ip+2)∧(0≤zi82∧(zi82 < par.length∨zi82=0))∧(zi81≤zi83∧zi83≤zi81+24)∧(zx kk (2:Int) zl84∧Xc zl84≠0)∧Fresh W0.heap.size (rFR :: Ns)∧St W0 w90 ((.box b87 [.int .i64 0,.int .i64 0,.slice none 0 0,.slice none 0 0,.slice none 0 0,.slice none 0 0,.slice none 0 0,.slice none 0 0,.bool false] 49) :: (.box bs [.slice ac code.length cc,.int .i64 zi83,.int .u64 zi88] 68) :: (rr ra85 zl84.length rc86 2 1 (zl84.map (Value.int .i64))) :: (.box b1 [.int .i64 0,.int .i64 0,.slice none 0 0,.slice none 0 0,.slice none 0 0,.slice none 0 0,.slice none 0 0,.slice none 0 0,.bool false] 49) :: (.box bY [.int .i64 kk,.slice rap par.length rcp,.slice raR rules.length rcR] 27) :: (rr rap par.length rcp 2 1 (par.map (Value.int .i64))) :: (rr raR rules.length rcR 49 9 rxR) :: ps) ((sF false Fc ac cc code) :: (xB true rFR rxR rules) :: Γ)) 4 #[true,true,true,true,true,true,true,true,true,true,true,true,true,false,true,true,true,true,false,false,true,false] ?_ fun L89=>?_
  ·skip
   rintro ρ w91 ⟨xU,zi81,zi82,zi83,zl84,ra85,rc86,b87,zi88,rfl,hx92,hx93,hx94,hx95,N,H⟩
   refine jd [13,18] qh qm (jI rfl ?_ (jI rfl ?_ je))
   ·skip
    refine jk H Tryz.underlying24 ti2 kk.toNat rfl rfl qf qf qf fun b96 w97 H=>⟨H.pick [4,5,6,7] [0,1],(ro 18 rfl (jk H Tryz.underlying24 ti2 kk.toNat rfl rfl qf qf qf fun b98 w99 H=>⟨H.pick [5,6,7,8] [0,1],(ro 19 rfl (jg [.int .i64 zi82,.int .i64 0,.slice ra85 zl84.length rc86,.slice (some ⟨b96,0,none⟩) kk.toNat kk.toNat,.slice (some ⟨b98,0,none⟩) kk.toNat kk.toNat,.slice none 0 0,.slice none 0 0,.slice none 0 0,.bool false] [(0,.int .i64 zi82),(2,.slice ra85 zl84.length rc86),(3,.slice (some ⟨b96,0,none⟩) kk.toNat kk.toNat),(4,.slice (some ⟨b98,0,none⟩) kk.toNat kk.toNat)] ?_))⟩))⟩
    refine ⟨H.pick [5,6,7,8] [0,1],(ro 21 rfl (xP H 2 [.int .i64 zi82,.int .i64 0,.slice ra85 zl84.length rc86,.slice (some ⟨b96,0,none⟩) kk.toNat kk.toNat,.slice (some ⟨b98,0,none⟩) kk.toNat kk.toNat,.slice none 0 0,.slice none 0 0,.slice none 0 0,.bool false] Tryz.sizeOf49 fun w100 H=>?_))⟩
    try dsimp only [List.set] at H
    refine ⟨H.pick [5,6,7,8] [0,1],(xH qh ((meet ⟨_,zi81,zi82,zi83,zl84,b87,ra85,rc86,b96,b98,zi88,uE5,hx92,hx93,hx94,hx95,N,H.zC 9 2 [2,0,1,3,4,5,6,7,8] [0,1] qo qo⟩)))⟩
   ·skip
    refine jk H Tryz.underlying24 ti2 kk.toNat rfl rfl qf qf qf fun b101 w102 H=>⟨H.pick [4,5,6,7] [0,1],(ro 13 rfl (jk H Tryz.underlying24 ti2 kk.toNat rfl rfl qf qf qf fun b103 w104 H=>⟨H.pick [5,6,7,8] [0,1],(ro 19 rfl (jg [.int .i64 zi82,.int .i64 0,.slice ra85 zl84.length rc86,.slice (some ⟨b103,0,none⟩) kk.toNat kk.toNat,.slice (some ⟨b101,0,none⟩) kk.toNat kk.toNat,.slice none 0 0,.slice none 0 0,.slice none 0 0,.bool false] [(0,.int .i64 zi82),(2,.slice ra85 zl84.length rc86),(3,.slice (some ⟨b103,0,none⟩) kk.toNat kk.toNat),(4,.slice (some ⟨b101,0,none⟩) kk.toNat kk.toNat)] ?_))⟩))⟩
    refine ⟨H.pick [5,6,7,8] [0,1],(ro 21 rfl (xP H 2 [.int .i64 zi82,.int .i64 0,.slice ra85 zl84.length rc86,.slice (some ⟨b103,0,none⟩) kk.toNat kk.toNat,.slice (some ⟨b101,0,none⟩) kk.toNat kk.toNat,.slice none 0 0,.slice none 0 0,.slice none 0 0,.bool false] Tryz.sizeOf49 fun w105 H=>?_))⟩
    try dsimp only [List.set] at H
    refine ⟨H.pick [5,6,7,8] [0,1],(xH qh ((meet ⟨_,zi81,zi82,zi83,zl84,b87,ra85,rc86,b103,b101,zi88,uE5,hx92,hx93,hx94,hx95,N,H.zC 9 2 [2,1,0,3,4,5,6,7,8] [0,1] qo qo⟩)))⟩
  refine r_have (fun ρ w112=>∃ (xU:Env) (zi106:Int) (zi107:Int) (b108:Nat) (b109:Nat) (zi110:Int),ρ=upd (upd (upd (upd (upd (upd (upd (upd (upd xU 0 (.pointer (some ⟨bs,0,none⟩))) 1 (.pointer (some ⟨bY,0,none⟩))) 4 (.pointer (some ⟨b1,0,none⟩))) 5 (.int .i64 par.length)) 15 (.int .i64 zi107)) 16 (.pointer (some ⟨bs,0,none⟩))) 20 (.int .i64 kk)) 26 (.slice (some ⟨b108,0,none⟩) kk.toNat kk.toNat)) 31 (.slice (some ⟨b109,0,none⟩) kk.toNat kk.toNat)∧(ip≤zi106∧zi106≤ip+2)∧(0≤zi107∧(zi107 < par.length∨zi107=0))∧Fresh W0.heap.size (rFR :: Ns)∧St W0 w112 ((rr (some ⟨b109,0,none⟩) kk.toNat kk.toNat 2 1 ((List.replicate kk.toNat (0:Int)).map (Value.int .i64))) :: (rr (some ⟨b108,0,none⟩) kk.toNat kk.toNat 2 1 ((List.replicate kk.toNat (0:Int)).map (Value.int .i64))) :: (.box bs [.slice ac code.length cc,.int .i64 zi106,.int .u64 zi110] 68) :: (.box b1 [.int .i64 0,.int .i64 0,.slice none 0 0,.slice none 0 0,.slice none 0 0,.slice none 0 0,.slice none 0 0,.slice none 0 0,.bool false] 49) :: (.box bY [.int .i64 kk,.slice rap par.length rcp,.slice raR rules.length rcR] 27) :: (rr rap par.length rcp 2 1 (par.map (Value.int .i64))) :: (rr raR rules.length rcR 49 9 rxR) :: ps) ((sF false Fc ac cc code) :: (xB true rFR rxR rules) :: Γ)) 4 #[true,true,true,true,true,true,true,true,false,true,true,true,true,true,true,true,true,true,true,false,false,false] ?_ fun L111=>?_
  ·skip
   rintro ρ w113 ⟨xU,zi106,zi107,b108,b109,zi110,rfl,hx114,hx115,N,H⟩
   refine jd [8,20] qh qm (jI rfl ?_ (jI rfl ?_ je))
   ·skip
    have H1:=H.jv 7 2 [2,0,1,3,4,5,6] [0,1] qo qo
    have N1:Fresh _ (rFR :: Ns):=N
    have K1:Kept (Ns) ((xB true rFR rxR rules) :: Γ):=K0.behind 1 rfl
    replace K1:=K1.cons (F:=rFR) 0 rfl rfl
    refine zg #[.pointer (some ⟨bs,0,none⟩),.int .i64 kk,.int .i64 2] rfl rfl Tryz.call92 (yV code zi106 zi110 bs ac cc Fc kk (2:Int) H1 N1 K1 qg qg qg) ?_
    clear H H1 N1 K1
    rintro _ w116 ⟨zi120,zi121,zl122,ra123,rn124,rc125,hx118,hx119,rfl,N,H⟩
    obtain rfl:=H.jb 1 rfl
    refine ⟨H.pick [4,5,6,7] [0,1],(Qu L24 ⟨_,zi106,zi107,zi120,zl122,ra123,rc125,b108,b109,zi121,uE8,hx114,hx115,hx118,hx119,N,H.zC 8 2 [2,3,0,1,4,5,6,7] [0,1] qo qo⟩)⟩
   ·skip
    refine x9 H ti49 [.int .i64 0,.int .i64 0,.slice none 0 0,.slice none 0 0,.slice none 0 0,.slice none 0 0,.slice none 0 0,.slice none 0 0,.bool false] fun b126 w127 H=>⟨H.pick [4,5,6,7] [0,1],(ro 8 rfl ?_)⟩
    have H1:=H.jv 8 2 [3,0,1,2,4,5,6,7] [0,1] qo qo
    have N1:Fresh _ (rFR :: Ns):=N
    have K1:Kept (Ns) ((xB true rFR rxR rules) :: Γ):=K0.behind 1 rfl
    replace K1:=K1.cons (F:=rFR) 0 rfl rfl
    refine zg #[.pointer (some ⟨bs,0,none⟩),.int .i64 kk,.int .i64 2] rfl rfl Tryz.call92 (yV code zi106 zi110 bs ac cc Fc kk (2:Int) H1 N1 K1 qg qg qg) ?_
    clear H H1 N1 K1
    rintro _ w128 ⟨zi132,zi133,zl134,ra135,rn136,rc137,hx130,hx131,rfl,N,H⟩
    obtain rfl:=H.jb 1 rfl
    refine ⟨H.pick [5,6,7,8] [0,1],(ro 19 rfl (jg [.int .i64 zi107,.int .i64 0,.slice ra135 zl134.length rc137,.slice (some ⟨b108,0,none⟩) kk.toNat kk.toNat,.slice (some ⟨b109,0,none⟩) kk.toNat kk.toNat,.slice none 0 0,.slice none 0 0,.slice none 0 0,.bool false] [(0,.int .i64 zi107),(2,.slice ra135 zl134.length rc137),(3,.slice (some ⟨b108,0,none⟩) kk.toNat kk.toNat),(4,.slice (some ⟨b109,0,none⟩) kk.toNat kk.toNat)] (⟨H.pick [5,6,7,8] [0,1],(ro 21 rfl ?_)⟩)))⟩
    refine xP H 2 [.int .i64 zi107,.int .i64 0,.slice ra135 zl134.length rc137,.slice (some ⟨b108,0,none⟩) kk.toNat kk.toNat,.slice (some ⟨b109,0,none⟩) kk.toNat kk.toNat,.slice none 0 0,.slice none 0 0,.slice none 0 0,.bool false] Tryz.sizeOf49 fun w138 H=>?_
    try dsimp only [List.set] at H
    refine ⟨H.pick [5,6,7,8] [0,1],(xH qh ((meet ⟨_,zi106,zi107,zi132,zl134,b126,ra135,rc137,b108,b109,zi133,uE5,hx114,hx115,hx130,hx131,N,H.zC 9 2 [2,3,4,0,1,5,6,7,8] [0,1] qo qo⟩)))⟩
  refine r_have (fun ρ w145=>∃ (xU:Env) (zi139:Int) (zi140:Int) (b141:Nat) (b142:Nat) (zi143:Int),ρ=upd (upd (upd (upd (upd (upd (upd (upd (upd (upd xU 0 (.pointer (some ⟨bs,0,none⟩))) 1 (.pointer (some ⟨bY,0,none⟩))) 4 (.pointer (some ⟨b1,0,none⟩))) 5 (.int .i64 par.length)) 6 (.pointer (some ⟨b142,0,none⟩))) 15 (.int .i64 zi140)) 16 (.pointer (some ⟨bs,0,none⟩))) 20 (.int .i64 kk)) 26 (.slice (some ⟨b141,0,none⟩) kk.toNat kk.toNat)) 30 (.int .i64 kk)∧(ip≤zi139∧zi139≤ip+2)∧(0≤zi140∧(zi140 < par.length∨zi140=0))∧Fresh W0.heap.size (rFR :: Ns)∧St W0 w145 ((.box b142 [.int .i64 0,.int .i64 0,.slice none 0 0,.slice none 0 0,.slice none 0 0,.slice none 0 0,.slice none 0 0,.slice none 0 0,.bool false] 49) :: (rr (some ⟨b141,0,none⟩) kk.toNat kk.toNat 2 1 ((List.replicate kk.toNat (0:Int)).map (Value.int .i64))) :: (.box bs [.slice ac code.length cc,.int .i64 zi139,.int .u64 zi143] 68) :: (.box b1 [.int .i64 0,.int .i64 0,.slice none 0 0,.slice none 0 0,.slice none 0 0,.slice none 0 0,.slice none 0 0,.slice none 0 0,.bool false] 49) :: (.box bY [.int .i64 kk,.slice rap par.length rcp,.slice raR rules.length rcR] 27) :: (rr rap par.length rcp 2 1 (par.map (Value.int .i64))) :: (rr raR rules.length rcR 49 9 rxR) :: ps) ((sF false Fc ac cc code) :: (xB true rFR rxR rules) :: Γ)) 4 #[true,true,true,true,true,true,true,true,false,true,true,true,true,true,true,true,true,true,false,false,true,false] ?_ fun L144=>?_
  ·skip
   rintro ρ w146 ⟨xU,zi139,zi140,b141,b142,zi143,rfl,hx147,hx148,N,H⟩
   refine jd [8,18] qh qm (jI rfl ?_ (jI rfl ?_ je))
   ·skip
    have H1:=H.jv 7 2 [2,0,1,3,4,5,6] [0,1] qo qo
    have N1:Fresh _ (rFR :: Ns):=N
    have K1:Kept (Ns) ((xB true rFR rxR rules) :: Γ):=K0.behind 1 rfl
    replace K1:=K1.cons (F:=rFR) 0 rfl rfl
    refine zg #[.pointer (some ⟨bs,0,none⟩),.int .i64 kk,.int .i64 2] rfl rfl Tryz.call92 (yV code zi139 zi143 bs ac cc Fc kk (2:Int) H1 N1 K1 qg qg qg) ?_
    clear H H1 N1 K1
    rintro _ w149 ⟨zi153,zi154,zl155,ra156,rn157,rc158,hx151,hx152,rfl,N,H⟩
    obtain rfl:=H.jb 1 rfl
    refine ⟨H.pick [4,5,6,7] [0,1],(ro 18 rfl (jk H Tryz.underlying24 ti2 kk.toNat rfl rfl qf qf qf fun b159 w160 H=>⟨H.pick [5,6,7,8] [0,1],(ro 19 rfl (jg [.int .i64 zi140,.int .i64 0,.slice ra156 zl155.length rc158,.slice (some ⟨b141,0,none⟩) kk.toNat kk.toNat,.slice (some ⟨b159,0,none⟩) kk.toNat kk.toNat,.slice none 0 0,.slice none 0 0,.slice none 0 0,.bool false] [(0,.int .i64 zi140),(2,.slice ra156 zl155.length rc158),(3,.slice (some ⟨b141,0,none⟩) kk.toNat kk.toNat),(4,.slice (some ⟨b159,0,none⟩) kk.toNat kk.toNat)] (⟨H.pick [5,6,7,8] [0,1],(ro 21 rfl ?_)⟩)))⟩))⟩
    refine xP H 3 [.int .i64 zi140,.int .i64 0,.slice ra156 zl155.length rc158,.slice (some ⟨b141,0,none⟩) kk.toNat kk.toNat,.slice (some ⟨b159,0,none⟩) kk.toNat kk.toNat,.slice none 0 0,.slice none 0 0,.slice none 0 0,.bool false] Tryz.sizeOf49 fun w161 H=>?_
    try dsimp only [List.set] at H
    refine ⟨H.pick [5,6,7,8] [0,1],(xH qh ((meet ⟨_,zi139,zi140,zi153,zl155,b142,ra156,rc158,b141,b159,zi154,uE5,hx147,hx148,hx151,hx152,N,H.zC 9 2 [3,0,4,1,2,5,6,7,8] [0,1] qo qo⟩)))⟩
   ·skip
    refine jk H Tryz.underlying24 ti2 kk.toNat rfl rfl qf qf qf fun b162 w163 H=>⟨H.pick [4,5,6,7] [0,1],(ro 8 rfl ?_)⟩
    have H1:=H.jv 8 2 [3,0,1,2,4,5,6,7] [0,1] qo qo
    have N1:Fresh _ (rFR :: Ns):=N
    have K1:Kept (Ns) ((xB true rFR rxR rules) :: Γ):=K0.behind 1 rfl
    replace K1:=K1.cons (F:=rFR) 0 rfl rfl
    refine zg #[.pointer (some ⟨bs,0,none⟩),.int .i64 kk,.int .i64 2] rfl rfl Tryz.call92 (yV code zi139 zi143 bs ac cc Fc kk (2:Int) H1 N1 K1 qg qg qg) ?_
    clear H H1 N1 K1
    rintro _ w164 ⟨zi168,zi169,zl170,ra171,rn172,rc173,hx166,hx167,rfl,N,H⟩
    obtain rfl:=H.jb 1 rfl
    refine ⟨H.pick [5,6,7,8] [0,1],(ro 19 rfl (jg [.int .i64 zi140,.int .i64 0,.slice ra171 zl170.length rc173,.slice (some ⟨b141,0,none⟩) kk.toNat kk.toNat,.slice (some ⟨b162,0,none⟩) kk.toNat kk.toNat,.slice none 0 0,.slice none 0 0,.slice none 0 0,.bool false] [(0,.int .i64 zi140),(2,.slice ra171 zl170.length rc173),(3,.slice (some ⟨b141,0,none⟩) kk.toNat kk.toNat),(4,.slice (some ⟨b162,0,none⟩) kk.toNat kk.toNat)] (⟨H.pick [5,6,7,8] [0,1],(ro 21 rfl ?_)⟩)))⟩
    refine xP H 3 [.int .i64 zi140,.int .i64 0,.slice ra171 zl170.length rc173,.slice (some ⟨b141,0,none⟩) kk.toNat kk.toNat,.slice (some ⟨b162,0,none⟩) kk.toNat kk.toNat,.slice none 0 0,.slice none 0 0,.slice none 0 0,.bool false] Tryz.sizeOf49 fun w174 H=>?_
    try dsimp only [List.set] at H
    refine ⟨H.pick [5,6,7,8] [0,1],(xH qh ((meet ⟨_,zi139,zi140,zi168,zl170,b142,ra171,rc173,b141,b162,zi169,uE5,hx147,hx148,hx166,hx167,N,H.zC 9 2 [3,2,4,0,1,5,6,7,8] [0,1] qo qo⟩)))⟩
  refine r_have (fun ρ w181=>∃ (xU:Env) (zi175:Int) (zi176:Int) (b177:Nat) (b178:Nat) (zi179:Int),ρ=upd (upd (upd (upd (upd (upd (upd (upd (upd (upd xU 0 (.pointer (some ⟨bs,0,none⟩))) 1 (.pointer (some ⟨bY,0,none⟩))) 4 (.pointer (some ⟨b1,0,none⟩))) 5 (.int .i64 par.length)) 6 (.pointer (some ⟨b178,0,none⟩))) 15 (.int .i64 zi176)) 16 (.pointer (some ⟨bs,0,none⟩))) 20 (.int .i64 kk)) 25 (.int .i64 kk)) 31 (.slice (some ⟨b177,0,none⟩) kk.toNat kk.toNat)∧(ip≤zi175∧zi175≤ip+2)∧(0≤zi176∧(zi176 < par.length∨zi176=0))∧Fresh W0.heap.size (rFR :: Ns)∧St W0 w181 ((.box b178 [.int .i64 0,.int .i64 0,.slice none 0 0,.slice none 0 0,.slice none 0 0,.slice none 0 0,.slice none 0 0,.slice none 0 0,.bool false] 49) :: (rr (some ⟨b177,0,none⟩) kk.toNat kk.toNat 2 1 ((List.replicate kk.toNat (0:Int)).map (Value.int .i64))) :: (.box bs [.slice ac code.length cc,.int .i64 zi175,.int .u64 zi179] 68) :: (.box b1 [.int .i64 0,.int .i64 0,.slice none 0 0,.slice none 0 0,.slice none 0 0,.slice none 0 0,.slice none 0 0,.slice none 0 0,.bool false] 49) :: (.box bY [.int .i64 kk,.slice rap par.length rcp,.slice raR rules.length rcR] 27) :: (rr rap par.length rcp 2 1 (par.map (Value.int .i64))) :: (rr raR rules.length rcR 49 9 rxR) :: ps) ((sF false Fc ac cc code) :: (xB true rFR rxR rules) :: Γ)) 4 #[true,true,true,true,true,true,true,true,false,true,true,true,true,false,true,true,true,true,true,false,true,false] ?_ fun L180=>?_
  ·skip
   rintro ρ w182 ⟨xU,zi175,zi176,b177,b178,zi179,rfl,hx183,hx184,N,H⟩
   refine jd [8,13] qh qm (jI rfl ?_ (jI rfl ?_ je))
   ·skip
    have H1:=H.jv 7 2 [2,0,1,3,4,5,6] [0,1] qo qo
    have N1:Fresh _ (rFR :: Ns):=N
    have K1:Kept (Ns) ((xB true rFR rxR rules) :: Γ):=K0.behind 1 rfl
    replace K1:=K1.cons (F:=rFR) 0 rfl rfl
    refine zg #[.pointer (some ⟨bs,0,none⟩),.int .i64 kk,.int .i64 2] rfl rfl Tryz.call92 (yV code zi175 zi179 bs ac cc Fc kk (2:Int) H1 N1 K1 qg qg qg) ?_
    clear H H1 N1 K1
    rintro _ w185 ⟨zi189,zi190,zl191,ra192,rn193,rc194,hx187,hx188,rfl,N,H⟩
    obtain rfl:=H.jb 1 rfl
    refine ⟨H.pick [4,5,6,7] [0,1],(ro 13 rfl (jk H Tryz.underlying24 ti2 kk.toNat rfl rfl qf qf qf fun b195 w196 H=>⟨H.pick [5,6,7,8] [0,1],(ro 19 rfl (jg [.int .i64 zi176,.int .i64 0,.slice ra192 zl191.length rc194,.slice (some ⟨b195,0,none⟩) kk.toNat kk.toNat,.slice (some ⟨b177,0,none⟩) kk.toNat kk.toNat,.slice none 0 0,.slice none 0 0,.slice none 0 0,.bool false] [(0,.int .i64 zi176),(2,.slice ra192 zl191.length rc194),(3,.slice (some ⟨b195,0,none⟩) kk.toNat kk.toNat),(4,.slice (some ⟨b177,0,none⟩) kk.toNat kk.toNat)] (⟨H.pick [5,6,7,8] [0,1],(ro 21 rfl ?_)⟩)))⟩))⟩
    refine xP H 3 [.int .i64 zi176,.int .i64 0,.slice ra192 zl191.length rc194,.slice (some ⟨b195,0,none⟩) kk.toNat kk.toNat,.slice (some ⟨b177,0,none⟩) kk.toNat kk.toNat,.slice none 0 0,.slice none 0 0,.slice none 0 0,.bool false] Tryz.sizeOf49 fun w197 H=>?_
    try dsimp only [List.set] at H
    refine ⟨H.pick [5,6,7,8] [0,1],(xH qh ((meet ⟨_,zi175,zi176,zi189,zl191,b178,ra192,rc194,b195,b177,zi190,uE5,hx183,hx184,hx187,hx188,N,H.zC 9 2 [3,4,0,1,2,5,6,7,8] [0,1] qo qo⟩)))⟩
   ·skip
    refine jk H Tryz.underlying24 ti2 kk.toNat rfl rfl qf qf qf fun b198 w199 H=>⟨H.pick [4,5,6,7] [0,1],(ro 8 rfl ?_)⟩
    have H1:=H.jv 8 2 [3,0,1,2,4,5,6,7] [0,1] qo qo
    have N1:Fresh _ (rFR :: Ns):=N
    have K1:Kept (Ns) ((xB true rFR rxR rules) :: Γ):=K0.behind 1 rfl
    replace K1:=K1.cons (F:=rFR) 0 rfl rfl
    refine zg #[.pointer (some ⟨bs,0,none⟩),.int .i64 kk,.int .i64 2] rfl rfl Tryz.call92 (yV code zi175 zi179 bs ac cc Fc kk (2:Int) H1 N1 K1 qg qg qg) ?_
    clear H H1 N1 K1
    rintro _ w200 ⟨zi204,zi205,zl206,ra207,rn208,rc209,hx202,hx203,rfl,N,H⟩
    obtain rfl:=H.jb 1 rfl
    refine ⟨H.pick [5,6,7,8] [0,1],(ro 19 rfl (jg [.int .i64 zi176,.int .i64 0,.slice ra207 zl206.length rc209,.slice (some ⟨b198,0,none⟩) kk.toNat kk.toNat,.slice (some ⟨b177,0,none⟩) kk.toNat kk.toNat,.slice none 0 0,.slice none 0 0,.slice none 0 0,.bool false] [(0,.int .i64 zi176),(2,.slice ra207 zl206.length rc209),(3,.slice (some ⟨b198,0,none⟩) kk.toNat kk.toNat),(4,.slice (some ⟨b177,0,none⟩) kk.toNat kk.toNat)] (⟨H.pick [5,6,7,8] [0,1],(ro 21 rfl ?_)⟩)))⟩
    refine xP H 3 [.int .i64 zi176,.int .i64 0,.slice ra207 zl206.length rc209,.slice (some ⟨b198,0,none⟩) kk.toNat kk.toNat,.slice (some ⟨b177,0,none⟩) kk.toNat kk.toNat,.slice none 0 0,.slice none 0 0,.slice none 0 0,.bool false] Tryz.sizeOf49 fun w210 H=>?_
    try dsimp only [List.set] at H
    refine ⟨H.pick [5,6,7,8] [0,1],(xH qh ((meet ⟨_,zi175,zi176,zi204,zl206,b178,ra207,rc209,b198,b177,zi205,uE5,hx183,hx184,hx202,hx203,N,H.zC 9 2 [3,4,2,0,1,5,6,7,8] [0,1] qo qo⟩)))⟩
  refine r_have (fun ρ w216=>∃ (xU:Env) (zi211:Int) (zi212:Int) (b213:Nat) (zi214:Int),ρ=upd (upd (upd (upd (upd (upd (upd (upd (upd xU 0 (.pointer (some ⟨bs,0,none⟩))) 1 (.pointer (some ⟨bY,0,none⟩))) 4 (.pointer (some ⟨b1,0,none⟩))) 5 (.int .i64 par.length)) 15 (.int .i64 zi212)) 16 (.pointer (some ⟨bs,0,none⟩))) 20 (.int .i64 kk)) 26 (.slice (some ⟨b213,0,none⟩) kk.toNat kk.toNat)) 30 (.int .i64 kk)∧(ip≤zi211∧zi211≤ip+2)∧(0≤zi212∧(zi212 < par.length∨zi212=0))∧Fresh W0.heap.size (rFR :: Ns)∧St W0 w216 ((rr (some ⟨b213,0,none⟩) kk.toNat kk.toNat 2 1 ((List.replicate kk.toNat (0:Int)).map (Value.int .i64))) :: (.box bs [.slice ac code.length cc,.int .i64 zi211,.int .u64 zi214] 68) :: (.box b1 [.int .i64 0,.int .i64 0,.slice none 0 0,.slice none 0 0,.slice none 0 0,.slice none 0 0,.slice none 0 0,.slice none 0 0,.bool false] 49) :: (.box bY [.int .i64 kk,.slice rap par.length rcp,.slice raR rules.length rcR] 27) :: (rr rap par.length rcp 2 1 (par.map (Value.int .i64))) :: (rr raR rules.length rcR 49 9 rxR) :: ps) ((sF false Fc ac cc code) :: (xB true rFR rxR rules) :: Γ)) 5 #[true,true,true,true,true,true,true,true,false,true,true,true,true,true,true,true,true,true,false,false,false,false] ?_ fun L215=>?_
  ·skip
   rintro ρ w217 ⟨xU,zi211,zi212,b213,zi214,rfl,hx218,hx219,N,H⟩
   refine jd [8,18,20] qh qm (jI rfl ?_ (jI rfl ?_ (jI rfl ?_ je)))
   ·skip
    have H1:=H.jv 6 2 [1,0,2,3,4,5] [0,1] qo qo
    have N1:Fresh _ (rFR :: Ns):=N
    have K1:Kept (Ns) ((xB true rFR rxR rules) :: Γ):=K0.behind 1 rfl
    replace K1:=K1.cons (F:=rFR) 0 rfl rfl
    refine zg #[.pointer (some ⟨bs,0,none⟩),.int .i64 kk,.int .i64 2] rfl rfl Tryz.call92 (yV code zi211 zi214 bs ac cc Fc kk (2:Int) H1 N1 K1 qg qg qg) ?_
    clear H H1 N1 K1
    rintro _ w220 ⟨zi224,zi225,zl226,ra227,rn228,rc229,hx222,hx223,rfl,N,H⟩
    obtain rfl:=H.jb 1 rfl
    refine ⟨H.pick [3,4,5,6] [0,1],(Qu L45 ⟨_,zi211,zi212,zi224,zl226,ra227,rc229,b213,zi225,uE8,hx218,hx219,hx222,hx223,N,H.zC 7 2 [2,0,1,3,4,5,6] [0,1] qo qo⟩)⟩
   ·skip
    refine jk H Tryz.underlying24 ti2 kk.toNat rfl rfl qf qf qf fun b230 w231 H=>⟨H.pick [3,4,5,6] [0,1],(Qu L111 ⟨_,zi211,zi212,b213,b230,zi214,uE9,hx218,hx219,N,H⟩)⟩
   ·skip
    refine x9 H ti49 [.int .i64 0,.int .i64 0,.slice none 0 0,.slice none 0 0,.slice none 0 0,.slice none 0 0,.slice none 0 0,.slice none 0 0,.bool false] fun b232 w233 H=>⟨H.pick [3,4,5,6] [0,1],(Qu L144 ⟨_,zi211,zi212,b213,b232,zi214,uE10,hx218,hx219,N,H⟩)⟩
  refine r_have (fun ρ w239=>∃ (xU:Env) (zi234:Int) (zi235:Int) (b236:Nat) (zi237:Int),ρ=upd (upd (upd (upd (upd (upd (upd (upd (upd xU 0 (.pointer (some ⟨bs,0,none⟩))) 1 (.pointer (some ⟨bY,0,none⟩))) 4 (.pointer (some ⟨b1,0,none⟩))) 5 (.int .i64 par.length)) 15 (.int .i64 zi235)) 16 (.pointer (some ⟨bs,0,none⟩))) 20 (.int .i64 kk)) 25 (.int .i64 kk)) 31 (.slice (some ⟨b236,0,none⟩) kk.toNat kk.toNat)∧(ip≤zi234∧zi234≤ip+2)∧(0≤zi235∧(zi235 < par.length∨zi235=0))∧Fresh W0.heap.size (rFR :: Ns)∧St W0 w239 ((rr (some ⟨b236,0,none⟩) kk.toNat kk.toNat 2 1 ((List.replicate kk.toNat (0:Int)).map (Value.int .i64))) :: (.box bs [.slice ac code.length cc,.int .i64 zi234,.int .u64 zi237] 68) :: (.box b1 [.int .i64 0,.int .i64 0,.slice none 0 0,.slice none 0 0,.slice none 0 0,.slice none 0 0,.slice none 0 0,.slice none 0 0,.bool false] 49) :: (.box bY [.int .i64 kk,.slice rap par.length rcp,.slice raR rules.length rcR] 27) :: (rr rap par.length rcp 2 1 (par.map (Value.int .i64))) :: (rr raR rules.length rcR 49 9 rxR) :: ps) ((sF false Fc ac cc code) :: (xB true rFR rxR rules) :: Γ)) 5 #[true,true,true,true,true,true,true,true,false,true,true,true,true,false,true,true,true,true,true,false,false,false] ?_ fun L238=>?_
  ·skip
   rintro ρ w240 ⟨xU,zi234,zi235,b236,zi237,rfl,hx241,hx242,N,H⟩
   refine jd [8,13,20] qh qm (jI rfl ?_ (jI rfl ?_ (jI rfl ?_ je)))
   ·skip
    have H1:=H.jv 6 2 [1,0,2,3,4,5] [0,1] qo qo
    have N1:Fresh _ (rFR :: Ns):=N
    have K1:Kept (Ns) ((xB true rFR rxR rules) :: Γ):=K0.behind 1 rfl
    replace K1:=K1.cons (F:=rFR) 0 rfl rfl
    refine zg #[.pointer (some ⟨bs,0,none⟩),.int .i64 kk,.int .i64 2] rfl rfl Tryz.call92 (yV code zi234 zi237 bs ac cc Fc kk (2:Int) H1 N1 K1 qg qg qg) ?_
    clear H H1 N1 K1
    rintro _ w243 ⟨zi247,zi248,zl249,ra250,rn251,rc252,hx245,hx246,rfl,N,H⟩
    obtain rfl:=H.jb 1 rfl
    refine ⟨H.pick [3,4,5,6] [0,1],(Qu L67 ⟨_,zi234,zi235,zi247,zl249,ra250,rc252,b236,zi248,uE8,hx241,hx242,hx245,hx246,N,H.zC 7 2 [2,0,1,3,4,5,6] [0,1] qo qo⟩)⟩
   ·skip
    refine jk H Tryz.underlying24 ti2 kk.toNat rfl rfl qf qf qf fun b253 w254 H=>⟨H.pick [3,4,5,6] [0,1],(Qu L111 ⟨_,zi234,zi235,b253,b236,zi237,uE9,hx241,hx242,N,H.zC 7 2 [1,0,2,3,4,5,6] [0,1] qo qo⟩)⟩
   ·skip
    refine x9 H ti49 [.int .i64 0,.int .i64 0,.slice none 0 0,.slice none 0 0,.slice none 0 0,.slice none 0 0,.slice none 0 0,.slice none 0 0,.bool false] fun b255 w256 H=>⟨H.pick [3,4,5,6] [0,1],(Qu L180 ⟨_,zi234,zi235,b236,b255,zi237,uE10,hx241,hx242,N,H⟩)⟩
  refine r_have (fun ρ w262=>∃ (xU:Env) (zi257:Int) (zi258:Int) (b259:Nat) (zi260:Int),ρ=upd (upd (upd (upd (upd (upd (upd (upd (upd (upd xU 0 (.pointer (some ⟨bs,0,none⟩))) 1 (.pointer (some ⟨bY,0,none⟩))) 4 (.pointer (some ⟨b1,0,none⟩))) 5 (.int .i64 par.length)) 6 (.pointer (some ⟨b259,0,none⟩))) 15 (.int .i64 zi258)) 16 (.pointer (some ⟨bs,0,none⟩))) 20 (.int .i64 kk)) 25 (.int .i64 kk)) 30 (.int .i64 kk)∧(ip≤zi257∧zi257≤ip+2)∧(0≤zi258∧(zi258 < par.length∨zi258=0))∧Fresh W0.heap.size (rFR :: Ns)∧St W0 w262 ((.box b259 [.int .i64 0,.int .i64 0,.slice none 0 0,.slice none 0 0,.slice none 0 0,.slice none 0 0,.slice none 0 0,.slice none 0 0,.bool false] 49) :: (.box bs [.slice ac code.length cc,.int .i64 zi257,.int .u64 zi260] 68) :: (.box b1 [.int .i64 0,.int .i64 0,.slice none 0 0,.slice none 0 0,.slice none 0 0,.slice none 0 0,.slice none 0 0,.slice none 0 0,.bool false] 49) :: (.box bY [.int .i64 kk,.slice rap par.length rcp,.slice raR rules.length rcR] 27) :: (rr rap par.length rcp 2 1 (par.map (Value.int .i64))) :: (rr raR rules.length rcR 49 9 rxR) :: ps) ((sF false Fc ac cc code) :: (xB true rFR rxR rules) :: Γ)) 5 #[true,true,true,true,true,true,true,true,false,true,true,true,true,false,true,true,true,true,false,false,true,false] ?_ fun L261=>?_
  ·skip
   rintro ρ w263 ⟨xU,zi257,zi258,b259,zi260,rfl,hx264,hx265,N,H⟩
   refine jd [8,13,18] qh qm (jI rfl ?_ (jI rfl ?_ (jI rfl ?_ je)))
   ·skip
    have H1:=H.jv 6 2 [1,0,2,3,4,5] [0,1] qo qo
    have N1:Fresh _ (rFR :: Ns):=N
    have K1:Kept (Ns) ((xB true rFR rxR rules) :: Γ):=K0.behind 1 rfl
    replace K1:=K1.cons (F:=rFR) 0 rfl rfl
    refine zg #[.pointer (some ⟨bs,0,none⟩),.int .i64 kk,.int .i64 2] rfl rfl Tryz.call92 (yV code zi257 zi260 bs ac cc Fc kk (2:Int) H1 N1 K1 qg qg qg) ?_
    clear H H1 N1 K1
    rintro _ w266 ⟨zi270,zi271,zl272,ra273,rn274,rc275,hx268,hx269,rfl,N,H⟩
    obtain rfl:=H.jb 1 rfl
    refine ⟨H.pick [3,4,5,6] [0,1],(Qu L89 ⟨_,zi257,zi258,zi270,zl272,ra273,rc275,b259,zi271,uE9,hx264,hx265,hx268,hx269,N,H.zC 7 2 [2,0,1,3,4,5,6] [0,1] qo qo⟩)⟩
   ·skip
    refine jk H Tryz.underlying24 ti2 kk.toNat rfl rfl qf qf qf fun b276 w277 H=>⟨H.pick [3,4,5,6] [0,1],(Qu L144 ⟨_,zi257,zi258,b276,b259,zi260,uE10,hx264,hx265,N,H.zC 7 2 [1,0,2,3,4,5,6] [0,1] qo qo⟩)⟩
   ·skip
    refine jk H Tryz.underlying24 ti2 kk.toNat rfl rfl qf qf qf fun b278 w279 H=>⟨H.pick [3,4,5,6] [0,1],(Qu L180 ⟨_,zi257,zi258,b278,b259,zi260,uE10,hx264,hx265,N,H.zC 7 2 [1,0,2,3,4,5,6] [0,1] qo qo⟩)⟩
  refine r_have (fun ρ w283=>∃ (xU:Env) (b280:Nat) (b281:Nat),ρ=upd (upd (upd (upd (upd (upd (upd (upd (upd (upd xU 0 (.pointer (some ⟨bs,0,none⟩))) 1 (.pointer (some ⟨bY,0,none⟩))) 4 (.pointer (some ⟨b1,0,none⟩))) 5 (.int .i64 par.length)) 13 (.pointer (some ⟨bs,0,none⟩))) 14 (.int .i64 par.length)) 16 (.pointer (some ⟨bs,0,none⟩))) 20 (.int .i64 kk)) 26 (.slice (some ⟨b280,0,none⟩) kk.toNat kk.toNat)) 31 (.slice (some ⟨b281,0,none⟩) kk.toNat kk.toNat)∧Fresh W0.heap.size (rFR :: Ns)∧St W0 w283 ((rr (some ⟨b281,0,none⟩) kk.toNat kk.toNat 2 1 ((List.replicate kk.toNat (0:Int)).map (Value.int .i64))) :: (rr (some ⟨b280,0,none⟩) kk.toNat kk.toNat 2 1 ((List.replicate kk.toNat (0:Int)).map (Value.int .i64))) :: (.box b1 [.int .i64 0,.int .i64 0,.slice none 0 0,.slice none 0 0,.slice none 0 0,.slice none 0 0,.slice none 0 0,.slice none 0 0,.bool false] 49) :: (.box bs [.slice ac code.length cc,.int .i64 ip,.int .u64 sd] 68) :: (.box bY [.int .i64 kk,.slice rap par.length rcp,.slice raR rules.length rcR] 27) :: (rr rap par.length rcp 2 1 (par.map (Value.int .i64))) :: (rr raR rules.length rcR 49 9 rxR) :: ps) ((sF false Fc ac cc code) :: (xB true rFR rxR rules) :: Γ)) 5 #[true,true,false,true,true,true,true,true,false,true,true,true,true,true,true,true,true,true,true,false,false,false] ?_ fun L282=>?_
  ·skip
   rintro ρ w284 ⟨xU,b280,b281,rfl,N,H⟩
   refine jd [2,20] qh qm (jI rfl ?_ (jI rfl ?_ je))
   ·skip
    have H1:=H.jv 7 2 [3,0,1,2,4,5,6] [0,1] qo qo
    have N1:Fresh _ (rFR :: Ns):=N
    have K1:Kept (Ns) ((xB true rFR rxR rules) :: Γ):=K0.behind 1 rfl
    replace K1:=K1.cons (F:=rFR) 0 rfl rfl
    refine zg #[.pointer (some ⟨bs,0,none⟩),.int .i64 par.length] rfl rfl Tryz.call17 (jF code ip sd bs ac cc Fc par.length H1 N1 K1 qg) ?_
    clear H H1 N1 K1
    rintro _ w285 ⟨zi289,zi290,zi291,hx287,hx288,rfl,N,H⟩
    refine ⟨H.pick [3,4,5,6] [0,1],(Qu L111 ⟨_,zi289,zi291,b280,b281,zi290,uE9,hx287,hx288,N,H.zC 7 2 [1,2,0,3,4,5,6] [0,1] qo qo⟩)⟩
   ·skip
    refine x9 H ti49 [.int .i64 0,.int .i64 0,.slice none 0 0,.slice none 0 0,.slice none 0 0,.slice none 0 0,.slice none 0 0,.slice none 0 0,.bool false] fun b292 w293 H=>⟨H.pick [3,5,6,7] [0,1],(ro 2 rfl ?_)⟩
    have H1:=H.jv 8 2 [4,0,1,2,3,5,6,7] [0,1] qo qo
    have N1:Fresh _ (rFR :: Ns):=N
    have K1:Kept (Ns) ((xB true rFR rxR rules) :: Γ):=K0.behind 1 rfl
    replace K1:=K1.cons (F:=rFR) 0 rfl rfl
    refine zg #[.pointer (some ⟨bs,0,none⟩),.int .i64 par.length] rfl rfl Tryz.call17 (jF code ip sd bs ac cc Fc par.length H1 N1 K1 qg) ?_
    clear H H1 N1 K1
    rintro _ w294 ⟨zi298,zi299,zi300,hx296,hx297,rfl,N,H⟩
    refine ⟨H.pick [4,5,6,7] [0,1],(ro 8 rfl ?_)⟩
    have H1:=H.jv 8 2 [0,1,2,3,4,5,6,7] [0,1] qo qo
    have N1:Fresh _ (rFR :: Ns):=N
    have K1:Kept (Ns) ((xB true rFR rxR rules) :: Γ):=K0.behind 1 rfl
    replace K1:=K1.cons (F:=rFR) 0 rfl rfl
    refine zg #[.pointer (some ⟨bs,0,none⟩),.int .i64 kk,.int .i64 2] rfl rfl Tryz.call92 (yV code zi298 zi299 bs ac cc Fc kk (2:Int) H1 N1 K1 qg qg qg) ?_
    clear H H1 N1 K1
    rintro _ w301 ⟨zi305,zi306,zl307,ra308,rn309,rc310,hx303,hx304,rfl,N,H⟩
    obtain rfl:=H.jb 1 rfl
    refine ⟨H.pick [5,6,7,8] [0,1],(ro 19 rfl (jg [.int .i64 zi300,.int .i64 0,.slice ra308 zl307.length rc310,.slice (some ⟨b280,0,none⟩) kk.toNat kk.toNat,.slice (some ⟨b281,0,none⟩) kk.toNat kk.toNat,.slice none 0 0,.slice none 0 0,.slice none 0 0,.bool false] [(0,.int .i64 zi300),(2,.slice ra308 zl307.length rc310),(3,.slice (some ⟨b280,0,none⟩) kk.toNat kk.toNat),(4,.slice (some ⟨b281,0,none⟩) kk.toNat kk.toNat)] (⟨H.pick [5,6,7,8] [0,1],(ro 21 rfl ?_)⟩)))⟩
    refine xP H 2 [.int .i64 zi300,.int .i64 0,.slice ra308 zl307.length rc310,.slice (some ⟨b280,0,none⟩) kk.toNat kk.toNat,.slice (some ⟨b281,0,none⟩) kk.toNat kk.toNat,.slice none 0 0,.slice none 0 0,.slice none 0 0,.bool false] Tryz.sizeOf49 fun w311 H=>?_
    try dsimp only [List.set] at H
    refine ⟨H.pick [5,6,7,8] [0,1],(xH qh ((meet ⟨_,zi298,zi300,zi305,zl307,b292,ra308,rc310,b280,b281,zi306,uE5,hx296,hx297,hx303,hx304,N,H.zC 9 2 [2,3,4,0,1,5,6,7,8] [0,1] qo qo⟩)))⟩
  refine r_have (fun ρ w315=>∃ (xU:Env) (b312:Nat) (b313:Nat),ρ=upd (upd (upd (upd (upd (upd (upd (upd (upd (upd (upd xU 0 (.pointer (some ⟨bs,0,none⟩))) 1 (.pointer (some ⟨bY,0,none⟩))) 4 (.pointer (some ⟨b1,0,none⟩))) 5 (.int .i64 par.length)) 6 (.pointer (some ⟨b313,0,none⟩))) 13 (.pointer (some ⟨bs,0,none⟩))) 14 (.int .i64 par.length)) 16 (.pointer (some ⟨bs,0,none⟩))) 20 (.int .i64 kk)) 26 (.slice (some ⟨b312,0,none⟩) kk.toNat kk.toNat)) 30 (.int .i64 kk)∧Fresh W0.heap.size (rFR :: Ns)∧St W0 w315 ((.box b313 [.int .i64 0,.int .i64 0,.slice none 0 0,.slice none 0 0,.slice none 0 0,.slice none 0 0,.slice none 0 0,.slice none 0 0,.bool false] 49) :: (rr (some ⟨b312,0,none⟩) kk.toNat kk.toNat 2 1 ((List.replicate kk.toNat (0:Int)).map (Value.int .i64))) :: (.box b1 [.int .i64 0,.int .i64 0,.slice none 0 0,.slice none 0 0,.slice none 0 0,.slice none 0 0,.slice none 0 0,.slice none 0 0,.bool false] 49) :: (.box bs [.slice ac code.length cc,.int .i64 ip,.int .u64 sd] 68) :: (.box bY [.int .i64 kk,.slice rap par.length rcp,.slice raR rules.length rcR] 27) :: (rr rap par.length rcp 2 1 (par.map (Value.int .i64))) :: (rr raR rules.length rcR 49 9 rxR) :: ps) ((sF false Fc ac cc code) :: (xB true rFR rxR rules) :: Γ)) 5 #[true,true,false,true,true,true,true,true,false,true,true,true,true,true,true,true,true,true,false,false,true,false] ?_ fun L314=>?_
  ·skip
   rintro ρ w316 ⟨xU,b312,b313,rfl,N,H⟩
   refine jd [2,18] qh qm (jI rfl ?_ (jI rfl ?_ je))
   ·skip
    have H1:=H.jv 7 2 [3,0,1,2,4,5,6] [0,1] qo qo
    have N1:Fresh _ (rFR :: Ns):=N
    have K1:Kept (Ns) ((xB true rFR rxR rules) :: Γ):=K0.behind 1 rfl
    replace K1:=K1.cons (F:=rFR) 0 rfl rfl
    refine zg #[.pointer (some ⟨bs,0,none⟩),.int .i64 par.length] rfl rfl Tryz.call17 (jF code ip sd bs ac cc Fc par.length H1 N1 K1 qg) ?_
    clear H H1 N1 K1
    rintro _ w317 ⟨zi321,zi322,zi323,hx319,hx320,rfl,N,H⟩
    refine ⟨H.pick [3,4,5,6] [0,1],(Qu L144 ⟨_,zi321,zi323,b312,b313,zi322,uE10,hx319,hx320,N,H.zC 7 2 [1,2,0,3,4,5,6] [0,1] qo qo⟩)⟩
   ·skip
    refine jk H Tryz.underlying24 ti2 kk.toNat rfl rfl qf qf qf fun b324 w325 H=>⟨H.pick [3,5,6,7] [0,1],(ro 2 rfl ?_)⟩
    have H1:=H.jv 8 2 [4,0,1,2,3,5,6,7] [0,1] qo qo
    have N1:Fresh _ (rFR :: Ns):=N
    have K1:Kept (Ns) ((xB true rFR rxR rules) :: Γ):=K0.behind 1 rfl
    replace K1:=K1.cons (F:=rFR) 0 rfl rfl
    refine zg #[.pointer (some ⟨bs,0,none⟩),.int .i64 par.length] rfl rfl Tryz.call17 (jF code ip sd bs ac cc Fc par.length H1 N1 K1 qg) ?_
    clear H H1 N1 K1
    rintro _ w326 ⟨zi330,zi331,zi332,hx328,hx329,rfl,N,H⟩
    refine ⟨H.pick [4,5,6,7] [0,1],(ro 8 rfl ?_)⟩
    have H1:=H.jv 8 2 [0,1,2,3,4,5,6,7] [0,1] qo qo
    have N1:Fresh _ (rFR :: Ns):=N
    have K1:Kept (Ns) ((xB true rFR rxR rules) :: Γ):=K0.behind 1 rfl
    replace K1:=K1.cons (F:=rFR) 0 rfl rfl
    refine zg #[.pointer (some ⟨bs,0,none⟩),.int .i64 kk,.int .i64 2] rfl rfl Tryz.call92 (yV code zi330 zi331 bs ac cc Fc kk (2:Int) H1 N1 K1 qg qg qg) ?_
    clear H H1 N1 K1
    rintro _ w333 ⟨zi337,zi338,zl339,ra340,rn341,rc342,hx335,hx336,rfl,N,H⟩
    obtain rfl:=H.jb 1 rfl
    refine ⟨H.pick [5,6,7,8] [0,1],(ro 19 rfl (jg [.int .i64 zi332,.int .i64 0,.slice ra340 zl339.length rc342,.slice (some ⟨b312,0,none⟩) kk.toNat kk.toNat,.slice (some ⟨b324,0,none⟩) kk.toNat kk.toNat,.slice none 0 0,.slice none 0 0,.slice none 0 0,.bool false] [(0,.int .i64 zi332),(2,.slice ra340 zl339.length rc342),(3,.slice (some ⟨b312,0,none⟩) kk.toNat kk.toNat),(4,.slice (some ⟨b324,0,none⟩) kk.toNat kk.toNat)] (⟨H.pick [5,6,7,8] [0,1],(ro 21 rfl ?_)⟩)))⟩
    refine xP H 3 [.int .i64 zi332,.int .i64 0,.slice ra340 zl339.length rc342,.slice (some ⟨b312,0,none⟩) kk.toNat kk.toNat,.slice (some ⟨b324,0,none⟩) kk.toNat kk.toNat,.slice none 0 0,.slice none 0 0,.slice none 0 0,.bool false] Tryz.sizeOf49 fun w343 H=>?_
    try dsimp only [List.set] at H
    refine ⟨H.pick [5,6,7,8] [0,1],(xH qh ((meet ⟨_,zi330,zi332,zi337,zl339,b313,ra340,rc342,b312,b324,zi338,uE5,hx328,hx329,hx335,hx336,N,H.zC 9 2 [3,2,4,0,1,5,6,7,8] [0,1] qo qo⟩)))⟩
  refine r_have (fun ρ w347=>∃ (xU:Env) (b344:Nat) (b345:Nat),ρ=upd (upd (upd (upd (upd (upd (upd (upd (upd (upd (upd xU 0 (.pointer (some ⟨bs,0,none⟩))) 1 (.pointer (some ⟨bY,0,none⟩))) 4 (.pointer (some ⟨b1,0,none⟩))) 5 (.int .i64 par.length)) 6 (.pointer (some ⟨b345,0,none⟩))) 13 (.pointer (some ⟨bs,0,none⟩))) 14 (.int .i64 par.length)) 16 (.pointer (some ⟨bs,0,none⟩))) 20 (.int .i64 kk)) 25 (.int .i64 kk)) 31 (.slice (some ⟨b344,0,none⟩) kk.toNat kk.toNat)∧Fresh W0.heap.size (rFR :: Ns)∧St W0 w347 ((.box b345 [.int .i64 0,.int .i64 0,.slice none 0 0,.slice none 0 0,.slice none 0 0,.slice none 0 0,.slice none 0 0,.slice none 0 0,.bool false] 49) :: (rr (some ⟨b344,0,none⟩) kk.toNat kk.toNat 2 1 ((List.replicate kk.toNat (0:Int)).map (Value.int .i64))) :: (.box b1 [.int .i64 0,.int .i64 0,.slice none 0 0,.slice none 0 0,.slice none 0 0,.slice none 0 0,.slice none 0 0,.slice none 0 0,.bool false] 49) :: (.box bs [.slice ac code.length cc,.int .i64 ip,.int .u64 sd] 68) :: (.box bY [.int .i64 kk,.slice rap par.length rcp,.slice raR rules.length rcR] 27) :: (rr rap par.length rcp 2 1 (par.map (Value.int .i64))) :: (rr raR rules.length rcR 49 9 rxR) :: ps) ((sF false Fc ac cc code) :: (xB true rFR rxR rules) :: Γ)) 5 #[true,true,false,true,true,true,true,true,false,true,true,true,true,false,true,true,true,true,true,false,true,false] ?_ fun L346=>?_
  ·skip
   rintro ρ w348 ⟨xU,b344,b345,rfl,N,H⟩
   refine jd [2,13] qh qm (jI rfl ?_ (jI rfl ?_ je))
   ·skip
    have H1:=H.jv 7 2 [3,0,1,2,4,5,6] [0,1] qo qo
    have N1:Fresh _ (rFR :: Ns):=N
    have K1:Kept (Ns) ((xB true rFR rxR rules) :: Γ):=K0.behind 1 rfl
    replace K1:=K1.cons (F:=rFR) 0 rfl rfl
    refine zg #[.pointer (some ⟨bs,0,none⟩),.int .i64 par.length] rfl rfl Tryz.call17 (jF code ip sd bs ac cc Fc par.length H1 N1 K1 qg) ?_
    clear H H1 N1 K1
    rintro _ w349 ⟨zi353,zi354,zi355,hx351,hx352,rfl,N,H⟩
    refine ⟨H.pick [3,4,5,6] [0,1],(Qu L180 ⟨_,zi353,zi355,b344,b345,zi354,uE10,hx351,hx352,N,H.zC 7 2 [1,2,0,3,4,5,6] [0,1] qo qo⟩)⟩
   ·skip
    refine jk H Tryz.underlying24 ti2 kk.toNat rfl rfl qf qf qf fun b356 w357 H=>⟨H.pick [3,5,6,7] [0,1],(ro 2 rfl ?_)⟩
    have H1:=H.jv 8 2 [4,0,1,2,3,5,6,7] [0,1] qo qo
    have N1:Fresh _ (rFR :: Ns):=N
    have K1:Kept (Ns) ((xB true rFR rxR rules) :: Γ):=K0.behind 1 rfl
    replace K1:=K1.cons (F:=rFR) 0 rfl rfl
    refine zg #[.pointer (some ⟨bs,0,none⟩),.int .i64 par.length] rfl rfl Tryz.call17 (jF code ip sd bs ac cc Fc par.length H1 N1 K1 qg) ?_
    clear H H1 N1 K1
    rintro _ w358 ⟨zi362,zi363,zi364,hx360,hx361,rfl,N,H⟩
    refine ⟨H.pick [4,5,6,7] [0,1],(ro 8 rfl ?_)⟩
    have H1:=H.jv 8 2 [0,1,2,3,4,5,6,7] [0,1] qo qo
    have N1:Fresh _ (rFR :: Ns):=N
    have K1:Kept (Ns) ((xB true rFR rxR rules) :: Γ):=K0.behind 1 rfl
    replace K1:=K1.cons (F:=rFR) 0 rfl rfl
    refine zg #[.pointer (some ⟨bs,0,none⟩),.int .i64 kk,.int .i64 2] rfl rfl Tryz.call92 (yV code zi362 zi363 bs ac cc Fc kk (2:Int) H1 N1 K1 qg qg qg) ?_
    clear H H1 N1 K1
    rintro _ w365 ⟨zi369,zi370,zl371,ra372,rn373,rc374,hx367,hx368,rfl,N,H⟩
    obtain rfl:=H.jb 1 rfl
    refine ⟨H.pick [5,6,7,8] [0,1],(ro 19 rfl (jg [.int .i64 zi364,.int .i64 0,.slice ra372 zl371.length rc374,.slice (some ⟨b356,0,none⟩) kk.toNat kk.toNat,.slice (some ⟨b344,0,none⟩) kk.toNat kk.toNat,.slice none 0 0,.slice none 0 0,.slice none 0 0,.bool false] [(0,.int .i64 zi364),(2,.slice ra372 zl371.length rc374),(3,.slice (some ⟨b356,0,none⟩) kk.toNat kk.toNat),(4,.slice (some ⟨b344,0,none⟩) kk.toNat kk.toNat)] (⟨H.pick [5,6,7,8] [0,1],(ro 21 rfl ?_)⟩)))⟩
    refine xP H 3 [.int .i64 zi364,.int .i64 0,.slice ra372 zl371.length rc374,.slice (some ⟨b356,0,none⟩) kk.toNat kk.toNat,.slice (some ⟨b344,0,none⟩) kk.toNat kk.toNat,.slice none 0 0,.slice none 0 0,.slice none 0 0,.bool false] Tryz.sizeOf49 fun w375 H=>?_
    try dsimp only [List.set] at H
    refine ⟨H.pick [5,6,7,8] [0,1],(xH qh ((meet ⟨_,zi362,zi364,zi369,zl371,b345,ra372,rc374,b356,b344,zi370,uE5,hx360,hx361,hx367,hx368,N,H.zC 9 2 [3,4,2,0,1,5,6,7,8] [0,1] qo qo⟩)))⟩
  have S:=H.jm [0,2,3,4] [0,1]
  refine rtp 0 (.pointer (some ⟨bs,0,none⟩)) S ?_
  refine rtp 1 (.int .i64 par.length) S ?_
  refine rtp 3 (.pointer (some ⟨bs,0,none⟩)) S ?_
  refine rtp 4 (.pointer (some ⟨bY,0,none⟩)) S ?_
  refine rtp 5 (.pointer (some ⟨bY,0,none⟩)) S ?_
  refine tF 6 rfl rfl S ?_
  refine tL 7 rfl rfl (fun _ h=>h.cell 1 rfl rfl) S ?_
  refine rtp 9 (.pointer (some ⟨bY,0,none⟩)) S ?_
  refine rtp 10 (.pointer (some ⟨bY,0,none⟩)) S ?_
  refine tF 11 rfl rfl S ?_
  refine tL 12 rfl rfl (fun _ h=>h.cell 1 rfl rfl) S ?_
  refine rtp 14 (.pointer (some ⟨bY,0,none⟩)) S ?_
  refine rtp 15 (.pointer (some ⟨bY,0,none⟩)) S ?_
  refine tF 16 rfl rfl S ?_
  refine tL 17 rfl rfl (fun _ h=>h.cell 1 rfl rfl) S ?_
  refine jd [2,13,18,20] qh qm (jI rfl ?_ (jI rfl ?_ (jI rfl ?_ (jI rfl ?_ je))))
  ·skip
   have H1:=H.jv 5 2 [1,0,2,3,4] [0,1] qo qo
   have N1:Fresh _ (rFR :: Ns):=N
   have K1:Kept (Ns) ((xB true rFR rxR rules) :: Γ):=K0.behind 1 rfl
   replace K1:=K1.cons (F:=rFR) 0 rfl rfl
   refine zg #[.pointer (some ⟨bs,0,none⟩),.int .i64 par.length] rfl rfl Tryz.call17 (jF code ip sd bs ac cc Fc par.length H1 N1 K1 qg) ?_
   clear H H1 N1 K1
   rintro _ w376 ⟨zi380,zi381,zi382,hx378,hx379,rfl,N,H⟩
   refine ⟨H.pick [1,2,3,4] [0,1],(jd [8,13,18,20] qh qm (jI rfl ?_ (jI rfl ?_ (jI rfl ?_ (jI rfl ?_ je)))))⟩
   ·skip
    have H1:=H.jv 5 2 [0,1,2,3,4] [0,1] qo qo
    have N1:Fresh _ (rFR :: Ns):=N
    have K1:Kept (Ns) ((xB true rFR rxR rules) :: Γ):=K0.behind 1 rfl
    replace K1:=K1.cons (F:=rFR) 0 rfl rfl
    refine zg #[.pointer (some ⟨bs,0,none⟩),.int .i64 kk,.int .i64 2] rfl rfl Tryz.call92 (yV code zi380 zi381 bs ac cc Fc kk (2:Int) H1 N1 K1 qg qg qg) ?_
    clear H H1 N1 K1
    rintro _ w383 ⟨zi387,zi388,zl389,ra390,rn391,rc392,hx385,hx386,rfl,N,H⟩
    obtain rfl:=H.jb 1 rfl
    refine ⟨H.pick [2,3,4,5] [0,1],(jd [13,18,20] qh qm (jI rfl ?_ (jI rfl ?_ (jI rfl ?_ je))))⟩
    ·skip
     refine jk H Tryz.underlying24 ti2 kk.toNat rfl rfl qf qf qf fun b393 w394 H=>⟨H.pick [3,4,5,6] [0,1],(Qu L45 ⟨_,zi380,zi382,zi387,zl389,ra390,rc392,b393,zi388,uE8,hx378,hx379,hx385,hx386,N,H⟩)⟩
    ·skip
     refine jk H Tryz.underlying24 ti2 kk.toNat rfl rfl qf qf qf fun b395 w396 H=>⟨H.pick [3,4,5,6] [0,1],(Qu L67 ⟨_,zi380,zi382,zi387,zl389,ra390,rc392,b395,zi388,uE8,hx378,hx379,hx385,hx386,N,H⟩)⟩
    ·skip
     refine x9 H ti49 [.int .i64 0,.int .i64 0,.slice none 0 0,.slice none 0 0,.slice none 0 0,.slice none 0 0,.slice none 0 0,.slice none 0 0,.bool false] fun b397 w398 H=>⟨H.pick [3,4,5,6] [0,1],(Qu L89 ⟨_,zi380,zi382,zi387,zl389,ra390,rc392,b397,zi388,uE9,hx378,hx379,hx385,hx386,N,H⟩)⟩
   ·skip
    refine jk H Tryz.underlying24 ti2 kk.toNat rfl rfl qf qf qf fun b399 w400 H=>⟨H.pick [2,3,4,5] [0,1],(Qu L215 ⟨_,zi380,zi382,b399,zi381,uE9,hx378,hx379,N,H⟩)⟩
   ·skip
    refine jk H Tryz.underlying24 ti2 kk.toNat rfl rfl qf qf qf fun b401 w402 H=>⟨H.pick [2,3,4,5] [0,1],(Qu L238 ⟨_,zi380,zi382,b401,zi381,uE9,hx378,hx379,N,H⟩)⟩
   ·skip
    refine x9 H ti49 [.int .i64 0,.int .i64 0,.slice none 0 0,.slice none 0 0,.slice none 0 0,.slice none 0 0,.slice none 0 0,.slice none 0 0,.bool false] fun b403 w404 H=>⟨H.pick [2,3,4,5] [0,1],(Qu L261 ⟨_,zi380,zi382,b403,zi381,uE10,hx378,hx379,N,H⟩)⟩
  ·skip
   refine jk H Tryz.underlying24 ti2 kk.toNat rfl rfl qf qf qf fun b405 w406 H=>⟨H.pick [1,3,4,5] [0,1],(jd [2,18,20] qh qm (jI rfl ?_ (jI rfl ?_ (jI rfl ?_ je))))⟩
   ·skip
    have H1:=H.jv 6 2 [2,0,1,3,4,5] [0,1] qo qo
    have N1:Fresh _ (rFR :: Ns):=N
    have K1:Kept (Ns) ((xB true rFR rxR rules) :: Γ):=K0.behind 1 rfl
    replace K1:=K1.cons (F:=rFR) 0 rfl rfl
    refine zg #[.pointer (some ⟨bs,0,none⟩),.int .i64 par.length] rfl rfl Tryz.call17 (jF code ip sd bs ac cc Fc par.length H1 N1 K1 qg) ?_
    clear H H1 N1 K1
    rintro _ w407 ⟨zi411,zi412,zi413,hx409,hx410,rfl,N,H⟩
    refine ⟨H.pick [2,3,4,5] [0,1],(Qu L215 ⟨_,zi411,zi413,b405,zi412,uE9,hx409,hx410,N,H.zC 6 2 [1,0,2,3,4,5] [0,1] qo qo⟩)⟩
   ·skip
    refine jk H Tryz.underlying24 ti2 kk.toNat rfl rfl qf qf qf fun b414 w415 H=>⟨H.pick [2,4,5,6] [0,1],(Qu L282 ⟨_,b405,b414,uE10,N,H⟩)⟩
   ·skip
    refine x9 H ti49 [.int .i64 0,.int .i64 0,.slice none 0 0,.slice none 0 0,.slice none 0 0,.slice none 0 0,.slice none 0 0,.slice none 0 0,.bool false] fun b416 w417 H=>⟨H.pick [2,4,5,6] [0,1],(Qu L314 ⟨_,b405,b416,uE11,N,H⟩)⟩
  ·skip
   refine jk H Tryz.underlying24 ti2 kk.toNat rfl rfl qf qf qf fun b418 w419 H=>⟨H.pick [1,3,4,5] [0,1],(jd [2,13,20] qh qm (jI rfl ?_ (jI rfl ?_ (jI rfl ?_ je))))⟩
   ·skip
    have H1:=H.jv 6 2 [2,0,1,3,4,5] [0,1] qo qo
    have N1:Fresh _ (rFR :: Ns):=N
    have K1:Kept (Ns) ((xB true rFR rxR rules) :: Γ):=K0.behind 1 rfl
    replace K1:=K1.cons (F:=rFR) 0 rfl rfl
    refine zg #[.pointer (some ⟨bs,0,none⟩),.int .i64 par.length] rfl rfl Tryz.call17 (jF code ip sd bs ac cc Fc par.length H1 N1 K1 qg) ?_
    clear H H1 N1 K1
    rintro _ w420 ⟨zi424,zi425,zi426,hx422,hx423,rfl,N,H⟩
    refine ⟨H.pick [2,3,4,5] [0,1],(Qu L238 ⟨_,zi424,zi426,b418,zi425,uE9,hx422,hx423,N,H.zC 6 2 [1,0,2,3,4,5] [0,1] qo qo⟩)⟩
   ·skip
    refine jk H Tryz.underlying24 ti2 kk.toNat rfl rfl qf qf qf fun b427 w428 H=>⟨H.pick [2,4,5,6] [0,1],(Qu L282 ⟨_,b427,b418,uE10,N,H.zC 7 2 [1,0,2,3,4,5,6] [0,1] qo qo⟩)⟩
   ·skip
    refine x9 H ti49 [.int .i64 0,.int .i64 0,.slice none 0 0,.slice none 0 0,.slice none 0 0,.slice none 0 0,.slice none 0 0,.slice none 0 0,.bool false] fun b429 w430 H=>⟨H.pick [2,4,5,6] [0,1],(Qu L346 ⟨_,b418,b429,uE11,N,H⟩)⟩
  ·skip
   refine x9 H ti49 [.int .i64 0,.int .i64 0,.slice none 0 0,.slice none 0 0,.slice none 0 0,.slice none 0 0,.slice none 0 0,.slice none 0 0,.bool false] fun b431 w432 H=>⟨H.pick [1,3,4,5] [0,1],(jd [2,13,18] qh qm (jI rfl ?_ (jI rfl ?_ (jI rfl ?_ je))))⟩
   ·skip
    have H1:=H.jv 6 2 [2,0,1,3,4,5] [0,1] qo qo
    have N1:Fresh _ (rFR :: Ns):=N
    have K1:Kept (Ns) ((xB true rFR rxR rules) :: Γ):=K0.behind 1 rfl
    replace K1:=K1.cons (F:=rFR) 0 rfl rfl
    refine zg #[.pointer (some ⟨bs,0,none⟩),.int .i64 par.length] rfl rfl Tryz.call17 (jF code ip sd bs ac cc Fc par.length H1 N1 K1 qg) ?_
    clear H H1 N1 K1
    rintro _ w433 ⟨zi437,zi438,zi439,hx435,hx436,rfl,N,H⟩
    refine ⟨H.pick [2,3,4,5] [0,1],(Qu L261 ⟨_,zi437,zi439,b431,zi438,uE10,hx435,hx436,N,H.zC 6 2 [1,0,2,3,4,5] [0,1] qo qo⟩)⟩
   ·skip
    refine jk H Tryz.underlying24 ti2 kk.toNat rfl rfl qf qf qf fun b440 w441 H=>⟨H.pick [2,4,5,6] [0,1],(Qu L314 ⟨_,b440,b431,uE11,N,H.zC 7 2 [1,0,2,3,4,5,6] [0,1] qo qo⟩)⟩
   ·skip
    refine jk H Tryz.underlying24 ti2 kk.toNat rfl rfl qf qf qf fun b442 w443 H=>⟨H.pick [2,4,5,6] [0,1],(Qu L346 ⟨_,b442,b431,uE11,N,H.zC 7 2 [1,0,2,3,4,5,6] [0,1] qo qo⟩)⟩
 ·skip
  clear H N
  rintro ρ w444 ⟨xU,zi3,zi4,zi5,zl6,b7,ra8,rc9,b10,b11,zi12,rfl,hx445,hx446,hx447,hx448,N,H⟩
  refine t_n (zcr (sps [.pointer (some ⟨bs,0,none⟩),.pointer (some ⟨bY,0,none⟩),.pointer (some ⟨bY,0,none⟩)] (oF rfl (oL rfl (H.cell 6 rfl rfl) ?_))))
  have H1:=H.jv 9 2 [3,0,1,2,4,5,6,7,8] [0,1] qo qo
  have N1:Fresh _ (rFR :: Ns):=N
  have K1:Kept (Ns) ((xB true rFR rxR rules) :: Γ):=K0.behind 1 rfl
  replace K1:=K1.cons (F:=rFR) 0 rfl rfl
  refine sw (zg #[.pointer (some ⟨bs,0,none⟩),.int .i64 kk,.int .i64 2] rfl rfl Tryz.call68 (dFew_ok code zi5 zi12 bs ac cc Fc kk (2:Int) H1 N1 K1 qg qg qg) ?_)
  clear H H1 N1 K1
  rintro _ w449 ⟨zi453,zi454,zl455,ra456,rn457,rc458,hx451,hx452,rfl,N,H⟩
  obtain rfl:=H.jb 1 rfl
  refine oF rfl (sw (zU H 2 [.int .i64 zi4,.int .i64 0,.slice ra8 zl6.length rc9,.slice (some ⟨b10,0,none⟩) kk.toNat kk.toNat,.slice (some ⟨b11,0,none⟩) kk.toNat kk.toNat,.slice ra456 zl455.length rc458,.slice none 0 0,.slice none 0 0,.bool false] Tryz.sizeOf24 fun w459 H=>?_))
  try dsimp only [List.set] at H
  refine zjc (sps [.pointer (some ⟨bs,0,none⟩),.pointer (some ⟨bY,0,none⟩),.pointer (some ⟨bY,0,none⟩)] (oF rfl (oL rfl (H.cell 7 rfl rfl) ?_)))
  have H1:=H.jv 10 2 [0,1,2,3,4,5,6,7,8,9] [0,1] qo qo
  have N1:Fresh _ (rFR :: Ns):=N
  have K1:Kept (Ns) ((xB true rFR rxR rules) :: Γ):=K0.behind 1 rfl
  replace K1:=K1.cons (F:=rFR) 0 rfl rfl
  refine sw (zg #[.pointer (some ⟨bs,0,none⟩),.int .i64 kk,.int .i64 1] rfl rfl Tryz.call68 (dFew_ok code zi453 zi454 bs ac cc Fc kk (1:Int) H1 N1 K1 qg qg qg) ?_)
  clear H H1 N1 K1
  rintro _ w460 ⟨zi464,zi465,zl466,ra467,rn468,rc469,hx462,hx463,rfl,N,H⟩
  obtain rfl:=H.jb 1 rfl
  refine oF rfl (sw (zU H 3 [.int .i64 zi4,.int .i64 0,.slice ra8 zl6.length rc9,.slice (some ⟨b10,0,none⟩) kk.toNat kk.toNat,.slice (some ⟨b11,0,none⟩) kk.toNat kk.toNat,.slice ra456 zl455.length rc458,.slice ra467 zl466.length rc469,.slice none 0 0,.bool false] Tryz.sizeOf24 fun w470 H=>?_))
  try dsimp only [List.set] at H
  refine zjcc (sp (.pointer (some ⟨bs,0,none⟩)) ?_)
  have H1:=H.jv 11 2 [0,1,2,3,4,5,6,7,8,9,10] [0,1] qo qo
  have N1:Fresh _ (rFR :: Ns):=N
  have K1:Kept (Ns) ((xB true rFR rxR rules) :: Γ):=K0.behind 1 rfl
  replace K1:=K1.cons (F:=rFR) 0 rfl rfl
  refine sw (zg #[.pointer (some ⟨bs,0,none⟩),.int .i64 5] rfl rfl Tryz.call15 (Xe code zi464 zi465 bs ac cc Fc (5:Int) H1 N1 K1 qg) ?_)
  clear H H1 N1 K1
  rintro _ w471 ⟨zi474,zi475,zb476,hx473,rfl,N,H⟩
  refine zjn ?_
  refine c_cut (fun ρ w477=>∃ (xU:Env) (s_at:Int) (s_seed:Int) (jH:yOA) (jE:Nat) (jG:Nat) (r_Have:yLI),ρ=upd (upd (upd (upd (upd xU 0 (.pointer (some ⟨bs,0,none⟩))) 1 (.pointer (some ⟨bY,0,none⟩))) 4 (.pointer (some ⟨b1,0,none⟩))) 5 (.int .i64 par.length)) 6 (.pointer (some ⟨b7,0,none⟩))∧(zx kk 1 r_Have)∧(ip≤s_at∧s_at≤ip+92)∧Fresh W0.heap.size (rFR :: Ns)∧St W0 w477 ((.box bs [.slice ac code.length cc,.int .i64 s_at,.int .u64 s_seed] 68) :: (rr ra467 zl466.length rc469 2 1 (zl466.map (Value.int .i64))) :: (rr ra456 zl455.length rc458 2 1 (zl455.map (Value.int .i64))) :: (.box b7 [.int .i64 zi4,.int .i64 0,.slice ra8 zl6.length rc9,.slice jH jE jG,.slice (some ⟨b11,0,none⟩) kk.toNat kk.toNat,.slice ra456 zl455.length rc458,.slice ra467 zl466.length rc469,.slice none 0 0,.bool false] 49) :: (rr (some ⟨b11,0,none⟩) kk.toNat kk.toNat 2 1 ((List.replicate kk.toNat (0:Int)).map (Value.int .i64))) :: (rr jH jE jG 2 1 (r_Have.map (Value.int .i64))) :: (rr ra8 zl6.length rc9 2 1 (zl6.map (Value.int .i64))) :: (.box b1 [.int .i64 0,.int .i64 0,.slice none 0 0,.slice none 0 0,.slice none 0 0,.slice none 0 0,.slice none 0 0,.slice none 0 0,.bool false] 49) :: (.box bY [.int .i64 kk,.slice rap par.length rcp,.slice raR rules.length rcR] 27) :: (rr rap par.length rcp 2 1 (par.map (Value.int .i64))) :: (rr raR rules.length rcR 49 9 rxR) :: ps) ((sF false Fc ac cc code) :: (xB true rFR rxR rules) :: Γ)) ?_ ?_
  ·skip
   refine xI (zb476) rfl (fun h478=>?_) (fun h478=>?_)
   ·skip
    refine xZ (sps [.pointer (some ⟨bs,0,none⟩),.pointer (some ⟨bY,0,none⟩),.pointer (some ⟨bY,0,none⟩)] (oF rfl (oL rfl (H.cell 8 rfl rfl) ?_)))
    have H1:=H.jv 11 2 [0,1,2,3,4,5,6,7,8,9,10] [0,1] qo qo
    have N1:Fresh _ (rFR :: Ns):=N
    have K1:Kept (Ns) ((xB true rFR rxR rules) :: Γ):=K0.behind 1 rfl
    replace K1:=K1.cons (F:=rFR) 0 rfl rfl
    refine sw (zg #[.pointer (some ⟨bs,0,none⟩),.int .i64 kk,.int .i64 1] rfl rfl Tryz.call92 (yV code zi474 zi475 bs ac cc Fc kk (1:Int) H1 N1 K1 qg qg qg) ?_)
    clear H H1 N1 K1
    rintro _ w479 ⟨zi483,zi484,zl485,ra486,rn487,rc488,hx481,hx482,rfl,N,H⟩
    obtain rfl:=H.jb 1 rfl
    refine oF rfl (sw (zU H 4 [.int .i64 zi4,.int .i64 0,.slice ra8 zl6.length rc9,.slice ra486 zl485.length rc488,.slice (some ⟨b11,0,none⟩) kk.toNat kk.toNat,.slice ra456 zl455.length rc458,.slice ra467 zl466.length rc469,.slice none 0 0,.bool false] Tryz.sizeOf24 fun w489 H=>?_))
    try dsimp only [List.set] at H
    refine zi (meet ⟨_,zi483,zi484,ra486,zl485.length,rc488,zl485,uE5,?_,?_,N,H.zC 12 2 [0,2,3,4,5,1,7,8,9,10,11] [0,1] qo qo⟩)
    · first | exact (‹zx kk 1 _∧_›).1 | exact zx.zero qf qf
    · first | assumption | omega
   ·skip
    refine xh (meet ⟨_,zi474,zi475,(some ⟨b10,0,none⟩),kk.toNat,kk.toNat,(List.replicate kk.toNat (0:Int)),uE5,?_,?_,N,H⟩)
    · first | exact (‹zx kk 1 _∧_›).1 | exact zx.zero qf qf
    · first | assumption | omega
  ·skip
   clear H N
   rintro ρ w490 ⟨xU,s_at,s_seed,jH,jE,jG,r_Have,rfl,jh,jhp,N,H⟩
   have hn_r_Have:=H.jb 5 rfl
   refine t_n (zcc (sp (.pointer (some ⟨bs,0,none⟩)) ?_))
   have H1:=H.jv 11 2 [0,1,2,3,4,5,6,7,8,9,10] [0,1] qo qo
   have N1:Fresh _ (rFR :: Ns):=N
   have K1:Kept (Ns) ((xB true rFR rxR rules) :: Γ):=K0.behind 1 rfl
   replace K1:=K1.cons (F:=rFR) 0 rfl rfl
   refine sw (zg #[.pointer (some ⟨bs,0,none⟩),.int .i64 5] rfl rfl Tryz.call15 (Xe code s_at s_seed bs ac cc Fc (5:Int) H1 N1 K1 qg) ?_)
   clear H H1 N1 K1
   rintro _ w491 ⟨zi494,zi495,zb496,hx493,rfl,N,H⟩
   refine zjn ?_
   refine c_cut (fun ρ w497=>∃ (xU:Env) (s_at_1:Int) (s_seed_1:Int) (jW:yOA) (jU:Nat) (jV:Nat) (r_Lack:yLI),ρ=upd (upd (upd (upd (upd xU 0 (.pointer (some ⟨bs,0,none⟩))) 1 (.pointer (some ⟨bY,0,none⟩))) 4 (.pointer (some ⟨b1,0,none⟩))) 5 (.int .i64 par.length)) 6 (.pointer (some ⟨b7,0,none⟩))∧(zx kk 1 r_Lack)∧(ip≤s_at_1∧s_at_1≤ip+118)∧Fresh W0.heap.size (rFR :: Ns)∧St W0 w497 ((.box bs [.slice ac code.length cc,.int .i64 s_at_1,.int .u64 s_seed_1] 68) :: (rr ra467 zl466.length rc469 2 1 (zl466.map (Value.int .i64))) :: (rr ra456 zl455.length rc458 2 1 (zl455.map (Value.int .i64))) :: (.box b7 [.int .i64 zi4,.int .i64 0,.slice ra8 zl6.length rc9,.slice jH jE jG,.slice jW jU jV,.slice ra456 zl455.length rc458,.slice ra467 zl466.length rc469,.slice none 0 0,.bool false] 49) :: (rr jW jU jV 2 1 (r_Lack.map (Value.int .i64))) :: (rr jH jE jG 2 1 (r_Have.map (Value.int .i64))) :: (rr ra8 zl6.length rc9 2 1 (zl6.map (Value.int .i64))) :: (.box b1 [.int .i64 0,.int .i64 0,.slice none 0 0,.slice none 0 0,.slice none 0 0,.slice none 0 0,.slice none 0 0,.slice none 0 0,.bool false] 49) :: (.box bY [.int .i64 kk,.slice rap par.length rcp,.slice raR rules.length rcR] 27) :: (rr rap par.length rcp 2 1 (par.map (Value.int .i64))) :: (rr raR rules.length rcR 49 9 rxR) :: ps) ((sF false Fc ac cc code) :: (xB true rFR rxR rules) :: Γ)) ?_ ?_
   ·skip
    refine xI (zb496) rfl (fun h498=>?_) (fun h498=>?_)
    ·skip
     refine xZ (sps [.pointer (some ⟨bs,0,none⟩),.pointer (some ⟨bY,0,none⟩),.pointer (some ⟨bY,0,none⟩)] (oF rfl (oL rfl (H.cell 8 rfl rfl) ?_)))
     have H1:=H.jv 11 2 [0,1,2,3,4,5,6,7,8,9,10] [0,1] qo qo
     have N1:Fresh _ (rFR :: Ns):=N
     have K1:Kept (Ns) ((xB true rFR rxR rules) :: Γ):=K0.behind 1 rfl
     replace K1:=K1.cons (F:=rFR) 0 rfl rfl
     refine sw (zg #[.pointer (some ⟨bs,0,none⟩),.int .i64 kk,.int .i64 1] rfl rfl Tryz.call92 (yV code zi494 zi495 bs ac cc Fc kk (1:Int) H1 N1 K1 qg qg qg) ?_)
     clear H H1 N1 K1
     rintro _ w499 ⟨zi503,zi504,zl505,ra506,rn507,rc508,hx501,hx502,rfl,N,H⟩
     obtain rfl:=H.jb 1 rfl
     refine oF rfl (sw (zU H 4 [.int .i64 zi4,.int .i64 0,.slice ra8 zl6.length rc9,.slice jH jE jG,.slice ra506 zl505.length rc508,.slice ra456 zl455.length rc458,.slice ra467 zl466.length rc469,.slice none 0 0,.bool false] Tryz.sizeOf24 fun w509 H=>?_))
     try dsimp only [List.set] at H
     refine zi (meet ⟨_,zi503,zi504,ra506,zl505.length,rc508,zl505,uE5,?_,?_,N,H.zC 12 2 [0,2,3,4,1,6,7,8,9,10,11] [0,1] qo qo⟩)
     · first | exact (‹zx kk 1 _∧_›).1 | exact zx.zero qf qf
     · first | assumption | omega
    ·skip
     refine xh (meet ⟨_,zi494,zi495,(some ⟨b11,0,none⟩),kk.toNat,kk.toNat,(List.replicate kk.toNat (0:Int)),uE5,?_,?_,N,H⟩)
     · first | exact (‹zx kk 1 _∧_›).1 | exact zx.zero qf qf
     · first | assumption | omega
   ·skip
    clear H N
    rintro ρ w510 ⟨xU,s_at_1,s_seed_1,jW,jU,jV,r_Lack,rfl,jl,jlp,N,H⟩
    have hn_r_Lack:=H.jb 4 rfl
    refine t_n (zcc (sp (.pointer (some ⟨bs,0,none⟩)) ?_))
    have H1:=H.jv 11 2 [0,1,2,3,4,5,6,7,8,9,10] [0,1] qo qo
    have N1:Fresh _ (rFR :: Ns):=N
    have K1:Kept (Ns) ((xB true rFR rxR rules) :: Γ):=K0.behind 1 rfl
    replace K1:=K1.cons (F:=rFR) 0 rfl rfl
    refine sw (zg #[.pointer (some ⟨bs,0,none⟩),.int .i64 4] rfl rfl Tryz.call15 (Xe code s_at_1 s_seed_1 bs ac cc Fc (4:Int) H1 N1 K1 qg) ?_)
    clear H H1 N1 K1
    rintro _ w511 ⟨zi514,zi515,zb516,hx513,rfl,N,H⟩
    refine zjn ?_
    refine c_cut (fun ρ w517=>∃ (xU:Env) (s_at_51:Int) (s_seed_51:Int) (r_Rank:Int),ρ=upd (upd (upd (upd (upd xU 0 (.pointer (some ⟨bs,0,none⟩))) 1 (.pointer (some ⟨bY,0,none⟩))) 4 (.pointer (some ⟨b1,0,none⟩))) 5 (.int .i64 par.length)) 6 (.pointer (some ⟨b7,0,none⟩))∧(0≤r_Rank∧r_Rank≤2)∧(ip≤s_at_51∧s_at_51≤ip+122)∧Fresh W0.heap.size (rFR :: Ns)∧St W0 w517 ((.box bs [.slice ac code.length cc,.int .i64 s_at_51,.int .u64 s_seed_51] 68) :: (rr ra467 zl466.length rc469 2 1 (zl466.map (Value.int .i64))) :: (rr ra456 zl455.length rc458 2 1 (zl455.map (Value.int .i64))) :: (.box b7 [.int .i64 zi4,.int .i64 r_Rank,.slice ra8 zl6.length rc9,.slice jH jE jG,.slice jW jU jV,.slice ra456 zl455.length rc458,.slice ra467 zl466.length rc469,.slice none 0 0,.bool false] 49) :: (rr jW jU jV 2 1 (r_Lack.map (Value.int .i64))) :: (rr jH jE jG 2 1 (r_Have.map (Value.int .i64))) :: (rr ra8 zl6.length rc9 2 1 (zl6.map (Value.int .i64))) :: (.box b1 [.int .i64 0,.int .i64 0,.slice none 0 0,.slice none 0 0,.slice none 0 0,.slice none 0 0,.slice none 0 0,.slice none 0 0,.bool false] 49) :: (.box bY [.int .i64 kk,.slice rap par.length rcp,.slice raR rules.length rcR] 27) :: (rr rap par.length rcp 2 1 (par.map (Value.int .i64))) :: (rr raR rules.length rcR 49 9 rxR) :: ps) ((sF false Fc ac cc code) :: (xB true rFR rxR rules) :: Γ)) ?_ ?_
    ·skip
     refine xI (zb516) rfl (fun h518=>?_) (fun h518=>?_)
     ·skip
      refine xZ (sp (.pointer (some ⟨bs,0,none⟩)) ?_)
      have H1:=H.jv 11 2 [0,1,2,3,4,5,6,7,8,9,10] [0,1] qo qo
      have N1:Fresh _ (rFR :: Ns):=N
      have K1:Kept (Ns) ((xB true rFR rxR rules) :: Γ):=K0.behind 1 rfl
      replace K1:=K1.cons (F:=rFR) 0 rfl rfl
      refine sw (zg #[.pointer (some ⟨bs,0,none⟩),.int .i64 3] rfl rfl Tryz.call17 (jF code zi514 zi515 bs ac cc Fc (3:Int) H1 N1 K1 qg) ?_)
      clear H H1 N1 K1
      rintro _ w519 ⟨zi523,zi524,zi525,hx521,hx522,rfl,N,H⟩
      refine oF rfl (sw (zU H 3 [.int .i64 zi4,.int .i64 zi525,.slice ra8 zl6.length rc9,.slice jH jE jG,.slice jW jU jV,.slice ra456 zl455.length rc458,.slice ra467 zl466.length rc469,.slice none 0 0,.bool false] Tryz.sizeOf2 fun w526 H=>?_))
      try dsimp only [List.set] at H
      refine zi (meet ⟨_,zi523,zi524,zi525,uE5,?_,?_,N,H⟩)
      · first | assumption | omega
      · first | assumption | omega
     ·skip
      refine xh (meet ⟨_,zi514,zi515,0,uE5,?_,?_,N,H⟩)
      · first | assumption | omega
      · first | assumption | omega
    ·skip
     clear H N
     rintro ρ w527 ⟨xU,s_at_51,s_seed_51,r_Rank,rfl,jr,jrp,N,H⟩
     refine t_n (zcc (sp (.int .i64 1) (zjn (xg ?_))))
     replace H:=H.nilRow 111 2
     replace H:=H.QD (α:=y5)
     refine zH (fun m' ρ w528=>∃ (xU:Env) (c:Nat) (s_at_52:Int) (s_seed_52:Int) (yD:yOA) (jf:Nat) (yA:Nat) (r_Into:List y5) (Qi:List Value) (vJ:yLN),ρ=upd (upd (upd (upd (upd (upd xU 0 (.pointer (some ⟨bs,0,none⟩))) 1 (.pointer (some ⟨bY,0,none⟩))) 4 (.pointer (some ⟨b1,0,none⟩))) 5 (.int .i64 par.length)) 6 (.pointer (some ⟨b7,0,none⟩))) 7 (.int .i64 c)∧((c:Int)≤par.length)∧(ip≤s_at_52∧s_at_52≤ip+126+26 * c)∧(1≤(c:Int))∧(r_Into.length≤3∧IntoDr kk par zi4 r_Into c)∧m' =(par.length - (c:Int)).toNat∧Fresh W0.heap.size (rFR :: vJ :: Ns)∧St W0 w528 ((rr yD jf yA 111 2 Qi) :: (.box bs [.slice ac code.length cc,.int .i64 s_at_52,.int .u64 s_seed_52] 68) :: (rr ra467 zl466.length rc469 2 1 (zl466.map (Value.int .i64))) :: (rr ra456 zl455.length rc458 2 1 (zl455.map (Value.int .i64))) :: (.box b7 [.int .i64 zi4,.int .i64 r_Rank,.slice ra8 zl6.length rc9,.slice jH jE jG,.slice jW jU jV,.slice ra456 zl455.length rc458,.slice ra467 zl466.length rc469,.slice yD jf yA,.bool false] 49) :: (rr jW jU jV 2 1 (r_Lack.map (Value.int .i64))) :: (rr jH jE jG 2 1 (r_Have.map (Value.int .i64))) :: (rr ra8 zl6.length rc9 2 1 (zl6.map (Value.int .i64))) :: (.box b1 [.int .i64 0,.int .i64 0,.slice none 0 0,.slice none 0 0,.slice none 0 0,.slice none 0 0,.slice none 0 0,.slice none 0 0,.bool false] 49) :: (.box bY [.int .i64 kk,.slice rap par.length rcp,.slice raR rules.length rcR] 27) :: (rr rap par.length rcp 2 1 (par.map (Value.int .i64))) :: (rr raR rules.length rcR 49 9 rxR) :: ps) ((xB true vJ Qi r_Into) :: (sF false Fc ac cc code) :: (xB true rFR rxR rules) :: Γ)) ((par.length - (1:Int)).toNat) ⟨_,1,s_at_51,s_seed_51,none,0,0,([]:List y5),[],[],uE6,qf,qf,qf,(by exact ⟨by simp,IntoDr.nil _ _ _ _⟩),rfl,(N.emp.zC 2 [1,0] qo),H⟩ ?_
     clear H N
     rintro m' ρ w529 ⟨xU,c,s_at_52,s_seed_52,yD,jf,yA,r_Into,Qi,vJ,rfl,i0,i1,i2,i3,rfl,N,H⟩
     have hn_r_Into:=H.zO (α:=y5) 0 rfl 0 rfl qj
     refine zcc (sps [.int .i64 c,.int .i64 par.length,.bool (decide ((c:Int) < par.length))] (zjn (cD rfl (fun h530=>?_) (fun h530=>?_))))
     ·skip
      refine xh (t_n (x8 (xg (zcr (sps [.pointer (some ⟨bY,0,none⟩),.int .i64 c] (oF rfl (oL rfl (H.cell 4 rfl rfl) ?_)))))))
      obtain ⟨G531,hn532,h533⟩:=H.Qs 10 rfl
      obtain ⟨G534,hn535,h536⟩:=H.Xd (α:=zK) 11 rfl 2 rfl qj
      have c1:y8 (⟨kk,par,rules⟩:qG) c:=⟨by show (0:Int)≤c;omega,by show (c:Int)≤(par.length:Int) - 1;omega⟩
      refine sw (oq (l02In_ok _ (⟨kk,par,rules⟩:qG) c zi4 (qK (H.cells 9 rfl) 0 3) h533 h536 ql ql) H fun w537 H=>sp (.bool (dec (Lies (⟨kk,par,rules⟩:qG).qA zi4 c))) ?_)
      cases h539:(dec (Lies (⟨kk,par,rules⟩:qG).qA zi4 c))
      ·skip
       replace h539:=zo h539
       refine xO [81,82,83,84] (sps [.bool false,.bool false] (xO [87,88] (sp (.bool false) (zjn (xI false rfl (fun h=>absurd h qj) (fun _=>xh (b_n (t_n (xZ (sp (.int .i64 c) (sw (zB c 1 rfl rfl qf (sp (.int .i64 (c+1)) (zi (xq (m' :=(par.length - ((c+1):Int)).toNat) qf ⟨_,c+1,s_at_52,s_seed_52,yD,jf,yA,r_Into,Qi,vJ,uE6,?_,?_,?_,?_,rfl,N,H⟩)))))))))))))))
       · omega
       · omega
       · omega
       · first | exact ⟨by omega,i3.2.mono qf⟩ | exact ⟨by simp;omega,i3.2.snoc qf ‹Lies par _ _› (‹zx kk 1 _∧_›).1 (‹zx kk 1 _∧_›).2⟩
      ·skip
       replace h539:=jJ h539
       refine qO 80 rfl rfl (oF rfl (qO 80 rfl rfl (oL rfl (H.cell 4 rfl rfl) (qO 80 rfl rfl (oN rfl (qO 80 rfl rfl (sps [.bool (decide ((jf:Int) < 3)),.bool (decide ((jf:Int) < 3)),.bool (decide ((jf:Int) < 3))] ?_)))))))
       cases h540:(decide ((jf:Int) < 3))
       ·skip
        replace h540:=of_decide_eq_false h540
        refine xO [87,88] (sp (.bool false) (zjn (xI false rfl (fun h=>absurd h qj) (fun _=>xh (b_n (t_n (xZ (sp (.int .i64 c) (sw (zB c 1 rfl rfl qf (sp (.int .i64 (c+1)) (zi (xq (m' :=(par.length - ((c+1):Int)).toNat) qf ⟨_,c+1,s_at_52,s_seed_52,yD,jf,yA,r_Into,Qi,vJ,uE6,?_,?_,?_,?_,rfl,N,H⟩)))))))))))))
        · omega
        · omega
        · omega
        · first | exact ⟨by omega,i3.2.mono qf⟩ | exact ⟨by simp;omega,i3.2.snoc qf ‹Lies par _ _› (‹zx kk 1 _∧_›).1 (‹zx kk 1 _∧_›).2⟩
       ·skip
        replace h540:=of_decide_eq_true h540
        refine qO 86 rfl rfl (sp (.pointer (some ⟨bs,0,none⟩)) (qO 86 rfl rfl ?_))
        have H1:=H.jv 12 3 [1,0,2,3,4,5,6,7,8,9,10,11] [1,0,2] qo qo
        have N1:Fresh _ (rFR :: vJ :: Ns):=N
        have K1:Kept (Ns) ((xB true vJ Qi r_Into) :: (xB true rFR rxR rules) :: Γ):=K0.behind 2 rfl
        replace K1:=K1.cons (F:=vJ) 0 rfl rfl
        replace K1:=K1.cons (F:=rFR) 1 rfl rfl
        refine sw (zg #[.pointer (some ⟨bs,0,none⟩),.int .i64 3] rfl rfl Tryz.call15 (Xe code s_at_52 s_seed_52 bs ac cc Fc (3:Int) H1 N1 K1 qg) ?_)
        clear H H1 N1 K1
        rintro _ w541 ⟨zi544,zi545,zb546,hx543,rfl,N,H⟩
        refine sp (.bool zb546) (zjn (xI (zb546) rfl (fun h547=>?_) (fun h547=>?_)))
        ·skip
         refine c_cut (fun ρ w556=>∃ (xU:Env) (zi548:Int) (zl549:yLI) (zi550:Int) (a551:yOA) (c552:Nat) (ra553:yOA) (rc554:Nat) (G555:yLN),ρ=upd (upd (upd (upd (upd (upd (upd (upd (upd (upd (upd (upd xU 0 (.pointer (some ⟨bs,0,none⟩))) 1 (.pointer (some ⟨bY,0,none⟩))) 4 (.pointer (some ⟨b1,0,none⟩))) 5 (.int .i64 par.length)) 6 (.pointer (some ⟨b7,0,none⟩))) 7 (.int .i64 c)) 81 (.pointer (some ⟨b7,0+7,none⟩))) 82 (.slice yD jf yA)) 83 (.int .i64 jf)) 84 (.bool true)) 87 (.pointer (some ⟨bs,0,none⟩))) 88 (.bool zb546)∧(zi544≤zi548∧zi548≤zi544+24)∧(zx kk (1:Int) zl549∧Xc zl549≠0)∧Fresh W0.heap.size ((vJ++G555) :: rFR :: Ns)∧St W0 w556 ((.box bs [.slice ac code.length cc,.int .i64 zi548,.int .u64 zi550] 68) :: (rr a551 (jf+1) c552 111 2 (Qi++[.int .i64 c,.slice ra553 zl549.length rc554])) :: (rr ra467 zl466.length rc469 2 1 (zl466.map (Value.int .i64))) :: (rr ra456 zl455.length rc458 2 1 (zl455.map (Value.int .i64))) :: (.box b7 [.int .i64 zi4,.int .i64 r_Rank,.slice ra8 zl6.length rc9,.slice jH jE jG,.slice jW jU jV,.slice ra456 zl455.length rc458,.slice ra467 zl466.length rc469,.slice a551 (jf+1) c552,.bool false] 49) :: (rr jW jU jV 2 1 (r_Lack.map (Value.int .i64))) :: (rr jH jE jG 2 1 (r_Have.map (Value.int .i64))) :: (rr ra8 zl6.length rc9 2 1 (zl6.map (Value.int .i64))) :: (.box b1 [.int .i64 0,.int .i64 0,.slice none 0 0,.slice none 0 0,.slice none 0 0,.slice none 0 0,.slice none 0 0,.slice none 0 0,.bool false] 49) :: (.box bY [.int .i64 kk,.slice rap par.length rcp,.slice raR rules.length rcR] 27) :: (rr rap par.length rcp 2 1 (par.map (Value.int .i64))) :: (rr raR rules.length rcR 49 9 rxR) :: ps) ((xB true (vJ++G555) (Qi++[.int .i64 c,.slice ra553 zl549.length rc554]) (r_Into++[(⟨c,zl549⟩:y5)])) :: (sF true G555 ra553 rc554 zl549) :: (sF false Fc ac cc code) :: (xB true rFR rxR rules) :: Γ)) ?_ ?_
         ·skip
          refine QZ rfl H [2,3,5,6,7,8,9,10,11] [0,1,2] fun H=>?_
          have S:=H.jm [2,3,5,6,7,8,9,10,11] [0,1,2]
          refine tF 0 rfl rfl S ?_
          refine rtp 2 (.int .i64 c) S ?_
          refine rtp 3 (.pointer (some ⟨bs,0,none⟩)) S ?_
          refine rtp 4 (.pointer (some ⟨bY,0,none⟩)) S ?_
          refine rtp 5 (.pointer (some ⟨bY,0,none⟩)) S ?_
          refine tF 6 rfl rfl S ?_
          refine tL 7 rfl rfl (fun _ h=>h.cell 6 rfl rfl) S ?_
          refine jd [1,8] qh qm (jI rfl ?_ (jI rfl ?_ je))
          ·skip
           refine xX (.slice yD jf yA) Tryz.isAgg47 rfl (H.cell 4 rfl rfl) (⟨H.pick [2,3,5,6,7,8,9,10,11] [0,1,2],(ro 8 rfl ?_)⟩)
           have H1:=H.jv 12 3 [0,1,2,3,4,5,6,7,8,9,10,11] [0,1,2] qo qo
           have N1:Fresh _ (rFR :: vJ :: Ns):=N
           have K1:Kept (Ns) ((xB true vJ Qi r_Into) :: (xB true rFR rxR rules) :: Γ):=K0.behind 2 rfl
           replace K1:=K1.cons (F:=vJ) 0 rfl rfl
           replace K1:=K1.cons (F:=rFR) 1 rfl rfl
           refine zg #[.pointer (some ⟨bs,0,none⟩),.int .i64 kk,.int .i64 1] rfl rfl Tryz.call92 (yV code zi544 zi545 bs ac cc Fc kk (1:Int) H1 N1 K1 qg qg qg) ?_
           clear H H1 N1 K1
           rintro _ w558 ⟨zi562,zi563,zl564,ra565,rn566,rc567,hx560,hx561,rfl,N,H⟩
           obtain rfl:=H.jb 1 rfl
           refine ⟨H.pick [3,4,6,7,8,9,10,11,12] [0,1,2],(ro 9 rfl (jg [.int .i64 c,.slice ra565 zl564.length rc567] [(0,.int .i64 c),(1,.slice ra565 zl564.length rc567)] (⟨H.pick [3,4,6,7,8,9,10,11,12] [0,1,2],(ro 10 rfl (zA H Tryz.underlying47 ti111 [.int .i64 c,.slice ra565 zl564.length rc567] fun b568 w569 H=>⟨H.pick [4,5,7,8,9,10,11,12,13] [0,1,2],(ro 11 rfl ?_)⟩))⟩)))⟩
           obtain ⟨G573,N,hn574,H⟩:=H.vG 2 rfl N (fun F hF b hb=>(List.mem_append.1 (show F∈[rFR,vJ]++Ns from hF)).elim (fun h=>(H.yg (L:=[rFR,vJ]) [2,1]) F h b hb) fun h=>H.Qb (K0.behind 3 rfl) F h b hb)
           try dsimp only [List.set] at H
           refine zL H 3 rfl 0 rfl Tryz.underlying47 ti111 rfl qj rfl rfl rfl qw qp qf fun a570 c571 w572 H=>?_
           try dsimp only [List.set] at H
           replace H:=H.snoc_IntoD 2 rfl c 0 rfl
           replace N:Fresh W0.heap.size ((vJ++G573) :: rFR :: Ns):=(N.zC 3 [2,0,1] qo).join
           refine ⟨H.pick [4,5,7,8,9,10,11,12,13] [2,3,4],(tF 12 rfl rfl (H.pick [4,5,7,8,9,10,11,12,13] [2,3,4]) ?_)⟩
           refine ro 13 rfl (zU H 6 [.int .i64 zi4,.int .i64 r_Rank,.slice ra8 zl6.length rc9,.slice jH jE jG,.slice jW jU jV,.slice ra456 zl455.length rc458,.slice ra467 zl466.length rc469,.slice a570 (jf+1) c571,.bool false] Tryz.sizeOf47 fun w575 H=>?_)
           try dsimp only [List.set] at H
           refine ⟨H.pick [4,5,7,8,9,10,11,12,13] [2,3,4],(xH qh ((meet ⟨_,zi562,zl564,zi563,a570,c571,ra565,rc567,G573,uE12,hx560,hx561,N,H.zC 14 5 [1,3,4,5,6,7,8,9,10,11,12,13] [0,1,2,4] qo qo⟩)))⟩
          ·skip
           have H1:=H.jv 12 3 [0,1,2,3,4,5,6,7,8,9,10,11] [0,1,2] qo qo
           have N1:Fresh _ (rFR :: vJ :: Ns):=N
           have K1:Kept (Ns) ((xB true vJ Qi r_Into) :: (xB true rFR rxR rules) :: Γ):=K0.behind 2 rfl
           replace K1:=K1.cons (F:=vJ) 0 rfl rfl
           replace K1:=K1.cons (F:=rFR) 1 rfl rfl
           refine zg #[.pointer (some ⟨bs,0,none⟩),.int .i64 kk,.int .i64 1] rfl rfl Tryz.call92 (yV code zi544 zi545 bs ac cc Fc kk (1:Int) H1 N1 K1 qg qg qg) ?_
           clear H H1 N1 K1
           rintro _ w576 ⟨zi580,zi581,zl582,ra583,rn584,rc585,hx578,hx579,rfl,N,H⟩
           obtain rfl:=H.jb 1 rfl
           refine ⟨H.pick [3,4,6,7,8,9,10,11,12] [0,1,2],(jd [1,9] qh qm (jI rfl ?_ (jI rfl ?_ je)))⟩
           ·skip
            refine xX (.slice yD jf yA) Tryz.isAgg47 rfl (H.cell 5 rfl rfl) (⟨H.pick [3,4,6,7,8,9,10,11,12] [0,1,2],(ro 9 rfl (jg [.int .i64 c,.slice ra583 zl582.length rc585] [(0,.int .i64 c),(1,.slice ra583 zl582.length rc585)] (⟨H.pick [3,4,6,7,8,9,10,11,12] [0,1,2],(ro 10 rfl (zA H Tryz.underlying47 ti111 [.int .i64 c,.slice ra583 zl582.length rc585] fun b586 w587 H=>⟨H.pick [4,5,7,8,9,10,11,12,13] [0,1,2],(ro 11 rfl ?_)⟩))⟩)))⟩)
            obtain ⟨G591,N,hn592,H⟩:=H.vG 2 rfl N (fun F hF b hb=>(List.mem_append.1 (show F∈[rFR,vJ]++Ns from hF)).elim (fun h=>(H.yg (L:=[rFR,vJ]) [2,1]) F h b hb) fun h=>H.Qb (K0.behind 3 rfl) F h b hb)
            try dsimp only [List.set] at H
            refine zL H 3 rfl 0 rfl Tryz.underlying47 ti111 rfl qj rfl rfl rfl qw qp qf fun a588 c589 w590 H=>?_
            try dsimp only [List.set] at H
            replace H:=H.snoc_IntoD 2 rfl c 0 rfl
            replace N:Fresh W0.heap.size ((vJ++G591) :: rFR :: Ns):=(N.zC 3 [2,0,1] qo).join
            refine ⟨H.pick [4,5,7,8,9,10,11,12,13] [2,3,4],(tF 12 rfl rfl (H.pick [4,5,7,8,9,10,11,12,13] [2,3,4]) ?_)⟩
            refine ro 13 rfl (zU H 6 [.int .i64 zi4,.int .i64 r_Rank,.slice ra8 zl6.length rc9,.slice jH jE jG,.slice jW jU jV,.slice ra456 zl455.length rc458,.slice ra467 zl466.length rc469,.slice a588 (jf+1) c589,.bool false] Tryz.sizeOf47 fun w593 H=>?_)
            try dsimp only [List.set] at H
            refine ⟨H.pick [4,5,7,8,9,10,11,12,13] [2,3,4],(xH qh ((meet ⟨_,zi580,zl582,zi581,a588,c589,ra583,rc585,G591,uE12,hx578,hx579,N,H.zC 14 5 [1,3,4,5,6,7,8,9,10,11,12,13] [0,1,2,4] qo qo⟩)))⟩
           ·skip
            refine jg [.int .i64 c,.slice ra583 zl582.length rc585] [(0,.int .i64 c),(1,.slice ra583 zl582.length rc585)] (⟨H.pick [3,4,6,7,8,9,10,11,12] [0,1,2],(jd [1,10] qh qm (jI rfl ?_ (jI rfl ?_ je)))⟩)
            ·skip
             refine xX (.slice yD jf yA) Tryz.isAgg47 rfl (H.cell 5 rfl rfl) (⟨H.pick [3,4,6,7,8,9,10,11,12] [0,1,2],(ro 10 rfl (zA H Tryz.underlying47 ti111 [.int .i64 c,.slice ra583 zl582.length rc585] fun b594 w595 H=>⟨H.pick [4,5,7,8,9,10,11,12,13] [0,1,2],(ro 11 rfl ?_)⟩))⟩)
             obtain ⟨G599,N,hn600,H⟩:=H.vG 2 rfl N (fun F hF b hb=>(List.mem_append.1 (show F∈[rFR,vJ]++Ns from hF)).elim (fun h=>(H.yg (L:=[rFR,vJ]) [2,1]) F h b hb) fun h=>H.Qb (K0.behind 3 rfl) F h b hb)
             try dsimp only [List.set] at H
             refine zL H 3 rfl 0 rfl Tryz.underlying47 ti111 rfl qj rfl rfl rfl qw qp qf fun a596 c597 w598 H=>?_
             try dsimp only [List.set] at H
             replace H:=H.snoc_IntoD 2 rfl c 0 rfl
             replace N:Fresh W0.heap.size ((vJ++G599) :: rFR :: Ns):=(N.zC 3 [2,0,1] qo).join
             refine ⟨H.pick [4,5,7,8,9,10,11,12,13] [2,3,4],(tF 12 rfl rfl (H.pick [4,5,7,8,9,10,11,12,13] [2,3,4]) ?_)⟩
             refine ro 13 rfl (zU H 6 [.int .i64 zi4,.int .i64 r_Rank,.slice ra8 zl6.length rc9,.slice jH jE jG,.slice jW jU jV,.slice ra456 zl455.length rc458,.slice ra467 zl466.length rc469,.slice a596 (jf+1) c597,.bool false] Tryz.sizeOf47 fun w601 H=>?_)
             try dsimp only [List.set] at H
             refine ⟨H.pick [4,5,7,8,9,10,11,12,13] [2,3,4],(xH qh ((meet ⟨_,zi580,zl582,zi581,a596,c597,ra583,rc585,G599,uE12,hx578,hx579,N,H.zC 14 5 [1,3,4,5,6,7,8,9,10,11,12,13] [0,1,2,4] qo qo⟩)))⟩
            ·skip
             refine zA H Tryz.underlying47 ti111 [.int .i64 c,.slice ra583 zl582.length rc585] fun b602 w603 H=>⟨H.pick [4,5,7,8,9,10,11,12,13] [0,1,2],(ro 1 rfl (xX (.slice yD jf yA) Tryz.isAgg47 rfl (H.cell 6 rfl rfl) (⟨H.pick [4,5,7,8,9,10,11,12,13] [0,1,2],(ro 11 rfl ?_)⟩)))⟩
             obtain ⟨G607,N,hn608,H⟩:=H.vG 2 rfl N (fun F hF b hb=>(List.mem_append.1 (show F∈[rFR,vJ]++Ns from hF)).elim (fun h=>(H.yg (L:=[rFR,vJ]) [2,1]) F h b hb) fun h=>H.Qb (K0.behind 3 rfl) F h b hb)
             try dsimp only [List.set] at H
             refine zL H 3 rfl 0 rfl Tryz.underlying47 ti111 rfl qj rfl rfl rfl qw qp qf fun a604 c605 w606 H=>?_
             try dsimp only [List.set] at H
             replace H:=H.snoc_IntoD 2 rfl c 0 rfl
             replace N:Fresh W0.heap.size ((vJ++G607) :: rFR :: Ns):=(N.zC 3 [2,0,1] qo).join
             refine ⟨H.pick [4,5,7,8,9,10,11,12,13] [2,3,4],(tF 12 rfl rfl (H.pick [4,5,7,8,9,10,11,12,13] [2,3,4]) ?_)⟩
             refine ro 13 rfl (zU H 6 [.int .i64 zi4,.int .i64 r_Rank,.slice ra8 zl6.length rc9,.slice jH jE jG,.slice jW jU jV,.slice ra456 zl455.length rc458,.slice ra467 zl466.length rc469,.slice a604 (jf+1) c605,.bool false] Tryz.sizeOf47 fun w609 H=>?_)
             try dsimp only [List.set] at H
             refine ⟨H.pick [4,5,7,8,9,10,11,12,13] [2,3,4],(xH qh ((meet ⟨_,zi580,zl582,zi581,a604,c605,ra583,rc585,G607,uE12,hx578,hx579,N,H.zC 14 5 [1,3,4,5,6,7,8,9,10,11,12,13] [0,1,2,4] qo qo⟩)))⟩
         ·skip
          clear H N
          rintro ρ w610 ⟨xU,zi548,zl549,zi550,a551,c552,ra553,rc554,G555,rfl,hx611,hx612,N,H⟩
          refine b_n (t_n (xZ (sp (.int .i64 c) (sw (zB c 1 rfl rfl qf (sp (.int .i64 (c+1)) (zi (xq (m' :=(par.length - ((c+1):Int)).toNat) qf ⟨_,c+1,zi548,zi550,a551,jf+1,c552,(r_Into++[(⟨c,zl549⟩:y5)]),(Qi++[Value.int .i64 c,Value.slice ra553 zl549.length rc554]:List Value),(vJ++G555),uE6,?_,?_,?_,?_,rfl,(N.zC 2 [1,0] qo),H.zC 12 4 [1,0,2,3,4,5,6,7,8,9,10,11] [0,2,3] qo qo⟩))))))))
          · omega
          · omega
          · omega
          · first | exact ⟨by omega,i3.2.mono qf⟩ | exact ⟨by simp;omega,i3.2.snoc qf ‹Lies par _ _› (‹zx kk 1 _∧_›).1 (‹zx kk 1 _∧_›).2⟩
        ·skip
         refine xh (b_n (t_n (xZ (sp (.int .i64 c) (sw (zB c 1 rfl rfl qf (sp (.int .i64 (c+1)) (zi (xq (m' :=(par.length - ((c+1):Int)).toNat) qf ⟨_,c+1,zi544,zi545,yD,jf,yA,r_Into,Qi,vJ,uE6,?_,?_,?_,?_,rfl,N,H.zC 12 3 [1,0,2,3,4,5,6,7,8,9,10,11] [1,0,2] qo qo⟩)))))))))
         · omega
         · omega
         · omega
         · first | exact ⟨by omega,i3.2.mono qf⟩ | exact ⟨by simp;omega,i3.2.snoc qf ‹Lies par _ _› (‹zx kk 1 _∧_›).1 (‹zx kk 1 _∧_›).2⟩
     ·skip
      refine zx4 (zcr (oF rfl (oL rfl (H.cell 4 rfl rfl) (sps [.bool (decide ((zi4:Int) > 0)),.bool (decide ((zi4:Int) > 0))] ?_))))
      cases h613:(decide ((zi4:Int) > 0))
      ·skip
       replace h613:=of_decide_eq_false h613
       refine xO [107,108] (sp (.bool false) (oF rfl (sw (zU H 4 [.int .i64 zi4,.int .i64 r_Rank,.slice ra8 zl6.length rc9,.slice jH jE jG,.slice jW jU jV,.slice ra456 zl455.length rc458,.slice ra467 zl466.length rc469,.slice yD jf yA,.bool false] Tryz.sizeOf4 fun w614 H=>?_))))
       try dsimp only [List.set] at H
       refine zjc (sw (xW [.int .i64 zi4,.int .i64 r_Rank,.slice ra8 zl6.length rc9,.slice jH jE jG,.slice jW jU jV,.slice ra456 zl455.length rc458,.slice ra467 zl466.length rc469,.slice yD jf yA,.bool false] Tryz.isAgg49 Tryz.sizeOf49 rfl (qK (H.cells 4 rfl) 0 9) (sw (xP H 8 [.int .i64 zi4,.int .i64 r_Rank,.slice ra8 zl6.length rc9,.slice jH jE jG,.slice jW jU jV,.slice ra456 zl455.length rc458,.slice ra467 zl466.length rc469,.slice yD jf yA,.bool false] Tryz.sizeOf49 fun w615 H=>?_))))
       try dsimp only [List.set] at H
       refine zjr (retC H 8 rfl rfl Tryz.isAgg49 Tryz.sizeOf49 rfl ⟨_,rfl,?_⟩)
       have he:(c:Int)=par.length:=by omega
       exact ⟨s_at_52,s_seed_52,zi4,r_Rank,zl6,r_Have,r_Lack,zl455,zl466,r_Into,false,ra8,zl6.length,rc9,jH,jE,jG,jW,jU,jV,ra456,zl455.length,rc458,ra467,zl466.length,rc469,yD,jf,yA,Qi,vJ,qf,(by exact ruleDr_of qf qg (by first | exact (fun _=>by omega) | exact (fun h=>by cases h)) ql jh jl ql ql ⟨i3.1,he▸i3.2⟩),rfl,N,H.zC 12 3 [1,9,10,11,7,6,5,3,2,0] [1,2,0] qo qo⟩
      ·skip
       replace h613:=of_decide_eq_true h613
       refine qO 106 rfl rfl (sp (.pointer (some ⟨bs,0,none⟩)) (qO 106 rfl rfl ?_))
       have H1:=H.jv 12 3 [1,0,2,3,4,5,6,7,8,9,10,11] [1,0,2] qo qo
       have N1:Fresh _ (rFR :: vJ :: Ns):=N
       have K1:Kept (Ns) ((xB true vJ Qi r_Into) :: (xB true rFR rxR rules) :: Γ):=K0.behind 2 rfl
       replace K1:=K1.cons (F:=vJ) 0 rfl rfl
       replace K1:=K1.cons (F:=rFR) 1 rfl rfl
       refine sw (zg #[.pointer (some ⟨bs,0,none⟩),.int .i64 6] rfl rfl Tryz.call15 (Xe code s_at_52 s_seed_52 bs ac cc Fc (6:Int) H1 N1 K1 qg) ?_)
       clear H H1 N1 K1
       rintro _ w616 ⟨zi619,zi620,zb621,hx618,rfl,N,H⟩
       refine sp (.bool zb621) (oF rfl (sw (zU H 4 [.int .i64 zi4,.int .i64 r_Rank,.slice ra8 zl6.length rc9,.slice jH jE jG,.slice jW jU jV,.slice ra456 zl455.length rc458,.slice ra467 zl466.length rc469,.slice yD jf yA,.bool zb621] Tryz.sizeOf4 fun w622 H=>?_)))
       try dsimp only [List.set] at H
       refine zjc (sw (xW [.int .i64 zi4,.int .i64 r_Rank,.slice ra8 zl6.length rc9,.slice jH jE jG,.slice jW jU jV,.slice ra456 zl455.length rc458,.slice ra467 zl466.length rc469,.slice yD jf yA,.bool zb621] Tryz.isAgg49 Tryz.sizeOf49 rfl (qK (H.cells 4 rfl) 0 9) (sw (xP H 8 [.int .i64 zi4,.int .i64 r_Rank,.slice ra8 zl6.length rc9,.slice jH jE jG,.slice jW jU jV,.slice ra456 zl455.length rc458,.slice ra467 zl466.length rc469,.slice yD jf yA,.bool zb621] Tryz.sizeOf49 fun w623 H=>?_))))
       try dsimp only [List.set] at H
       refine zjr (retC H 8 rfl rfl Tryz.isAgg49 Tryz.sizeOf49 rfl ⟨_,rfl,?_⟩)
       have he:(c:Int)=par.length:=by omega
       exact ⟨zi619,zi620,zi4,r_Rank,zl6,r_Have,r_Lack,zl455,zl466,r_Into,zb621,ra8,zl6.length,rc9,jH,jE,jG,jW,jU,jV,ra456,zl455.length,rc458,ra467,zl466.length,rc469,yD,jf,yA,Qi,vJ,qf,(by exact ruleDr_of qf qg (by first | exact (fun _=>by omega) | exact (fun h=>by cases h)) ql jh jl ql ql ⟨i3.1,he▸i3.2⟩),rfl,N,H.zC 12 3 [0,9,10,11,7,6,5,3,2,1] [0,2,1] qo qo⟩
theorem dSystem_ok {W0 w:World} {ps:List Prv} {Γ:List Fact} {Ns:List yLN} (code:List UInt8) (ip:Int) (sd:Int) (bs:Nat) (ac:yOA) (cc:Nat) (Fc:yLN) (H:St W0 w ((.box bs [.slice ac code.length cc,.int .i64 ip,.int .u64 sd] 68) :: ps) ((sF false Fc ac cc code) :: Γ)) (N:Fresh W0.heap.size (Ns)) (K0:Kept Ns Γ) (q0:0≤ip∧ip≤50000):Calls Tryz.prog 31 #[.pointer (some ⟨bs,0,none⟩)] w (fun e w' =>∃ v,e=.returned v∧∃ (ip_:Int) (sd_:Int) (kk_:Int) (par_:yLI) (rules_:List zK) (raq:yOA) (rnq:Nat) (rcq:Nat) (raS:yOA) (rnS:Nat) (rcS:Nat) (rxS:List Value) (rFS:yLN),(ip≤ip_∧ip_≤ip+2000)∧(SysDr kk_ par_ rules_)∧v=.agg #[.int .i64 kk_,.slice raq rnq rcq,.slice raS rnS rcS]∧Fresh W0.heap.size (rFS :: Ns)∧St W0 w' ((.box bs [.slice ac code.length cc,.int .i64 ip_,.int .u64 sd_] 68) :: (rr raq rnq rcq 2 1 (par_.map (Value.int .i64))) :: (rr raS rnS rcS 49 9 rxS) :: ps) ((sF false Fc ac cc code) :: (xB true rFS rxS rules_) :: Γ)):=by
 refine en Tryz.func31 Tryz.ntmps31 ?_
 have ncode:=qU (H.get 0 rfl).1
 refine zcr (sw (x9 H ti27 [.int .i64 0,.slice none 0 0,.slice none 0 0] fun b1 w2 H=>zjc (sp (.pointer (some ⟨bs,0,none⟩)) ?_)))
 have H1:=H.jv 2 1 [1,0] [0] qo qo
 have N1:Fresh _ (Ns):=N
 have K1:Kept (Ns) (Γ):=K0.behind 0 rfl
 refine sw (zg #[.pointer (some ⟨bs,0,none⟩),.int .i64 3] rfl rfl Tryz.call17 (jF code ip sd bs ac cc Fc (3:Int) H1 N1 K1 qg) ?_)
 clear H H1 N1 K1
 rintro _ w3 ⟨zi7,zi8,zi9,hx5,hx6,rfl,N,H⟩
 refine sw (zB 1 zi9 rfl rfl qf (sw (zA H Tryz.underlying24 ti2 [.int .i64 (-1)] fun b10 w11 H=>sw (jg [.int .i64 (1+zi9),.slice (some ⟨b10,0,none⟩) 1 1,.slice none 0 0] [(0,.int .i64 (1+zi9)),(1,.slice (some ⟨b10,0,none⟩) 1 1)] (sw (x9 H ti27 [.int .i64 0,.slice none 0 0,.slice none 0 0] fun b12 w13 H=>sw (xP H 0 [.int .i64 (1+zi9),.slice (some ⟨b10,0,none⟩) 1 1,.slice none 0 0] Tryz.sizeOf27 fun w14 H=>?_)))))))
 try dsimp only [List.set] at H
 refine zjcc (sp (.pointer (some ⟨bs,0,none⟩)) ?_)
 have H1:=H.jv 4 1 [2,0,1,3] [0] qo qo
 have N1:Fresh _ (Ns):=N
 have K1:Kept (Ns) (Γ):=K0.behind 0 rfl
 refine sw (zg #[.pointer (some ⟨bs,0,none⟩),.int .i64 3] rfl rfl Tryz.call17 (jF code zi7 zi8 bs ac cc Fc (3:Int) H1 N1 K1 qg) ?_)
 clear H H1 N1 K1
 rintro _ w15 ⟨zi19,zi20,zi21,hx17,hx18,rfl,N,H⟩
 refine sp (.int .i64 zi21) (zjn (xg ?_))
 replace H:=H.boxRowI 2 [(-1)] 1
 try dsimp only [List.set] at H
 refine zH (fun m' ρ w22=>∃ (xU:Env) (c:Int) (s_at:Int) (s_seed:Int) (vS:yOA) (zl:Nat) (vP:Nat) (y_Parents:yLI),ρ=upd (upd (upd (upd xU 0 (.pointer (some ⟨bs,0,none⟩))) 2 (.pointer (some ⟨b1,0,none⟩))) 3 (.pointer (some ⟨b12,0,none⟩))) 4 (.int .i64 c)∧(ip≤s_at∧s_at+2 * c≤ip+8)∧(0≤c∧(y_Parents.length:Int)+c≤3)∧(ParDr y_Parents)∧m' =c.toNat∧Fresh W0.heap.size (Ns)∧St W0 w22 ((.box bs [.slice ac code.length cc,.int .i64 s_at,.int .u64 s_seed] 68) :: (.box b12 [.int .i64 (1+zi9),.slice vS zl vP,.slice none 0 0] 27) :: (rr vS zl vP 2 1 (y_Parents.map (Value.int .i64))) :: (.box b1 [.int .i64 0,.slice none 0 0,.slice none 0 0] 27) :: ps) ((sF false Fc ac cc code) :: Γ)) (zi21.toNat) ⟨_,zi21,zi19,zi20,(some ⟨b10,0,none⟩),1,1,[(-1)],uE4,qf,qy,(by exact ParDr.one),rfl,N,H⟩ ?_
 clear H N
 rintro m' ρ w23 ⟨xU,c,s_at,s_seed,vS,zl,vP,y_Parents,rfl,i1,i2,i3,rfl,N,H⟩
 have hn_y_Parents:=H.jb 2 rfl
 have i4:=i3.1
 refine zcc (sps [.int .i64 c,.bool (decide ((c:Int) > 0))] (zjn (cD rfl (fun h24=>?_) (fun h24=>?_))))
 ·skip
  refine xh (t_n (x8 (xg ?_)))
  refine c_cut (fun ρ w30=>∃ (xU:Env) (zi25:Int) (zi26:Int) (zi27:Int) (a28:yOA) (c29:Nat),ρ=upd (upd (upd (upd xU 0 (.pointer (some ⟨bs,0,none⟩))) 2 (.pointer (some ⟨b1,0,none⟩))) 3 (.pointer (some ⟨b12,0,none⟩))) 4 (.int .i64 c)∧(s_at≤zi25∧zi25≤s_at+2)∧(0≤zi26∧(zi26 < zl∨zi26=0))∧Fresh W0.heap.size (Ns)∧St W0 w30 ((.box bs [.slice ac code.length cc,.int .i64 zi25,.int .u64 zi27] 68) :: (.box b12 [.int .i64 (1+zi9),.slice a28 (zl+1) c29,.slice none 0 0] 27) :: (rr a28 (zl+1) c29 2 1 ((y_Parents++[zi26]).map (Value.int .i64))) :: (.box b1 [.int .i64 0,.slice none 0 0,.slice none 0 0] 27) :: ps) ((sF false Fc ac cc code) :: Γ)) ?_ ?_
  ·skip
   refine QZ rfl H [3] [0] fun H=>?_
   have S:=H.jm [3] [0]
   refine tF 0 rfl rfl S ?_
   refine rtp 2 (.pointer (some ⟨bs,0,none⟩)) S ?_
   refine tF 3 rfl rfl S ?_
   refine jd [1,4] qh qm (jI rfl ?_ (jI rfl ?_ je))
   ·skip
    refine xX (.slice vS zl vP) Tryz.isAgg24 rfl (H.cell 1 rfl rfl) (⟨H.pick [3] [0],(ro 4 rfl (xX (.slice vS zl vP) Tryz.isAgg24 rfl (H.cell 1 rfl rfl) (⟨H.pick [3] [0],(tN 5 rfl rfl (H.pick [3] [0]) ?_)⟩)))⟩)
    refine ro 6 rfl ?_
    have H1:=H.jv 4 1 [0,1,2,3] [0] qo qo
    have N1:Fresh _ (Ns):=N
    have K1:Kept (Ns) (Γ):=K0.behind 0 rfl
    refine zg #[.pointer (some ⟨bs,0,none⟩),.int .i64 zl] rfl rfl Tryz.call17 (jF code s_at s_seed bs ac cc Fc zl H1 N1 K1 qg) ?_
    clear H H1 N1 K1
    rintro _ w32 ⟨zi36,zi37,zi38,hx34,hx35,rfl,N,H⟩
    refine ⟨H.pick [3] [0],(ro 7 rfl (zA H Tryz.underlying24 ti2 [.int .i64 zi38] fun b39 w40 H=>⟨H.pick [4] [0],(ro 8 rfl (zL H 3 rfl 0 rfl Tryz.underlying24 ti2 rfl qj rfl rfl rfl qw qp qf fun a41 c42 w43 H=>?_))⟩))⟩
    rw [snocI] at H
    try dsimp only [List.set] at H
    refine ⟨H.pick [4] [0],(tF 9 rfl rfl (H.pick [4] [0]) ?_)⟩
    refine ro 10 rfl (zU H 2 [.int .i64 (1+zi9),.slice a41 (zl+1) c42,.slice none 0 0] Tryz.sizeOf24 fun w44 H=>?_)
    try dsimp only [List.set] at H
    refine ⟨H.pick [4] [0],(xH qh ((meet ⟨_,zi36,zi38,zi37,a41,c42,uE4,hx34,hx35,N,H.zC 5 1 [1,2,3,4] [0] qo qo⟩)))⟩
   ·skip
    refine xX (.slice vS zl vP) Tryz.isAgg24 rfl (H.cell 1 rfl rfl) (⟨H.pick [3] [0],(tN 5 rfl rfl (H.pick [3] [0]) ?_)⟩)
    refine jd [1,6] qh qm (jI rfl ?_ (jI rfl ?_ je))
    ·skip
     refine xX (.slice vS zl vP) Tryz.isAgg24 rfl (H.cell 1 rfl rfl) (⟨H.pick [3] [0],(ro 6 rfl ?_)⟩)
     have H1:=H.jv 4 1 [0,1,2,3] [0] qo qo
     have N1:Fresh _ (Ns):=N
     have K1:Kept (Ns) (Γ):=K0.behind 0 rfl
     refine zg #[.pointer (some ⟨bs,0,none⟩),.int .i64 zl] rfl rfl Tryz.call17 (jF code s_at s_seed bs ac cc Fc zl H1 N1 K1 qg) ?_
     clear H H1 N1 K1
     rintro _ w45 ⟨zi49,zi50,zi51,hx47,hx48,rfl,N,H⟩
     refine ⟨H.pick [3] [0],(ro 7 rfl (zA H Tryz.underlying24 ti2 [.int .i64 zi51] fun b52 w53 H=>⟨H.pick [4] [0],(ro 8 rfl (zL H 3 rfl 0 rfl Tryz.underlying24 ti2 rfl qj rfl rfl rfl qw qp qf fun a54 c55 w56 H=>?_))⟩))⟩
     rw [snocI] at H
     try dsimp only [List.set] at H
     refine ⟨H.pick [4] [0],(tF 9 rfl rfl (H.pick [4] [0]) ?_)⟩
     refine ro 10 rfl (zU H 2 [.int .i64 (1+zi9),.slice a54 (zl+1) c55,.slice none 0 0] Tryz.sizeOf24 fun w57 H=>?_)
     try dsimp only [List.set] at H
     refine ⟨H.pick [4] [0],(xH qh ((meet ⟨_,zi49,zi51,zi50,a54,c55,uE4,hx47,hx48,N,H.zC 5 1 [1,2,3,4] [0] qo qo⟩)))⟩
    ·skip
     have H1:=H.jv 4 1 [0,1,2,3] [0] qo qo
     have N1:Fresh _ (Ns):=N
     have K1:Kept (Ns) (Γ):=K0.behind 0 rfl
     refine zg #[.pointer (some ⟨bs,0,none⟩),.int .i64 zl] rfl rfl Tryz.call17 (jF code s_at s_seed bs ac cc Fc zl H1 N1 K1 qg) ?_
     clear H H1 N1 K1
     rintro _ w58 ⟨zi62,zi63,zi64,hx60,hx61,rfl,N,H⟩
     refine ⟨H.pick [3] [0],(jd [1,7] qh qm (jI rfl ?_ (jI rfl ?_ je)))⟩
     ·skip
      refine xX (.slice vS zl vP) Tryz.isAgg24 rfl (H.cell 1 rfl rfl) (⟨H.pick [3] [0],(ro 7 rfl (zA H Tryz.underlying24 ti2 [.int .i64 zi64] fun b65 w66 H=>⟨H.pick [4] [0],(ro 8 rfl (zL H 3 rfl 0 rfl Tryz.underlying24 ti2 rfl qj rfl rfl rfl qw qp qf fun a67 c68 w69 H=>?_))⟩))⟩)
      rw [snocI] at H
      try dsimp only [List.set] at H
      refine ⟨H.pick [4] [0],(tF 9 rfl rfl (H.pick [4] [0]) ?_)⟩
      refine ro 10 rfl (zU H 2 [.int .i64 (1+zi9),.slice a67 (zl+1) c68,.slice none 0 0] Tryz.sizeOf24 fun w70 H=>?_)
      try dsimp only [List.set] at H
      refine ⟨H.pick [4] [0],(xH qh ((meet ⟨_,zi62,zi64,zi63,a67,c68,uE4,hx60,hx61,N,H.zC 5 1 [1,2,3,4] [0] qo qo⟩)))⟩
     ·skip
      refine zA H Tryz.underlying24 ti2 [.int .i64 zi64] fun b71 w72 H=>⟨H.pick [4] [0],(ro 1 rfl (xX (.slice vS zl vP) Tryz.isAgg24 rfl (H.cell 2 rfl rfl) (⟨H.pick [4] [0],(ro 8 rfl (zL H 3 rfl 0 rfl Tryz.underlying24 ti2 rfl qj rfl rfl rfl qw qp qf fun a73 c74 w75 H=>?_))⟩)))⟩
      rw [snocI] at H
      try dsimp only [List.set] at H
      refine ⟨H.pick [4] [0],(tF 9 rfl rfl (H.pick [4] [0]) ?_)⟩
      refine ro 10 rfl (zU H 2 [.int .i64 (1+zi9),.slice a73 (zl+1) c74,.slice none 0 0] Tryz.sizeOf24 fun w76 H=>?_)
      try dsimp only [List.set] at H
      refine ⟨H.pick [4] [0],(xH qh ((meet ⟨_,zi62,zi64,zi63,a73,c74,uE4,hx60,hx61,N,H.zC 5 1 [1,2,3,4] [0] qo qo⟩)))⟩
  ·skip
   clear H N
   rintro ρ w77 ⟨xU,zi25,zi26,zi27,a28,c29,rfl,hx78,hx79,N,H⟩
   refine b_n (t_n (xZ (sp (.int .i64 c) (sw (o_sub c 1 rfl rfl qf (sp (.int .i64 (c - 1)) (zi (xq (m' :=(c - 1).toNat) qf ⟨_,c - 1,zi25,zi27,a28,zl+1,c29,(y_Parents++[zi26]),uE4,?_,?_,?_,rfl,N,H⟩))))))))
   · omega
   · simp;omega
   · exact i3.snoc (by have:=i3.1;omega)
 ·skip
  refine zx4 (zcc (sp (.pointer (some ⟨bs,0,none⟩)) ?_))
  have H1:=H.jv 4 1 [0,1,2,3] [0] qo qo
  have N1:Fresh _ (Ns):=N
  have K1:Kept (Ns) (Γ):=K0.behind 0 rfl
  refine sw (zg #[.pointer (some ⟨bs,0,none⟩),.int .i64 6] rfl rfl Tryz.call17 (jF code s_at s_seed bs ac cc Fc (6:Int) H1 N1 K1 qg) ?_)
  clear H H1 N1 K1
  rintro _ w80 ⟨zi84,zi85,zi86,hx82,hx83,rfl,N,H⟩
  refine sp (.int .i64 zi86) (zjn (xg ?_))
  replace H:=H.nilRow 49 9
  replace H:=H.QD (α:=zK)
  refine zH (fun m' ρ w87=>∃ (xU:Env) (k:Int) (s_at_1:Int) (s_seed_1:Int) (QL:yOA) (yl:Nat) (QI:Nat) (y_Rules:List zK) (xE:List Value) (xy:yLN),ρ=upd (upd (upd (upd xU 0 (.pointer (some ⟨bs,0,none⟩))) 2 (.pointer (some ⟨b1,0,none⟩))) 3 (.pointer (some ⟨b12,0,none⟩))) 5 (.int .i64 k)∧(ip≤s_at_1∧s_at_1+300 * k≤ip+1600)∧(0≤k∧(y_Rules.length:Int)+k≤5)∧(zQ (1+zi9) y_Parents y_Rules)∧m' =k.toNat∧Fresh W0.heap.size (xy :: Ns)∧St W0 w87 ((rr QL yl QI 49 9 xE) :: (.box bs [.slice ac code.length cc,.int .i64 s_at_1,.int .u64 s_seed_1] 68) :: (.box b12 [.int .i64 (1+zi9),.slice vS zl vP,.slice QL yl QI] 27) :: (rr vS zl vP 2 1 (y_Parents.map (Value.int .i64))) :: (.box b1 [.int .i64 0,.slice none 0 0,.slice none 0 0] 27) :: ps) ((xB true xy xE y_Rules) :: (sF false Fc ac cc code) :: Γ)) (zi86.toNat) ⟨_,zi86,zi84,zi85,none,0,0,([]:List zK),[],[],uE4,qf,qy,(by exact zQ.nil _ _),rfl,N.emp,H⟩ ?_
  clear H N
  rintro m' ρ w88 ⟨xU,k,s_at_1,s_seed_1,QL,yl,QI,y_Rules,xE,xy,rfl,j1,j2,j3,rfl,N,H⟩
  have hn_y_Rules:=H.zO (α:=zK) 0 rfl 0 rfl qj
  refine zcc (sps [.int .i64 k,.bool (decide ((k:Int) > 0))] (zjn (cD rfl (fun h89=>?_) (fun h89=>?_))))
  ·skip
   refine xh (t_n (x8 (xg ?_)))
   refine c_cut (fun ρ w121=>∃ (xU:Env) (zi90:Int) (zi91:Int) (zi92:Int) (zl93:yLI) (zl94:yLI) (zl95:yLI) (zl96:yLI) (zl97:yLI) (zI98:List y5) (zb99:Bool) (zi100:Int) (a101:yOA) (c102:Nat) (ra103:yOA) (rc104:Nat) (ra105:yOA) (rc106:Nat) (ra107:yOA) (rc108:Nat) (ra109:yOA) (rc110:Nat) (ra111:yOA) (rc112:Nat) (ra113:yOA) (rc114:Nat) (G115:yLN) (G116:yLN) (G117:yLN) (G118:yLN) (G119:yLN) (G120:yLN),ρ=upd (upd (upd (upd xU 0 (.pointer (some ⟨bs,0,none⟩))) 2 (.pointer (some ⟨b1,0,none⟩))) 3 (.pointer (some ⟨b12,0,none⟩))) 5 (.int .i64 k)∧(s_at_1≤zi90∧zi90≤s_at_1+300)∧(RuleDr (1+zi9) y_Parents ⟨zi91,zi92,zl93,zl94,zl95,zl96,zl97,zI98,zb99⟩)∧Fresh W0.heap.size ((xy++(G115++G116++G117++G118++G119++G120)) :: Ns)∧St W0 w121 ((.box bs [.slice ac code.length cc,.int .i64 zi90,.int .u64 zi100] 68) :: (.box b12 [.int .i64 (1+zi9),.slice vS zl vP,.slice a101 (yl+1) c102] 27) :: (rr vS zl vP 2 1 (y_Parents.map (Value.int .i64))) :: (rr a101 (yl+1) c102 49 9 (xE++[.int .i64 zi91,.int .i64 zi92,.slice ra103 zl93.length rc104,.slice ra105 zl94.length rc106,.slice ra107 zl95.length rc108,.slice ra109 zl96.length rc110,.slice ra111 zl97.length rc112,.slice ra113 zI98.length rc114,.bool zb99])) :: (.box b1 [.int .i64 0,.slice none 0 0,.slice none 0 0] 27) :: ps) ((xB true (xy++(G115++G116++G117++G118++G119++G120)) (xE++[.int .i64 zi91,.int .i64 zi92,.slice ra103 zl93.length rc104,.slice ra105 zl94.length rc106,.slice ra107 zl95.length rc108,.slice ra109 zl96.length rc110,.slice ra111 zl97.length rc112,.slice ra113 zI98.length rc114,.bool zb99]) (y_Rules++[(⟨zi91,zi92,zl93,zl94,zl95,zl96,zl97,zI98,zb99⟩:zK)])) :: (sF true G120 ra113 rc114 zI98) :: (sF true G119 ra111 rc112 zl97) :: (sF true G118 ra109 rc110 zl96) :: (sF true G117 ra107 rc108 zl95) :: (sF true G116 ra105 rc106 zl94) :: (sF true G115 ra103 rc104 zl93) :: (sF false Fc ac cc code) :: Γ)) ?_ ?_
   ·skip
    refine QZ rfl H [3,4] [0,1] fun H=>?_
    have S:=H.jm [3,4] [0,1]
    refine tF 0 rfl rfl S ?_
    refine rtp 2 (.pointer (some ⟨bs,0,none⟩)) S ?_
    refine jd [1,3] qh qm (jI rfl ?_ (jI rfl ?_ je))
    ·skip
     refine xX (.slice QL yl QI) Tryz.isAgg25 rfl (H.cell 2 rfl rfl) (⟨H.pick [3,4] [0,1],(ro 3 rfl ?_)⟩)
     have f0:zN (⟨1+zi9,y_Parents,y_Rules⟩:qG):=frame_of i3 qf qf
     have H1:=H.jv 5 2 [1,2,3,0,4] [1,0] qo qo
     have N1:Fresh _ (xy :: Ns):=N
     have K1:Kept (Ns) (Γ):=K0.behind 0 rfl
     refine zg #[.pointer (some ⟨bs,0,none⟩),.pointer (some ⟨b12,0,none⟩)] rfl rfl Tryz.call67 (dRule_ok code s_at_1 s_seed_1 bs ac cc Fc (1+zi9) y_Parents y_Rules b12 vS zl vP QL yl QI xE xy H1 N1 K1 qg qg) ?_
     clear H H1 N1 K1
     rintro _ w123 ⟨zi127,zi128,zi129,zi130,zl131,zl132,zl133,zl134,zl135,zI136,zb137,ra138,rn139,rc140,ra141,rn142,rc143,ra144,rn145,rc146,ra147,rn148,rc149,ra150,rn151,rc152,ra153,rn154,rc155,rx156,rF157,hx125,hx126,rfl,N,H⟩
     obtain rfl:=H.jb 4 rfl
     obtain rfl:=H.jb 5 rfl
     obtain rfl:=H.jb 6 rfl
     obtain rfl:=H.jb 7 rfl
     obtain rfl:=H.jb 8 rfl
     obtain rfl:=H.zO (α:=y5) 9 rfl 2 rfl qj
     refine ⟨H.pick [2,10] [1,0],(ro 4 rfl (zA H Tryz.underlying25 ti49 [.int .i64 zi129,.int .i64 zi130,.slice ra138 zl131.length rc140,.slice ra141 zl132.length rc143,.slice ra144 zl133.length rc146,.slice ra147 zl134.length rc149,.slice ra150 zl135.length rc152,.slice ra153 zI136.length rc155,.bool zb137] fun b158 w159 H=>⟨H.pick [3,11] [1,0],(ro 5 rfl ?_)⟩))⟩
     obtain ⟨G163,N,hn164,H⟩:=H.vG 5 rfl N (fun F hF b hb=>(List.mem_append.1 (show F∈[xy,rF157]++Ns from hF)).elim (fun h=>(H.yg (L:=[xy,rF157]) [1,2]) F h b hb) fun h=>H.Qb (K0.behind 3 rfl) F h b hb)
     try dsimp only [List.set] at H
     obtain ⟨G165,N,hn166,H⟩:=H.vG 6 rfl N (fun F hF b hb=>(List.mem_append.1 (show F∈[G163,xy,rF157]++Ns from hF)).elim (fun h=>(H.yg (L:=[G163,xy,rF157]) [0,2,3]) F h b hb) fun h=>H.Qb (K0.behind 4 rfl) F h b hb)
     try dsimp only [List.set] at H
     obtain ⟨G167,N,hn168,H⟩:=H.vG 7 rfl N (fun F hF b hb=>(List.mem_append.1 (show F∈[G165,G163,xy,rF157]++Ns from hF)).elim (fun h=>(H.yg (L:=[G165,G163,xy,rF157]) [0,1,3,4]) F h b hb) fun h=>H.Qb (K0.behind 5 rfl) F h b hb)
     try dsimp only [List.set] at H
     obtain ⟨G169,N,hn170,H⟩:=H.vG 8 rfl N (fun F hF b hb=>(List.mem_append.1 (show F∈[G167,G165,G163,xy,rF157]++Ns from hF)).elim (fun h=>(H.yg (L:=[G167,G165,G163,xy,rF157]) [0,1,2,4,5]) F h b hb) fun h=>H.Qb (K0.behind 6 rfl) F h b hb)
     try dsimp only [List.set] at H
     obtain ⟨G171,N,hn172,H⟩:=H.vG 9 rfl N (fun F hF b hb=>(List.mem_append.1 (show F∈[G169,G167,G165,G163,xy,rF157]++Ns from hF)).elim (fun h=>(H.yg (L:=[G169,G167,G165,G163,xy,rF157]) [0,1,2,3,5,6]) F h b hb) fun h=>H.Qb (K0.behind 7 rfl) F h b hb)
     try dsimp only [List.set] at H
     have H0:=H
     obtain ⟨G173,hg175,hn174,H⟩:=H.freezeR (α:=y5) 10 rfl 7 rfl qj
     replace N:Fresh W0.heap.size (G173 :: G171 :: G169 :: G167 :: G165 :: G163 :: xy :: Ns):=Fresh.ice (N.zC 7 [6,0,1,2,3,4,5] qo) H0 10 hg175.1 hg175.2 (fun F hF b hb=>(List.mem_append.1 (show F∈[G171,G169,G167,G165,G163,xy]++Ns from hF)).elim (fun h=>(H0.yg (L:=[G171,G169,G167,G165,G163,xy]) [0,1,2,3,4,6]) F h b hb) fun h=>H0.Qb (K0.behind 8 rfl) F h b hb)
     clear H0
     try dsimp only [List.set] at H
     refine zL H 4 rfl 0 rfl Tryz.underlying25 ti49 rfl qj rfl rfl rfl qw qp qf fun a160 c161 w162 H=>?_
     try dsimp only [List.set] at H
     replace H:=H.snoc_RuleD 7 rfl zi129 zi130 5 rfl 4 rfl 3 rfl 2 rfl 1 rfl 0 rfl zb137
     replace N:Fresh W0.heap.size ((xy++(G163++G165++G167++G169++G171++G173)) :: Ns):=(N.zC 7 [5,4,3,2,1,0,6] qo).join.join.join.join.join.swap.join
     refine ⟨H.pick [3,11] [8,7],(tF 6 rfl rfl (H.pick [3,11] [8,7]) ?_)⟩
     refine ro 7 rfl (zU H 2 [.int .i64 (1+zi9),.slice vS zl vP,.slice a160 (yl+1) c161] Tryz.sizeOf25 fun w176 H=>?_)
     try dsimp only [List.set] at H
     refine ⟨H.pick [3,11] [8,7],(xH qh ((meet ⟨_,zi127,zi129,zi130,zl131,zl132,zl133,zl134,zl135,zI136,zb137,zi128,a160,c161,ra138,rc140,ra141,rc143,ra144,rc146,ra147,rc149,ra150,rc152,ra153,rc155,G163,G165,G167,G169,G171,G173,uE4,hx125,hx126,N,H.zC 12 10 [1,2,3,4,11] [0,1,2,3,4,5,6,7] qo qo⟩)))⟩
    ·skip
     have f0:zN (⟨1+zi9,y_Parents,y_Rules⟩:qG):=frame_of i3 qf qf
     have H1:=H.jv 5 2 [1,2,3,0,4] [1,0] qo qo
     have N1:Fresh _ (xy :: Ns):=N
     have K1:Kept (Ns) (Γ):=K0.behind 0 rfl
     refine zg #[.pointer (some ⟨bs,0,none⟩),.pointer (some ⟨b12,0,none⟩)] rfl rfl Tryz.call67 (dRule_ok code s_at_1 s_seed_1 bs ac cc Fc (1+zi9) y_Parents y_Rules b12 vS zl vP QL yl QI xE xy H1 N1 K1 qg qg) ?_
     clear H H1 N1 K1
     rintro _ w177 ⟨zi181,zi182,zi183,zi184,zl185,zl186,zl187,zl188,zl189,zI190,zb191,ra192,rn193,rc194,ra195,rn196,rc197,ra198,rn199,rc200,ra201,rn202,rc203,ra204,rn205,rc206,ra207,rn208,rc209,rx210,rF211,hx179,hx180,rfl,N,H⟩
     obtain rfl:=H.jb 4 rfl
     obtain rfl:=H.jb 5 rfl
     obtain rfl:=H.jb 6 rfl
     obtain rfl:=H.jb 7 rfl
     obtain rfl:=H.jb 8 rfl
     obtain rfl:=H.zO (α:=y5) 9 rfl 2 rfl qj
     refine ⟨H.pick [2,10] [1,0],(jd [1,4] qh qm (jI rfl ?_ (jI rfl ?_ je)))⟩
     ·skip
      refine xX (.slice QL yl QI) Tryz.isAgg25 rfl (H.cell 1 rfl rfl) (⟨H.pick [2,10] [1,0],(ro 4 rfl (zA H Tryz.underlying25 ti49 [.int .i64 zi183,.int .i64 zi184,.slice ra192 zl185.length rc194,.slice ra195 zl186.length rc197,.slice ra198 zl187.length rc200,.slice ra201 zl188.length rc203,.slice ra204 zl189.length rc206,.slice ra207 zI190.length rc209,.bool zb191] fun b212 w213 H=>⟨H.pick [3,11] [1,0],(ro 5 rfl ?_)⟩))⟩)
      obtain ⟨G217,N,hn218,H⟩:=H.vG 5 rfl N (fun F hF b hb=>(List.mem_append.1 (show F∈[xy,rF211]++Ns from hF)).elim (fun h=>(H.yg (L:=[xy,rF211]) [1,2]) F h b hb) fun h=>H.Qb (K0.behind 3 rfl) F h b hb)
      try dsimp only [List.set] at H
      obtain ⟨G219,N,hn220,H⟩:=H.vG 6 rfl N (fun F hF b hb=>(List.mem_append.1 (show F∈[G217,xy,rF211]++Ns from hF)).elim (fun h=>(H.yg (L:=[G217,xy,rF211]) [0,2,3]) F h b hb) fun h=>H.Qb (K0.behind 4 rfl) F h b hb)
      try dsimp only [List.set] at H
      obtain ⟨G221,N,hn222,H⟩:=H.vG 7 rfl N (fun F hF b hb=>(List.mem_append.1 (show F∈[G219,G217,xy,rF211]++Ns from hF)).elim (fun h=>(H.yg (L:=[G219,G217,xy,rF211]) [0,1,3,4]) F h b hb) fun h=>H.Qb (K0.behind 5 rfl) F h b hb)
      try dsimp only [List.set] at H
      obtain ⟨G223,N,hn224,H⟩:=H.vG 8 rfl N (fun F hF b hb=>(List.mem_append.1 (show F∈[G221,G219,G217,xy,rF211]++Ns from hF)).elim (fun h=>(H.yg (L:=[G221,G219,G217,xy,rF211]) [0,1,2,4,5]) F h b hb) fun h=>H.Qb (K0.behind 6 rfl) F h b hb)
      try dsimp only [List.set] at H
      obtain ⟨G225,N,hn226,H⟩:=H.vG 9 rfl N (fun F hF b hb=>(List.mem_append.1 (show F∈[G223,G221,G219,G217,xy,rF211]++Ns from hF)).elim (fun h=>(H.yg (L:=[G223,G221,G219,G217,xy,rF211]) [0,1,2,3,5,6]) F h b hb) fun h=>H.Qb (K0.behind 7 rfl) F h b hb)
      try dsimp only [List.set] at H
      have H0:=H
      obtain ⟨G227,hg229,hn228,H⟩:=H.freezeR (α:=y5) 10 rfl 7 rfl qj
      replace N:Fresh W0.heap.size (G227 :: G225 :: G223 :: G221 :: G219 :: G217 :: xy :: Ns):=Fresh.ice (N.zC 7 [6,0,1,2,3,4,5] qo) H0 10 hg229.1 hg229.2 (fun F hF b hb=>(List.mem_append.1 (show F∈[G225,G223,G221,G219,G217,xy]++Ns from hF)).elim (fun h=>(H0.yg (L:=[G225,G223,G221,G219,G217,xy]) [0,1,2,3,4,6]) F h b hb) fun h=>H0.Qb (K0.behind 8 rfl) F h b hb)
      clear H0
      try dsimp only [List.set] at H
      refine zL H 4 rfl 0 rfl Tryz.underlying25 ti49 rfl qj rfl rfl rfl qw qp qf fun a214 c215 w216 H=>?_
      try dsimp only [List.set] at H
      replace H:=H.snoc_RuleD 7 rfl zi183 zi184 5 rfl 4 rfl 3 rfl 2 rfl 1 rfl 0 rfl zb191
      replace N:Fresh W0.heap.size ((xy++(G217++G219++G221++G223++G225++G227)) :: Ns):=(N.zC 7 [5,4,3,2,1,0,6] qo).join.join.join.join.join.swap.join
      refine ⟨H.pick [3,11] [8,7],(tF 6 rfl rfl (H.pick [3,11] [8,7]) ?_)⟩
      refine ro 7 rfl (zU H 2 [.int .i64 (1+zi9),.slice vS zl vP,.slice a214 (yl+1) c215] Tryz.sizeOf25 fun w230 H=>?_)
      try dsimp only [List.set] at H
      refine ⟨H.pick [3,11] [8,7],(xH qh ((meet ⟨_,zi181,zi183,zi184,zl185,zl186,zl187,zl188,zl189,zI190,zb191,zi182,a214,c215,ra192,rc194,ra195,rc197,ra198,rc200,ra201,rc203,ra204,rc206,ra207,rc209,G217,G219,G221,G223,G225,G227,uE4,hx179,hx180,N,H.zC 12 10 [1,2,3,4,11] [0,1,2,3,4,5,6,7] qo qo⟩)))⟩
     ·skip
      refine zA H Tryz.underlying25 ti49 [.int .i64 zi183,.int .i64 zi184,.slice ra192 zl185.length rc194,.slice ra195 zl186.length rc197,.slice ra198 zl187.length rc200,.slice ra201 zl188.length rc203,.slice ra204 zl189.length rc206,.slice ra207 zI190.length rc209,.bool zb191] fun b231 w232 H=>⟨H.pick [3,11] [1,0],(ro 1 rfl (xX (.slice QL yl QI) Tryz.isAgg25 rfl (H.cell 2 rfl rfl) (⟨H.pick [3,11] [1,0],(ro 5 rfl ?_)⟩)))⟩
      obtain ⟨G236,N,hn237,H⟩:=H.vG 5 rfl N (fun F hF b hb=>(List.mem_append.1 (show F∈[xy,rF211]++Ns from hF)).elim (fun h=>(H.yg (L:=[xy,rF211]) [1,2]) F h b hb) fun h=>H.Qb (K0.behind 3 rfl) F h b hb)
      try dsimp only [List.set] at H
      obtain ⟨G238,N,hn239,H⟩:=H.vG 6 rfl N (fun F hF b hb=>(List.mem_append.1 (show F∈[G236,xy,rF211]++Ns from hF)).elim (fun h=>(H.yg (L:=[G236,xy,rF211]) [0,2,3]) F h b hb) fun h=>H.Qb (K0.behind 4 rfl) F h b hb)
      try dsimp only [List.set] at H
      obtain ⟨G240,N,hn241,H⟩:=H.vG 7 rfl N (fun F hF b hb=>(List.mem_append.1 (show F∈[G238,G236,xy,rF211]++Ns from hF)).elim (fun h=>(H.yg (L:=[G238,G236,xy,rF211]) [0,1,3,4]) F h b hb) fun h=>H.Qb (K0.behind 5 rfl) F h b hb)
      try dsimp only [List.set] at H
      obtain ⟨G242,N,hn243,H⟩:=H.vG 8 rfl N (fun F hF b hb=>(List.mem_append.1 (show F∈[G240,G238,G236,xy,rF211]++Ns from hF)).elim (fun h=>(H.yg (L:=[G240,G238,G236,xy,rF211]) [0,1,2,4,5]) F h b hb) fun h=>H.Qb (K0.behind 6 rfl) F h b hb)
      try dsimp only [List.set] at H
      obtain ⟨G244,N,hn245,H⟩:=H.vG 9 rfl N (fun F hF b hb=>(List.mem_append.1 (show F∈[G242,G240,G238,G236,xy,rF211]++Ns from hF)).elim (fun h=>(H.yg (L:=[G242,G240,G238,G236,xy,rF211]) [0,1,2,3,5,6]) F h b hb) fun h=>H.Qb (K0.behind 7 rfl) F h b hb)
      try dsimp only [List.set] at H
      have H0:=H
      obtain ⟨G246,hg248,hn247,H⟩:=H.freezeR (α:=y5) 10 rfl 7 rfl qj
      replace N:Fresh W0.heap.size (G246 :: G244 :: G242 :: G240 :: G238 :: G236 :: xy :: Ns):=Fresh.ice (N.zC 7 [6,0,1,2,3,4,5] qo) H0 10 hg248.1 hg248.2 (fun F hF b hb=>(List.mem_append.1 (show F∈[G244,G242,G240,G238,G236,xy]++Ns from hF)).elim (fun h=>(H0.yg (L:=[G244,G242,G240,G238,G236,xy]) [0,1,2,3,4,6]) F h b hb) fun h=>H0.Qb (K0.behind 8 rfl) F h b hb)
      clear H0
      try dsimp only [List.set] at H
      refine zL H 4 rfl 0 rfl Tryz.underlying25 ti49 rfl qj rfl rfl rfl qw qp qf fun a233 c234 w235 H=>?_
      try dsimp only [List.set] at H
      replace H:=H.snoc_RuleD 7 rfl zi183 zi184 5 rfl 4 rfl 3 rfl 2 rfl 1 rfl 0 rfl zb191
      replace N:Fresh W0.heap.size ((xy++(G236++G238++G240++G242++G244++G246)) :: Ns):=(N.zC 7 [5,4,3,2,1,0,6] qo).join.join.join.join.join.swap.join
      refine ⟨H.pick [3,11] [8,7],(tF 6 rfl rfl (H.pick [3,11] [8,7]) ?_)⟩
      refine ro 7 rfl (zU H 2 [.int .i64 (1+zi9),.slice vS zl vP,.slice a233 (yl+1) c234] Tryz.sizeOf25 fun w249 H=>?_)
      try dsimp only [List.set] at H
      refine ⟨H.pick [3,11] [8,7],(xH qh ((meet ⟨_,zi181,zi183,zi184,zl185,zl186,zl187,zl188,zl189,zI190,zb191,zi182,a233,c234,ra192,rc194,ra195,rc197,ra198,rc200,ra201,rc203,ra204,rc206,ra207,rc209,G236,G238,G240,G242,G244,G246,uE4,hx179,hx180,N,H.zC 12 10 [1,2,3,4,11] [0,1,2,3,4,5,6,7] qo qo⟩)))⟩
   ·skip
    clear H N
    rintro ρ w250 ⟨xU,zi90,zi91,zi92,zl93,zl94,zl95,zl96,zl97,zI98,zb99,zi100,a101,c102,ra103,rc104,ra105,rc106,ra107,rc108,ra109,rc110,ra111,rc112,ra113,rc114,G115,G116,G117,G118,G119,G120,rfl,hx251,hx252,N,H⟩
    refine b_n (t_n (xZ (sp (.int .i64 k) (sw (o_sub k 1 rfl rfl qf (sp (.int .i64 (k - 1)) (zi ?_)))))))
    refine xq (m' :=(k - 1).toNat) qf ⟨_,k - 1,zi90,zi100,a101,yl+1,c102,(y_Rules++[(⟨zi91,zi92,zl93,zl94,zl95,zl96,zl97,zI98,zb99⟩:zK)]),(xE++[Value.int .i64 zi91,Value.int .i64 zi92,Value.slice ra103 zl93.length rc104,Value.slice ra105 zl94.length rc106,Value.slice ra107 zl95.length rc108,Value.slice ra109 zl96.length rc110,Value.slice ra111 zl97.length rc112,Value.slice ra113 zI98.length rc114,Value.bool zb99]:List Value),(xy++(G115++G116++G117++G118++G119++G120)),uE4,?_,?_,?_,rfl,N,H.zC 5 8 [3,0,1,2,4] [0,7] qo qo⟩
    · omega
    · simp;omega
    · exact j3.snoc ql
  ·skip
   refine zx4 (zcr (sw (xW [.int .i64 (1+zi9),.slice vS zl vP,.slice QL yl QI] Tryz.isAgg27 Tryz.sizeOf27 rfl (qK (H.cells 2 rfl) 0 3) (sw (xP H 4 [.int .i64 (1+zi9),.slice vS zl vP,.slice QL yl QI] Tryz.sizeOf27 fun w253 H=>?_)))))
   try dsimp only [List.set] at H
   refine zjr (retC H 4 rfl rfl Tryz.isAgg27 Tryz.sizeOf27 rfl ⟨_,rfl,(⟨s_at_1,s_seed_1,1+zi9,y_Parents,y_Rules,vS,zl,vP,QL,yl,QI,xE,xy,qf,(by exact sysDr_of i3 qf qf qf j3),rfl,N,H.zC 5 2 [1,3,0] [1,0] qo qo⟩)⟩)

theorem dState_ok {W0 w:World} {ps:List Prv} {Γ:List Fact} {Ns:List yLN} (code:List UInt8) (ip:Int) (sd:Int) (bs:Nat) (ac:yOA) (cc:Nat) (Fc:yLN) (kk:Int) (par:yLI) (rules:List zK) (bY:Nat) (rap:yOA) (rnp:Nat) (rcp:Nat) (raR:yOA) (rnR:Nat) (rcR:Nat) (rxR:List Value) (rFR:yLN) (frR:Bool) (most:Int) (H:St W0 w ((.box bs [.slice ac code.length cc,.int .i64 ip,.int .u64 sd] 68) :: (.box bY [.int .i64 kk,.slice rap rnp rcp,.slice raR rnR rcR] 27) :: (rr rap rnp rcp 2 1 (par.map (Value.int .i64))) :: (rr raR rnR rcR 49 9 rxR) :: ps) ((sF false Fc ac cc code) :: (xB frR rFR rxR rules) :: Γ)) (N:Fresh W0.heap.size (Ns)) (K0:Kept Ns Γ) (q0:0≤ip∧ip≤40000) (f0:zN (⟨kk,par,rules⟩:qG)) (q2:1≤most∧most≤6):Calls Tryz.prog 32 #[.pointer (some ⟨bs,0,none⟩),.pointer (some ⟨bY,0,none⟩),.int .i64 most] w (fun e w' =>∃ v,e=.returned v∧∃ (ip_:Int) (sd_:Int) (alive_:List Bool) (bags_:yLL) (around_:yLI) (raA:yOA) (rnA:Nat) (rcA:Nat) (raB:yOA) (rnB:Nat) (rcB:Nat) (rxB:List Value) (rFB:yLN) (raD:yOA) (rnD:Nat) (rcD:Nat),(ip≤ip_∧ip_≤ip+200)∧(StDr kk par.length most alive_ bags_ around_)∧v=.agg #[.slice raA rnA rcA,.slice raB rnB rcB,.slice raD rnD rcD]∧Fresh W0.heap.size (rFB :: Ns)∧St W0 w' ((.box bs [.slice ac code.length cc,.int .i64 ip_,.int .u64 sd_] 68) :: (.box bY [.int .i64 kk,.slice rap rnp rcp,.slice raR rnR rcR] 27) :: (rr rap rnp rcp 2 1 (par.map (Value.int .i64))) :: (rr raR rnR rcR 49 9 rxR) :: (rr raA rnA rcA 4 1 (alive_.map (Value.bool))) :: (rr raB rnB rcB 24 1 rxB) :: (rr raD rnD rcD 2 1 (around_.map (Value.int .i64))) :: ps) ((sF false Fc ac cc code) :: (xB frR rFR rxR rules) :: (xB true rFB rxB bags_) :: Γ)):=by
 refine en Tryz.func32 Tryz.ntmps32 ?_
 have ncode:=qU (H.get 0 rfl).1
 obtain rfl:=H.jb 2 rfl
 obtain rfl:=H.zO (α:=zK) 3 rfl 1 rfl qj
 have f1:1≤kk∧kk≤8:=f0.1
 have f2:1≤par.length∧par.length≤6:=f0.2.1
 refine zcr (sw (x9 H ti31 [.slice none 0 0,.slice none 0 0,.slice none 0 0] fun b1 w2 H=>zjc (sps [.pointer (some ⟨bY,0,none⟩),.pointer (some ⟨bY,0,none⟩)] (oF rfl (oL rfl (H.cell 2 rfl rfl) (sw (jk H Tryz.underlying24 ti2 kk.toNat rfl rfl qf qf qf fun b3 w4 H=>sw (jg [.slice none 0 0,.slice none 0 0,.slice (some ⟨b3,0,none⟩) kk.toNat kk.toNat] [(2,.slice (some ⟨b3,0,none⟩) kk.toNat kk.toNat)] (sw (x9 H ti31 [.slice none 0 0,.slice none 0 0,.slice none 0 0] fun b5 w6 H=>?_))))))))))
 refine sw (xP H 0 [.slice none 0 0,.slice none 0 0,.slice (some ⟨b3,0,none⟩) kk.toNat kk.toNat] Tryz.sizeOf31 fun w7 H=>?_)
 try dsimp only [List.set] at H
 refine zjcc (sp (.int .i64 0) (zjn (xg ?_)))
 replace H:=H.nilRowB 4
 replace H:=H.nilRow 24 1
 replace H:=H.QD (α:=yLI)
 refine zH (fun m' ρ w8=>∃ (xU:Env) (c:Nat) (s_at:Int) (s_seed:Int) (Xl:yOA) (jQ:Nat) (Xj:Nat) (t_Alive:List Bool) (Xa:yOA) (yu:Nat) (QX:Nat) (t_Bags:yLL) (QN:List Value) (ja:yLN),ρ=upd (upd (upd (upd (upd (upd xU 0 (.pointer (some ⟨bs,0,none⟩))) 1 (.pointer (some ⟨bY,0,none⟩))) 2 (.int .i64 most)) 6 (.pointer (some ⟨b1,0,none⟩))) 7 (.pointer (some ⟨b5,0,none⟩))) 8 (.int .i64 c)∧((c:Int)≤par.length)∧(ip≤s_at∧s_at≤ip+22 * c)∧(StTo kk most c t_Alive t_Bags)∧m' =(par.length - (c:Int)).toNat∧Fresh W0.heap.size (ja :: Ns)∧St W0 w8 ((rr Xa yu QX 24 1 QN) :: (rr Xl jQ Xj 4 1 (t_Alive.map (Value.bool))) :: (.box b5 [.slice Xl jQ Xj,.slice Xa yu QX,.slice (some ⟨b3,0,none⟩) kk.toNat kk.toNat] 31) :: (rr (some ⟨b3,0,none⟩) kk.toNat kk.toNat 2 1 ((List.replicate kk.toNat (0:Int)).map (Value.int .i64))) :: (.box b1 [.slice none 0 0,.slice none 0 0,.slice none 0 0] 31) :: (.box bs [.slice ac code.length cc,.int .i64 s_at,.int .u64 s_seed] 68) :: (.box bY [.int .i64 kk,.slice rap par.length rcp,.slice raR rules.length rcR] 27) :: (rr rap par.length rcp 2 1 (par.map (Value.int .i64))) :: (rr raR rules.length rcR 49 9 rxR) :: ps) ((xB true ja QN t_Bags) :: (sF false Fc ac cc code) :: (xB frR rFR rxR rules) :: Γ)) ((par.length - (0:Int)).toNat) ⟨_,0,ip,sd,none,0,0,[],none,0,0,([]:yLL),[],[],uE6,qf,qf,(by exact StTo.nil _ _),rfl,N.emp,H⟩ ?_
 clear H N
 rintro m' ρ w9 ⟨xU,c,s_at,s_seed,Xl,jQ,Xj,t_Alive,Xa,yu,QX,t_Bags,QN,ja,rfl,i0,i1,i2,rfl,N,H⟩
 have hn_t_Alive:=H.rowNB 1 rfl
 have hn_t_Bags:=H.zO (α:=yLI) 0 rfl 0 rfl qj
 have i3:=i2.la
 have i4:=i2.lb
 refine zcc (sps [.int .i64 c,.pointer (some ⟨bY,0,none⟩),.pointer (some ⟨bY,0,none⟩)] (oF rfl (oL rfl (H.cell 6 rfl rfl) (oN rfl (sp (.bool (decide ((c:Int) < par.length))) (zjn (cD rfl (fun h10=>?_) (fun h10=>?_))))))))
 ·skip
  refine xh (t_n (x8 (xg (zcr (sps [.int .i64 c,.bool ((c:Int) == 0),.bool ((c:Int) == 0)] ?_)))))
  cases h11:((c:Int) == 0)
  ·skip
   replace h11:=ne_of_beq_false h11
   refine qO 28 rfl rfl (sp (.pointer (some ⟨bs,0,none⟩)) (qO 28 rfl rfl ?_))
   have H1:=H.jv 9 3 [5,0,1,2,3,4,6,7,8] [1,0,2] qo qo
   have N1:Fresh _ (ja :: Ns):=N
   have K1:Kept (Ns) ((xB true ja QN t_Bags) :: (xB frR rFR rxR rules) :: Γ):=K0.behind 2 rfl
   replace K1:=K1.cons (F:=ja) 0 rfl rfl
   refine sw (zg #[.pointer (some ⟨bs,0,none⟩),.int .i64 8] rfl rfl Tryz.call15 (Xe code s_at s_seed bs ac cc Fc (8:Int) H1 N1 K1 qg) ?_)
   clear H H1 N1 K1
   rintro _ w12 ⟨zi15,zi16,zb17,hx14,rfl,N,H⟩
   refine qO 28 rfl rfl (sps [.bool !zb17,.bool !zb17,.bool !zb17] (zjc (sps [.pointer (some ⟨bY,0,none⟩),.pointer (some ⟨bY,0,none⟩)] (oF rfl (oL rfl (H.cell 6 rfl rfl) (sw (jk H Tryz.underlying24 ti2 kk.toNat rfl rfl qf qf qf fun b18 w19 H=>sp (.slice (some ⟨b18,0,none⟩) kk.toNat kk.toNat) (zjcc (sp (.bool !zb17) (zjn (xI (!zb17) rfl (fun h20=>?_) (fun h20=>?_))))))))))))
   ·skip
    replace h20:=xw h20
    refine xZ (sps [.pointer (some ⟨bs,0,none⟩),.pointer (some ⟨bY,0,none⟩),.pointer (some ⟨bY,0,none⟩)] (oF rfl (oL rfl (H.cell 7 rfl rfl) (sp (.int .i64 most) ?_))))
    have H1:=H.jv 10 3 [1,0,2,3,4,5,6,7,8,9] [0,1,2] qo qo
    have N1:Fresh _ (ja :: Ns):=N
    have K1:Kept (Ns) ((xB true ja QN t_Bags) :: (xB frR rFR rxR rules) :: Γ):=K0.behind 2 rfl
    replace K1:=K1.cons (F:=ja) 0 rfl rfl
    refine sw (zg #[.pointer (some ⟨bs,0,none⟩),.int .i64 kk,.int .i64 most] rfl rfl Tryz.call68 (dFew_ok code zi15 zi16 bs ac cc Fc kk most H1 N1 K1 qg qg qg) ?_)
    clear H H1 N1 K1
    rintro _ w21 ⟨zi25,zi26,zl27,ra28,rn29,rc30,hx23,hx24,rfl,N,H⟩
    obtain rfl:=H.jb 1 rfl
    refine sp (.slice ra28 zl27.length rc30) (zjc (oF rfl (oL rfl (H.cell 5 rfl rfl) (sp (.bool !zb17) (sw (zA H Tryz.underlying28 ti4 [.bool !zb17] fun b31 w32 H=>sw (zL H 5 rfl 0 rfl Tryz.underlying28 ti4 rfl qj rfl rfl rfl qw qp qf fun a33 c34 w35 H=>?_)))))))
    rw [snocB] at H
    try dsimp only [List.set] at H
    refine oF rfl (sw (zU H 6 [.slice a33 (jQ+1) c34,.slice Xa yu QX,.slice (some ⟨b3,0,none⟩) kk.toNat kk.toNat] Tryz.sizeOf28 fun w36 H=>?_))
    try dsimp only [List.set] at H
    refine zjn (xZ (oF rfl (oL rfl (H.cell 6 rfl rfl) (sp (.slice ra28 zl27.length rc30) (sw (zA H Tryz.underlying29 ti24 [.slice ra28 zl27.length rc30] fun b37 w38 H=>?_))))))
    obtain ⟨G42,N,hn43,H⟩:=H.vG 3 rfl N (fun F hF b hb=>(List.mem_append.1 (show F∈[ja]++Ns from hF)).elim (fun h=>(H.yg (L:=[ja]) [1]) F h b hb) fun h=>H.Qb (K0.behind 3 rfl) F h b hb)
    try dsimp only [List.set] at H
    refine sw (zL H 5 rfl 0 rfl Tryz.underlying29 ti24 rfl qj rfl rfl rfl qw qp qf fun a39 c40 w41 H=>?_)
    try dsimp only [List.set] at H
    replace H:=H.repsSnoc 2 rfl 0 rfl
    replace N:Fresh W0.heap.size ((ja++G42) :: Ns):=(N.zC 2 [1,0] qo).join
    refine oF rfl (sw (zU H 7 [.slice a33 (jQ+1) c34,.slice a39 (yu+1) c40,.slice (some ⟨b3,0,none⟩) kk.toNat kk.toNat] Tryz.sizeOf29 fun w44 H=>?_))
    try dsimp only [List.set] at H
    refine zi (b_n (t_n (xZ (sp (.int .i64 c) (sw (zB c 1 rfl rfl qf (sp (.int .i64 (c+1)) (zi (xq (m' :=(par.length - ((c+1):Int)).toNat) qf ⟨_,c+1,zi25,zi26,a33,jQ+1,c34,(t_Alive++[!zb17]),a39,yu+1,c40,(t_Bags++[zl27]),(QN++[Value.slice ra28 zl27.length rc30]:List Value),(ja++G42),uE6,?_,?_,?_,rfl,N,H.zC 13 5 [5,6,7,8,9,2,10,11,12] [0,2,4] qo qo⟩)))))))))
    · omega
    · omega
    · first | exact i2.snoc (fun _=>rfl) ql (fun h=>by cases h) | exact i2.snoc (fun h=>by omega) ql (fun h=>by simp_all) | exact i2.snoc (fun h=>by omega) (zx.zero qf qf) (fun _=>sum_zeros _)
   ·skip
    replace h20:=xf h20
    refine xh (t_n (zcr (oF rfl (oL rfl (H.cell 4 rfl rfl) (sp (.bool !zb17) (sw (zA H Tryz.underlying28 ti4 [.bool !zb17] fun b45 w46 H=>sw (zL H 4 rfl 0 rfl Tryz.underlying28 ti4 rfl qj rfl rfl rfl qw qp qf fun a47 c48 w49 H=>?_))))))))
    rw [snocB] at H
    try dsimp only [List.set] at H
    refine oF rfl (sw (zU H 5 [.slice a47 (jQ+1) c48,.slice Xa yu QX,.slice (some ⟨b3,0,none⟩) kk.toNat kk.toNat] Tryz.sizeOf28 fun w50 H=>?_))
    try dsimp only [List.set] at H
    refine zjn (xZ (oF rfl (oL rfl (H.cell 5 rfl rfl) (sp (.slice (some ⟨b18,0,none⟩) kk.toNat kk.toNat) (sw (zA H Tryz.underlying29 ti24 [.slice (some ⟨b18,0,none⟩) kk.toNat kk.toNat] fun b51 w52 H=>?_))))))
    obtain ⟨G56,N,hn57,H⟩:=H.vG 2 rfl N (fun F hF b hb=>(List.mem_append.1 (show F∈[ja]++Ns from hF)).elim (fun h=>(H.yg (L:=[ja]) [1]) F h b hb) fun h=>H.Qb (K0.behind 3 rfl) F h b hb)
    try dsimp only [List.set] at H
    refine sw (zL H 4 rfl 0 rfl Tryz.underlying29 ti24 rfl qj rfl rfl rfl qw qp qf fun a53 c54 w55 H=>?_)
    try dsimp only [List.set] at H
    replace H:=H.repsSnoc 2 rfl 0 rfl
    replace N:Fresh W0.heap.size ((ja++G56) :: Ns):=(N.zC 2 [1,0] qo).join
    refine oF rfl (sw (zU H 6 [.slice a47 (jQ+1) c48,.slice a53 (yu+1) c54,.slice (some ⟨b3,0,none⟩) kk.toNat kk.toNat] Tryz.sizeOf29 fun w58 H=>?_))
    try dsimp only [List.set] at H
    refine zi (b_n (t_n (xZ (sp (.int .i64 c) (sw (zB c 1 rfl rfl qf (sp (.int .i64 (c+1)) (zi (xq (m' :=(par.length - ((c+1):Int)).toNat) qf ⟨_,c+1,zi15,zi16,a47,jQ+1,c48,(t_Alive++[!zb17]),a53,yu+1,c54,(t_Bags++[(List.replicate kk.toNat (0:Int))]),(QN++[Value.slice (some ⟨b18,0,none⟩) kk.toNat kk.toNat]:List Value),(ja++G56),uE6,?_,?_,?_,rfl,N,H.zC 12 5 [4,5,6,7,8,3,9,10,11] [0,2,4] qo qo⟩)))))))))
    · omega
    · omega
    · first | exact i2.snoc (fun _=>rfl) ql (fun h=>by cases h) | exact i2.snoc (fun h=>by omega) ql (fun h=>by simp_all) | exact i2.snoc (fun h=>by omega) (zx.zero qf qf) (fun _=>sum_zeros _)
  ·skip
   replace h11:=eq_of_beq h11
   refine xO [29,30,31] (sps [.bool true,.bool true] (zjc (sps [.pointer (some ⟨bY,0,none⟩),.pointer (some ⟨bY,0,none⟩)] (oF rfl (oL rfl (H.cell 6 rfl rfl) (sw (jk H Tryz.underlying24 ti2 kk.toNat rfl rfl qf qf qf fun b59 w60 H=>sp (.slice (some ⟨b59,0,none⟩) kk.toNat kk.toNat) (zjcc (sp (.bool true) (zjn (xI true rfl (fun _=>xZ (sps [.pointer (some ⟨bs,0,none⟩),.pointer (some ⟨bY,0,none⟩),.pointer (some ⟨bY,0,none⟩)] (oF rfl (oL rfl (H.cell 7 rfl rfl) (sp (.int .i64 most) ?_))))) (fun h=>absurd h qj))))))))))))
   have H1:=H.jv 10 3 [6,0,1,2,3,4,5,7,8,9] [1,0,2] qo qo
   have N1:Fresh _ (ja :: Ns):=N
   have K1:Kept (Ns) ((xB true ja QN t_Bags) :: (xB frR rFR rxR rules) :: Γ):=K0.behind 2 rfl
   replace K1:=K1.cons (F:=ja) 0 rfl rfl
   refine sw (zg #[.pointer (some ⟨bs,0,none⟩),.int .i64 kk,.int .i64 most] rfl rfl Tryz.call68 (dFew_ok code s_at s_seed bs ac cc Fc kk most H1 N1 K1 qg qg qg) ?_)
   clear H H1 N1 K1
   rintro _ w61 ⟨zi65,zi66,zl67,ra68,rn69,rc70,hx63,hx64,rfl,N,H⟩
   obtain rfl:=H.jb 1 rfl
   refine sp (.slice ra68 zl67.length rc70) (zjc (oF rfl (oL rfl (H.cell 5 rfl rfl) (sp (.bool true) (sw (zA H Tryz.underlying28 ti4 [.bool true] fun b71 w72 H=>sw (zL H 5 rfl 0 rfl Tryz.underlying28 ti4 rfl qj rfl rfl rfl qw qp qf fun a73 c74 w75 H=>?_)))))))
   rw [snocB] at H
   try dsimp only [List.set] at H
   refine oF rfl (sw (zU H 6 [.slice a73 (jQ+1) c74,.slice Xa yu QX,.slice (some ⟨b3,0,none⟩) kk.toNat kk.toNat] Tryz.sizeOf28 fun w76 H=>?_))
   try dsimp only [List.set] at H
   refine zjn (xZ (oF rfl (oL rfl (H.cell 6 rfl rfl) (sp (.slice ra68 zl67.length rc70) (sw (zA H Tryz.underlying29 ti24 [.slice ra68 zl67.length rc70] fun b77 w78 H=>?_))))))
   obtain ⟨G82,N,hn83,H⟩:=H.vG 3 rfl N (fun F hF b hb=>(List.mem_append.1 (show F∈[ja]++Ns from hF)).elim (fun h=>(H.yg (L:=[ja]) [1]) F h b hb) fun h=>H.Qb (K0.behind 3 rfl) F h b hb)
   try dsimp only [List.set] at H
   refine sw (zL H 5 rfl 0 rfl Tryz.underlying29 ti24 rfl qj rfl rfl rfl qw qp qf fun a79 c80 w81 H=>?_)
   try dsimp only [List.set] at H
   replace H:=H.repsSnoc 2 rfl 0 rfl
   replace N:Fresh W0.heap.size ((ja++G82) :: Ns):=(N.zC 2 [1,0] qo).join
   refine oF rfl (sw (zU H 7 [.slice a73 (jQ+1) c74,.slice a79 (yu+1) c80,.slice (some ⟨b3,0,none⟩) kk.toNat kk.toNat] Tryz.sizeOf29 fun w84 H=>?_))
   try dsimp only [List.set] at H
   refine zi (b_n (t_n (xZ (sp (.int .i64 c) (sw (zB c 1 rfl rfl qf (sp (.int .i64 (c+1)) (zi (xq (m' :=(par.length - ((c+1):Int)).toNat) qf ⟨_,c+1,zi65,zi66,a73,jQ+1,c74,(t_Alive++[true]),a79,yu+1,c80,(t_Bags++[zl67]),(QN++[Value.slice ra68 zl67.length rc70]:List Value),(ja++G82),uE6,?_,?_,?_,rfl,N,H.zC 13 5 [5,6,7,8,9,2,10,11,12] [0,2,4] qo qo⟩)))))))))
   · omega
   · omega
   · first | exact i2.snoc (fun _=>rfl) ql (fun h=>by cases h) | exact i2.snoc (fun h=>by omega) ql (fun h=>by simp_all) | exact i2.snoc (fun h=>by omega) (zx.zero qf qf) (fun _=>sum_zeros _)
 ·skip
  refine zx4 (zcc (sp (.pointer (some ⟨bs,0,none⟩)) ?_))
  have H1:=H.jv 9 3 [5,0,1,2,3,4,6,7,8] [1,0,2] qo qo
  have N1:Fresh _ (ja :: Ns):=N
  have K1:Kept (Ns) ((xB true ja QN t_Bags) :: (xB frR rFR rxR rules) :: Γ):=K0.behind 2 rfl
  replace K1:=K1.cons (F:=ja) 0 rfl rfl
  refine sw (zg #[.pointer (some ⟨bs,0,none⟩),.int .i64 3] rfl rfl Tryz.call15 (Xe code s_at s_seed bs ac cc Fc (3:Int) H1 N1 K1 qg) ?_)
  clear H H1 N1 K1
  rintro _ w85 ⟨zi88,zi89,zb90,hx87,rfl,N,H⟩
  refine zjn (xI (zb90) rfl (fun h91=>?_) (fun h91=>?_))
  ·skip
   refine xZ (sps [.pointer (some ⟨bs,0,none⟩),.pointer (some ⟨bY,0,none⟩),.pointer (some ⟨bY,0,none⟩)] (oF rfl (oL rfl (H.cell 6 rfl rfl) ?_)))
   have H1:=H.jv 9 3 [0,1,2,3,4,5,6,7,8] [0,1,2] qo qo
   have N1:Fresh _ (ja :: Ns):=N
   have K1:Kept (Ns) ((xB true ja QN t_Bags) :: (xB frR rFR rxR rules) :: Γ):=K0.behind 2 rfl
   replace K1:=K1.cons (F:=ja) 0 rfl rfl
   refine sw (zg #[.pointer (some ⟨bs,0,none⟩),.int .i64 kk,.int .i64 2] rfl rfl Tryz.call68 (dFew_ok code zi88 zi89 bs ac cc Fc kk (2:Int) H1 N1 K1 qg qg qg) ?_)
   clear H H1 N1 K1
   rintro _ w92 ⟨zi96,zi97,zl98,ra99,rn100,rc101,hx94,hx95,rfl,N,H⟩
   obtain rfl:=H.jb 1 rfl
   refine oF rfl (sw (zU H 4 [.slice Xl jQ Xj,.slice Xa yu QX,.slice ra99 zl98.length rc101] Tryz.sizeOf24 fun w102 H=>?_))
   try dsimp only [List.set] at H
   refine zjc (sw (xW [.slice Xl jQ Xj,.slice Xa yu QX,.slice ra99 zl98.length rc101] Tryz.isAgg31 Tryz.sizeOf31 rfl (qK (H.cells 4 rfl) 0 3) (sw (xP H 6 [.slice Xl jQ Xj,.slice Xa yu QX,.slice ra99 zl98.length rc101] Tryz.sizeOf31 fun w103 H=>?_))))
   try dsimp only [List.set] at H
   refine zjr (retC H 6 rfl rfl Tryz.isAgg31 Tryz.sizeOf31 rfl ⟨_,rfl,?_⟩)
   obtain rfl:c=par.length:=by omega
   exact ⟨zi96,zi97,t_Alive,t_Bags,zl98,Xl,jQ,Xj,Xa,yu,QX,QN,ja,ra99,zl98.length,rc101,qf,(by first | exact ⟨i2.la,i2.lb,i2.skin qf,by assumption,i2.bags⟩ | exact ⟨i2.la,i2.lb,i2.skin qf,zx.zero qf qf,i2.bags⟩),rfl,N,H.zC 10 3 [0,7,8,9,3,2,1] [0,2,1] qo qo⟩
  ·skip
   refine xh (t_n (zcr (sw (xW [.slice Xl jQ Xj,.slice Xa yu QX,.slice (some ⟨b3,0,none⟩) kk.toNat kk.toNat] Tryz.isAgg31 Tryz.sizeOf31 rfl (qK (H.cells 3 rfl) 0 3) (sw (xP H 5 [.slice Xl jQ Xj,.slice Xa yu QX,.slice (some ⟨b3,0,none⟩) kk.toNat kk.toNat] Tryz.sizeOf31 fun w104 H=>?_))))))
   try dsimp only [List.set] at H
   refine zjr (retC H 5 rfl rfl Tryz.isAgg31 Tryz.sizeOf31 rfl ⟨_,rfl,?_⟩)
   obtain rfl:c=par.length:=by omega
   exact ⟨zi88,zi89,t_Alive,t_Bags,(List.replicate kk.toNat (0:Int)),Xl,jQ,Xj,Xa,yu,QX,QN,ja,(some ⟨b3,0,none⟩),kk.toNat,kk.toNat,qf,(by first | exact ⟨i2.la,i2.lb,i2.skin qf,by assumption,i2.bags⟩ | exact ⟨i2.la,i2.lb,i2.skin qf,zx.zero qf qf,i2.bags⟩),rfl,N,H.zC 9 3 [0,6,7,8,2,1,4] [0,2,1] qo qo⟩
theorem dShrink_ok {W0 w:World} {ps:List Prv} {Γ:List Fact} {Ns:List yLN} (code:List UInt8) (ip:Int) (sd:Int) (bs:Nat) (ac:yOA) (cc:Nat) (Fc:yLN) (H:St W0 w ((.box bs [.slice ac code.length cc,.int .i64 ip,.int .u64 sd] 68) :: ps) ((sF false Fc ac cc code) :: Γ)) (N:Fresh W0.heap.size (Ns)) (K0:Kept Ns Γ) (q0:0≤ip∧ip≤30000):Calls Tryz.prog 14 #[.pointer (some ⟨bs,0,none⟩)] w (fun e w' =>∃ v,e=.returned v∧∃ (ip_:Int) (sd_:Int) (kk_:Int) (par_:yLI) (rules_:List zK) (alive_:List Bool) (bags_:yLL) (around_:yLI) (raq:yOA) (rnq:Nat) (rcq:Nat) (raS:yOA) (rnS:Nat) (rcS:Nat) (rxS:List Value) (rFS:yLN) (raA:yOA) (rnA:Nat) (rcA:Nat) (raB:yOA) (rnB:Nat) (rcB:Nat) (rxB:List Value) (rFB:yLN) (raD:yOA) (rnD:Nat) (rcD:Nat),(ip≤ip_∧ip_≤ip+5000)∧(SysDr kk_ par_ rules_)∧(StDr kk_ par_.length 4 alive_ bags_ around_)∧v=.tuple #[.agg #[.int .i64 kk_,.slice raq rnq rcq,.slice raS rnS rcS],.agg #[.slice raA rnA rcA,.slice raB rnB rcB,.slice raD rnD rcD]]∧Fresh W0.heap.size (rFB :: Ns)∧St W0 w' ((.box bs [.slice ac code.length cc,.int .i64 ip_,.int .u64 sd_] 68) :: (rr raq rnq rcq 2 1 (par_.map (Value.int .i64))) :: (rr raS rnS rcS 49 9 rxS) :: (rr raA rnA rcA 4 1 (alive_.map (Value.bool))) :: (rr raB rnB rcB 24 1 rxB) :: (rr raD rnD rcD 2 1 (around_.map (Value.int .i64))) :: ps) ((sF false Fc ac cc code) :: (xB false rFS rxS rules_) :: (xB true rFB rxB bags_) :: Γ)):=by
 refine en Tryz.func14 Tryz.ntmps14 ?_
 have ncode:=qU (H.get 0 rfl).1
 refine zcr (sw (x9 H ti27 [.int .i64 0,.slice none 0 0,.slice none 0 0] fun b1 w2 H=>sw (x9 H ti31 [.slice none 0 0,.slice none 0 0,.slice none 0 0] fun b3 w4 H=>zjc (sp (.pointer (some ⟨bs,0,none⟩)) ?_))))
 have H1:=H.jv 3 1 [2,0,1] [0] qo qo
 have N1:Fresh _ (Ns):=N
 have K1:Kept (Ns) (Γ):=K0.behind 0 rfl
 refine sw (zg #[.pointer (some ⟨bs,0,none⟩)] rfl rfl Tryz.call31 (dSystem_ok code ip sd bs ac cc Fc H1 N1 K1 qg) ?_)
 clear H H1 N1 K1
 rintro _ w5 ⟨zi9,zi10,zi11,zl12,zR13,ra14,rn15,rc16,ra17,rn18,rc19,rx20,rF21,hx7,hx8,rfl,N,H⟩
 obtain rfl:=H.jb 1 rfl
 obtain rfl:=H.zO (α:=zK) 2 rfl 1 rfl qj
 have k1:=(‹SysDr _ _ _›).kinds
 have k3:=(‹SysDr _ _ _›).few
 have k4:=(‹SysDr _ _ _›).rules
 refine sw (x9 H ti27 [.int .i64 0,.slice none 0 0,.slice none 0 0] fun b22 w23 H=>sw (xP H 0 [.int .i64 zi11,.slice ra14 zl12.length rc16,.slice ra17 zR13.length rc19] Tryz.sizeOf27 fun w24 H=>?_))
 try dsimp only [List.set] at H
 refine zjcc (sp (.int .i64 0) (zjn (xg ?_)))
 replace H:=H.unfree 1 rfl
 refine zH (fun m' ρ w25=>∃ (xU:Env) (i:Nat) (s_at:Int) (s_seed:Int) (y_Rules:List zK) (xE:List Value) (xy:yLN),ρ=upd (upd (upd (upd (upd xU 0 (.pointer (some ⟨bs,0,none⟩))) 2 (.pointer (some ⟨b1,0,none⟩))) 3 (.pointer (some ⟨b3,0,none⟩))) 4 (.pointer (some ⟨b22,0,none⟩))) 5 (.int .i64 i)∧((i:Int)≤zR13.length)∧(ip≤s_at∧s_at≤ip+2000+100 * i)∧(y_Rules.length≤5∧zQ zi11 zl12 y_Rules)∧m' =(zR13.length - (i:Int)).toNat∧Fresh W0.heap.size (Ns)∧St W0 w25 ((.box b22 [.int .i64 zi11,.slice ra14 zl12.length rc16,.slice ra17 zR13.length rc19] 27) :: (.box bs [.slice ac code.length cc,.int .i64 s_at,.int .u64 s_seed] 68) :: (rr ra14 zl12.length rc16 2 1 (zl12.map (Value.int .i64))) :: (rr ra17 zR13.length rc19 49 9 xE) :: (.box b3 [.slice none 0 0,.slice none 0 0,.slice none 0 0] 31) :: (.box b1 [.int .i64 0,.slice none 0 0,.slice none 0 0] 27) :: ps) ((sF false Fc ac cc code) :: (xB false xy xE y_Rules) :: Γ)) ((zR13.length - (0:Int)).toNat) ⟨_,0,zi9,zi10,zR13,rx20,rF21,uE5,qf,qf,(by exact ⟨by omega,k4⟩),rfl,(N.zC 1 [] qo),H.zC 6 3 [0,1,2,3,4,5] [1,0] qo qo⟩ ?_
 clear H N
 rintro m' ρ w26 ⟨xU,i,s_at,s_seed,y_Rules,xE,xy,rfl,i0,j1,j2,rfl,N,H⟩
 have hn_y_Rules:=H.zO (α:=zK) 3 rfl 1 rfl qj
 refine zcc (sp (.int .i64 i) (oF rfl (oL rfl (H.cell 0 rfl rfl) (oN rfl (sp (.bool (decide ((i:Int) < zR13.length))) (zjn (cD rfl (fun h27=>?_) (fun h27=>?_))))))))
 ·skip
  refine xh (t_n (x8 (xg (zcr (oF rfl (oL rfl (H.cell 0 rfl rfl) (sp (.int .i64 i) ?_)))))))
  obtain ⟨b28,rfl⟩:=H.Xo 3 rfl qf
  obtain ⟨Qr,yw,Fe29Need,yC,yz,Fe29Have,yB,yx,Fe29Lack,ae29Here,ce29Here,Fe29Here,Xg,Xf,Fe29Out,yZ,yX,Fe29Into,hx30,H⟩:=H.rowel_RuleD 3 rfl 1 rfl (iv:=i) i qf qf
  refine oI rfl rfl (sp (.pointer (some ⟨b28,0+(i:Int).toNat * 9,none⟩)) (zjcc (sp (.pointer (some ⟨bs,0,none⟩)) ?_)))
  have H1:=H.jv 6 8 [1,0,2,3,4,5] [6,0,1,2,3,4,5,7] qo qo
  have N1:Fresh _ (Ns):=N
  have K1:Kept (Ns) ((sF false Fe29Need Qr yw ((y_Rules[i]!).xu)) :: (sF false Fe29Have yC yz ((y_Rules[i]!).xM)) :: (sF false Fe29Lack yB yx ((y_Rules[i]!).xK)) :: (sF false Fe29Here ae29Here ce29Here ((y_Rules[i]!).xF)) :: (sF false Fe29Out Xg Xf ((y_Rules[i]!).zI)) :: (sF false Fe29Into yZ yX ((y_Rules[i]!).qL)) :: (xB false xy xE y_Rules) :: Γ):=K0.behind 7 rfl
  refine sw (zg #[.pointer (some ⟨bs,0,none⟩),.int .i64 8] rfl rfl Tryz.call15 (Xe code s_at s_seed bs ac cc Fc (8:Int) H1 N1 K1 qg) ?_)
  clear H H1 N1 K1
  rintro _ w31 ⟨zi34,zi35,zb36,hx33,rfl,N,H⟩
  refine zjn (xI (zb36) rfl (fun h37=>?_) (fun h37=>?_))
  ·skip
   refine c_exit (t_x (b_x (t_n (xZ (sp (.int .i64 i) (sw (zB i 1 rfl rfl qf (sp (.int .i64 (i+1)) (zi (xq (m' :=(zR13.length - ((i+1):Int)).toNat) qf ⟨_,i+1,zi34,zi35,y_Rules,xE,xy,uE5,?_,?_,?_,rfl,N,H.zC 6 8 [1,0,2,3,4,5] [0,7] qo qo⟩))))))))))
   · omega
   · omega
   · exact ⟨by (try simp only [List.length_set]);omega,by have q2:=j2.2;(repeat' (first | assumption | exact k2.1 | exact zx.zero qf qf | (simp only [List.length_set];omega) | omega | apply zQ.here | apply zQ.out | apply zQ.into))⟩
  ·skip
   refine xh (t_n (zcr (sp (.pointer (some ⟨b28,0+(i:Int).toNat * 9,none⟩)) (oF rfl (oL rfl (H.cell 1 rfl rfl) (sw (jk H Tryz.underlying24 ti2 zi11.toNat rfl rfl qf qf qf fun b38 w39 H=>sp (.pointer (some ⟨b28,0+(i:Int).toNat * 9,none⟩)) (oF rfl (sw (QE H 4 rfl (.slice (some ⟨b38,0,none⟩) zi11.toNat zi11.toNat) Tryz.sizeOf24 rfl rfl rfl (part_lt (hx30 5 _ rfl)) fun w40 H=>?_))))))))))
   have hx41:=part_get (cells:=[.int .i64 ((y_Rules[i]!).qF),.int .i64 ((y_Rules[i]!).zM),.slice Qr (((y_Rules[i]!).xu).length) yw,.slice yC (((y_Rules[i]!).xM).length) yz,.slice yB (((y_Rules[i]!).xK).length) yx,.slice ae29Here (((y_Rules[i]!).xF).length) ce29Here,.slice Xg (((y_Rules[i]!).zI).length) Xf,.slice yZ (((y_Rules[i]!).qL).length) yX,.bool ((y_Rules[i]!).xR)]) hx30 5 (.slice (some ⟨b38,0,none⟩) zi11.toNat zi11.toNat) (Nat.le_of_ble_eq_true rfl)
   replace hx41:∀ (q:Nat) (v:Value),([.int .i64 ((y_Rules[i]!).qF),.int .i64 ((y_Rules[i]!).zM),.slice Qr (((y_Rules[i]!).xu).length) yw,.slice yC (((y_Rules[i]!).xM).length) yz,.slice yB (((y_Rules[i]!).xK).length) yx,.slice (some ⟨b38,0,none⟩) zi11.toNat zi11.toNat,.slice Xg (((y_Rules[i]!).zI).length) Xf,.slice yZ (((y_Rules[i]!).qL).length) yX,.bool ((y_Rules[i]!).xR)]:List Value)[q]? =some v→(xE.set (0+(i:Int).toNat * 9+5) (.slice (some ⟨b38,0,none⟩) zi11.toNat zi11.toNat))[0+(i:Int).toNat * 9+q]? =some v:=hx41
   try dsimp only [List.set] at H
   refine zjcc (sp (.int .i64 1) (zjn (xg ?_)))
   have k7:=(j2.2 i qf).need.1.len qf
   refine zH (fun m' ρ w42=>∃ (xU:Env) (k:Nat) (s_at_1:Int) (s_seed_1:Int) (r18:yLI),ρ=upd (upd (upd (upd (upd (upd (upd xU 0 (.pointer (some ⟨bs,0,none⟩))) 2 (.pointer (some ⟨b1,0,none⟩))) 3 (.pointer (some ⟨b3,0,none⟩))) 4 (.pointer (some ⟨b22,0,none⟩))) 5 (.int .i64 i)) 6 (.pointer (some ⟨b28,0+(i:Int).toNat * 9,none⟩))) 7 (.int .i64 k)∧((k:Int)≤zi11)∧(ip≤s_at_1∧s_at_1≤ip+2002+100 * i+4 * k)∧(HereTo zi11 k r18)∧(1≤(k:Int))∧m' =(zi11 - (k:Int)).toNat∧Fresh W0.heap.size (Ns)∧St W0 w42 ((rr (some ⟨b38,0,none⟩) zi11.toNat zi11.toNat 2 1 (r18.map (Value.int .i64))) :: (.box bs [.slice ac code.length cc,.int .i64 s_at_1,.int .u64 s_seed_1] 68) :: (.box b22 [.int .i64 zi11,.slice ra14 zl12.length rc16,.slice (some ⟨b28,0,none⟩) zR13.length rc19] 27) :: (rr ra14 zl12.length rc16 2 1 (zl12.map (Value.int .i64))) :: (rr (some ⟨b28,0,none⟩) zR13.length rc19 49 9 (xE.set (0+(i:Int).toNat * 9+5) (.slice (some ⟨b38,0,none⟩) zi11.toNat zi11.toNat))) :: (.box b3 [.slice none 0 0,.slice none 0 0,.slice none 0 0] 31) :: (.box b1 [.int .i64 0,.slice none 0 0,.slice none 0 0] 27) :: ps) ((sF false Fc ac cc code) :: (sF false Fe29Need Qr yw ((y_Rules[i]!).xu)) :: (sF false Fe29Have yC yz ((y_Rules[i]!).xM)) :: (sF false Fe29Lack yB yx ((y_Rules[i]!).xK)) :: (sF false Fe29Out Xg Xf ((y_Rules[i]!).zI)) :: (sF false Fe29Into yZ yX ((y_Rules[i]!).qL)) :: (xB false xy xE y_Rules) :: Γ)) ((zi11 - (1:Int)).toNat) ⟨_,1,zi34,zi35,(List.replicate zi11.toNat (0:Int)),uE7,qf,qf,(by exact HereTo.zero qf),qf,rfl,N,H.zC 7 8 [0,1,2,3,4,5,6] [0,1,2,3,5,6,7] qo qo⟩ ?_
   clear H N
   rintro m' ρ w43 ⟨xU,k,s_at_1,s_seed_1,r18,rfl,i0,k0,k2,k6,rfl,N,H⟩
   have hn_r18:=H.jb 0 rfl
   refine zcc (sp (.int .i64 k) (oF rfl (oL rfl (H.cell 2 rfl rfl) (sp (.bool (decide ((k:Int) < zi11))) (zjn (cD rfl (fun h44=>?_) (fun h44=>?_)))))))
   ·skip
    refine xh (t_n (x8 (xg (zcr (sps [.pointer (some ⟨b28,0+(i:Int).toNat * 9,none⟩),.pointer (some ⟨b28,0+(i:Int).toNat * 9,none⟩)] (oF rfl (oL rfl (H.rowGet 4 rfl (hx41 2 _ rfl)) (sp (.int .i64 k) ?_))))))))
    obtain ⟨b45,o46,rfl⟩:=H.addr 1 rfl qf
    refine oI rfl rfl (oL rfl (H.ji 1 rfl k qf qf) (sps [.bool (decide ((((y_Rules[i]!).xu)[k]! :Int) > 0)),.bool (decide ((((y_Rules[i]!).xu)[k]! :Int) > 0))] ?_))
    cases h48:(decide ((((y_Rules[i]!).xu)[k]! :Int) > 0))
    ·skip
     replace h48:=of_decide_eq_false h48
     refine xO [44,45] (sp (.bool false) (zjn (xI false rfl (fun h=>absurd h qj) (fun _=>xh (b_n (t_n (xZ (sp (.int .i64 k) (sw (zB k 1 rfl rfl qf (sp (.int .i64 (k+1)) (zi (xq (m' :=(zi11 - ((k+1):Int)).toNat) qf ⟨_,k+1,s_at_1,s_seed_1,r18,uE7,?_,?_,?_,?_,rfl,N,H⟩)))))))))))))
     · omega
     · omega
     · first | exact k2.go | exact k2.put qf qf qf
     · omega
    ·skip
     replace h48:=of_decide_eq_true h48
     refine qO 43 rfl rfl (sp (.pointer (some ⟨bs,0,none⟩)) (qO 43 rfl rfl ?_))
     have H1:=H.jv 7 7 [1,0,2,3,4,5,6] [0,1,2,3,4,5,6] qo qo
     have N1:Fresh _ (Ns):=N
     have K1:Kept (Ns) ((sF false Fe29Need (some ⟨b45,o46,none⟩) yw ((y_Rules[i]!).xu)) :: (sF false Fe29Have yC yz ((y_Rules[i]!).xM)) :: (sF false Fe29Lack yB yx ((y_Rules[i]!).xK)) :: (sF false Fe29Out Xg Xf ((y_Rules[i]!).zI)) :: (sF false Fe29Into yZ yX ((y_Rules[i]!).qL)) :: (xB false xy xE y_Rules) :: Γ):=K0.behind 6 rfl
     refine sw (zg #[.pointer (some ⟨bs,0,none⟩),.int .i64 2] rfl rfl Tryz.call15 (Xe code s_at_1 s_seed_1 bs ac cc Fc (2:Int) H1 N1 K1 qg) ?_)
     clear H H1 N1 K1
     rintro _ w49 ⟨zi52,zi53,zb54,hx51,rfl,N,H⟩
     refine sp (.bool zb54) (zjn (xI (zb54) rfl (fun h55=>?_) (fun h55=>?_)))
     ·skip
      refine c_cut (fun ρ w59=>∃ (xU:Env) (zi56:Int) (zi57:Int) (zi58:Int),ρ=upd (upd (upd (upd (upd (upd (upd (upd (upd xU 0 (.pointer (some ⟨bs,0,none⟩))) 2 (.pointer (some ⟨b1,0,none⟩))) 3 (.pointer (some ⟨b3,0,none⟩))) 4 (.pointer (some ⟨b22,0,none⟩))) 5 (.int .i64 i)) 6 (.pointer (some ⟨b28,0+(i:Int).toNat * 9,none⟩))) 7 (.int .i64 k)) 44 (.pointer (some ⟨bs,0,none⟩))) 45 (.bool zb54)∧(zi52≤zi56∧zi56≤zi52+2)∧(0≤zi57∧(zi57 < (3:Int)∨zi57=0))∧Fresh W0.heap.size (Ns)∧St W0 w59 ((.box bs [.slice ac code.length cc,.int .i64 zi56,.int .u64 zi58] 68) :: (rr (some ⟨b38,0,none⟩) zi11.toNat zi11.toNat 2 1 ((r18.set ((k - 1:Int).toNat) ((r18[(k - 1:Int).toNat]!)+zi57)).map (Value.int .i64))) :: (.box b22 [.int .i64 zi11,.slice ra14 zl12.length rc16,.slice (some ⟨b28,0,none⟩) zR13.length rc19] 27) :: (rr ra14 zl12.length rc16 2 1 (zl12.map (Value.int .i64))) :: (rr (some ⟨b28,0,none⟩) zR13.length rc19 49 9 (xE.set (0+(i:Int).toNat * 9+5) (.slice (some ⟨b38,0,none⟩) zi11.toNat zi11.toNat))) :: (.box b3 [.slice none 0 0,.slice none 0 0,.slice none 0 0] 31) :: (.box b1 [.int .i64 0,.slice none 0 0,.slice none 0 0] 27) :: ps) ((sF false Fc ac cc code) :: (sF false Fe29Need (some ⟨b45,o46,none⟩) yw ((y_Rules[i]!).xu)) :: (sF false Fe29Have yC yz ((y_Rules[i]!).xM)) :: (sF false Fe29Lack yB yx ((y_Rules[i]!).xK)) :: (sF false Fe29Out Xg Xf ((y_Rules[i]!).zI)) :: (sF false Fe29Into yZ yX ((y_Rules[i]!).qL)) :: (xB false xy xE y_Rules) :: Γ)) ?_ ?_
      ·skip
       refine QZ rfl H [2,3,4,5,6] [0,1,2,3,4,5,6] fun H=>?_
       have S:=H.jm [2,3,4,5,6] [0,1,2,3,4,5,6]
       refine rtp 0 (.pointer (some ⟨b28,0+(i:Int).toNat * 9,none⟩)) S ?_
       refine rtp 1 (.pointer (some ⟨b28,0+(i:Int).toNat * 9,none⟩)) S ?_
       refine tF 2 rfl rfl S ?_
       refine tL 3 rfl rfl (fun _ h=>h.rowGet 2 rfl (hx41 5 _ rfl)) S ?_
       refine rtp 4 (.int .i64 k) S ?_
       refine rt 5 (.int .i64 (k - 1)) (y_sub k 1 rfl rfl qf) S ?_
       refine tI 6 rfl rfl rfl S ?_
       refine rtp 8 (.pointer (some ⟨bs,0,none⟩)) S ?_
       refine jd [7,9] qh qm (jI rfl ?_ (jI rfl ?_ je))
       ·skip
        refine xX (.int .i64 (r18[(k - 1:Int).toNat]!)) Tryz.isAgg2 rfl (H.rowInt 1 rfl (iv:=k - 1) (i:=((k - 1:Int).toNat)) qf qf) (⟨H.pick [2,3,4,5,6] [0,1,2,3,4,5,6],(ro 9 rfl ?_)⟩)
        have H1:=H.jv 7 7 [0,1,2,3,4,5,6] [0,1,2,3,4,5,6] qo qo
        have N1:Fresh _ (Ns):=N
        have K1:Kept (Ns) ((sF false Fe29Need (some ⟨b45,o46,none⟩) yw ((y_Rules[i]!).xu)) :: (sF false Fe29Have yC yz ((y_Rules[i]!).xM)) :: (sF false Fe29Lack yB yx ((y_Rules[i]!).xK)) :: (sF false Fe29Out Xg Xf ((y_Rules[i]!).zI)) :: (sF false Fe29Into yZ yX ((y_Rules[i]!).qL)) :: (xB false xy xE y_Rules) :: Γ):=K0.behind 6 rfl
        refine zg #[.pointer (some ⟨bs,0,none⟩),.int .i64 3] rfl rfl Tryz.call17 (jF code zi52 zi53 bs ac cc Fc (3:Int) H1 N1 K1 qg) ?_
        clear H H1 N1 K1
        rintro _ w61 ⟨zi65,zi66,zi67,hx63,hx64,rfl,N,H⟩
        have k5:=k2.2 (k - 1:Int).toNat qf qf
        refine ⟨H.pick [2,3,4,5,6] [0,1,2,3,4,5,6],?_⟩
        have S:=H.jm [2,3,4,5,6] [0,1,2,3,4,5,6]
        refine rt 10 (.int .i64 ((r18[(k - 1:Int).toNat]!)+zi67)) (y_add (r18[(k - 1:Int).toNat]!) zi67 rfl rfl qf) S ?_
        refine tI 11 rfl rfl rfl S ?_
        refine ro 12 rfl (o_storeInt H 1 rfl ((r18[(k - 1:Int).toNat]!)+zi67) Tryz.sizeOf2 rfl rfl (i:=((k - 1:Int).toNat)) qf qf fun w68 H=>?_)
        try dsimp only [List.set] at H
        refine ⟨H.pick [2,3,4,5,6] [0,1,2,3,4,5,6],(xH qh ((meet ⟨_,zi65,zi67,zi66,uE9,hx63,hx64,N,H⟩)))⟩
       ·skip
        have H1:=H.jv 7 7 [0,1,2,3,4,5,6] [0,1,2,3,4,5,6] qo qo
        have N1:Fresh _ (Ns):=N
        have K1:Kept (Ns) ((sF false Fe29Need (some ⟨b45,o46,none⟩) yw ((y_Rules[i]!).xu)) :: (sF false Fe29Have yC yz ((y_Rules[i]!).xM)) :: (sF false Fe29Lack yB yx ((y_Rules[i]!).xK)) :: (sF false Fe29Out Xg Xf ((y_Rules[i]!).zI)) :: (sF false Fe29Into yZ yX ((y_Rules[i]!).qL)) :: (xB false xy xE y_Rules) :: Γ):=K0.behind 6 rfl
        refine zg #[.pointer (some ⟨bs,0,none⟩),.int .i64 3] rfl rfl Tryz.call17 (jF code zi52 zi53 bs ac cc Fc (3:Int) H1 N1 K1 qg) ?_
        clear H H1 N1 K1
        rintro _ w69 ⟨zi73,zi74,zi75,hx71,hx72,rfl,N,H⟩
        have k5:=k2.2 (k - 1:Int).toNat qf qf
        refine ⟨H.pick [2,3,4,5,6] [0,1,2,3,4,5,6],(ro 7 rfl (xX (.int .i64 (r18[(k - 1:Int).toNat]!)) Tryz.isAgg2 rfl (H.rowInt 1 rfl (iv:=k - 1) (i:=((k - 1:Int).toNat)) qf qf) (⟨H.pick [2,3,4,5,6] [0,1,2,3,4,5,6],?_⟩)))⟩
        have S:=H.jm [2,3,4,5,6] [0,1,2,3,4,5,6]
        refine rt 10 (.int .i64 ((r18[(k - 1:Int).toNat]!)+zi75)) (y_add (r18[(k - 1:Int).toNat]!) zi75 rfl rfl qf) S ?_
        refine tI 11 rfl rfl rfl S ?_
        refine ro 12 rfl (o_storeInt H 1 rfl ((r18[(k - 1:Int).toNat]!)+zi75) Tryz.sizeOf2 rfl rfl (i:=((k - 1:Int).toNat)) qf qf fun w76 H=>?_)
        try dsimp only [List.set] at H
        refine ⟨H.pick [2,3,4,5,6] [0,1,2,3,4,5,6],(xH qh ((meet ⟨_,zi73,zi75,zi74,uE9,hx71,hx72,N,H⟩)))⟩
      ·skip
       clear H N
       rintro ρ w77 ⟨xU,zi56,zi57,zi58,rfl,hx78,hx79,N,H⟩
       refine b_n (t_n (xZ (sp (.int .i64 k) (sw (zB k 1 rfl rfl qf (sp (.int .i64 (k+1)) (zi (xq (m' :=(zi11 - ((k+1):Int)).toNat) qf ⟨_,k+1,zi56,zi58,(r18.set ((k - 1:Int).toNat) ((r18[(k - 1:Int).toNat]!)+zi57)),uE7,?_,?_,?_,?_,rfl,N,H.zC 7 7 [1,0,2,3,4,5,6] [0,1,2,3,4,5,6] qo qo⟩))))))))
       · omega
       · omega
       · first | exact k2.go | exact k2.put qf qf qf
       · omega
     ·skip
      refine xh (b_n (t_n (xZ (sp (.int .i64 k) (sw (zB k 1 rfl rfl qf (sp (.int .i64 (k+1)) (zi (xq (m' :=(zi11 - ((k+1):Int)).toNat) qf ⟨_,k+1,zi52,zi53,r18,uE7,?_,?_,?_,?_,rfl,N,H.zC 7 7 [1,0,2,3,4,5,6] [0,1,2,3,4,5,6] qo qo⟩)))))))))
      · omega
      · omega
      · first | exact k2.go | exact k2.put qf qf qf
      · omega
   ·skip
    refine zx4 (zcc (sp (.pointer (some ⟨bs,0,none⟩)) ?_))
    have H1:=H.jv 7 7 [1,0,2,3,4,5,6] [0,1,2,3,4,5,6] qo qo
    have N1:Fresh _ (Ns):=N
    have K1:Kept (Ns) ((sF false Fe29Need Qr yw ((y_Rules[i]!).xu)) :: (sF false Fe29Have yC yz ((y_Rules[i]!).xM)) :: (sF false Fe29Lack yB yx ((y_Rules[i]!).xK)) :: (sF false Fe29Out Xg Xf ((y_Rules[i]!).zI)) :: (sF false Fe29Into yZ yX ((y_Rules[i]!).qL)) :: (xB false xy xE y_Rules) :: Γ):=K0.behind 6 rfl
    refine sw (zg #[.pointer (some ⟨bs,0,none⟩),.int .i64 2] rfl rfl Tryz.call15 (Xe code s_at_1 s_seed_1 bs ac cc Fc (2:Int) H1 N1 K1 qg) ?_)
    clear H H1 N1 K1
    rintro _ w80 ⟨zi83,zi84,zb85,hx82,rfl,N,H⟩
    refine zjn (xI (zb85) rfl (fun h86=>?_) (fun h86=>?_))
    ·skip
     refine xZ (sp (.pointer (some ⟨b28,0+(i:Int).toNat * 9,none⟩)) (oF rfl (oL rfl (H.cell 2 rfl rfl) (sw (jk H Tryz.underlying24 ti2 zi11.toNat rfl rfl qf qf qf fun b87 w88 H=>sp (.pointer (some ⟨b28,0+(i:Int).toNat * 9,none⟩)) (oF rfl ?_))))))
     obtain ⟨G89,N,hn90,H⟩:=H.vG 2 rfl N (fun F hF b hb=>(List.mem_append.1 (show F∈[]++Ns from hF)).elim (fun h=>(H.yg (L:=[]) []) F h b hb) fun h=>H.Qb (K0.behind 7 rfl) F h b hb)
     try dsimp only [List.set] at H
     obtain ⟨F91,H⟩:=H.part_5 7 rfl 0 rfl (iv:=i) i qf (by first | omega | (simp only [List.length_set];omega))
     try dsimp only [List.set] at H
     refine sw (QE H 5 rfl (.slice (some ⟨b87,0,none⟩) zi11.toNat zi11.toNat) Tryz.sizeOf24 rfl rfl rfl (part_lt (hx41 6 _ rfl)) fun w92 H=>?_)
     have hx93:=part_get (cells:=[.int .i64 ((y_Rules[i]!).qF),.int .i64 ((y_Rules[i]!).zM),.slice Qr (((y_Rules[i]!).xu).length) yw,.slice yC (((y_Rules[i]!).xM).length) yz,.slice yB (((y_Rules[i]!).xK).length) yx,.slice (some ⟨b38,0,none⟩) zi11.toNat zi11.toNat,.slice Xg (((y_Rules[i]!).zI).length) Xf,.slice yZ (((y_Rules[i]!).qL).length) yX,.bool ((y_Rules[i]!).xR)]) hx41 6 (.slice (some ⟨b87,0,none⟩) zi11.toNat zi11.toNat) (Nat.le_of_ble_eq_true rfl)
     replace hx93:∀ (q:Nat) (v:Value),([.int .i64 ((y_Rules[i]!).qF),.int .i64 ((y_Rules[i]!).zM),.slice Qr (((y_Rules[i]!).xu).length) yw,.slice yC (((y_Rules[i]!).xM).length) yz,.slice yB (((y_Rules[i]!).xK).length) yx,.slice (some ⟨b38,0,none⟩) zi11.toNat zi11.toNat,.slice (some ⟨b87,0,none⟩) zi11.toNat zi11.toNat,.slice yZ (((y_Rules[i]!).qL).length) yX,.bool ((y_Rules[i]!).xR)]:List Value)[q]? =some v→((xE.set (0+(i:Int).toNat * 9+5) (.slice (some ⟨b38,0,none⟩) zi11.toNat zi11.toNat)).set (0+(i:Int).toNat * 9+6) (.slice (some ⟨b87,0,none⟩) zi11.toNat zi11.toNat))[0+(i:Int).toNat * 9+q]? =some v:=hx93
     try dsimp only [List.set] at H
     refine zjc (sp (.pointer (some ⟨bs,0,none⟩)) ?_)
     have H1:=H.jv 8 9 [1,0,2,3,4,5,6,7] [2,0,1,3,4,5,6,7,8] qo qo
     have N1:Fresh _ (G89 :: Ns):=N
     have K1:Kept (Ns) ((xB false F91 (xE.set (0+(i:Int).toNat * 9+5) (.slice (some ⟨b38,0,none⟩) zi11.toNat zi11.toNat)) (y_Rules.set i { y_Rules[i]! with xF:=r18 })) :: (isF true G89 (.slice (some ⟨b38,0,none⟩) zi11.toNat zi11.toNat) r18) :: (sF false Fe29Need Qr yw ((y_Rules[i]!).xu)) :: (sF false Fe29Have yC yz ((y_Rules[i]!).xM)) :: (sF false Fe29Lack yB yx ((y_Rules[i]!).xK)) :: (sF false Fe29Out Xg Xf ((y_Rules[i]!).zI)) :: (sF false Fe29Into yZ yX ((y_Rules[i]!).qL)) :: (xB false xy xE y_Rules) :: Γ):=K0.behind 8 rfl
     replace K1:=K1.cons (F:=G89) 1 rfl rfl
     refine sw (zg #[.pointer (some ⟨bs,0,none⟩),.int .i64 2] rfl rfl Tryz.call15 (Xe code zi83 zi84 bs ac cc Fc (2:Int) H1 N1 K1 qg) ?_)
     clear H H1 N1 K1
     rintro _ w94 ⟨zi97,zi98,zb99,hx96,rfl,N,H⟩
     refine zjn (xI (zb99) rfl (fun h100=>?_) (fun h100=>?_))
     ·skip
      refine xZ (sp (.pointer (some ⟨b28,0+(i:Int).toNat * 9,none⟩)) (sw (yJ H Tryz.underlying47 ti111 fun b101 w102 H=>sp (.pointer (some ⟨b28,0+(i:Int).toNat * 9,none⟩)) (oF rfl ?_))))
      obtain ⟨G103,N,hn104,H⟩:=H.vG 2 rfl N (fun F hF b hb=>(List.mem_append.1 (show F∈[G89]++Ns from hF)).elim (fun h=>(H.yg (L:=[G89]) [2]) F h b hb) fun h=>H.Qb (K0.behind 9 rfl) F h b hb)
      try dsimp only [List.set] at H
      obtain ⟨F105,H⟩:=H.part_6 2 rfl 0 rfl (iv:=i) i qf (by first | omega | (simp only [List.length_set];omega))
      try dsimp only [List.set] at H
      refine sw (QE H 6 rfl (.slice (some ⟨b101,0,none⟩) 0 0) Tryz.sizeOf47 rfl rfl rfl (part_lt (hx93 7 _ rfl)) fun w106 H=>?_)
      have hx107:=part_get (cells:=[.int .i64 ((y_Rules[i]!).qF),.int .i64 ((y_Rules[i]!).zM),.slice Qr (((y_Rules[i]!).xu).length) yw,.slice yC (((y_Rules[i]!).xM).length) yz,.slice yB (((y_Rules[i]!).xK).length) yx,.slice (some ⟨b38,0,none⟩) zi11.toNat zi11.toNat,.slice (some ⟨b87,0,none⟩) zi11.toNat zi11.toNat,.slice yZ (((y_Rules[i]!).qL).length) yX,.bool ((y_Rules[i]!).xR)]) hx93 7 (.slice (some ⟨b101,0,none⟩) 0 0) (Nat.le_of_ble_eq_true rfl)
      replace hx107:∀ (q:Nat) (v:Value),([.int .i64 ((y_Rules[i]!).qF),.int .i64 ((y_Rules[i]!).zM),.slice Qr (((y_Rules[i]!).xu).length) yw,.slice yC (((y_Rules[i]!).xM).length) yz,.slice yB (((y_Rules[i]!).xK).length) yx,.slice (some ⟨b38,0,none⟩) zi11.toNat zi11.toNat,.slice (some ⟨b87,0,none⟩) zi11.toNat zi11.toNat,.slice (some ⟨b101,0,none⟩) 0 0,.bool ((y_Rules[i]!).xR)]:List Value)[q]? =some v→(((xE.set (0+(i:Int).toNat * 9+5) (.slice (some ⟨b38,0,none⟩) zi11.toNat zi11.toNat)).set (0+(i:Int).toNat * 9+6) (.slice (some ⟨b87,0,none⟩) zi11.toNat zi11.toNat)).set (0+(i:Int).toNat * 9+7) (.slice (some ⟨b101,0,none⟩) 0 0))[0+(i:Int).toNat * 9+q]? =some v:=hx107
      try dsimp only [List.set] at H
      refine zi (b_n (t_n (xZ (sp (.int .i64 i) (sw (zB i 1 rfl rfl qf (sp (.int .i64 (i+1)) (zi ?_))))))))
      replace H:=H.boxRow 0 rfl 2 0 rfl qj
      try dsimp only [List.set] at H
      replace H:=H.QD (α:=y5)
      replace H:St _ _ ((rr (some ⟨b101,0,none⟩) 0 0 111 2 []) :: (.box bs [.slice ac code.length cc,.int .i64 zi97,.int .u64 zi98] 68) :: (rr none 0 0 0 1 []) :: (rr none 0 0 0 1 []) :: (.box b22 [.int .i64 zi11,.slice ra14 zl12.length rc16,.slice (some ⟨b28,0,none⟩) zR13.length rc19] 27) :: (rr ra14 zl12.length rc16 2 1 (zl12.map (Value.int .i64))) :: (rr (some ⟨b28,0,none⟩) zR13.length rc19 49 9 (((xE.set (0+(i:Int).toNat * 9+5) (.slice (some ⟨b38,0,none⟩) zi11.toNat zi11.toNat)).set (0+(i:Int).toNat * 9+6) (.slice (some ⟨b87,0,none⟩) zi11.toNat zi11.toNat)).set (0+(i:Int).toNat * 9+7) (.slice (some ⟨b101,0,none⟩) 0 0))) :: (.box b3 [.slice none 0 0,.slice none 0 0,.slice none 0 0] 31) :: (.box b1 [.int .i64 0,.slice none 0 0,.slice none 0 0] 27) :: ps) ((xB true [] [] ([]:List y5)) :: (xB false F105 ((xE.set (0+(i:Int).toNat * 9+5) (.slice (some ⟨b38,0,none⟩) zi11.toNat zi11.toNat)).set (0+(i:Int).toNat * 9+6) (.slice (some ⟨b87,0,none⟩) zi11.toNat zi11.toNat)) ((y_Rules.set i { y_Rules[i]! with xF:=r18 }).set i { (y_Rules.set i { y_Rules[i]! with xF:=r18 })[i]! with zI:=(List.replicate zi11.toNat (0:Int))})) :: (isF true G103 (.slice (some ⟨b87,0,none⟩) zi11.toNat zi11.toNat) (List.replicate zi11.toNat (0:Int))) :: (sF false Fc ac cc code) :: (xB false F91 (xE.set (0+(i:Int).toNat * 9+5) (.slice (some ⟨b38,0,none⟩) zi11.toNat zi11.toNat)) (y_Rules.set i { y_Rules[i]! with xF:=r18 })) :: (isF true G89 (.slice (some ⟨b38,0,none⟩) zi11.toNat zi11.toNat) r18) :: (sF false Fe29Need Qr yw ((y_Rules[i]!).xu)) :: (sF false Fe29Have yC yz ((y_Rules[i]!).xM)) :: (sF false Fe29Lack yB yx ((y_Rules[i]!).xK)) :: (sF false Fe29Out Xg Xf ((y_Rules[i]!).zI)) :: (sF false Fe29Into yZ yX ((y_Rules[i]!).qL)) :: (xB false xy xE y_Rules) :: Γ):=H
      have H0:=H
      obtain ⟨G108,hg110,hn109,H⟩:=H.freezeR (α:=y5) 0 rfl 0 rfl qj
      replace N:Fresh W0.heap.size (G108 :: G103 :: G89 :: Ns):=Fresh.ice N.emp H0 0 hg110.1 hg110.2 (fun F hF b hb=>(List.mem_append.1 (show F∈[G103,G89]++Ns from hF)).elim (fun h=>(H0.yg (L:=[G103,G89]) [2,5]) F h b hb) fun h=>H0.Qb (K0.behind 12 rfl) F h b hb)
      clear H0
      try dsimp only [List.set] at H
      obtain ⟨F111,H⟩:=H.part_7 2 rfl 0 rfl (iv:=i) i qf (by first | omega | (simp only [List.length_set];omega))
      try dsimp only [List.set] at H
      refine xq (m' :=(zR13.length - ((i+1):Int)).toNat) qf ⟨_,i+1,zi97,zi98,(((y_Rules.set i { y_Rules[i]! with xF:=r18 }).set i { (y_Rules.set i { y_Rules[i]! with xF:=r18 })[i]! with zI:=(List.replicate zi11.toNat (0:Int))}).set i { ((y_Rules.set i { y_Rules[i]! with xF:=r18 }).set i { (y_Rules.set i { y_Rules[i]! with xF:=r18 })[i]! with zI:=(List.replicate zi11.toNat (0:Int))})[i]! with qL:=[]}),(((xE.set (0+(i:Int).toNat * 9+5) (.slice (some ⟨b38,0,none⟩) zi11.toNat zi11.toNat)).set (0+(i:Int).toNat * 9+6) (.slice (some ⟨b87,0,none⟩) zi11.toNat zi11.toNat)).set (0+(i:Int).toNat * 9+7) (.slice (some ⟨b101,0,none⟩) 0 0)),F111,uE5,?_,?_,?_,rfl,(N.zC 3 [] qo),H.zC 9 14 [4,1,5,6,7,8] [5,0] qo qo⟩
      · omega
      · omega
      · exact ⟨by (try simp only [List.length_set]);omega,by have q2:=j2.2;(repeat' (first | assumption | exact k2.1 | exact zx.zero qf qf | (simp only [List.length_set];omega) | omega | apply zQ.here | apply zQ.out | apply zQ.into))⟩
     ·skip
      refine xh (b_n (t_n (xZ (sp (.int .i64 i) (sw (zB i 1 rfl rfl qf (sp (.int .i64 (i+1)) (zi ?_))))))))
      obtain ⟨G112,N,hn113,H⟩:=H.vG 1 rfl N (fun F hF b hb=>(List.mem_append.1 (show F∈[G89]++Ns from hF)).elim (fun h=>(H.yg (L:=[G89]) [2]) F h b hb) fun h=>H.Qb (K0.behind 9 rfl) F h b hb)
      try dsimp only [List.set] at H
      obtain ⟨F114,H⟩:=H.part_6 2 rfl 0 rfl (iv:=i) i qf (by first | omega | (simp only [List.length_set];omega))
      try dsimp only [List.set] at H
      refine xq (m' :=(zR13.length - ((i+1):Int)).toNat) qf ⟨_,i+1,zi97,zi98,((y_Rules.set i { y_Rules[i]! with xF:=r18 }).set i { (y_Rules.set i { y_Rules[i]! with xF:=r18 })[i]! with zI:=(List.replicate zi11.toNat (0:Int))}),((xE.set (0+(i:Int).toNat * 9+5) (.slice (some ⟨b38,0,none⟩) zi11.toNat zi11.toNat)).set (0+(i:Int).toNat * 9+6) (.slice (some ⟨b87,0,none⟩) zi11.toNat zi11.toNat)),F114,uE5,?_,?_,?_,rfl,(N.zC 2 [] qo),H.zC 8 11 [3,0,4,5,6,7] [2,0] qo qo⟩
      · omega
      · omega
      · exact ⟨by (try simp only [List.length_set]);omega,by have q2:=j2.2;(repeat' (first | assumption | exact k2.1 | exact zx.zero qf qf | (simp only [List.length_set];omega) | omega | apply zQ.here | apply zQ.out | apply zQ.into))⟩
    ·skip
     refine xh (t_n (zcr (sp (.pointer (some ⟨bs,0,none⟩)) ?_)))
     have H1:=H.jv 7 7 [0,1,2,3,4,5,6] [0,1,2,3,4,5,6] qo qo
     have N1:Fresh _ (Ns):=N
     have K1:Kept (Ns) ((sF false Fe29Need Qr yw ((y_Rules[i]!).xu)) :: (sF false Fe29Have yC yz ((y_Rules[i]!).xM)) :: (sF false Fe29Lack yB yx ((y_Rules[i]!).xK)) :: (sF false Fe29Out Xg Xf ((y_Rules[i]!).zI)) :: (sF false Fe29Into yZ yX ((y_Rules[i]!).qL)) :: (xB false xy xE y_Rules) :: Γ):=K0.behind 6 rfl
     refine sw (zg #[.pointer (some ⟨bs,0,none⟩),.int .i64 2] rfl rfl Tryz.call15 (Xe code zi83 zi84 bs ac cc Fc (2:Int) H1 N1 K1 qg) ?_)
     clear H H1 N1 K1
     rintro _ w115 ⟨zi118,zi119,zb120,hx117,rfl,N,H⟩
     refine zjn (xI (zb120) rfl (fun h121=>?_) (fun h121=>?_))
     ·skip
      refine xZ (sp (.pointer (some ⟨b28,0+(i:Int).toNat * 9,none⟩)) (sw (yJ H Tryz.underlying47 ti111 fun b122 w123 H=>sp (.pointer (some ⟨b28,0+(i:Int).toNat * 9,none⟩)) (oF rfl ?_))))
      obtain ⟨G124,N,hn125,H⟩:=H.vG 2 rfl N (fun F hF b hb=>(List.mem_append.1 (show F∈[]++Ns from hF)).elim (fun h=>(H.yg (L:=[]) []) F h b hb) fun h=>H.Qb (K0.behind 7 rfl) F h b hb)
      try dsimp only [List.set] at H
      obtain ⟨F126,H⟩:=H.part_5 7 rfl 0 rfl (iv:=i) i qf (by first | omega | (simp only [List.length_set];omega))
      try dsimp only [List.set] at H
      refine sw (QE H 5 rfl (.slice (some ⟨b122,0,none⟩) 0 0) Tryz.sizeOf47 rfl rfl rfl (part_lt (hx41 7 _ rfl)) fun w127 H=>?_)
      have hx128:=part_get (cells:=[.int .i64 ((y_Rules[i]!).qF),.int .i64 ((y_Rules[i]!).zM),.slice Qr (((y_Rules[i]!).xu).length) yw,.slice yC (((y_Rules[i]!).xM).length) yz,.slice yB (((y_Rules[i]!).xK).length) yx,.slice (some ⟨b38,0,none⟩) zi11.toNat zi11.toNat,.slice Xg (((y_Rules[i]!).zI).length) Xf,.slice yZ (((y_Rules[i]!).qL).length) yX,.bool ((y_Rules[i]!).xR)]) hx41 7 (.slice (some ⟨b122,0,none⟩) 0 0) (Nat.le_of_ble_eq_true rfl)
      replace hx128:∀ (q:Nat) (v:Value),([.int .i64 ((y_Rules[i]!).qF),.int .i64 ((y_Rules[i]!).zM),.slice Qr (((y_Rules[i]!).xu).length) yw,.slice yC (((y_Rules[i]!).xM).length) yz,.slice yB (((y_Rules[i]!).xK).length) yx,.slice (some ⟨b38,0,none⟩) zi11.toNat zi11.toNat,.slice Xg (((y_Rules[i]!).zI).length) Xf,.slice (some ⟨b122,0,none⟩) 0 0,.bool ((y_Rules[i]!).xR)]:List Value)[q]? =some v→((xE.set (0+(i:Int).toNat * 9+5) (.slice (some ⟨b38,0,none⟩) zi11.toNat zi11.toNat)).set (0+(i:Int).toNat * 9+7) (.slice (some ⟨b122,0,none⟩) 0 0))[0+(i:Int).toNat * 9+q]? =some v:=hx128
      try dsimp only [List.set] at H
      refine zi (b_n (t_n (xZ (sp (.int .i64 i) (sw (zB i 1 rfl rfl qf (sp (.int .i64 (i+1)) (zi ?_))))))))
      replace H:=H.boxRow 0 rfl 2 0 rfl qj
      try dsimp only [List.set] at H
      replace H:=H.QD (α:=y5)
      replace H:St _ _ ((rr (some ⟨b122,0,none⟩) 0 0 111 2 []) :: (.box bs [.slice ac code.length cc,.int .i64 zi118,.int .u64 zi119] 68) :: (rr none 0 0 0 1 []) :: (.box b22 [.int .i64 zi11,.slice ra14 zl12.length rc16,.slice (some ⟨b28,0,none⟩) zR13.length rc19] 27) :: (rr ra14 zl12.length rc16 2 1 (zl12.map (Value.int .i64))) :: (rr (some ⟨b28,0,none⟩) zR13.length rc19 49 9 ((xE.set (0+(i:Int).toNat * 9+5) (.slice (some ⟨b38,0,none⟩) zi11.toNat zi11.toNat)).set (0+(i:Int).toNat * 9+7) (.slice (some ⟨b122,0,none⟩) 0 0))) :: (.box b3 [.slice none 0 0,.slice none 0 0,.slice none 0 0] 31) :: (.box b1 [.int .i64 0,.slice none 0 0,.slice none 0 0] 27) :: ps) ((xB true [] [] ([]:List y5)) :: (xB false F126 (xE.set (0+(i:Int).toNat * 9+5) (.slice (some ⟨b38,0,none⟩) zi11.toNat zi11.toNat)) (y_Rules.set i { y_Rules[i]! with xF:=r18 })) :: (isF true G124 (.slice (some ⟨b38,0,none⟩) zi11.toNat zi11.toNat) r18) :: (sF false Fc ac cc code) :: (sF false Fe29Need Qr yw ((y_Rules[i]!).xu)) :: (sF false Fe29Have yC yz ((y_Rules[i]!).xM)) :: (sF false Fe29Lack yB yx ((y_Rules[i]!).xK)) :: (sF false Fe29Out Xg Xf ((y_Rules[i]!).zI)) :: (sF false Fe29Into yZ yX ((y_Rules[i]!).qL)) :: (xB false xy xE y_Rules) :: Γ):=H
      have H0:=H
      obtain ⟨G129,hg131,hn130,H⟩:=H.freezeR (α:=y5) 0 rfl 0 rfl qj
      replace N:Fresh W0.heap.size (G129 :: G124 :: Ns):=Fresh.ice N.emp H0 0 hg131.1 hg131.2 (fun F hF b hb=>(List.mem_append.1 (show F∈[G124]++Ns from hF)).elim (fun h=>(H0.yg (L:=[G124]) [2]) F h b hb) fun h=>H0.Qb (K0.behind 10 rfl) F h b hb)
      clear H0
      try dsimp only [List.set] at H
      obtain ⟨F132,H⟩:=H.part_7 2 rfl 0 rfl (iv:=i) i qf (by first | omega | (simp only [List.length_set];omega))
      try dsimp only [List.set] at H
      refine xq (m' :=(zR13.length - ((i+1):Int)).toNat) qf ⟨_,i+1,zi118,zi119,((y_Rules.set i { y_Rules[i]! with xF:=r18 }).set i { (y_Rules.set i { y_Rules[i]! with xF:=r18 })[i]! with qL:=[]}),((xE.set (0+(i:Int).toNat * 9+5) (.slice (some ⟨b38,0,none⟩) zi11.toNat zi11.toNat)).set (0+(i:Int).toNat * 9+7) (.slice (some ⟨b122,0,none⟩) 0 0)),F132,uE5,?_,?_,?_,rfl,(N.zC 2 [] qo),H.zC 8 12 [3,1,4,5,6,7] [5,0] qo qo⟩
      · omega
      · omega
      · exact ⟨by (try simp only [List.length_set]);omega,by have q2:=j2.2;(repeat' (first | assumption | exact k2.1 | exact zx.zero qf qf | (simp only [List.length_set];omega) | omega | apply zQ.here | apply zQ.out | apply zQ.into))⟩
     ·skip
      refine xh (b_n (t_n (xZ (sp (.int .i64 i) (sw (zB i 1 rfl rfl qf (sp (.int .i64 (i+1)) (zi ?_))))))))
      obtain ⟨G133,N,hn134,H⟩:=H.vG 1 rfl N (fun F hF b hb=>(List.mem_append.1 (show F∈[]++Ns from hF)).elim (fun h=>(H.yg (L:=[]) []) F h b hb) fun h=>H.Qb (K0.behind 7 rfl) F h b hb)
      try dsimp only [List.set] at H
      obtain ⟨F135,H⟩:=H.part_5 7 rfl 0 rfl (iv:=i) i qf (by first | omega | (simp only [List.length_set];omega))
      try dsimp only [List.set] at H
      refine xq (m' :=(zR13.length - ((i+1):Int)).toNat) qf ⟨_,i+1,zi118,zi119,(y_Rules.set i { y_Rules[i]! with xF:=r18 }),(xE.set (0+(i:Int).toNat * 9+5) (.slice (some ⟨b38,0,none⟩) zi11.toNat zi11.toNat)),F135,uE5,?_,?_,?_,rfl,(N.zC 1 [] qo),H.zC 7 9 [2,0,3,4,5,6] [2,0] qo qo⟩
      · omega
      · omega
      · exact ⟨by (try simp only [List.length_set]);omega,by have q2:=j2.2;(repeat' (first | assumption | exact k2.1 | exact zx.zero qf qf | (simp only [List.length_set];omega) | omega | apply zQ.here | apply zQ.out | apply zQ.into))⟩
 ·skip
  refine zx4 (x8 ?_)
  refine QZ rfl H [0,2,3] [0,1] fun H=>?_
  have S:=H.jm [0,2,3] [0,1]
  refine rt 0 (.agg #[.int .i64 zi11,.slice ra14 zl12.length rc16,.slice ra17 zR13.length rc19]) (yh (cs:=[.int .i64 zi11,.slice ra14 zl12.length rc16,.slice ra17 zR13.length rc19]) Tryz.isAgg27 Tryz.sizeOf27 rfl (fun _ h=>qK (h.cells 0 rfl) 0 3)) S ?_
  refine rtp 1 (.pointer (some ⟨bs,0,none⟩)) S ?_
  refine ro 2 rfl ?_
  have sd:=(‹SysDr _ _ _›).with j2.1 j2.2
  have f0:zN (⟨zi11,zl12,y_Rules⟩:qG):=sd.frame
  have H1:=H.jv 6 2 [1,0,2,3,4,5] [0,1] qo qo
  have N1:Fresh _ (Ns):=N
  have K1:Kept (Ns) (Γ):=K0.behind 0 rfl
  refine zg #[.pointer (some ⟨bs,0,none⟩),.pointer (some ⟨b22,0,none⟩),.int .i64 4] rfl rfl Tryz.call32 (dState_ok code s_at s_seed bs ac cc Fc zi11 zl12 y_Rules b22 ra14 zl12.length rc16 ra17 zR13.length rc19 xE xy false (4:Int) H1 N1 K1 qg qg qg) ?_
  clear H H1 N1 K1
  rintro _ w137 ⟨zi141,zi142,zm143,zL144,zl145,ra146,rn147,rc148,ra149,rn150,rc151,rx152,rF153,ra154,rn155,rc156,hx139,hx140,rfl,N,H⟩
  obtain rfl:=H.rowNB 4 rfl
  obtain rfl:=H.zO (α:=yLI) 5 rfl 2 rfl qj
  obtain rfl:=H.jb 6 rfl
  refine ⟨H.pick [1,2,3] [0,1],(ro 3 rfl (xP H 8 [.int .i64 zi11,.slice ra14 zl12.length rc16,.slice ra17 zR13.length rc19] Tryz.sizeOf27 fun w157 H=>?_))⟩
  try dsimp only [List.set] at H
  refine ⟨H.pick [1,2,3] [0,1],(ro 4 rfl (xP H 7 [.slice ra146 zm143.length rc148,.slice ra149 zL144.length rc151,.slice ra154 zl145.length rc156] Tryz.sizeOf31 fun w158 H=>?_))⟩
  try dsimp only [List.set] at H
  refine ⟨H.pick [1,2,3] [0,1],(xH qh (t_n (c_ret (retCC H 8 rfl 7 rfl rfl Tryz.isAgg27 Tryz.sizeOf27 Tryz.isAgg31 Tryz.sizeOf31 rfl rfl ⟨_,rfl,(⟨zi141,zi142,zi11,zl12,y_Rules,zm143,zL144,zl145,ra14,zl12.length,rc16,ra17,zR13.length,rc19,xE,xy,ra146,zm143.length,rc148,ra149,zL144.length,rc151,rx152,rF153,ra154,zl145.length,rc156,qf,ql,ql,rfl,N,H.zC 9 3 [0,2,3,4,5,6] [0,1,2] qo qo⟩)⟩))))⟩
theorem wt_put {e:TypeId} {kk v:Int} {n m:Nat} {w:List (OwnI e)} (h:WtTo kk m (w.map OwnI.l)) (e:m=n+1) (hk:0 < ((w[0]!).l).length) (hv:0≤v∧v≤5):WtDr kk n ((w.set 0 ⟨(w[0]!).l.set 0 v⟩).map OwnI.l):=by
  have hn:=h.len
  rw [List.length_map] at hn
  have e0:(w.map OwnI.l)[0]! =(w[0]!).l:=by cases w <;> rfl
  have h1:=(h.put (by rw [List.length_map];omega) (by rw [e0];exact hk) hv).dr e
  rw [List.map_set]
  rwa [e0] at h1

theorem a2Weighed_ok {W0 w:World} {ps:List Prv} {Γ:List Fact} {Ns:List yLN} (code:List UInt8) (ac:yOA) (cc:Nat) (Fc:yLN) (H:St W0 w (ps) ((sF false Fc ac cc code) :: Γ)) (N:Fresh W0.heap.size (Ns)) (K0:Kept Ns Γ):Calls Tryz.prog 5 #[.slice ac code.length cc] w (fun e w' =>∃ v,e=.returned v∧∃ (kk_:Int) (par_:yLI) (rules_:List zK) (alive_:List Bool) (bags_:yLL) (around_:yLI) (w_:yLL) (raq:yOA) (rnq:Nat) (rcq:Nat) (raS:yOA) (rnS:Nat) (rcS:Nat) (rxS:List Value) (rFS:yLN) (raA:yOA) (rnA:Nat) (rcA:Nat) (raB:yOA) (rnB:Nat) (rcB:Nat) (rxB:List Value) (rFB:yLN) (raD:yOA) (rnD:Nat) (rcD:Nat) (raW:yOA) (rnW:Nat) (rcW:Nat) (rxW:List Value) (rFW:yLN),(SysDr kk_ par_ rules_)∧(StDr kk_ par_.length 4 alive_ bags_ around_)∧(WtDr kk_ par_.length w_)∧v=.tuple #[.agg #[.int .i64 kk_,.slice raq rnq rcq,.slice raS rnS rcS],.agg #[.slice raA rnA rcA,.slice raB rnB rcB,.slice raD rnD rcD],.slice raW rnW rcW]∧Fresh W0.heap.size (rFB :: rFW :: Ns)∧St W0 w' ((rr raq rnq rcq 2 1 (par_.map (Value.int .i64))) :: (rr raS rnS rcS 49 9 rxS) :: (rr raA rnA rcA 4 1 (alive_.map (Value.bool))) :: (rr raB rnB rcB 24 1 rxB) :: (rr raD rnD rcD 2 1 (around_.map (Value.int .i64))) :: (rr raW rnW rcW 24 1 rxW) :: ps) ((sF false Fc ac cc code) :: (xB false rFS rxS rules_) :: (xB true rFB rxB bags_) :: (xB true rFW rxW w_) :: Γ)):=by
 refine en Tryz.func5 Tryz.ntmps5 ?_
 have ncode:=qU (H.get 0 rfl).1
 refine zcr (sw (x9 H ti27 [.int .i64 0,.slice none 0 0,.slice none 0 0] fun b1 w2 H=>sw (x9 H ti31 [.slice none 0 0,.slice none 0 0,.slice none 0 0] fun b3 w4 H=>sp (.slice none 0 0) (zjc (sp (.slice ac code.length cc) (sw (jA #[.slice ac code.length cc] rfl rfl Tryz.call13 (en Tryz.func13 Tryz.ntmps13 ?_))))))))
 refine zcr (sp (.pointer none) (zjc (sp (.slice ac code.length cc) (sw (jg [.slice ac code.length cc,.int .i64 0,.int .u64 0] [(0,.slice ac code.length cc)] (sw (vK H [.slice ac code.length cc,.int .i64 0,.int .u64 0] fun b5 w6 H=>sp (.pointer (some ⟨b5,0,none⟩)) (zjr (ret1 (.pointer (some ⟨b5,0,none⟩)) rfl rfl ⟨_,rfl,(sp (.pointer (some ⟨b5,0,none⟩)) (zjc (sp (.pointer (some ⟨b5,0,none⟩)) ?_)))⟩)))))))))
 have H1:=H.jv 3 1 [0,1,2] [0] qo qo
 have N1:Fresh _ (Ns):=N
 have K1:Kept (Ns) (Γ):=K0.behind 0 rfl
 refine sw (zg #[.pointer (some ⟨b5,0,none⟩)] rfl rfl Tryz.call14 (dShrink_ok code (0:Int) 0 b5 ac cc Fc H1 N1 K1 qg) ?_)
 clear H H1 N1 K1
 rintro _ w7 ⟨zi12,zi13,zi14,zl15,zR16,zm17,zL18,zl19,ra20,rn21,rc22,ra23,rn24,rc25,rx26,rF27,ra28,rn29,rc30,ra31,rn32,rc33,rx34,rF35,ra36,rn37,rc38,hx9,hx10,hx11,rfl,N,H⟩
 obtain rfl:=H.jb 1 rfl
 obtain rfl:=H.zO (α:=zK) 2 rfl 1 rfl qj
 obtain rfl:=H.rowNB 3 rfl
 obtain rfl:=H.zO (α:=yLI) 4 rfl 2 rfl qj
 obtain rfl:=H.jb 5 rfl
 have sd:=(‹SysDr _ _ _›)
 have s1:=sd.kinds
 have s2:=sd.cells
 have s3:=sd.few
 have s4:=sd.rules
 refine sps [.tuple #[.agg #[.int .i64 zi14,.slice ra20 zl15.length rc22,.slice ra23 zR16.length rc25],.agg #[.slice ra28 zm17.length rc30,.slice ra31 zL18.length rc33,.slice ra36 zl19.length rc38]],.agg #[.int .i64 zi14,.slice ra20 zl15.length rc22,.slice ra23 zR16.length rc25],.agg #[.slice ra28 zm17.length rc30,.slice ra31 zL18.length rc33,.slice ra36 zl19.length rc38]] (sw (x9 H ti27 [.int .i64 0,.slice none 0 0,.slice none 0 0] fun b39 w40 H=>sw (x9 H ti31 [.slice none 0 0,.slice none 0 0,.slice none 0 0] fun b41 w42 H=>sw (xP H 1 [.int .i64 zi14,.slice ra20 zl15.length rc22,.slice ra23 zR16.length rc25] Tryz.sizeOf27 fun w43 H=>?_))))
 try dsimp only [List.set] at H
 refine sw (xP H 0 [.slice ra28 zm17.length rc30,.slice ra31 zL18.length rc33,.slice ra36 zl19.length rc38] Tryz.sizeOf31 fun w44 H=>?_)
 try dsimp only [List.set] at H
 refine zjc (sw (yJ H Tryz.underlying29 ti24 fun b45 w46 H=>sp (.slice (some ⟨b45,0,none⟩) 0 0) (zjcc (sp (.int .i64 0) (zjn (xg ?_))))))
 replace H:=H.boxRow 0 rfl 1 0 rfl qj
 try dsimp only [List.set] at H
 replace H:=H.QD (α:=OwnI 2)
 refine zH (fun m' ρ w47=>∃ (xU:Env) (a_w:yOA) (n_w:Nat) (c_w:Nat) (w_1:List (OwnI 2)) (x_w:List Value) (F_w:yLN) (c:Nat),ρ=upd (upd (upd (upd (upd (upd (upd xU 2 (.pointer (some ⟨b1,0,none⟩))) 3 (.pointer (some ⟨b3,0,none⟩))) 5 (.pointer (some ⟨b5,0,none⟩))) 6 (.pointer (some ⟨b39,0,none⟩))) 7 (.pointer (some ⟨b41,0,none⟩))) 8 (.slice a_w n_w c_w)) 9 (.int .i64 c)∧(WtTo zi14 c (w_1.map OwnI.l))∧(c≤zl15.length+1)∧(∀ x∈F_w,x∉rF27)∧(∀ x∈F_w,x∉Fc)∧(∀ f∈Γ,∀ x∈F_w,x∉f.F)∧m' =(zl15.length+1 - c)∧Fresh W0.heap.size (rF35 :: F_w :: Ns)∧St W0 w47 ((rr a_w n_w c_w 24 1 x_w) :: (.box b41 [.slice ra28 zm17.length rc30,.slice ra31 zL18.length rc33,.slice ra36 zl19.length rc38] 31) :: (.box b39 [.int .i64 zi14,.slice ra20 zl15.length rc22,.slice ra23 zR16.length rc25] 27) :: (.box b5 [.slice ac code.length cc,.int .i64 zi12,.int .u64 zi13] 68) :: (rr ra20 zl15.length rc22 2 1 (zl15.map (Value.int .i64))) :: (rr ra23 zR16.length rc25 49 9 rx26) :: (rr ra28 zm17.length rc30 4 1 (zm17.map (Value.bool))) :: (rr ra31 zL18.length rc33 24 1 rx34) :: (rr ra36 zl19.length rc38 2 1 (zl19.map (Value.int .i64))) :: (.box b3 [.slice none 0 0,.slice none 0 0,.slice none 0 0] 31) :: (.box b1 [.int .i64 0,.slice none 0 0,.slice none 0 0] 27) :: ps) ((xB true F_w x_w w_1) :: (sF false Fc ac cc code) :: (xB false rF27 rx26 zR16) :: (xB true rF35 rx34 zL18) :: Γ)) ((zl15.length+1 - 0)) ⟨_,(some ⟨b45,0,none⟩),0,0,([]:List (OwnI 2)),[],[],0,uE7,(by exact WtTo.nil _),qf,qm,qm,qm,rfl,(N.emp.zC 2 [1,0] qo),H⟩ ?_
 clear H N
 rintro m' ρ w48 ⟨xU,a_w,n_w,c_w,w_1,x_w,F_w,c,rfl,w1,w9,JD,JC,JG,rfl,N,H⟩
 have hn_w:=H.zO (α:=OwnI 2) 0 rfl 0 rfl qj
 have w0:_=c:=w1.len
 rw [List.length_map] at w0
 refine zcc (sp (.int .i64 c) (oF rfl (oL rfl (H.cell 2 rfl rfl) (oN rfl (sp (.bool (decide ((c:Int)≤zl15.length))) (zjn (cD rfl (fun h49=>?_) (fun h49=>?_))))))))
 ·skip
  refine xh (t_n (x8 (xg (zcr (sw (yJ H Tryz.underlying24 ti2 fun b50 w51 H=>sp (.slice (some ⟨b50,0,none⟩) 0 0) (zjcc (sp (.int .i64 0) (zjn (xg ?_))))))))))
  replace H:=H.boxRowI 0 [] 0
  try dsimp only [List.set] at H
  refine zH (fun m' ρ w52=>∃ (xU:Env) (a_row:yOA) (n_row:Nat) (c_row:Nat) (row_1:yLI) (k:Nat),ρ=upd (upd (upd (upd (upd (upd (upd (upd (upd xU 2 (.pointer (some ⟨b1,0,none⟩))) 3 (.pointer (some ⟨b3,0,none⟩))) 5 (.pointer (some ⟨b5,0,none⟩))) 6 (.pointer (some ⟨b39,0,none⟩))) 7 (.pointer (some ⟨b41,0,none⟩))) 8 (.slice a_w n_w c_w)) 9 (.int .i64 c)) 10 (.slice a_row n_row c_row)) 11 (.int .i64 k)∧((k:Int)≤zi14)∧(RowTo row_1)∧(row_1.length=k)∧m' =(zi14 - (k:Int)).toNat∧Fresh W0.heap.size (rF35 :: F_w :: Ns)∧St W0 w52 ((rr a_row n_row c_row 2 1 (row_1.map (Value.int .i64))) :: (rr a_w n_w c_w 24 1 x_w) :: (.box b41 [.slice ra28 zm17.length rc30,.slice ra31 zL18.length rc33,.slice ra36 zl19.length rc38] 31) :: (.box b39 [.int .i64 zi14,.slice ra20 zl15.length rc22,.slice ra23 zR16.length rc25] 27) :: (.box b5 [.slice ac code.length cc,.int .i64 zi12,.int .u64 zi13] 68) :: (rr ra20 zl15.length rc22 2 1 (zl15.map (Value.int .i64))) :: (rr ra23 zR16.length rc25 49 9 rx26) :: (rr ra28 zm17.length rc30 4 1 (zm17.map (Value.bool))) :: (rr ra31 zL18.length rc33 24 1 rx34) :: (rr ra36 zl19.length rc38 2 1 (zl19.map (Value.int .i64))) :: (.box b3 [.slice none 0 0,.slice none 0 0,.slice none 0 0] 31) :: (.box b1 [.int .i64 0,.slice none 0 0,.slice none 0 0] 27) :: ps) ((xB true F_w x_w w_1) :: (sF false Fc ac cc code) :: (xB false rF27 rx26 zR16) :: (xB true rF35 rx34 zL18) :: Γ)) ((zi14 - (0:Int)).toNat) ⟨_,(some ⟨b50,0,none⟩),0,0,([]:yLI),0,uE9,qf,(by exact RowTo.nil),(by rfl),rfl,N,H⟩ ?_
  clear H N
  rintro m' ρ w53 ⟨xU,a_row,n_row,c_row,row_1,k,rfl,i0,w2,w3,rfl,N,H⟩
  have hn_row:=H.jb 0 rfl
  refine zcc (sp (.int .i64 k) (oF rfl (oL rfl (H.cell 3 rfl rfl) (sp (.bool (decide ((k:Int) < zi14))) (zjn (cD rfl (fun h54=>?_) (fun h54=>?_)))))))
  ·skip
   refine xh (t_n (x8 (xg (xZ (sps [.slice a_row n_row c_row,.int .i64 k] (sw (o_mul 2 k rfl rfl qf (sw (zB 1 (2 * k) rfl rfl qf (sw (zA H Tryz.underlying24 ti2 [.int .i64 (1+(2 * k))] fun b55 w56 H=>sw (zL H 1 rfl 0 rfl Tryz.underlying24 ti2 rfl qj rfl rfl rfl qw qp qf fun a57 c58 w59 H=>?_))))))))))))
   rw [snocI] at H
   try dsimp only [List.set] at H
   refine sp (.slice a57 (n_row+1) c58) (zi (b_n (t_n (xZ (sp (.int .i64 k) (sw (zB k 1 rfl rfl qf (sp (.int .i64 (k+1)) (zi (xq (m' :=(zi14 - ((k+1):Int)).toNat) qf ⟨_,a57,n_row+1,c58,(row_1++[(1+(2 * k):Int)]),k+1,uE9,?_,?_,?_,rfl,N,H.zC 13 4 [1,2,3,4,5,6,7,8,9,10,11,12] [0,1,2,3] qo qo⟩))))))))))
   · omega
   · exact w2.snoc qf
   · simp;omega
  ·skip
   refine zx4 (xZ (sps [.slice a_w n_w c_w,.slice a_row n_row c_row] (sw (zA H Tryz.underlying29 ti24 [.slice a_row n_row c_row] fun b60 w61 H=>sw (zL H 2 rfl 0 rfl Tryz.underlying29 ti24 rfl qj rfl rfl rfl qw qp qf fun a62 c63 w64 H=>?_)))))
   try dsimp only [List.set] at H
   replace N:Fresh W0.heap.size (F_w :: rF35 :: Ns):=(N.zC 2 [1,0] qo)
   have HA:=H
   obtain ⟨F65,hA,N,H⟩:=H.snocA 1 rfl 0 rfl N (fun F hF b hb=>(List.mem_append.1 (show F∈[rF35]++Ns from hF)).elim (fun h=>(H.yg (L:=[rF35]) [3]) F h b hb) fun h=>H.Qb (K0.behind 4 rfl) F h b hb)
   replace JD:∀ x∈F65,x∉rF27:=fun x hx h=>(hA x hx).elim (fun a=>JD x a h) fun b=>((HA.facts _ (List.mem_of_getElem? (i:=2) rfl)).2 x h).2 _ b
   replace JC:∀ x∈F65,x∉Fc:=fun x hx h=>(hA x hx).elim (fun a=>JC x a h) fun b=>((HA.facts _ (List.mem_of_getElem? (i:=1) rfl)).2 x h).2 _ b
   replace JG:∀ f∈Γ,∀ x∈F65,x∉f.F:=fun f hf x hx h=>(hA x hx).elim (fun a=>JG f hf x a h) fun b=>((HA.facts f (mem_behind 4 rfl hf)).2 x h).2 _ b
   clear HA hA
   try dsimp only [List.set] at H
   refine sp (.slice a62 (n_w+1) c63) (zi (b_n (t_n (xZ (sp (.int .i64 c) (sw (zB c 1 rfl rfl qf (sp (.int .i64 (c+1)) (zi (xq (m' :=(zl15.length+1 - (c+1))) qf ⟨_,a62,n_w+1,c63,(w_1++[(⟨row_1⟩:OwnI 2)]),(x_w++[Value.slice a_row n_row c_row]:List Value),F65,c+1,uE7,?_,?_,?_,?_,?_,rfl,(N.zC 2 [1,0] qo),H.zC 13 5 [2,3,4,5,6,7,8,9,10,11,12] [0,2,3,4] qo qo⟩))))))))))
   · simpa using w1.snoc qf w2
   · omega
   · exact JD
   · exact JC
   · exact JG
 ·skip
  refine zx4 (zcc (sp (.int .i64 0) (zjn (xg ?_))))
  refine zH (fun m' ρ w66=>∃ (xU:Env) (i:Nat) (s_at:Int) (s_seed:Int) (y_Rules:List zK) (xE:List Value) (xy:yLN),ρ=upd (upd (upd (upd (upd (upd (upd xU 2 (.pointer (some ⟨b1,0,none⟩))) 3 (.pointer (some ⟨b3,0,none⟩))) 5 (.pointer (some ⟨b5,0,none⟩))) 6 (.pointer (some ⟨b39,0,none⟩))) 7 (.pointer (some ⟨b41,0,none⟩))) 8 (.slice a_w n_w c_w)) 12 (.int .i64 i)∧((i:Int)≤zR16.length)∧(0≤s_at∧s_at≤6000+4 * i)∧(y_Rules.length≤5∧zQ zi14 zl15 y_Rules)∧(∀ x∈F_w,x∉xy)∧(∀ x∈F_w,x∉Fc)∧(∀ f∈Γ,∀ x∈F_w,x∉f.F)∧m' =(zR16.length - (i:Int)).toNat∧Fresh W0.heap.size (rF35 :: F_w :: Ns)∧St W0 w66 ((rr a_w n_w c_w 24 1 x_w) :: (.box b41 [.slice ra28 zm17.length rc30,.slice ra31 zL18.length rc33,.slice ra36 zl19.length rc38] 31) :: (.box b39 [.int .i64 zi14,.slice ra20 zl15.length rc22,.slice ra23 zR16.length rc25] 27) :: (.box b5 [.slice ac code.length cc,.int .i64 s_at,.int .u64 s_seed] 68) :: (rr ra20 zl15.length rc22 2 1 (zl15.map (Value.int .i64))) :: (rr ra23 zR16.length rc25 49 9 xE) :: (rr ra28 zm17.length rc30 4 1 (zm17.map (Value.bool))) :: (rr ra31 zL18.length rc33 24 1 rx34) :: (rr ra36 zl19.length rc38 2 1 (zl19.map (Value.int .i64))) :: (.box b3 [.slice none 0 0,.slice none 0 0,.slice none 0 0] 31) :: (.box b1 [.int .i64 0,.slice none 0 0,.slice none 0 0] 27) :: ps) ((xB true F_w x_w w_1) :: (sF false Fc ac cc code) :: (xB false xy xE y_Rules) :: (xB true rF35 rx34 zL18) :: Γ)) ((zR16.length - (0:Int)).toNat) ⟨_,0,zi12,zi13,zR16,rx26,rF27,uE7,qf,qf,(by exact ⟨by omega,s4⟩),(by exact JD),(by exact JC),(by exact JG),rfl,N,H⟩ ?_
  clear H N
  rintro m' ρ w67 ⟨xU,i,s_at,s_seed,y_Rules,xE,xy,rfl,i0,j1,j2,JD,JC,JG,rfl,N,H⟩
  have hn_y_Rules:=H.zO (α:=zK) 5 rfl 2 rfl qj
  have w4:((w_1[0]!).l).length=zi14.toNat:=by have:=(w1.row 0 (by rw [w1.len];omega)).1;rwa [show (w_1.map OwnI.l)[0]! =(w_1[0]!).l from by cases w_1 <;> rfl] at this
  have w6:w_1.length=c:=by have:=w1.len;rwa [List.length_map] at this
  refine zcc (sp (.int .i64 i) (oF rfl (oL rfl (H.cell 2 rfl rfl) (oN rfl (sp (.bool (decide ((i:Int) < zR16.length))) (zjn (cD rfl (fun h68=>?_) (fun h68=>?_))))))))
  ·skip
   refine xh (t_n (x8 (xg (zcr (oF rfl (oL rfl (H.cell 2 rfl rfl) (sp (.int .i64 i) ?_)))))))
   obtain ⟨b69,rfl⟩:=H.Xo 5 rfl qf
   obtain ⟨Q3,QR,Fe70Need,Q5,QT,Fe70Have,Q4,QS,Fe70Lack,ae70Here,ce70Here,Fe70Here,ae70Out,ce70Out,Fe70Out,ae70Into,ce70Into,Fe70Into,hx71,H⟩:=H.rowel_RuleD 5 rfl 2 rfl (iv:=i) i qf qf
   refine oI rfl rfl (sp (.pointer (some ⟨b69,0+(i:Int).toNat * 9,none⟩)) (zjcc (sp (.pointer (some ⟨b5,0,none⟩)) ?_)))
   have H1:=H.jv 11 10 [3,0,1,2,4,5,6,7,8,9,10] [7,0,1,2,3,4,5,6,8,9] qo qo
   have N1:Fresh _ (rF35 :: F_w :: Ns):=N
   have K1:Kept (Ns) ((sF false Fe70Need Q3 QR ((y_Rules[i]!).xu)) :: (sF false Fe70Have Q5 QT ((y_Rules[i]!).xM)) :: (sF false Fe70Lack Q4 QS ((y_Rules[i]!).xK)) :: (sF false Fe70Here ae70Here ce70Here ((y_Rules[i]!).xF)) :: (sF false Fe70Out ae70Out ce70Out ((y_Rules[i]!).zI)) :: (sF false Fe70Into ae70Into ce70Into ((y_Rules[i]!).qL)) :: (xB true F_w x_w w_1) :: (xB false xy xE y_Rules) :: (xB true rF35 rx34 zL18) :: Γ):=K0.behind 9 rfl
   replace K1:=K1.cons (F:=F_w) 6 rfl rfl
   replace K1:=K1.cons (F:=rF35) 8 rfl rfl
   refine sw (zg #[.pointer (some ⟨b5,0,none⟩),.int .i64 2] rfl rfl Tryz.call15 (Xe code s_at s_seed b5 ac cc Fc (2:Int) H1 N1 K1 qg) ?_)
   clear H H1 N1 K1
   rintro _ w72 ⟨zi75,zi76,zb77,hx74,rfl,N,H⟩
   refine zjn (xI (zb77) rfl (fun h78=>?_) (fun h78=>?_))
   ·skip
    refine zcr (sp (.pointer (some ⟨b69,0+(i:Int).toNat * 9,none⟩)) (oF rfl (oL rfl (H.cell 3 rfl rfl) (sw (jk H Tryz.underlying24 ti2 zi14.toNat rfl rfl qf qf qf fun b79 w80 H=>sp (.pointer (some ⟨b69,0+(i:Int).toNat * 9,none⟩)) (oF rfl (sw (QE H 6 rfl (.slice (some ⟨b79,0,none⟩) zi14.toNat zi14.toNat) Tryz.sizeOf24 rfl rfl rfl (part_lt (hx71 6 _ rfl)) fun w81 H=>?_))))))))
    have hx82:=part_get (cells:=[.int .i64 ((y_Rules[i]!).qF),.int .i64 ((y_Rules[i]!).zM),.slice Q3 (((y_Rules[i]!).xu).length) QR,.slice Q5 (((y_Rules[i]!).xM).length) QT,.slice Q4 (((y_Rules[i]!).xK).length) QS,.slice ae70Here (((y_Rules[i]!).xF).length) ce70Here,.slice ae70Out (((y_Rules[i]!).zI).length) ce70Out,.slice ae70Into (((y_Rules[i]!).qL).length) ce70Into,.bool ((y_Rules[i]!).xR)]) hx71 6 (.slice (some ⟨b79,0,none⟩) zi14.toNat zi14.toNat) (Nat.le_of_ble_eq_true rfl)
    replace hx82:∀ (q:Nat) (v:Value),([.int .i64 ((y_Rules[i]!).qF),.int .i64 ((y_Rules[i]!).zM),.slice Q3 (((y_Rules[i]!).xu).length) QR,.slice Q5 (((y_Rules[i]!).xM).length) QT,.slice Q4 (((y_Rules[i]!).xK).length) QS,.slice ae70Here (((y_Rules[i]!).xF).length) ce70Here,.slice (some ⟨b79,0,none⟩) zi14.toNat zi14.toNat,.slice ae70Into (((y_Rules[i]!).qL).length) ce70Into,.bool ((y_Rules[i]!).xR)]:List Value)[q]? =some v→(xE.set (0+(i:Int).toNat * 9+6) (.slice (some ⟨b79,0,none⟩) zi14.toNat zi14.toNat))[0+(i:Int).toNat * 9+q]? =some v:=hx82
    try dsimp only [List.set] at H
    refine zjn (xZ (sp (.pointer (some ⟨b69,0+(i:Int).toNat * 9,none⟩)) (sw (yJ H Tryz.underlying47 ti111 fun b83 w84 H=>sp (.pointer (some ⟨b69,0+(i:Int).toNat * 9,none⟩)) (oF rfl ?_)))))
    obtain ⟨G85,N,hn86,H⟩:=H.vG 1 rfl N (fun F hF b hb=>(List.mem_append.1 (show F∈[rF35,F_w]++Ns from hF)).elim (fun h=>(H.yg (L:=[rF35,F_w]) [9,7]) F h b hb) fun h=>H.Qb (K0.behind 10 rfl) F h b hb)
    try dsimp only [List.set] at H
    obtain ⟨F87,hA,H⟩:=H.partA_6 9 rfl 0 rfl (iv:=i) i qf (by first | omega | (simp only [List.length_set];omega))
    replace JD:∀ x∈F_w,x∉F87:=fun x hx h=>(hA x h).elim (JD x hx) fun h=>absurd h (Fresh.apart2 (N.zC 3 [2,0,1] qo) x hx)
    clear hA
    try dsimp only [List.set] at H
    refine sw (QE H 7 rfl (.slice (some ⟨b83,0,none⟩) 0 0) Tryz.sizeOf47 rfl rfl rfl (part_lt (hx82 7 _ rfl)) fun w88 H=>?_)
    have hx89:=part_get (cells:=[.int .i64 ((y_Rules[i]!).qF),.int .i64 ((y_Rules[i]!).zM),.slice Q3 (((y_Rules[i]!).xu).length) QR,.slice Q5 (((y_Rules[i]!).xM).length) QT,.slice Q4 (((y_Rules[i]!).xK).length) QS,.slice ae70Here (((y_Rules[i]!).xF).length) ce70Here,.slice (some ⟨b79,0,none⟩) zi14.toNat zi14.toNat,.slice ae70Into (((y_Rules[i]!).qL).length) ce70Into,.bool ((y_Rules[i]!).xR)]) hx82 7 (.slice (some ⟨b83,0,none⟩) 0 0) (Nat.le_of_ble_eq_true rfl)
    replace hx89:∀ (q:Nat) (v:Value),([.int .i64 ((y_Rules[i]!).qF),.int .i64 ((y_Rules[i]!).zM),.slice Q3 (((y_Rules[i]!).xu).length) QR,.slice Q5 (((y_Rules[i]!).xM).length) QT,.slice Q4 (((y_Rules[i]!).xK).length) QS,.slice ae70Here (((y_Rules[i]!).xF).length) ce70Here,.slice (some ⟨b79,0,none⟩) zi14.toNat zi14.toNat,.slice (some ⟨b83,0,none⟩) 0 0,.bool ((y_Rules[i]!).xR)]:List Value)[q]? =some v→((xE.set (0+(i:Int).toNat * 9+6) (.slice (some ⟨b79,0,none⟩) zi14.toNat zi14.toNat)).set (0+(i:Int).toNat * 9+7) (.slice (some ⟨b83,0,none⟩) 0 0))[0+(i:Int).toNat * 9+q]? =some v:=hx89
    try dsimp only [List.set] at H
    refine zjc (sp (.pointer (some ⟨b5,0,none⟩)) ?_)
    have H1:=H.jv 13 12 [2,0,1,3,4,5,6,7,8,9,10,11,12] [2,0,1,3,4,5,6,7,8,9,10,11] qo qo
    have N1:Fresh _ (G85 :: rF35 :: F_w :: Ns):=N
    have K1:Kept (Ns) ((xB false F87 (xE.set (0+(i:Int).toNat * 9+6) (.slice (some ⟨b79,0,none⟩) zi14.toNat zi14.toNat)) (y_Rules.set i { y_Rules[i]! with zI:=(List.replicate zi14.toNat (0:Int))})) :: (isF true G85 (.slice (some ⟨b79,0,none⟩) zi14.toNat zi14.toNat) (List.replicate zi14.toNat (0:Int))) :: (sF false Fe70Need Q3 QR ((y_Rules[i]!).xu)) :: (sF false Fe70Have Q5 QT ((y_Rules[i]!).xM)) :: (sF false Fe70Lack Q4 QS ((y_Rules[i]!).xK)) :: (sF false Fe70Here ae70Here ce70Here ((y_Rules[i]!).xF)) :: (sF false Fe70Out ae70Out ce70Out ((y_Rules[i]!).zI)) :: (sF false Fe70Into ae70Into ce70Into ((y_Rules[i]!).qL)) :: (xB true F_w x_w w_1) :: (xB false xy xE y_Rules) :: (xB true rF35 rx34 zL18) :: Γ):=K0.behind 11 rfl
    replace K1:=K1.cons (F:=F_w) 8 rfl rfl
    replace K1:=K1.cons (F:=rF35) 10 rfl rfl
    replace K1:=K1.cons (F:=G85) 1 rfl rfl
    refine sw (zg #[.pointer (some ⟨b5,0,none⟩),.int .i64 3] rfl rfl Tryz.call15 (Xe code zi75 zi76 b5 ac cc Fc (3:Int) H1 N1 K1 qg) ?_)
    clear H H1 N1 K1
    rintro _ w90 ⟨zi93,zi94,zb95,hx92,rfl,N,H⟩
    refine zjn (xI (zb95) rfl (fun h96=>?_) (fun h96=>?_))
    ·skip
     refine xZ (sps [.pointer (some ⟨b69,0+(i:Int).toNat * 9,none⟩),.pointer (some ⟨b69,0+(i:Int).toNat * 9,none⟩),.pointer (some ⟨b69,0+(i:Int).toNat * 9,none⟩)] (oF rfl (oL rfl (H.rowGet 7 rfl (hx89 2 _ rfl)) ?_)))
     have nl:=(j2.2 i qf).need.1.1
     have sz97:=H.base.size
     have lt98:=all_two (H.ltN (L:=[G85,rF35,F_w]) [2,11,9]) (H.ltK (K0.behind 12 rfl))
     refine sw (oc (l00Own_ok _ ((y_Rules[i]!).xu) (H.get 3 rfl).1 qg) ?_)
     rintro v102 w100 r102 x101
     replace H:=H.jw x101 r102
     obtain ⟨a103,c104,rfl,hc105,hm106⟩:=H.Qw 0 rfl
     refine sp (.pointer (some ⟨b69,0+(i:Int).toNat * 9,none⟩)) (oF rfl ?_)
     replace H:=H.boxRow 2 rfl 2 0 rfl qj
     try dsimp only [List.set] at H
     replace H:=H.QD (α:=y5)
     replace H:St _ _ ((rr a103 (((y_Rules[i]!).xu).length) c104 2 1 (((y_Rules[i]!).xu).map (Value.int .i64))) :: (.box b5 [.slice ac code.length cc,.int .i64 zi93,.int .u64 zi94] 68) :: (rr (some ⟨b83,0,none⟩) 0 0 111 2 []) :: (rr none 0 0 0 1 []) :: (rr a_w n_w c_w 24 1 x_w) :: (.box b41 [.slice ra28 zm17.length rc30,.slice ra31 zL18.length rc33,.slice ra36 zl19.length rc38] 31) :: (.box b39 [.int .i64 zi14,.slice ra20 zl15.length rc22,.slice (some ⟨b69,0,none⟩) zR16.length rc25] 27) :: (rr ra20 zl15.length rc22 2 1 (zl15.map (Value.int .i64))) :: (rr (some ⟨b69,0,none⟩) zR16.length rc25 49 9 ((xE.set (0+(i:Int).toNat * 9+6) (.slice (some ⟨b79,0,none⟩) zi14.toNat zi14.toNat)).set (0+(i:Int).toNat * 9+7) (.slice (some ⟨b83,0,none⟩) 0 0))) :: (rr ra28 zm17.length rc30 4 1 (zm17.map (Value.bool))) :: (rr ra31 zL18.length rc33 24 1 rx34) :: (rr ra36 zl19.length rc38 2 1 (zl19.map (Value.int .i64))) :: (.box b3 [.slice none 0 0,.slice none 0 0,.slice none 0 0] 31) :: (.box b1 [.int .i64 0,.slice none 0 0,.slice none 0 0] 27) :: ps) ((xB true [] [] ([]:List y5)) :: (sF false Fc ac cc code) :: (xB false F87 (xE.set (0+(i:Int).toNat * 9+6) (.slice (some ⟨b79,0,none⟩) zi14.toNat zi14.toNat)) (y_Rules.set i { y_Rules[i]! with zI:=(List.replicate zi14.toNat (0:Int))})) :: (isF true G85 (.slice (some ⟨b79,0,none⟩) zi14.toNat zi14.toNat) (List.replicate zi14.toNat (0:Int))) :: (sF false Fe70Need Q3 QR ((y_Rules[i]!).xu)) :: (sF false Fe70Have Q5 QT ((y_Rules[i]!).xM)) :: (sF false Fe70Lack Q4 QS ((y_Rules[i]!).xK)) :: (sF false Fe70Here ae70Here ce70Here ((y_Rules[i]!).xF)) :: (sF false Fe70Out ae70Out ce70Out ((y_Rules[i]!).zI)) :: (sF false Fe70Into ae70Into ce70Into ((y_Rules[i]!).qL)) :: (xB true F_w x_w w_1) :: (xB false xy xE y_Rules) :: (xB true rF35 rx34 zL18) :: Γ):=H
     have H0:=H
     obtain ⟨G107,hg109,hn108,H⟩:=H.freezeR (α:=y5) 2 rfl 0 rfl qj
     replace N:Fresh W0.heap.size (G107 :: G85 :: rF35 :: F_w :: Ns):=Fresh.ice N.emp H0 2 hg109.1 hg109.2 (fun F hF b hb=>(List.mem_append.1 (show F∈[G85,rF35,F_w]++Ns from hF)).elim (fun h=>(H0.yg (L:=[G85,rF35,F_w]) [3,12,10]) F h b hb) fun h=>H0.Qb (K0.behind 13 rfl) F h b hb)
     clear H0
     try dsimp only [List.set] at H
     obtain ⟨F110,hA,H⟩:=H.partA_7 3 rfl 0 rfl (iv:=i) i qf (by first | omega | (simp only [List.length_set];omega))
     replace JD:∀ x∈F_w,x∉F110:=fun x hx h=>(hA x h).elim (JD x hx) fun h=>absurd h (Fresh.apart2 (N.zC 4 [3,0,1,2] qo) x hx)
     clear hA
     try dsimp only [List.set] at H
     refine sw (QE H 8 rfl (.slice a103 (((y_Rules[i]!).xu).length) c104) Tryz.sizeOf24 rfl rfl rfl (part_lt (hx89 5 _ rfl)) fun w111 H=>?_)
     have hx112:=part_get (cells:=[.int .i64 ((y_Rules[i]!).qF),.int .i64 ((y_Rules[i]!).zM),.slice Q3 (((y_Rules[i]!).xu).length) QR,.slice Q5 (((y_Rules[i]!).xM).length) QT,.slice Q4 (((y_Rules[i]!).xK).length) QS,.slice ae70Here (((y_Rules[i]!).xF).length) ce70Here,.slice (some ⟨b79,0,none⟩) zi14.toNat zi14.toNat,.slice (some ⟨b83,0,none⟩) 0 0,.bool ((y_Rules[i]!).xR)]) hx89 5 (.slice a103 (((y_Rules[i]!).xu).length) c104) (Nat.le_of_ble_eq_true rfl)
     replace hx112:∀ (q:Nat) (v:Value),([.int .i64 ((y_Rules[i]!).qF),.int .i64 ((y_Rules[i]!).zM),.slice Q3 (((y_Rules[i]!).xu).length) QR,.slice Q5 (((y_Rules[i]!).xM).length) QT,.slice Q4 (((y_Rules[i]!).xK).length) QS,.slice a103 (((y_Rules[i]!).xu).length) c104,.slice (some ⟨b79,0,none⟩) zi14.toNat zi14.toNat,.slice (some ⟨b83,0,none⟩) 0 0,.bool ((y_Rules[i]!).xR)]:List Value)[q]? =some v→(((xE.set (0+(i:Int).toNat * 9+6) (.slice (some ⟨b79,0,none⟩) zi14.toNat zi14.toNat)).set (0+(i:Int).toNat * 9+7) (.slice (some ⟨b83,0,none⟩) 0 0)).set (0+(i:Int).toNat * 9+5) (.slice a103 (((y_Rules[i]!).xu).length) c104))[0+(i:Int).toNat * 9+q]? =some v:=hx112
     try dsimp only [List.set] at H
     refine zi (b_n (t_n (xZ (sp (.int .i64 i) (sw (zB i 1 rfl rfl qf (sp (.int .i64 (i+1)) (zi ?_))))))))
     obtain ⟨G113,N,hn114,H⟩:=H.vG 0 rfl N (fun F hF b hb=>(List.mem_append.1 (show F∈[G107,G85,rF35,F_w]++Ns from hF)).elim (fun h=>(H.yg (L:=[G107,G85,rF35,F_w]) [1,5,14,12]) F h b hb) fun h=>H.Qb (K0.behind 15 rfl) F h b hb)
     try dsimp only [List.set] at H
     obtain ⟨F115,hA,H⟩:=H.partA_5 1 rfl 0 rfl (iv:=i) i qf (by first | omega | (simp only [List.length_set];omega))
     replace JD:∀ x∈F_w,x∉F115:=fun x hx h=>(hA x h).elim (JD x hx) fun h=>absurd h (Fresh.apart2 (N.zC 5 [4,0,1,2,3] qo) x hx)
     clear hA
     try dsimp only [List.set] at H
     refine xq (m' :=(zR16.length - ((i+1):Int)).toNat) qf ⟨_,i+1,zi93,zi94,(((y_Rules.set i { y_Rules[i]! with zI:=(List.replicate zi14.toNat (0:Int))}).set i { (y_Rules.set i { y_Rules[i]! with zI:=(List.replicate zi14.toNat (0:Int))})[i]! with qL:=[]}).set i { ((y_Rules.set i { y_Rules[i]! with zI:=(List.replicate zi14.toNat (0:Int))}).set i { (y_Rules.set i { y_Rules[i]! with zI:=(List.replicate zi14.toNat (0:Int))})[i]! with qL:=[]})[i]! with xF:=((y_Rules[i]!).xu)}),(((xE.set (0+(i:Int).toNat * 9+6) (.slice (some ⟨b79,0,none⟩) zi14.toNat zi14.toNat)).set (0+(i:Int).toNat * 9+7) (.slice (some ⟨b83,0,none⟩) 0 0)).set (0+(i:Int).toNat * 9+5) (.slice a103 (((y_Rules[i]!).xu).length) c104)),F115,uE7,?_,?_,?_,?_,?_,?_,rfl,(N.zC 5 [3,4] qo),H.zC 14 17 [4,5,6,1,7,8,9,10,11,12,13] [14,5,0,16] qo qo⟩
     · omega
     · omega
     · exact ⟨by (try simp only [List.length_set]);omega,by (repeat' (first | assumption | exact j2.2 | exact zx.zero qf qf | (simp only [List.length_set];omega) | omega | exact (j2.2 i qf).need.1 | apply zQ.here | apply zQ.out | apply zQ.into))⟩
     · exact JD
     · exact JC
     · exact JG
    ·skip
     refine xh (b_n (t_n (xZ (sp (.int .i64 i) (sw (zB i 1 rfl rfl qf (sp (.int .i64 (i+1)) (zi ?_))))))))
     replace H:=H.boxRow 1 rfl 2 0 rfl qj
     try dsimp only [List.set] at H
     replace H:=H.QD (α:=y5)
     replace H:St _ _ ((.box b5 [.slice ac code.length cc,.int .i64 zi93,.int .u64 zi94] 68) :: (rr (some ⟨b83,0,none⟩) 0 0 111 2 []) :: (rr none 0 0 0 1 []) :: (rr a_w n_w c_w 24 1 x_w) :: (.box b41 [.slice ra28 zm17.length rc30,.slice ra31 zL18.length rc33,.slice ra36 zl19.length rc38] 31) :: (.box b39 [.int .i64 zi14,.slice ra20 zl15.length rc22,.slice (some ⟨b69,0,none⟩) zR16.length rc25] 27) :: (rr ra20 zl15.length rc22 2 1 (zl15.map (Value.int .i64))) :: (rr (some ⟨b69,0,none⟩) zR16.length rc25 49 9 ((xE.set (0+(i:Int).toNat * 9+6) (.slice (some ⟨b79,0,none⟩) zi14.toNat zi14.toNat)).set (0+(i:Int).toNat * 9+7) (.slice (some ⟨b83,0,none⟩) 0 0))) :: (rr ra28 zm17.length rc30 4 1 (zm17.map (Value.bool))) :: (rr ra31 zL18.length rc33 24 1 rx34) :: (rr ra36 zl19.length rc38 2 1 (zl19.map (Value.int .i64))) :: (.box b3 [.slice none 0 0,.slice none 0 0,.slice none 0 0] 31) :: (.box b1 [.int .i64 0,.slice none 0 0,.slice none 0 0] 27) :: ps) ((xB true [] [] ([]:List y5)) :: (sF false Fc ac cc code) :: (xB false F87 (xE.set (0+(i:Int).toNat * 9+6) (.slice (some ⟨b79,0,none⟩) zi14.toNat zi14.toNat)) (y_Rules.set i { y_Rules[i]! with zI:=(List.replicate zi14.toNat (0:Int))})) :: (isF true G85 (.slice (some ⟨b79,0,none⟩) zi14.toNat zi14.toNat) (List.replicate zi14.toNat (0:Int))) :: (sF false Fe70Need Q3 QR ((y_Rules[i]!).xu)) :: (sF false Fe70Have Q5 QT ((y_Rules[i]!).xM)) :: (sF false Fe70Lack Q4 QS ((y_Rules[i]!).xK)) :: (sF false Fe70Here ae70Here ce70Here ((y_Rules[i]!).xF)) :: (sF false Fe70Out ae70Out ce70Out ((y_Rules[i]!).zI)) :: (sF false Fe70Into ae70Into ce70Into ((y_Rules[i]!).qL)) :: (xB true F_w x_w w_1) :: (xB false xy xE y_Rules) :: (xB true rF35 rx34 zL18) :: Γ):=H
     have H0:=H
     obtain ⟨G116,hg118,hn117,H⟩:=H.freezeR (α:=y5) 1 rfl 0 rfl qj
     replace N:Fresh W0.heap.size (G116 :: G85 :: rF35 :: F_w :: Ns):=Fresh.ice N.emp H0 1 hg118.1 hg118.2 (fun F hF b hb=>(List.mem_append.1 (show F∈[G85,rF35,F_w]++Ns from hF)).elim (fun h=>(H0.yg (L:=[G85,rF35,F_w]) [3,12,10]) F h b hb) fun h=>H0.Qb (K0.behind 13 rfl) F h b hb)
     clear H0
     try dsimp only [List.set] at H
     obtain ⟨F119,hA,H⟩:=H.partA_7 3 rfl 0 rfl (iv:=i) i qf (by first | omega | (simp only [List.length_set];omega))
     replace JD:∀ x∈F_w,x∉F119:=fun x hx h=>(hA x h).elim (JD x hx) fun h=>absurd h (Fresh.apart2 (N.zC 4 [3,0,1,2] qo) x hx)
     clear hA
     try dsimp only [List.set] at H
     refine xq (m' :=(zR16.length - ((i+1):Int)).toNat) qf ⟨_,i+1,zi93,zi94,((y_Rules.set i { y_Rules[i]! with zI:=(List.replicate zi14.toNat (0:Int))}).set i { (y_Rules.set i { y_Rules[i]! with zI:=(List.replicate zi14.toNat (0:Int))})[i]! with qL:=[]}),((xE.set (0+(i:Int).toNat * 9+6) (.slice (some ⟨b79,0,none⟩) zi14.toNat zi14.toNat)).set (0+(i:Int).toNat * 9+7) (.slice (some ⟨b83,0,none⟩) 0 0)),F119,uE7,?_,?_,?_,?_,?_,?_,rfl,(N.zC 4 [2,3] qo),H.zC 13 15 [3,4,5,0,6,7,8,9,10,11,12] [12,3,0,14] qo qo⟩
     · omega
     · omega
     · exact ⟨by (try simp only [List.length_set]);omega,by (repeat' (first | assumption | exact j2.2 | exact zx.zero qf qf | (simp only [List.length_set];omega) | omega | exact (j2.2 i qf).need.1 | apply zQ.here | apply zQ.out | apply zQ.into))⟩
     · exact JD
     · exact JC
     · exact JG
   ·skip
    refine xh (t_n (zcr (sp (.pointer (some ⟨b5,0,none⟩)) ?_)))
    have H1:=H.jv 11 10 [0,1,2,3,4,5,6,7,8,9,10] [0,1,2,3,4,5,6,7,8,9] qo qo
    have N1:Fresh _ (rF35 :: F_w :: Ns):=N
    have K1:Kept (Ns) ((sF false Fe70Need Q3 QR ((y_Rules[i]!).xu)) :: (sF false Fe70Have Q5 QT ((y_Rules[i]!).xM)) :: (sF false Fe70Lack Q4 QS ((y_Rules[i]!).xK)) :: (sF false Fe70Here ae70Here ce70Here ((y_Rules[i]!).xF)) :: (sF false Fe70Out ae70Out ce70Out ((y_Rules[i]!).zI)) :: (sF false Fe70Into ae70Into ce70Into ((y_Rules[i]!).qL)) :: (xB true F_w x_w w_1) :: (xB false xy xE y_Rules) :: (xB true rF35 rx34 zL18) :: Γ):=K0.behind 9 rfl
    replace K1:=K1.cons (F:=F_w) 6 rfl rfl
    replace K1:=K1.cons (F:=rF35) 8 rfl rfl
    refine sw (zg #[.pointer (some ⟨b5,0,none⟩),.int .i64 3] rfl rfl Tryz.call15 (Xe code zi75 zi76 b5 ac cc Fc (3:Int) H1 N1 K1 qg) ?_)
    clear H H1 N1 K1
    rintro _ w120 ⟨zi123,zi124,zb125,hx122,rfl,N,H⟩
    refine zjn (xI (zb125) rfl (fun h126=>?_) (fun h126=>?_))
    ·skip
     refine xZ (sps [.pointer (some ⟨b69,0+(i:Int).toNat * 9,none⟩),.pointer (some ⟨b69,0+(i:Int).toNat * 9,none⟩),.pointer (some ⟨b69,0+(i:Int).toNat * 9,none⟩)] (oF rfl (oL rfl (H.rowGet 5 rfl (hx71 2 _ rfl)) ?_)))
     have nl:=(j2.2 i qf).need.1.1
     have sz127:=H.base.size
     have lt128:=all_two (H.ltN (L:=[rF35,F_w]) [9,7]) (H.ltK (K0.behind 10 rfl))
     refine sw (oc (l00Own_ok _ ((y_Rules[i]!).xu) (H.get 1 rfl).1 qg) ?_)
     rintro v132 w130 r132 x131
     replace H:=H.jw x131 r132
     obtain ⟨a133,c134,rfl,hc135,hm136⟩:=H.Qw 0 rfl
     refine sp (.pointer (some ⟨b69,0+(i:Int).toNat * 9,none⟩)) (oF rfl (sw (QE H 6 rfl (.slice a133 (((y_Rules[i]!).xu).length) c134) Tryz.sizeOf24 rfl rfl rfl (part_lt (hx71 5 _ rfl)) fun w137 H=>?_)))
     have hx138:=part_get (cells:=[.int .i64 ((y_Rules[i]!).qF),.int .i64 ((y_Rules[i]!).zM),.slice Q3 (((y_Rules[i]!).xu).length) QR,.slice Q5 (((y_Rules[i]!).xM).length) QT,.slice Q4 (((y_Rules[i]!).xK).length) QS,.slice ae70Here (((y_Rules[i]!).xF).length) ce70Here,.slice ae70Out (((y_Rules[i]!).zI).length) ce70Out,.slice ae70Into (((y_Rules[i]!).qL).length) ce70Into,.bool ((y_Rules[i]!).xR)]) hx71 5 (.slice a133 (((y_Rules[i]!).xu).length) c134) (Nat.le_of_ble_eq_true rfl)
     replace hx138:∀ (q:Nat) (v:Value),([.int .i64 ((y_Rules[i]!).qF),.int .i64 ((y_Rules[i]!).zM),.slice Q3 (((y_Rules[i]!).xu).length) QR,.slice Q5 (((y_Rules[i]!).xM).length) QT,.slice Q4 (((y_Rules[i]!).xK).length) QS,.slice a133 (((y_Rules[i]!).xu).length) c134,.slice ae70Out (((y_Rules[i]!).zI).length) ce70Out,.slice ae70Into (((y_Rules[i]!).qL).length) ce70Into,.bool ((y_Rules[i]!).xR)]:List Value)[q]? =some v→(xE.set (0+(i:Int).toNat * 9+5) (.slice a133 (((y_Rules[i]!).xu).length) c134))[0+(i:Int).toNat * 9+q]? =some v:=hx138
     try dsimp only [List.set] at H
     refine zi (b_n (t_n (xZ (sp (.int .i64 i) (sw (zB i 1 rfl rfl qf (sp (.int .i64 (i+1)) (zi ?_))))))))
     obtain ⟨G139,N,hn140,H⟩:=H.vG 0 rfl N (fun F hF b hb=>(List.mem_append.1 (show F∈[rF35,F_w]++Ns from hF)).elim (fun h=>(H.yg (L:=[rF35,F_w]) [9,7]) F h b hb) fun h=>H.Qb (K0.behind 10 rfl) F h b hb)
     try dsimp only [List.set] at H
     obtain ⟨F141,hA,H⟩:=H.partA_5 9 rfl 0 rfl (iv:=i) i qf (by first | omega | (simp only [List.length_set];omega))
     replace JD:∀ x∈F_w,x∉F141:=fun x hx h=>(hA x h).elim (JD x hx) fun h=>absurd h (Fresh.apart2 (N.zC 3 [2,0,1] qo) x hx)
     clear hA
     try dsimp only [List.set] at H
     refine xq (m' :=(zR16.length - ((i+1):Int)).toNat) qf ⟨_,i+1,zi123,zi124,(y_Rules.set i { y_Rules[i]! with xF:=((y_Rules[i]!).xu)}),(xE.set (0+(i:Int).toNat * 9+5) (.slice a133 (((y_Rules[i]!).xu).length) c134)),F141,uE7,?_,?_,?_,?_,?_,?_,rfl,(N.zC 3 [1,2] qo),H.zC 12 12 [2,3,4,1,5,6,7,8,9,10,11] [9,2,0,11] qo qo⟩
     · omega
     · omega
     · exact ⟨by (try simp only [List.length_set]);omega,by (repeat' (first | assumption | exact j2.2 | exact zx.zero qf qf | (simp only [List.length_set];omega) | omega | exact (j2.2 i qf).need.1 | apply zQ.here | apply zQ.out | apply zQ.into))⟩
     · exact JD
     · exact JC
     · exact JG
    ·skip
     refine xh (b_n (t_n (xZ (sp (.int .i64 i) (sw (zB i 1 rfl rfl qf (sp (.int .i64 (i+1)) (zi (xq (m' :=(zR16.length - ((i+1):Int)).toNat) qf ⟨_,i+1,zi123,zi124,y_Rules,xE,xy,uE7,?_,?_,?_,?_,?_,?_,rfl,N,H.zC 11 10 [1,2,3,0,4,5,6,7,8,9,10] [7,0,8,9] qo qo⟩)))))))))
     · omega
     · omega
     · exact ⟨by (try simp only [List.length_set]);omega,by (repeat' (first | assumption | exact j2.2 | exact zx.zero qf qf | (simp only [List.length_set];omega) | omega | exact (j2.2 i qf).need.1 | apply zQ.here | apply zQ.out | apply zQ.into))⟩
     · exact JD
     · exact JC
     · exact JG
  ·skip
   refine zx4 (zcc (sp (.pointer (some ⟨b5,0,none⟩)) ?_))
   have H1:=H.jv 11 4 [3,0,1,2,4,5,6,7,8,9,10] [1,0,2,3] qo qo
   have N1:Fresh _ (rF35 :: F_w :: Ns):=N
   have K1:Kept (Ns) ((xB true F_w x_w w_1) :: (xB false xy xE y_Rules) :: (xB true rF35 rx34 zL18) :: Γ):=K0.behind 3 rfl
   replace K1:=K1.cons (F:=F_w) 0 rfl rfl
   replace K1:=K1.cons (F:=rF35) 2 rfl rfl
   refine sw (zg #[.pointer (some ⟨b5,0,none⟩),.int .i64 4] rfl rfl Tryz.call15 (Xe code s_at s_seed b5 ac cc Fc (4:Int) H1 N1 K1 qg) ?_)
   clear H H1 N1 K1
   rintro _ w142 ⟨zi145,zi146,zb147,hx144,rfl,N,H⟩
   refine zjn (xI (zb147) rfl (fun h148=>?_) (fun h148=>?_))
   ·skip
    obtain ⟨b149,rfl⟩:=H.Xo 1 rfl qf
    refine c_cut (fun ρ w154=>∃ (xU:Env) (zi150:Int) (zi151:Int) (zi152:Int) (F153:yLN),ρ=upd (upd (upd (upd (upd xU 2 (.pointer (some ⟨b1,0,none⟩))) 3 (.pointer (some ⟨b3,0,none⟩))) 6 (.pointer (some ⟨b39,0,none⟩))) 7 (.pointer (some ⟨b41,0,none⟩))) 8 (.slice (some ⟨b149,0,none⟩) n_w c_w)∧(zi145≤zi150∧zi150≤zi145+2)∧(0≤zi151∧(zi151 < (4:Int)∨zi151=0))∧Fresh W0.heap.size (F153 :: rF35 :: Ns)∧St W0 w154 ((.box b5 [.slice ac code.length cc,.int .i64 zi150,.int .u64 zi152] 68) :: (rr (some ⟨b149,0,none⟩) n_w c_w 24 1 x_w) :: (.box b41 [.slice ra28 zm17.length rc30,.slice ra31 zL18.length rc33,.slice ra36 zl19.length rc38] 31) :: (.box b39 [.int .i64 zi14,.slice ra20 zl15.length rc22,.slice ra23 zR16.length rc25] 27) :: (rr ra20 zl15.length rc22 2 1 (zl15.map (Value.int .i64))) :: (rr ra23 zR16.length rc25 49 9 xE) :: (rr ra28 zm17.length rc30 4 1 (zm17.map (Value.bool))) :: (rr ra31 zL18.length rc33 24 1 rx34) :: (rr ra36 zl19.length rc38 2 1 (zl19.map (Value.int .i64))) :: (.box b3 [.slice none 0 0,.slice none 0 0,.slice none 0 0] 31) :: (.box b1 [.int .i64 0,.slice none 0 0,.slice none 0 0] 27) :: ps) ((xB true F153 x_w (w_1.set 0 ⟨(w_1[0]!).l.set 0 zi151⟩)) :: (sF false Fc ac cc code) :: (xB false xy xE y_Rules) :: (xB true rF35 rx34 zL18) :: Γ)) ?_ ?_
    ·skip
     refine QZ rfl H [2,3,4,5,6,7,8,9,10] [0,2,3] fun H=>?_
     have S:=H.jm [2,3,4,5,6,7,8,9,10] [0,2,3]
     refine rtp 0 (.slice (some ⟨b149,0,none⟩) n_w c_w) S ?_
     refine tI 1 rfl rfl rfl S ?_
     refine rtp 3 (.pointer (some ⟨b5,0,none⟩)) S ?_
     refine jd [2,4] qh qm (jI rfl ?_ (jI rfl ?_ je))
     ·skip
      obtain ⟨a156,c157,hx158⟩:=H.innerHead 1 rfl 0 qf
      refine xX (.slice a156 ((w_1[0]!).l.length) c157) Tryz.isAgg24 rfl (H.rowGet 1 rfl (by rw [show 0+(0:Int).toNat * 1=0 by omega];exact hx158)) (⟨H.pick [2,3,4,5,6,7,8,9,10] [0,2,3],(ro 4 rfl ?_)⟩)
      have H1:=H.jv 11 4 [0,1,2,3,4,5,6,7,8,9,10] [0,1,2,3] qo qo
      have N1:Fresh _ (rF35 :: F_w :: Ns):=N
      have K1:Kept (Ns) ((xB true F_w x_w w_1) :: (xB false xy xE y_Rules) :: (xB true rF35 rx34 zL18) :: Γ):=K0.behind 3 rfl
      replace K1:=K1.cons (F:=F_w) 0 rfl rfl
      replace K1:=K1.cons (F:=rF35) 2 rfl rfl
      refine zg #[.pointer (some ⟨b5,0,none⟩),.int .i64 4] rfl rfl Tryz.call17 (jF code zi145 zi146 b5 ac cc Fc (4:Int) H1 N1 K1 qg) ?_
      clear H H1 N1 K1
      rintro _ w159 ⟨zi163,zi164,zi165,hx161,hx162,rfl,N,H⟩
      refine ⟨H.pick [2,3,4,5,6,7,8,9,10] [0,2,3],?_⟩
      obtain ⟨b166,rfl⟩:=H.innerAddr 1 rfl 0 qf hx158 qf
      refine tI 5 rfl rfl rfl (H.pick [2,3,4,5,6,7,8,9,10] [0,2,3]) ?_
      refine ro 6 rfl ?_
      replace N:Fresh W0.heap.size (F_w :: rF35 :: Ns):=(N.zC 2 [1,0] qo)
      have N0:=N
      refine o_storeII H 1 rfl 1 rfl N0 (fun F hF b hb=>(List.mem_append.1 (show F∈[rF35]++Ns from hF)).elim (fun h=>(H.yg (L:=[rF35]) [3]) F h b hb) fun h=>H.Qb (K0.behind 4 rfl) F h b hb) ((sF false Fc ac cc code) :: (xB false xy xE y_Rules) :: (xB true rF35 rx34 zL18) :: Γ) (keeps_cons (kept 0 rfl (fun x hx h=>JC x h hx)) (keeps_cons (kept 2 rfl (fun x hx h=>JD x h hx)) (keeps_cons (kept 3 rfl (away_new N0 0 rfl)) (keeps_behind 4 rfl JG)))) 0 qf hx158 zi165 Tryz.sizeOf2 rfl rfl (q:=0) qf qf fun w167 F168 N H=>?_
      try dsimp only [List.set] at H
      refine ⟨H.pick [2,3,4,5,6,7,8,9,10] [1,2,3],(xH qh ((meet ⟨_,zi163,zi165,zi164,F168,uE5,hx161,hx162,N,H⟩)))⟩
     ·skip
      have H1:=H.jv 11 4 [0,1,2,3,4,5,6,7,8,9,10] [0,1,2,3] qo qo
      have N1:Fresh _ (rF35 :: F_w :: Ns):=N
      have K1:Kept (Ns) ((xB true F_w x_w w_1) :: (xB false xy xE y_Rules) :: (xB true rF35 rx34 zL18) :: Γ):=K0.behind 3 rfl
      replace K1:=K1.cons (F:=F_w) 0 rfl rfl
      replace K1:=K1.cons (F:=rF35) 2 rfl rfl
      refine zg #[.pointer (some ⟨b5,0,none⟩),.int .i64 4] rfl rfl Tryz.call17 (jF code zi145 zi146 b5 ac cc Fc (4:Int) H1 N1 K1 qg) ?_
      clear H H1 N1 K1
      rintro _ w169 ⟨zi173,zi174,zi175,hx171,hx172,rfl,N,H⟩
      refine ⟨H.pick [2,3,4,5,6,7,8,9,10] [0,2,3],(ro 2 rfl ?_)⟩
      obtain ⟨a176,c177,hx178⟩:=H.innerHead 1 rfl 0 qf
      refine xX (.slice a176 ((w_1[0]!).l.length) c177) Tryz.isAgg24 rfl (H.rowGet 1 rfl (by rw [show 0+(0:Int).toNat * 1=0 by omega];exact hx178)) (⟨H.pick [2,3,4,5,6,7,8,9,10] [0,2,3],?_⟩)
      obtain ⟨b179,rfl⟩:=H.innerAddr 1 rfl 0 qf hx178 qf
      refine tI 5 rfl rfl rfl (H.pick [2,3,4,5,6,7,8,9,10] [0,2,3]) ?_
      refine ro 6 rfl ?_
      replace N:Fresh W0.heap.size (F_w :: rF35 :: Ns):=(N.zC 2 [1,0] qo)
      have N0:=N
      refine o_storeII H 1 rfl 1 rfl N0 (fun F hF b hb=>(List.mem_append.1 (show F∈[rF35]++Ns from hF)).elim (fun h=>(H.yg (L:=[rF35]) [3]) F h b hb) fun h=>H.Qb (K0.behind 4 rfl) F h b hb) ((sF false Fc ac cc code) :: (xB false xy xE y_Rules) :: (xB true rF35 rx34 zL18) :: Γ) (keeps_cons (kept 0 rfl (fun x hx h=>JC x h hx)) (keeps_cons (kept 2 rfl (fun x hx h=>JD x h hx)) (keeps_cons (kept 3 rfl (away_new N0 0 rfl)) (keeps_behind 4 rfl JG)))) 0 qf hx178 zi175 Tryz.sizeOf2 rfl rfl (q:=0) qf qf fun w180 F181 N H=>?_
      try dsimp only [List.set] at H
      refine ⟨H.pick [2,3,4,5,6,7,8,9,10] [1,2,3],(xH qh ((meet ⟨_,zi173,zi175,zi174,F181,uE5,hx171,hx172,N,H⟩)))⟩
    ·skip
     clear H N
     rintro ρ w182 ⟨xU,zi150,zi151,zi152,F153,rfl,hx183,hx184,N,H⟩
     refine t_n (x8 ?_)
     refine QZ rfl H [0,1,2,3,4,5,6,7,8] [0,1,2,3] fun H=>?_
     have S:=H.jm [0,1,2,3,4,5,6,7,8] [0,1,2,3]
     refine rt 0 (.agg #[.int .i64 zi14,.slice ra20 zl15.length rc22,.slice ra23 zR16.length rc25]) (yh (cs:=[.int .i64 zi14,.slice ra20 zl15.length rc22,.slice ra23 zR16.length rc25]) Tryz.isAgg27 Tryz.sizeOf27 rfl (fun _ h=>qK (h.cells 3 rfl) 0 3)) S ?_
     refine rt 1 (.agg #[.slice ra28 zm17.length rc30,.slice ra31 zL18.length rc33,.slice ra36 zl19.length rc38]) (yh (cs:=[.slice ra28 zm17.length rc30,.slice ra31 zL18.length rc33,.slice ra36 zl19.length rc38]) Tryz.isAgg31 Tryz.sizeOf31 rfl (fun _ h=>qK (h.cells 2 rfl) 0 3)) S ?_
     refine rtp 2 (.slice (some ⟨b149,0,none⟩) n_w c_w) S ?_
     refine ro 3 rfl (xP H 10 [.int .i64 zi14,.slice ra20 zl15.length rc22,.slice ra23 zR16.length rc25] Tryz.sizeOf27 fun w186 H=>?_)
     try dsimp only [List.set] at H
     refine ⟨H.pick [0,1,2,3,4,5,6,7,8] [0,1,2,3],(ro 4 rfl (xP H 9 [.slice ra28 zm17.length rc30,.slice ra31 zL18.length rc33,.slice ra36 zl19.length rc38] Tryz.sizeOf31 fun w187 H=>?_))⟩
     try dsimp only [List.set] at H
     refine ⟨H.pick [0,1,2,3,4,5,6,7,8] [0,1,2,3],(rtp 5 (.slice (some ⟨b149,0,none⟩) n_w c_w) (H.pick [0,1,2,3,4,5,6,7,8] [0,1,2,3]) ?_)⟩
     refine xH qh (t_n (c_ret (retCCT H 10 rfl 9 rfl (.slice (some ⟨b149,0,none⟩) n_w c_w) rfl Tryz.isAgg27 Tryz.sizeOf27 Tryz.isAgg31 Tryz.sizeOf31 rfl rfl rfl ⟨_,rfl,?_⟩)))
     replace H:=H.ofOwn 0 rfl
     exact ⟨zi14,zl15,y_Rules,zm17,zL18,zl19,((w_1.set 0 ⟨(w_1[0]!).l.set 0 zi151⟩).map OwnI.l),ra20,zl15.length,rc22,ra23,zR16.length,rc25,xE,xy,ra28,zm17.length,rc30,ra31,zL18.length,rc33,rx34,rF35,ra36,zl19.length,rc38,(some ⟨b149,0,none⟩),n_w,c_w,x_w,F153,(by exact sd.with j2.1 j2.2),ql,(by first | exact w1.dr qf | exact wt_put w1 qf qf ⟨by omega,by omega⟩),rfl,(N.zC 2 [1,0] qo),H.zC 11 5 [4,5,6,7,8,1] [2,3,4,0] qo qo⟩
   ·skip
    refine xh (t_n (x8 ?_))
    refine QZ rfl H [0,1,2,3,4,5,6,7,8] [0,1,2,3] fun H=>?_
    have S:=H.jm [0,1,2,3,4,5,6,7,8] [0,1,2,3]
    refine rt 0 (.agg #[.int .i64 zi14,.slice ra20 zl15.length rc22,.slice ra23 zR16.length rc25]) (yh (cs:=[.int .i64 zi14,.slice ra20 zl15.length rc22,.slice ra23 zR16.length rc25]) Tryz.isAgg27 Tryz.sizeOf27 rfl (fun _ h=>qK (h.cells 3 rfl) 0 3)) S ?_
    refine rt 1 (.agg #[.slice ra28 zm17.length rc30,.slice ra31 zL18.length rc33,.slice ra36 zl19.length rc38]) (yh (cs:=[.slice ra28 zm17.length rc30,.slice ra31 zL18.length rc33,.slice ra36 zl19.length rc38]) Tryz.isAgg31 Tryz.sizeOf31 rfl (fun _ h=>qK (h.cells 2 rfl) 0 3)) S ?_
    refine rtp 2 (.slice a_w n_w c_w) S ?_
    refine ro 3 rfl (xP H 10 [.int .i64 zi14,.slice ra20 zl15.length rc22,.slice ra23 zR16.length rc25] Tryz.sizeOf27 fun w189 H=>?_)
    try dsimp only [List.set] at H
    refine ⟨H.pick [0,1,2,3,4,5,6,7,8] [0,1,2,3],(ro 4 rfl (xP H 9 [.slice ra28 zm17.length rc30,.slice ra31 zL18.length rc33,.slice ra36 zl19.length rc38] Tryz.sizeOf31 fun w190 H=>?_))⟩
    try dsimp only [List.set] at H
    refine ⟨H.pick [0,1,2,3,4,5,6,7,8] [0,1,2,3],(rtp 5 (.slice a_w n_w c_w) (H.pick [0,1,2,3,4,5,6,7,8] [0,1,2,3]) ?_)⟩
    refine xH qh (t_n (c_ret (retCCT H 10 rfl 9 rfl (.slice a_w n_w c_w) rfl Tryz.isAgg27 Tryz.sizeOf27 Tryz.isAgg31 Tryz.sizeOf31 rfl rfl rfl ⟨_,rfl,?_⟩)))
    replace H:=H.ofOwn 1 rfl
    exact ⟨zi14,zl15,y_Rules,zm17,zL18,zl19,(w_1.map OwnI.l),ra20,zl15.length,rc22,ra23,zR16.length,rc25,xE,xy,ra28,zm17.length,rc30,ra31,zL18.length,rc33,rx34,rF35,ra36,zl19.length,rc38,a_w,n_w,c_w,x_w,F_w,(by exact sd.with j2.1 j2.2),ql,(by first | exact w1.dr qf | exact wt_put w1 qf qf ⟨by omega,by omega⟩),rfl,N,H.zC 11 5 [4,5,6,7,8,1] [1,3,4,0] qo qo⟩
theorem a2At_ok (w:World) (code:List UInt8) (q:Int) (n:Int) {acode:yOA} {ccode:Nat} {Fcode:yLN} (hcode:qW.rep w Fcode [.slice acode code.length ccode] code) (p0:0≤q):Calls Tryz.prog 11 #[.slice acode code.length ccode,.int .i64 q,.int .i64 n] w (Ret (fun v w' =>v=.int .i64 (atV code q n)) w):=by
 refine en Tryz.func11 Tryz.ntmps11 ?_
 have H:=(St.start w).arg hcode
 have nhcode:=qU hcode
 clear hcode
 have N:=Fresh.nil w.heap.size
 refine zcr (sp (.int .i64 0) (zjcc (sps [.int .i64 q,.slice acode code.length ccode] (oN rfl (sps [.bool (decide ((q:Int)≥code.length)),.bool (decide ((q:Int)≥code.length))] ?_)))))
 cases h1:(decide ((q:Int)≥code.length))
 ·skip
  replace h1:=of_decide_eq_false h1
  refine qO 11 rfl rfl (sp (.int .i64 n) (qO 11 rfl rfl (sps [.bool (decide ((n:Int) < 1)),.bool (decide ((n:Int) < 1))] (zjn (cD rfl (fun h2=>?_) (fun h2=>?_))))))
  ·skip
   refine zcr (sp (.int .i64 0) (zjr (t_r (ret1 (.int .i64 0) rfl rfl ⟨_,rfl,?_,H.base⟩))))
   rw [atV_no qf]
  ·skip
   have rm:=fun (x:Int)=>Int.emod_nonneg x (show n≠0 by omega)
   have rl:=fun (x:Int)=>Int.emod_lt_of_pos x (show 0 < n by omega)
   refine xh (t_n (zcr (sps [.slice acode code.length ccode,.int .i64 q] ?_)))
   obtain ⟨b3,o4,rfl⟩:=H.addr 0 rfl qf
   refine oI rfl rfl ?_
   have hb6:=byte_lt (code[q.toNat]!)
   refine oL rfl (H.elemByte 0 rfl q q.toNat qf qf qf) (sw (o_convI (((code[q.toNat]!).toNat:Nat):Int) Tryz.underlying5 Tryz.underlying2 rfl qf (sp (.int .i64 n) (sw (o_rem (((code[q.toNat]!).toNat:Nat):Int) n rfl rfl qf qf qf (sp (.int .i64 ((((code[q.toNat]!).toNat:Nat):Int) % n)) (zjr (ret1 (.int .i64 ((((code[q.toNat]!).toNat:Nat):Int) % n)) rfl rfl ⟨_,rfl,?_,H.base⟩))))))))
   rw [atV_yes ‹_› ‹_›]
 ·skip
  replace h1:=of_decide_eq_true h1
  refine xO [12,13] (sp (.bool true) (zjn (xI true rfl (fun _=>zcr (sp (.int .i64 0) (zjr (t_r (ret1 (.int .i64 0) rfl rfl ⟨_,rfl,?_,H.base⟩))))) (fun h=>absurd h qj))))
  rw [atV_no qf]
def sortLI_ren:Go.Shelf.Ren:=⟨fun | 53=>98 | 64=>103 | 63=>102 | 78=>113 | 79=>114 | 70=>104 | 71=>105 | 72=>106 | 73=>107 | 74=>108 | 75=>109 | 59=>110 | 76=>111 | 77=>112 | 88=>115 | 89=>116 | 90=>117 | 91=>118 | 92=>119 | 68=>120 | 96=>121 | n=>n,fun | 22=>24 | 23=>2 | 3=>3 | 51=>101 | 0=>0 | 67=>137 | 69=>66 | 4=>4 | 61=>130 | 60=>129 | 44=>134 | 5=>5 | 9=>9 | 75=>139 | 79=>143 | 83=>145 | 84=>146 | n=>n,fun | n=>n⟩
theorem sortLI:Go.Proofs.SlLaysN.n53 Tryz.prog sortLI_ren:={
  mixed:=by kernel_rfl
  f53:=⟨Tryz.f98.name,by decide,Tryz.func98.trans (congrArg some (by kernel_rfl))⟩
  f59:=⟨Tryz.f110.name,by decide,Tryz.func110.trans (congrArg some (by kernel_rfl))⟩
  f63:=⟨Tryz.f102.name,by decide,Tryz.func102.trans (congrArg some (by kernel_rfl))⟩
  f64:=Tryz.func103.trans (congrArg some (by kernel_rfl))
  f68:=⟨Tryz.f120.name,by decide,Tryz.func120.trans (congrArg some (by kernel_rfl))⟩
  f70:=⟨Tryz.f104.name,by decide,Tryz.func104.trans (congrArg some (by kernel_rfl))⟩
  f71:=⟨Tryz.f105.name,by decide,Tryz.func105.trans (congrArg some (by kernel_rfl))⟩
  f72:=⟨Tryz.f106.name,by decide,Tryz.func106.trans (congrArg some (by kernel_rfl))⟩
  f73:=⟨Tryz.f107.name,by decide,Tryz.func107.trans (congrArg some (by kernel_rfl))⟩
  f74:=⟨Tryz.f108.name,by decide,Tryz.func108.trans (congrArg some (by kernel_rfl))⟩
  f75:=⟨Tryz.f109.name,by decide,Tryz.func109.trans (congrArg some (by kernel_rfl))⟩
  f76:=⟨Tryz.f111.name,by decide,Tryz.func111.trans (congrArg some (by kernel_rfl))⟩
  f77:=⟨Tryz.f112.name,by decide,Tryz.func112.trans (congrArg some (by kernel_rfl))⟩
  f78:=Tryz.func113.trans (congrArg some (by kernel_rfl))
  f79:=Tryz.func114.trans (congrArg some (by kernel_rfl))
  f88:=⟨Tryz.f115.name,by decide,Tryz.func115.trans (congrArg some (by kernel_rfl))⟩
  f89:=Tryz.func116.trans (congrArg some (by kernel_rfl))
  f90:=Tryz.func117.trans (congrArg some (by kernel_rfl))
  f91:=⟨Tryz.f118.name,by decide,Tryz.func118.trans (congrArg some (by kernel_rfl))⟩
  f92:=⟨Tryz.f119.name,by decide,Tryz.func119.trans (congrArg some (by kernel_rfl))⟩
  f96:=⟨Tryz.f121.name,by decide,Tryz.func121.trans (congrArg some (by kernel_rfl))⟩
  t0:=Tryz.underlying0
  a0:=Tryz.isAgg0
  z0:=Tryz.sizeOf0
  v0:=Tryz.zeroValue0
  t3:=Tryz.underlying3
  a3:=Tryz.isAgg3
  z3:=Tryz.sizeOf3
  v3:=Tryz.zeroValue3
  t4:=Tryz.underlying4
  a4:=Tryz.isAgg4
  z4:=Tryz.sizeOf4
  v4:=Tryz.zeroValue4
  t5:=Tryz.underlying5
  a5:=Tryz.isAgg5
  z5:=Tryz.sizeOf5
  v5:=Tryz.zeroValue5
  t9:=Tryz.underlying9
  a9:=Tryz.isAgg9
  z9:=Tryz.sizeOf9
  v9:=Tryz.zeroValue9
  t22:=Tryz.underlying24
  a22:=Tryz.isAgg24
  z22:=Tryz.sizeOf24
  v22:=Tryz.zeroValue24
  t23:=Tryz.underlying2
  a23:=Tryz.isAgg2
  z23:=Tryz.sizeOf2
  v23:=Tryz.zeroValue2
  t44:=Tryz.underlying134
  a44:=Tryz.isAgg134
  z44:=Tryz.sizeOf134
  v44:=Tryz.zeroValue134
  t51:=Tryz.underlying101
  a51:=Tryz.isAgg101
  z51:=Tryz.sizeOf101
  v51:=Tryz.zeroValue101
  t60:=Tryz.underlying129
  a60:=Tryz.isAgg129
  z60:=Tryz.sizeOf129
  v60:=Tryz.zeroValue129
  t61:=Tryz.underlying130
  a61:=Tryz.isAgg130
  z61:=Tryz.sizeOf130
  v61:=Tryz.zeroValue130
  t67:=Tryz.underlying137
  a67:=Tryz.isAgg137
  z67:=Tryz.sizeOf137
  v67:=Tryz.zeroValue137
  t69:=Tryz.underlying66
  a69:=Tryz.isAgg66
  z69:=Tryz.sizeOf66
  v69:=Tryz.zeroValue66
  t75:=Tryz.underlying139
  a75:=Tryz.isAgg139
  z75:=Tryz.sizeOf139
  v75:=Tryz.zeroValue139
  t79:=Tryz.underlying143
  a79:=Tryz.isAgg143
  z79:=Tryz.sizeOf143
  v79:=Tryz.zeroValue143
  t83:=Tryz.underlying145
  a83:=Tryz.isAgg145
  z83:=Tryz.sizeOf145
  v83:=Tryz.zeroValue145
  t84:=Tryz.underlying146
  a84:=Tryz.isAgg146
  z84:=Tryz.sizeOf146
  v84:=Tryz.zeroValue146 }

theorem canMelt_ok (w:World) (s:qG) (c:Int) {qE:yOA} {qV:yLN} {qI:yOA} {xx:yLN} (qP:qW.rep w qV [.slice qE s.qA.length qC] s.qA) (xm:qW.rep w xx [.slice qI s.qB.length qH] s.qB):Calls Tryz.prog 73 #[.agg #[.int .i64 s.qQ,.slice qE s.qA.length qC,.slice qI s.qB.length qH],.int .i64 c] w (Ret (fun v w' =>v=.bool (dec (jT s c))) w):=by
 refine en Tryz.func73 Tryz.ntmps73 ?_
 have H:=((St.start w).arg xm).arg qP
 have zt:=qU qP
 have vF:=qU xm
 clear qP xm
 have N:=Fresh.nil w.heap.size
 refine zcr (sw (vK H [.int .i64 s.qQ,.slice qE s.qA.length qC,.slice qI s.qB.length qH] fun b1 w2 H=>sw (vK H [.int .i64 c] fun b3 w4 H=>sp (.bool false) (zjc (oF rfl (oL rfl (H.cell 1 rfl rfl) (sp (.func (.func 97) #[] #[.pointer (some ⟨b3,0,none⟩)]) (sw (jA #[.slice qI s.qB.length qH,.func (.func 97) #[] #[.pointer (some ⟨b3,0,none⟩)]] rfl rfl Tryz.call96 (en Tryz.func96 Tryz.ntmps96 ?_))))))))))
 refine zcr (sp (.bool false) (zjc (sps [.slice qI s.qB.length qH,.func (.func 97) #[] #[.pointer (some ⟨b3,0,none⟩)]] (sw (jA #[.slice qI s.qB.length qH,.func (.func 97) #[] #[.pointer (some ⟨b3,0,none⟩)]] rfl rfl Tryz.call101 (en Tryz.func101 Tryz.ntmps101 ?_))))))
 refine zcr (sp (.int .i64 0) (zjcc (sp (.slice qI s.qB.length qH) (oN rfl (sp (.int .i64 0) (zjn (xg ?_)))))))
 refine zH (fun m' ρ w5=>∃ (xU:Env) (i:Nat),ρ=upd (upd (upd (upd xU 0 (.slice qI s.qB.length qH)) 1 (.func (.func 97) #[] #[.pointer (some ⟨b3,0,none⟩)])) 7 (.int .i64 s.qB.length)) 8 (.int .i64 i)∧((i:Int)≤s.qB.length)∧(∀ j,j < i→¬ ((s.qB[j]!).xR=true∧(s.qB[j]!).qF=c))∧m' =(s.qB.length - (i:Int)).toNat∧Fresh w.heap.size []∧St w w5 [.box b3 [.int .i64 c] 2,.box b1 [.int .i64 s.qQ,.slice qE s.qA.length qC,.slice qI s.qB.length qH] 27] [sF false qV qE qC s.qA,sF false xx qI qH s.qB]) ((s.qB.length - (0:Int)).toNat) ⟨_,0,uE4,qf,qx,rfl,N,H⟩ ?_
 clear H N
 rintro m' ρ w6 ⟨xU,i,rfl,i0,i1,rfl,N,H⟩
 refine zcr (sp (.bool (decide ((i:Int) < s.qB.length))) (zjn (x8 (cD rfl (fun h7=>?_) (fun h7=>?_)))))
 ·skip
  refine xh (t_n (x8 (xg (zcr (sps [.int .i64 i,.int .i64 i] (zjc (sps [.func (.func 97) #[] #[.pointer (some ⟨b3,0,none⟩)],.slice qI s.qB.length qH,.int .i64 i] ?_)))))))
  obtain ⟨b8,o9,rfl⟩:=H.addr 1 rfl qf
  obtain ⟨ae11Need,ce11Need,Fe11Need,ae11Have,ce11Have,Fe11Have,ae11Lack,ce11Lack,Fe11Lack,ae11Here,ce11Here,Fe11Here,ae11Out,ce11Out,Fe11Out,ae11Into,ce11Into,Fe11Into,H⟩:=H.Qv 1 rfl i i qf qf qf
  refine oI rfl rfl (sw (xW [.int .i64 ((s.qB[i]!).qF),.int .i64 ((s.qB[i]!).zM),.slice ae11Need (((s.qB[i]!).xu).length) ce11Need,.slice ae11Have (((s.qB[i]!).xM).length) ce11Have,.slice ae11Lack (((s.qB[i]!).xK).length) ce11Lack,.slice ae11Here (((s.qB[i]!).xF).length) ce11Here,.slice ae11Out (((s.qB[i]!).zI).length) ce11Out,.slice ae11Into (((s.qB[i]!).qL).length) ce11Into,.bool ((s.qB[i]!).xR)] Tryz.isAgg49 Tryz.sizeOf49 rfl (qK (H.get 6 rfl) 0 9) ?_))
  refine sw (jA #[.agg #[.int .i64 ((s.qB[i]!).qF),.int .i64 ((s.qB[i]!).zM),.slice ae11Need (((s.qB[i]!).xu).length) ce11Need,.slice ae11Have (((s.qB[i]!).xM).length) ce11Have,.slice ae11Lack (((s.qB[i]!).xK).length) ce11Lack,.slice ae11Here (((s.qB[i]!).xF).length) ce11Here,.slice ae11Out (((s.qB[i]!).zI).length) ce11Out,.slice ae11Into (((s.qB[i]!).qL).length) ce11Into,.bool ((s.qB[i]!).xR)],.pointer (some ⟨b3,0,none⟩)] rfl rfl Tryz.call97 (en Tryz.func97 Tryz.ntmps97 ?_))
  refine zcr (sw (vK H [.int .i64 ((s.qB[i]!).qF),.int .i64 ((s.qB[i]!).zM),.slice ae11Need (((s.qB[i]!).xu).length) ce11Need,.slice ae11Have (((s.qB[i]!).xM).length) ce11Have,.slice ae11Lack (((s.qB[i]!).xK).length) ce11Lack,.slice ae11Here (((s.qB[i]!).xF).length) ce11Here,.slice ae11Out (((s.qB[i]!).zI).length) ce11Out,.slice ae11Into (((s.qB[i]!).qL).length) ce11Into,.bool ((s.qB[i]!).xR)] fun b12 w13 H=>sp (.bool false) (zjc (oF rfl (oL rfl (H.cell 0 rfl rfl) (oL rfl (H.cell 1 rfl rfl) ?_))))))
  refine sps [.bool (((s.qB[i]!).qF:Int) == c),.bool (((s.qB[i]!).qF:Int) == c)] ?_
  cases h14:(((s.qB[i]!).qF:Int) == c)
  ·skip
   replace h14:=ne_of_beq_false h14
   refine xO [9,10] (sps [.bool false,.bool false] (zjr (ret1 (.bool false) rfl rfl ⟨_,rfl,?_⟩)))
   replace H:=H.erases [0]
   dsimp only [jK,List.eraseIdx] at H
   refine zjn (xI false rfl (fun h=>absurd h qj) (fun _=>xh (b_n (t_n (xZ (sw (zB i 1 rfl rfl qf (sp (.int .i64 (i+1)) (zi (xq (m' :=(s.qB.length - ((i+1):Int)).toNat) qf ⟨_,i+1,uE4,?_,?_,rfl,N,H.pick [0,1] [7,8]⟩))))))))))
   · omega
   · first | exact jP i1 (fun h=>Bool.noConfusion (‹(s.qB[i]!).xR=false›.symm.trans h.1)) | exact jP i1 (fun h=>‹¬ _› h.2) | exact jP i1 (fun h=>by rw [h.1] at *;simp_all) | exact jP i1 (fun h=>by simp_all)
  ·skip
   replace h14:=eq_of_beq h14
   refine qO 8 rfl rfl (oF rfl (qO 8 rfl rfl (oL rfl (H.cell 0 rfl rfl) (sps [.bool ((s.qB[i]!).xR),.bool ((s.qB[i]!).xR)] (zjr (ret1 (.bool ((s.qB[i]!).xR)) rfl rfl ⟨_,rfl,?_⟩))))))
   replace H:=H.erases [0]
   dsimp only [jK,List.eraseIdx] at H
   refine zjn (xI ((s.qB[i]!).xR) rfl (fun h15=>?_) (fun h15=>?_))
   ·skip
    refine zcr (sps [.int .i64 i,.int .i64 i] (zjr (zr5 (ret1 (.int .i64 i) rfl rfl ⟨_,rfl,(sw (o_pure (.bool true) (by show some (Value.bool (decide ((i:Int)≥0)))=some (Value.bool true);rw [decide_eq_true qf]) (sp (.bool true) (zjr (ret1 (.bool true) rfl rfl ⟨_,rfl,(sp (.bool true) (zjr (ret1 (.bool true) rfl rfl ⟨_,rfl,?_,H.base⟩)))⟩)))))⟩))))
    rw [jL (show jT s c from ⟨i,by omega,by simp_all,by simp_all⟩)]
   ·skip
    refine xh (b_n (t_n (xZ (sw (zB i 1 rfl rfl qf (sp (.int .i64 (i+1)) (zi (xq (m' :=(s.qB.length - ((i+1):Int)).toNat) qf ⟨_,i+1,uE4,?_,?_,rfl,N,H.pick [0,1] [7,8]⟩))))))))
    · omega
    · first | exact jP i1 (fun h=>Bool.noConfusion (‹(s.qB[i]!).xR=false›.symm.trans h.1)) | exact jP i1 (fun h=>‹¬ _› h.2) | exact jP i1 (fun h=>by rw [h.1] at *;simp_all) | exact jP i1 (fun h=>by simp_all)
 ·skip
  refine zx4 (zcr (sp (.int .i64 (-1)) (zjr (ret1 (.int .i64 (-1)) rfl rfl ⟨_,rfl,(sps [.bool false,.bool false] (zjr (ret1 (.bool false) rfl rfl ⟨_,rfl,(sp (.bool false) (zjr (ret1 (.bool false) rfl rfl ⟨_,rfl,?_,H.base⟩)))⟩)))⟩))))
  rw [qZ (fun h=>by obtain ⟨j,h1,h2⟩:=h;exact i1 j qf h2)]

theorem possParents_ok (w:World) (s:qG) (c:Int) {qE:yOA} {qV:yLN} {qI:yOA} {xx:yLN} (qP:qW.rep w qV [.slice qE s.qA.length qC] s.qA) (xm:qW.rep w xx [.slice qI s.qB.length qH] s.qB) (p0:zN s) (p1:y8 s c):Calls Tryz.prog 74 #[.agg #[.int .i64 s.qQ,.slice qE s.qA.length qC,.slice qI s.qB.length qH],.int .i64 c] w (Ret (fun v w' =>∃ (ra:yOA) (rn:Nat) (rc:Nat),v=.slice ra rn rc∧Fresh w.heap.size []∧St w w' [rr ra rn rc 2 1 ((yK s c).map (Value.int .i64))] []) w):=by
 refine en Tryz.func74 Tryz.ntmps74 ?_
 have H:=((St.start w).arg xm).arg qP
 have zt:=qU qP
 have vF:=qU xm
 clear qP xm
 have N:=Fresh.nil w.heap.size
 have p3:=p0.step p1.1 p1.2
 have p4:=p0.2.1
 have p5:=p1.1
 have p6:=p1.2
 refine zcr (sw (vK H [.int .i64 s.qQ,.slice qE s.qA.length qC,.slice qI s.qB.length qH] fun b1 w2 H=>sp (.slice none 0 0) (zjc (sw (yJ H Tryz.underlying24 ti2 fun b3 w4 H=>sp (.slice (some ⟨b3,0,none⟩) 0 0) (zjcc (oF rfl (oL rfl (H.cell 1 rfl rfl) (sp (.int .i64 c) ?_)))))))))
 obtain ⟨b5,o6,rfl⟩:=H.addr 0 rfl qf
 refine oI rfl rfl (oL rfl (H.ji 0 rfl c qf qf) (sp (.int .i64 (s.qA[c.toNat]!)) (zjn (xg ?_))))
 replace H:=H.boxRowI 0 [] 0
 refine zH (fun m' ρ w8=>∃ (xU:Env) (vZ:yOA) (zG:Nat) (vX:Nat) (out:yLI) (p:Int) (n:Nat),ρ=upd (upd (upd xU 2 (.pointer (some ⟨b1,0,none⟩))) 5 (.slice vZ zG vX)) 6 (.int .i64 p)∧(-1≤p∧p≤(s.qA.length:Int) - 1)∧(p < n)∧((out.length:Int)+p≤(s.qA.length:Int) - 1)∧(chain s s.qA.length (s.qA[c.toNat]!)=out++chain s n p)∧m' =(p+1).toNat∧Fresh w.heap.size []∧St w w8 [rr vZ zG vX 2 1 (out.map (Value.int .i64)),.box b1 [.int .i64 s.qQ,.slice (some ⟨b5,o6,none⟩) s.qA.length qC,.slice qI s.qB.length qH] 27] [sF false qV (some ⟨b5,o6,none⟩) qC s.qA,sF false xx qI qH s.qB]) (((s.qA[c.toNat]!)+1).toNat) ⟨_,(some ⟨b3,0,none⟩),0,0,([]:yLI),s.qA[c.toNat]!,s.qA.length,uE3,qf,qf,(by simp only [List.length_nil];omega),(by rfl),rfl,N,H⟩ ?_
 clear H N
 rintro m' ρ w9 ⟨xU,vZ,zG,vX,out,p,n,rfl,i0,i1,i2,i3,rfl,N,H⟩
 have hn_out:=H.jb 0 rfl
 have up:=fun h=>p0.step (c:=p) h i0.2
 refine zcc (sps [.int .i64 p,.bool (decide ((p:Int)≥0))] (zjn (cD rfl (fun h10=>?_) (fun h10=>?_))))
 ·skip
  refine xh (t_n (x8 (xg (zcr (sps [.slice vZ zG vX,.int .i64 p] (sw (zA H Tryz.underlying24 ti2 [.int .i64 p] fun b11 w12 H=>sw (zL H 1 rfl 0 rfl Tryz.underlying24 ti2 rfl qj rfl rfl rfl qw qp qf fun a13 c14 w15 H=>?_))))))))
  rw [snocI] at H
  refine sp (.slice a13 (zG+1) c14) (zjc (sw (xW [.int .i64 s.qQ,.slice (some ⟨b5,o6,none⟩) s.qA.length qC,.slice qI s.qB.length qH] Tryz.isAgg27 Tryz.sizeOf27 rfl (qK (H.cells 2 rfl) 0 3) (sp (.int .i64 p) (sw (oq (canMelt_ok _ s p (H.get 0 rfl).1 (H.get 1 rfl).1) H fun w17 H=>sp (.bool (!(dec (jT s p)))) (zjn (cQ rfl (fun h19=>?_) (fun h19=>?_)))))))))
  ·skip
   refine c_exit (b_o rfl (t_x (t_x (b_x (t_n (zcr (sp (.slice a13 (zG+1) c14) ?_)))))))
   have sl21:=sortI_len (out++[p])
   refine sw (zg #[.slice a13 (zG+1) c14] rfl rfl Tryz.call98 (sortRowI sortLI H 1 rfl (by first | omega | (simp only [List.length_append,List.length_cons,List.length_nil];omega))) ?_)
   rintro _ w20 ⟨rfl,H⟩
   refine zjc (sps [.slice a13 (zG+1) c14,.slice a13 (zG+1) c14] (zjr (ret1 (.slice a13 (zG+1) c14) rfl rfl ⟨_,rfl,?_,H.base⟩)))
   rw [yK,i3,chain_stop qf qf ql]
   exact ⟨a13,zG+1,c14,rfl,N,H.pick [1] []⟩
  ·skip
   refine xh (b_n (t_n (xZ (oF rfl (oL rfl (H.cell 2 rfl rfl) (sp (.int .i64 p) (oI rfl rfl (oL rfl (H.ji 0 rfl p qf qf) (sp (.int .i64 (s.qA[p.toNat]!)) (zi ?_))))))))))
   have up1:=up qf
   refine xq (m' :=((s.qA[p.toNat]!)+1).toNat) qf ⟨_,a13,zG+1,c14,(out++[p]),s.qA[p.toNat]!,n - 1,uE3,?_,?_,?_,?_,rfl,N,H.pick [1,2] [0,1]⟩
   · omega
   · omega
   · simp only [List.length_append,List.length_cons,List.length_nil];omega
   · rw [i3,chain_go qf qf ql];simp
 ·skip
  refine zx4 (zcr (sp (.slice vZ zG vX) ?_))
  have sl23:=sortI_len out
  refine sw (zg #[.slice vZ zG vX] rfl rfl Tryz.call98 (sortRowI sortLI H 0 rfl (by first | omega | (simp only [List.length_append,List.length_cons,List.length_nil];omega))) ?_)
  rintro _ w22 ⟨rfl,H⟩
  refine zjc (sps [.slice vZ zG vX,.slice vZ zG vX] (zjr (ret1 (.slice vZ zG vX) rfl rfl ⟨_,rfl,?_,H.base⟩)))
  rw [yK,i3,chain_end qf,List.append_nil]
  exact ⟨vZ,zG,vX,rfl,N,H.pick [0] []⟩
end
end Go.Proofs.YtfekhnffbngoaabGreat
