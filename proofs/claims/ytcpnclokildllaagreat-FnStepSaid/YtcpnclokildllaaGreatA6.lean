/- Walks and laws, printed by program and by hand: what each function comes to, for all arguments, part 6. -/
import Derived.Test.YtcpnclokildllaaGreatA5
namespace Go.Proofs.YtcpnclokildllaaGreat
set_option linter.unusedVariables false
set_option linter.unusedSimpArgs false
open Go.Proofs.YtcpnclokildllaaGreat.Tot (tot)
open Go.Proofs.YtcpnclokildllaaGreat.Mark (cnt mrk mkd mkd_mark cnt_mark)
section
open Go.RowKit
set_option linter.unusedVariables false
set_option linter.unusedSimpArgs false
set_option maxRecDepth 100000
set_option maxHeartbeats 4000000
theorem dRule_ok {W0 w:World} {ps:List Prv} {Γ:List Fact} {Ns:List yLN} (code:List UInt8) (ip:Int) (sd:Int) (bs:Nat) (ac:yOA) (cc:Nat) (Fc:yLN) (kk:Int) (par:yLI) (rules:List jy) (bY:Nat) (rap:yOA) (rnp:Nat) (rcp:Nat) (raR:yOA) (rnR:Nat) (rcR:Nat) (rxR:List Value) (rFR:yLN) (H:St W0 w ((.box bs [Sv ac code.length cc,.int .i64 ip,.int .u64 sd] 127) :: (.box bY [.int .i64 kk,Sv rap rnp rcp,Sv raR rnR rcR] 27) :: (rr rap rnp rcp 2 1 (par.map (Value.int .i64))) :: (rr raR rnR rcR 56 9 rxR) :: ps) ((sF false Fc ac cc code) :: (qX true rFR rxR rules) :: Γ)) (N:Fresh W0.heap.size (rFR :: Ns)) (K0:Kept Ns Γ) (q0:0≤ip∧ip≤60000) (f0:jO (⟨kk,par,rules⟩:qy)):Calls Tryz.prog 144 #[.pointer (some ⟨bs,0,none⟩),.pointer (some ⟨bY,0,none⟩)] w (fun e w' =>∃ v,e=.returned v∧∃ (ip_:Int) (sd_:Int) (cell_:Int) (rank_:Int) (need_:yLI) (have_:yLI) (lack_:yLI) (here_:yLI) (out_:yLI) (into_:List IntoD) (melts_:Bool) (raN:yOA) (rnN:Nat) (rcN:Nat) (raH:yOA) (rnH:Nat) (rcH:Nat) (raL:yOA) (rnL:Nat) (rcL:Nat) (raE:yOA) (rnE:Nat) (rcE:Nat) (raO:yOA) (rnO:Nat) (rcO:Nat) (raI:yOA) (rnI:Nat) (rcI:Nat) (rxI:List Value) (rFI:yLN),(ip≤ip_∧ip_≤ip+300)∧(RuleDr kk par ⟨cell_,rank_,need_,have_,lack_,here_,out_,into_,melts_⟩)∧v=.agg #[.int .i64 cell_,.int .i64 rank_,Sv raN rnN rcN,Sv raH rnH rcH,Sv raL rnL rcL,Sv raE rnE rcE,Sv raO rnO rcO,Sv raI rnI rcI,Bv melts_]∧Fresh W0.heap.size (rFR :: rFI :: Ns)∧St W0 w' ((.box bs [Sv ac code.length cc,.int .i64 ip_,.int .u64 sd_] 127) :: (.box bY [.int .i64 kk,Sv rap rnp rcp,Sv raR rnR rcR] 27) :: (rr rap rnp rcp 2 1 (par.map (Value.int .i64))) :: (rr raR rnR rcR 56 9 rxR) :: (rr raN rnN rcN 2 1 (need_.map (Value.int .i64))) :: (rr raH rnH rcH 2 1 (have_.map (Value.int .i64))) :: (rr raL rnL rcL 2 1 (lack_.map (Value.int .i64))) :: (rr raE rnE rcE 2 1 (here_.map (Value.int .i64))) :: (rr raO rnO rcO 2 1 (out_.map (Value.int .i64))) :: (rr raI rnI rcI 142 2 rxI) :: ps) ((sF false Fc ac cc code) :: (qX true rFR rxR rules) :: (qX true rFI rxI into_) :: Γ)):=by
 refine en Tryz.func144 Tryz.ntmps144 ?_
 have ncode:=qQ (H.get 0 rfl).1
 obtain rfl:=H.vM 2 rfl
 obtain rfl:=H.zi (α:=jy) 3 rfl 1 rfl qj
 have f1:1≤kk∧kk≤8:=f0.1
 have f2:1≤par.length∧par.length≤6:=f0.2.1
 refine zcr (sw (xx H ti56 [.int .i64 0,.int .i64 0,Sv none 0 0,Sv none 0 0,Sv none 0 0,Sv none 0 0,Sv none 0 0,Sv none 0 0,Bv false] fun b1 w2 H=>zjc (sps [.pointer (some ⟨bY,0,none⟩),.pointer (some ⟨bY,0,none⟩)] (oF rfl (oL rfl (H.cell 2 rfl rfl) (oN rfl (sp (.int .i64 par.length) (zjn (zg ?_)))))))))
 refine c_cut (fun ρ w13=>∃ (zl:Env) (zi3:Int) (zi4:Int) (zi5:Int) (zl6:yLI) (b7:Nat) (ra8:yOA) (rc9:Nat) (b10:Nat) (b11:Nat) (zi12:Int),ρ=upd (upd (upd (upd (upd zl 0 (.pointer (some ⟨bs,0,none⟩))) 1 (.pointer (some ⟨bY,0,none⟩))) 4 (.pointer (some ⟨b1,0,none⟩))) 5 (.int .i64 par.length)) 6 (.pointer (some ⟨b7,0,none⟩))∧(ip≤zi3∧zi3≤ip+2)∧(0≤zi4∧(zi4 < par.length∨zi4=0))∧(zi3≤zi5∧zi5≤zi3+24)∧(vJ kk (2:Int) zl6∧QJ zl6≠0)∧Fresh W0.heap.size (rFR :: Ns)∧St W0 w13 ((.box b7 [.int .i64 zi4,.int .i64 0,Sv ra8 zl6.length rc9,Sv (some ⟨b10,0,none⟩) kk.toNat kk.toNat,Sv (some ⟨b11,0,none⟩) kk.toNat kk.toNat,Sv none 0 0,Sv none 0 0,Sv none 0 0,Bv false] 56) :: (rr (some ⟨b11,0,none⟩) kk.toNat kk.toNat 2 1 ((List.replicate kk.toNat (0:Int)).map (Value.int .i64))) :: (rr (some ⟨b10,0,none⟩) kk.toNat kk.toNat 2 1 ((List.replicate kk.toNat (0:Int)).map (Value.int .i64))) :: (.box bs [Sv ac code.length cc,.int .i64 zi5,.int .u64 zi12] 127) :: (rr ra8 zl6.length rc9 2 1 (zl6.map (Value.int .i64))) :: (.box b1 [.int .i64 0,.int .i64 0,Sv none 0 0,Sv none 0 0,Sv none 0 0,Sv none 0 0,Sv none 0 0,Sv none 0 0,Bv false] 56) :: (.box bY [.int .i64 kk,Sv rap par.length rcp,Sv raR rules.length rcR] 27) :: (rr rap par.length rcp 2 1 (par.map (Value.int .i64))) :: (rr raR rules.length rcR 56 9 rxR) :: ps) ((sF false Fc ac cc code) :: (qX true rFR rxR rules) :: Γ)) ?_ ?_
 ·skip
  refine XG rfl H [0,2,3,4] [0,1] fun H=>?_
  have S:=H.jG [0,2,3,4] [0,1]
  refine rtp 0 (.pointer (some ⟨bs,0,none⟩)) S ?_
  refine rtp 1 (.int .i64 par.length) S ?_
  refine rtp 3 (.pointer (some ⟨bs,0,none⟩)) S ?_
  refine rtp 4 (.pointer (some ⟨bY,0,none⟩)) S ?_
  refine rtp 5 (.pointer (some ⟨bY,0,none⟩)) S ?_
  refine tF 6 rfl rfl S ?_
  refine tL 7 rfl rfl (fun _ h=>h.cell 1 rfl rfl) S ?_
  refine rtp 9 (.pointer (some ⟨bY,0,none⟩)) S ?_
  refine rtp 10 (.pointer (some ⟨bY,0,none⟩)) S ?_
  refine tF 11 rfl rfl S ?_
  refine tL 12 rfl rfl (fun _ h=>h.cell 1 rfl rfl) S ?_
  refine rtp 14 (.pointer (some ⟨bY,0,none⟩)) S ?_
  refine rtp 15 (.pointer (some ⟨bY,0,none⟩)) S ?_
  refine tF 16 rfl rfl S ?_
  refine tL 17 rfl rfl (fun _ h=>h.cell 1 rfl rfl) S ?_
  refine zH [2,13,18,20] qh qm (vg rfl ?_ (vg rfl ?_ (vg rfl ?_ (vg rfl ?_ zI))))
  ·skip
   have H1:St W0 w2.drew ((.box bs [Sv ac code.length cc,.int .i64 ip,.int .u64 sd] 127) :: (.box b1 [.int .i64 0,.int .i64 0,Sv none 0 0,Sv none 0 0,Sv none 0 0,Sv none 0 0,Sv none 0 0,Sv none 0 0,Bv false] 56) :: (.box bY [.int .i64 kk,Sv rap par.length rcp,Sv raR rules.length rcR] 27) :: (rr rap par.length rcp 2 1 (par.map (Value.int .i64))) :: (rr raR rules.length rcR 56 9 rxR) :: ps) ((sF false Fc ac cc code) :: (qX true rFR rxR rules) :: Γ):=H.xH 5 2 [1,0,2,3,4] [0,1] qo qo
   have N1:Fresh _ (rFR :: Ns):=N
   have K1:Kept (Ns) ((qX true rFR rxR rules) :: Γ):=K0.behind 1 rfl
   replace K1:=K1.cons (F:=rFR) 0 rfl rfl
   refine xR #[.pointer (some ⟨bs,0,none⟩),.int .i64 par.length] rfl rfl Tryz.call68 (jZ code ip sd bs ac cc Fc par.length H1 N1 K1 qg) ?_
   clear H H1 N1 K1
   rintro _ w15 ⟨zi19,zi20,zi21,hx17,hx18,rfl,N,H⟩
   refine ⟨H.pick [1,2,3,4] [0,1],(zH [8,13,18,20] qh qm (vg rfl ?_ (vg rfl ?_ (vg rfl ?_ (vg rfl ?_ zI)))))⟩
   ·skip
    have H1:St W0 w15 ((.box bs [Sv ac code.length cc,.int .i64 zi19,.int .u64 zi20] 127) :: (.box b1 [.int .i64 0,.int .i64 0,Sv none 0 0,Sv none 0 0,Sv none 0 0,Sv none 0 0,Sv none 0 0,Sv none 0 0,Bv false] 56) :: (.box bY [.int .i64 kk,Sv rap par.length rcp,Sv raR rules.length rcR] 27) :: (rr rap par.length rcp 2 1 (par.map (Value.int .i64))) :: (rr raR rules.length rcR 56 9 rxR) :: ps) ((sF false Fc ac cc code) :: (qX true rFR rxR rules) :: Γ):=H.xH 5 2 [0,1,2,3,4] [0,1] qo qo
    have N1:Fresh _ (rFR :: Ns):=N
    have K1:Kept (Ns) ((qX true rFR rxR rules) :: Γ):=K0.behind 1 rfl
    replace K1:=K1.cons (F:=rFR) 0 rfl rfl
    refine xR #[.pointer (some ⟨bs,0,none⟩),.int .i64 kk,.int .i64 2] rfl rfl Tryz.call188 (zT code zi19 zi20 bs ac cc Fc kk (2:Int) H1 N1 K1 qg qg qg) ?_
    clear H H1 N1 K1
    rintro _ w22 ⟨zi26,zi27,zl28,ra29,rn30,rc31,hx24,hx25,rfl,N,H⟩
    obtain rfl:=H.vM 1 rfl
    refine ⟨H.pick [2,3,4,5] [0,1],(zH [13,18,20] qh qm (vg rfl ?_ (vg rfl ?_ (vg rfl ?_ zI))))⟩
    ·skip
     refine zf H Tryz.underlying24 ti2 kk.toNat rfl rfl qf qf qf fun b32 w33 H=>⟨H.pick [3,4,5,6] [0,1],(zH [18,20] qh qm (vg rfl ?_ (vg rfl ?_ zI)))⟩
     ·skip
      refine zf H Tryz.underlying24 ti2 kk.toNat rfl rfl qf qf qf fun b34 w35 H=>⟨H.pick [4,5,6,7] [0,1],(zH [19,20] qh qm (vg rfl ?_ (vg rfl ?_ zI)))⟩
      ·skip
       refine xP [.int .i64 zi21,.int .i64 0,Sv ra29 zl28.length rc31,Sv (some ⟨b32,0,none⟩) kk.toNat kk.toNat,Sv (some ⟨b34,0,none⟩) kk.toNat kk.toNat,Sv none 0 0,Sv none 0 0,Sv none 0 0,Bv false] [(0,.int .i64 zi21),(2,Sv ra29 zl28.length rc31),(3,Sv (some ⟨b32,0,none⟩) kk.toNat kk.toNat),(4,Sv (some ⟨b34,0,none⟩) kk.toNat kk.toNat)] (⟨H.pick [4,5,6,7] [0,1],(ro 20 rfl (xx H ti56 [.int .i64 0,.int .i64 0,Sv none 0 0,Sv none 0 0,Sv none 0 0,Sv none 0 0,Sv none 0 0,Sv none 0 0,Bv false] fun b36 w37 H=>⟨H.pick [5,6,7,8] [0,1],(ro 21 rfl ?_)⟩))⟩)
       refine xu H 0 [.int .i64 zi21,.int .i64 0,Sv ra29 zl28.length rc31,Sv (some ⟨b32,0,none⟩) kk.toNat kk.toNat,Sv (some ⟨b34,0,none⟩) kk.toNat kk.toNat,Sv none 0 0,Sv none 0 0,Sv none 0 0,Bv false] Tryz.sizeOf56 fun w38 H=>?_
       try dsimp only [List.set] at H
       refine ⟨H.pick [5,6,7,8] [0,1],(xg qh ((meet ⟨_,zi19,zi21,zi26,zl28,b36,ra29,rc31,b32,b34,zi27,uE5,hx17,hx18,hx24,hx25,N,H⟩)))⟩
      ·skip
       refine xx H ti56 [.int .i64 0,.int .i64 0,Sv none 0 0,Sv none 0 0,Sv none 0 0,Sv none 0 0,Sv none 0 0,Sv none 0 0,Bv false] fun b39 w40 H=>⟨H.pick [5,6,7,8] [0,1],(ro 19 rfl (xP [.int .i64 zi21,.int .i64 0,Sv ra29 zl28.length rc31,Sv (some ⟨b32,0,none⟩) kk.toNat kk.toNat,Sv (some ⟨b34,0,none⟩) kk.toNat kk.toNat,Sv none 0 0,Sv none 0 0,Sv none 0 0,Bv false] [(0,.int .i64 zi21),(2,Sv ra29 zl28.length rc31),(3,Sv (some ⟨b32,0,none⟩) kk.toNat kk.toNat),(4,Sv (some ⟨b34,0,none⟩) kk.toNat kk.toNat)] (⟨H.pick [5,6,7,8] [0,1],(ro 21 rfl ?_)⟩)))⟩
       refine xu H 0 [.int .i64 zi21,.int .i64 0,Sv ra29 zl28.length rc31,Sv (some ⟨b32,0,none⟩) kk.toNat kk.toNat,Sv (some ⟨b34,0,none⟩) kk.toNat kk.toNat,Sv none 0 0,Sv none 0 0,Sv none 0 0,Bv false] Tryz.sizeOf56 fun w41 H=>?_
       try dsimp only [List.set] at H
       refine ⟨H.pick [5,6,7,8] [0,1],(xg qh ((meet ⟨_,zi19,zi21,zi26,zl28,b39,ra29,rc31,b32,b34,zi27,uE5,hx17,hx18,hx24,hx25,N,H⟩)))⟩
     ·skip
      refine xx H ti56 [.int .i64 0,.int .i64 0,Sv none 0 0,Sv none 0 0,Sv none 0 0,Sv none 0 0,Sv none 0 0,Sv none 0 0,Bv false] fun b42 w43 H=>⟨H.pick [4,5,6,7] [0,1],(ro 18 rfl (zf H Tryz.underlying24 ti2 kk.toNat rfl rfl qf qf qf fun b44 w45 H=>⟨H.pick [5,6,7,8] [0,1],(ro 19 rfl ?_)⟩))⟩
      refine xP [.int .i64 zi21,.int .i64 0,Sv ra29 zl28.length rc31,Sv (some ⟨b32,0,none⟩) kk.toNat kk.toNat,Sv (some ⟨b44,0,none⟩) kk.toNat kk.toNat,Sv none 0 0,Sv none 0 0,Sv none 0 0,Bv false] [(0,.int .i64 zi21),(2,Sv ra29 zl28.length rc31),(3,Sv (some ⟨b32,0,none⟩) kk.toNat kk.toNat),(4,Sv (some ⟨b44,0,none⟩) kk.toNat kk.toNat)] (⟨H.pick [5,6,7,8] [0,1],(ro 21 rfl ?_)⟩)
      refine xu H 1 [.int .i64 zi21,.int .i64 0,Sv ra29 zl28.length rc31,Sv (some ⟨b32,0,none⟩) kk.toNat kk.toNat,Sv (some ⟨b44,0,none⟩) kk.toNat kk.toNat,Sv none 0 0,Sv none 0 0,Sv none 0 0,Bv false] Tryz.sizeOf56 fun w46 H=>?_
      try dsimp only [List.set] at H
      refine ⟨H.pick [5,6,7,8] [0,1],(xg qh ((meet ⟨_,zi19,zi21,zi26,zl28,b42,ra29,rc31,b32,b44,zi27,uE5,hx17,hx18,hx24,hx25,N,H.xH 9 2 [1,0,2,3,4,5,6,7,8] [0,1] qo qo⟩)))⟩
    ·skip
     refine zf H Tryz.underlying24 ti2 kk.toNat rfl rfl qf qf qf fun b47 w48 H=>⟨H.pick [3,4,5,6] [0,1],(zH [13,20] qh qm (vg rfl ?_ (vg rfl ?_ zI)))⟩
     ·skip
      refine zf H Tryz.underlying24 ti2 kk.toNat rfl rfl qf qf qf fun b49 w50 H=>⟨H.pick [4,5,6,7] [0,1],(zH [19,20] qh qm (vg rfl ?_ (vg rfl ?_ zI)))⟩
      ·skip
       refine xP [.int .i64 zi21,.int .i64 0,Sv ra29 zl28.length rc31,Sv (some ⟨b49,0,none⟩) kk.toNat kk.toNat,Sv (some ⟨b47,0,none⟩) kk.toNat kk.toNat,Sv none 0 0,Sv none 0 0,Sv none 0 0,Bv false] [(0,.int .i64 zi21),(2,Sv ra29 zl28.length rc31),(3,Sv (some ⟨b49,0,none⟩) kk.toNat kk.toNat),(4,Sv (some ⟨b47,0,none⟩) kk.toNat kk.toNat)] (⟨H.pick [4,5,6,7] [0,1],(ro 20 rfl (xx H ti56 [.int .i64 0,.int .i64 0,Sv none 0 0,Sv none 0 0,Sv none 0 0,Sv none 0 0,Sv none 0 0,Sv none 0 0,Bv false] fun b51 w52 H=>⟨H.pick [5,6,7,8] [0,1],(ro 21 rfl ?_)⟩))⟩)
       refine xu H 0 [.int .i64 zi21,.int .i64 0,Sv ra29 zl28.length rc31,Sv (some ⟨b49,0,none⟩) kk.toNat kk.toNat,Sv (some ⟨b47,0,none⟩) kk.toNat kk.toNat,Sv none 0 0,Sv none 0 0,Sv none 0 0,Bv false] Tryz.sizeOf56 fun w53 H=>?_
       try dsimp only [List.set] at H
       refine ⟨H.pick [5,6,7,8] [0,1],(xg qh ((meet ⟨_,zi19,zi21,zi26,zl28,b51,ra29,rc31,b49,b47,zi27,uE5,hx17,hx18,hx24,hx25,N,H.xH 9 2 [0,2,1,3,4,5,6,7,8] [0,1] qo qo⟩)))⟩
      ·skip
       refine xx H ti56 [.int .i64 0,.int .i64 0,Sv none 0 0,Sv none 0 0,Sv none 0 0,Sv none 0 0,Sv none 0 0,Sv none 0 0,Bv false] fun b54 w55 H=>⟨H.pick [5,6,7,8] [0,1],(ro 19 rfl (xP [.int .i64 zi21,.int .i64 0,Sv ra29 zl28.length rc31,Sv (some ⟨b49,0,none⟩) kk.toNat kk.toNat,Sv (some ⟨b47,0,none⟩) kk.toNat kk.toNat,Sv none 0 0,Sv none 0 0,Sv none 0 0,Bv false] [(0,.int .i64 zi21),(2,Sv ra29 zl28.length rc31),(3,Sv (some ⟨b49,0,none⟩) kk.toNat kk.toNat),(4,Sv (some ⟨b47,0,none⟩) kk.toNat kk.toNat)] (⟨H.pick [5,6,7,8] [0,1],(ro 21 rfl ?_)⟩)))⟩
       refine xu H 0 [.int .i64 zi21,.int .i64 0,Sv ra29 zl28.length rc31,Sv (some ⟨b49,0,none⟩) kk.toNat kk.toNat,Sv (some ⟨b47,0,none⟩) kk.toNat kk.toNat,Sv none 0 0,Sv none 0 0,Sv none 0 0,Bv false] Tryz.sizeOf56 fun w56 H=>?_
       try dsimp only [List.set] at H
       refine ⟨H.pick [5,6,7,8] [0,1],(xg qh ((meet ⟨_,zi19,zi21,zi26,zl28,b54,ra29,rc31,b49,b47,zi27,uE5,hx17,hx18,hx24,hx25,N,H.xH 9 2 [0,2,1,3,4,5,6,7,8] [0,1] qo qo⟩)))⟩
     ·skip
      refine xx H ti56 [.int .i64 0,.int .i64 0,Sv none 0 0,Sv none 0 0,Sv none 0 0,Sv none 0 0,Sv none 0 0,Sv none 0 0,Bv false] fun b57 w58 H=>⟨H.pick [4,5,6,7] [0,1],(ro 13 rfl (zf H Tryz.underlying24 ti2 kk.toNat rfl rfl qf qf qf fun b59 w60 H=>⟨H.pick [5,6,7,8] [0,1],(ro 19 rfl ?_)⟩))⟩
      refine xP [.int .i64 zi21,.int .i64 0,Sv ra29 zl28.length rc31,Sv (some ⟨b59,0,none⟩) kk.toNat kk.toNat,Sv (some ⟨b47,0,none⟩) kk.toNat kk.toNat,Sv none 0 0,Sv none 0 0,Sv none 0 0,Bv false] [(0,.int .i64 zi21),(2,Sv ra29 zl28.length rc31),(3,Sv (some ⟨b59,0,none⟩) kk.toNat kk.toNat),(4,Sv (some ⟨b47,0,none⟩) kk.toNat kk.toNat)] (⟨H.pick [5,6,7,8] [0,1],(ro 21 rfl ?_)⟩)
      refine xu H 1 [.int .i64 zi21,.int .i64 0,Sv ra29 zl28.length rc31,Sv (some ⟨b59,0,none⟩) kk.toNat kk.toNat,Sv (some ⟨b47,0,none⟩) kk.toNat kk.toNat,Sv none 0 0,Sv none 0 0,Sv none 0 0,Bv false] Tryz.sizeOf56 fun w61 H=>?_
      try dsimp only [List.set] at H
      refine ⟨H.pick [5,6,7,8] [0,1],(xg qh ((meet ⟨_,zi19,zi21,zi26,zl28,b57,ra29,rc31,b59,b47,zi27,uE5,hx17,hx18,hx24,hx25,N,H.xH 9 2 [1,2,0,3,4,5,6,7,8] [0,1] qo qo⟩)))⟩
    ·skip
     refine xx H ti56 [.int .i64 0,.int .i64 0,Sv none 0 0,Sv none 0 0,Sv none 0 0,Sv none 0 0,Sv none 0 0,Sv none 0 0,Bv false] fun b62 w63 H=>⟨H.pick [3,4,5,6] [0,1],(zH [13,18] qh qm (vg rfl ?_ (vg rfl ?_ zI)))⟩
     ·skip
      refine zf H Tryz.underlying24 ti2 kk.toNat rfl rfl qf qf qf fun b64 w65 H=>⟨H.pick [4,5,6,7] [0,1],(ro 18 rfl (zf H Tryz.underlying24 ti2 kk.toNat rfl rfl qf qf qf fun b66 w67 H=>⟨H.pick [5,6,7,8] [0,1],(ro 19 rfl (xP [.int .i64 zi21,.int .i64 0,Sv ra29 zl28.length rc31,Sv (some ⟨b64,0,none⟩) kk.toNat kk.toNat,Sv (some ⟨b66,0,none⟩) kk.toNat kk.toNat,Sv none 0 0,Sv none 0 0,Sv none 0 0,Bv false] [(0,.int .i64 zi21),(2,Sv ra29 zl28.length rc31),(3,Sv (some ⟨b64,0,none⟩) kk.toNat kk.toNat),(4,Sv (some ⟨b66,0,none⟩) kk.toNat kk.toNat)] ?_))⟩))⟩
      refine ⟨H.pick [5,6,7,8] [0,1],(ro 21 rfl (xu H 2 [.int .i64 zi21,.int .i64 0,Sv ra29 zl28.length rc31,Sv (some ⟨b64,0,none⟩) kk.toNat kk.toNat,Sv (some ⟨b66,0,none⟩) kk.toNat kk.toNat,Sv none 0 0,Sv none 0 0,Sv none 0 0,Bv false] Tryz.sizeOf56 fun w68 H=>?_))⟩
      try dsimp only [List.set] at H
      refine ⟨H.pick [5,6,7,8] [0,1],(xg qh ((meet ⟨_,zi19,zi21,zi26,zl28,b62,ra29,rc31,b64,b66,zi27,uE5,hx17,hx18,hx24,hx25,N,H.xH 9 2 [2,0,1,3,4,5,6,7,8] [0,1] qo qo⟩)))⟩
     ·skip
      refine zf H Tryz.underlying24 ti2 kk.toNat rfl rfl qf qf qf fun b69 w70 H=>⟨H.pick [4,5,6,7] [0,1],(ro 13 rfl (zf H Tryz.underlying24 ti2 kk.toNat rfl rfl qf qf qf fun b71 w72 H=>⟨H.pick [5,6,7,8] [0,1],(ro 19 rfl (xP [.int .i64 zi21,.int .i64 0,Sv ra29 zl28.length rc31,Sv (some ⟨b71,0,none⟩) kk.toNat kk.toNat,Sv (some ⟨b69,0,none⟩) kk.toNat kk.toNat,Sv none 0 0,Sv none 0 0,Sv none 0 0,Bv false] [(0,.int .i64 zi21),(2,Sv ra29 zl28.length rc31),(3,Sv (some ⟨b71,0,none⟩) kk.toNat kk.toNat),(4,Sv (some ⟨b69,0,none⟩) kk.toNat kk.toNat)] ?_))⟩))⟩
      refine ⟨H.pick [5,6,7,8] [0,1],(ro 21 rfl (xu H 2 [.int .i64 zi21,.int .i64 0,Sv ra29 zl28.length rc31,Sv (some ⟨b71,0,none⟩) kk.toNat kk.toNat,Sv (some ⟨b69,0,none⟩) kk.toNat kk.toNat,Sv none 0 0,Sv none 0 0,Sv none 0 0,Bv false] Tryz.sizeOf56 fun w73 H=>?_))⟩
      try dsimp only [List.set] at H
      refine ⟨H.pick [5,6,7,8] [0,1],(xg qh ((meet ⟨_,zi19,zi21,zi26,zl28,b62,ra29,rc31,b71,b69,zi27,uE5,hx17,hx18,hx24,hx25,N,H.xH 9 2 [2,1,0,3,4,5,6,7,8] [0,1] qo qo⟩)))⟩
   ·skip
    refine zf H Tryz.underlying24 ti2 kk.toNat rfl rfl qf qf qf fun b74 w75 H=>⟨H.pick [2,3,4,5] [0,1],(zH [8,18,20] qh qm (vg rfl ?_ (vg rfl ?_ (vg rfl ?_ zI))))⟩
    ·skip
     have H1:St W0 w75 ((.box bs [Sv ac code.length cc,.int .i64 zi19,.int .u64 zi20] 127) :: (rr (some ⟨b74,0,none⟩) kk.toNat kk.toNat 2 1 ((List.replicate kk.toNat (0:Int)).map (Value.int .i64))) :: (.box b1 [.int .i64 0,.int .i64 0,Sv none 0 0,Sv none 0 0,Sv none 0 0,Sv none 0 0,Sv none 0 0,Sv none 0 0,Bv false] 56) :: (.box bY [.int .i64 kk,Sv rap par.length rcp,Sv raR rules.length rcR] 27) :: (rr rap par.length rcp 2 1 (par.map (Value.int .i64))) :: (rr raR rules.length rcR 56 9 rxR) :: ps) ((sF false Fc ac cc code) :: (qX true rFR rxR rules) :: Γ):=H.xH 6 2 [1,0,2,3,4,5] [0,1] qo qo
     have N1:Fresh _ (rFR :: Ns):=N
     have K1:Kept (Ns) ((qX true rFR rxR rules) :: Γ):=K0.behind 1 rfl
     replace K1:=K1.cons (F:=rFR) 0 rfl rfl
     refine xR #[.pointer (some ⟨bs,0,none⟩),.int .i64 kk,.int .i64 2] rfl rfl Tryz.call188 (zT code zi19 zi20 bs ac cc Fc kk (2:Int) H1 N1 K1 qg qg qg) ?_
     clear H H1 N1 K1
     rintro _ w76 ⟨zi80,zi81,zl82,ra83,rn84,rc85,hx78,hx79,rfl,N,H⟩
     obtain rfl:=H.vM 1 rfl
     refine ⟨H.pick [3,4,5,6] [0,1],(zH [18,20] qh qm (vg rfl ?_ (vg rfl ?_ zI)))⟩
     ·skip
      refine zf H Tryz.underlying24 ti2 kk.toNat rfl rfl qf qf qf fun b86 w87 H=>⟨H.pick [4,5,6,7] [0,1],(zH [19,20] qh qm (vg rfl ?_ (vg rfl ?_ zI)))⟩
      ·skip
       refine xP [.int .i64 zi21,.int .i64 0,Sv ra83 zl82.length rc85,Sv (some ⟨b74,0,none⟩) kk.toNat kk.toNat,Sv (some ⟨b86,0,none⟩) kk.toNat kk.toNat,Sv none 0 0,Sv none 0 0,Sv none 0 0,Bv false] [(0,.int .i64 zi21),(2,Sv ra83 zl82.length rc85),(3,Sv (some ⟨b74,0,none⟩) kk.toNat kk.toNat),(4,Sv (some ⟨b86,0,none⟩) kk.toNat kk.toNat)] (⟨H.pick [4,5,6,7] [0,1],(ro 20 rfl (xx H ti56 [.int .i64 0,.int .i64 0,Sv none 0 0,Sv none 0 0,Sv none 0 0,Sv none 0 0,Sv none 0 0,Sv none 0 0,Bv false] fun b88 w89 H=>⟨H.pick [5,6,7,8] [0,1],(ro 21 rfl ?_)⟩))⟩)
       refine xu H 0 [.int .i64 zi21,.int .i64 0,Sv ra83 zl82.length rc85,Sv (some ⟨b74,0,none⟩) kk.toNat kk.toNat,Sv (some ⟨b86,0,none⟩) kk.toNat kk.toNat,Sv none 0 0,Sv none 0 0,Sv none 0 0,Bv false] Tryz.sizeOf56 fun w90 H=>?_
       try dsimp only [List.set] at H
       refine ⟨H.pick [5,6,7,8] [0,1],(xg qh ((meet ⟨_,zi19,zi21,zi80,zl82,b88,ra83,rc85,b74,b86,zi81,uE5,hx17,hx18,hx78,hx79,N,H.xH 9 2 [0,1,4,2,3,5,6,7,8] [0,1] qo qo⟩)))⟩
      ·skip
       refine xx H ti56 [.int .i64 0,.int .i64 0,Sv none 0 0,Sv none 0 0,Sv none 0 0,Sv none 0 0,Sv none 0 0,Sv none 0 0,Bv false] fun b91 w92 H=>⟨H.pick [5,6,7,8] [0,1],(ro 19 rfl (xP [.int .i64 zi21,.int .i64 0,Sv ra83 zl82.length rc85,Sv (some ⟨b74,0,none⟩) kk.toNat kk.toNat,Sv (some ⟨b86,0,none⟩) kk.toNat kk.toNat,Sv none 0 0,Sv none 0 0,Sv none 0 0,Bv false] [(0,.int .i64 zi21),(2,Sv ra83 zl82.length rc85),(3,Sv (some ⟨b74,0,none⟩) kk.toNat kk.toNat),(4,Sv (some ⟨b86,0,none⟩) kk.toNat kk.toNat)] (⟨H.pick [5,6,7,8] [0,1],(ro 21 rfl ?_)⟩)))⟩
       refine xu H 0 [.int .i64 zi21,.int .i64 0,Sv ra83 zl82.length rc85,Sv (some ⟨b74,0,none⟩) kk.toNat kk.toNat,Sv (some ⟨b86,0,none⟩) kk.toNat kk.toNat,Sv none 0 0,Sv none 0 0,Sv none 0 0,Bv false] Tryz.sizeOf56 fun w93 H=>?_
       try dsimp only [List.set] at H
       refine ⟨H.pick [5,6,7,8] [0,1],(xg qh ((meet ⟨_,zi19,zi21,zi80,zl82,b91,ra83,rc85,b74,b86,zi81,uE5,hx17,hx18,hx78,hx79,N,H.xH 9 2 [0,1,4,2,3,5,6,7,8] [0,1] qo qo⟩)))⟩
     ·skip
      refine xx H ti56 [.int .i64 0,.int .i64 0,Sv none 0 0,Sv none 0 0,Sv none 0 0,Sv none 0 0,Sv none 0 0,Sv none 0 0,Bv false] fun b94 w95 H=>⟨H.pick [4,5,6,7] [0,1],(ro 18 rfl (zf H Tryz.underlying24 ti2 kk.toNat rfl rfl qf qf qf fun b96 w97 H=>⟨H.pick [5,6,7,8] [0,1],(ro 19 rfl ?_)⟩))⟩
      refine xP [.int .i64 zi21,.int .i64 0,Sv ra83 zl82.length rc85,Sv (some ⟨b74,0,none⟩) kk.toNat kk.toNat,Sv (some ⟨b96,0,none⟩) kk.toNat kk.toNat,Sv none 0 0,Sv none 0 0,Sv none 0 0,Bv false] [(0,.int .i64 zi21),(2,Sv ra83 zl82.length rc85),(3,Sv (some ⟨b74,0,none⟩) kk.toNat kk.toNat),(4,Sv (some ⟨b96,0,none⟩) kk.toNat kk.toNat)] (⟨H.pick [5,6,7,8] [0,1],(ro 21 rfl ?_)⟩)
      refine xu H 1 [.int .i64 zi21,.int .i64 0,Sv ra83 zl82.length rc85,Sv (some ⟨b74,0,none⟩) kk.toNat kk.toNat,Sv (some ⟨b96,0,none⟩) kk.toNat kk.toNat,Sv none 0 0,Sv none 0 0,Sv none 0 0,Bv false] Tryz.sizeOf56 fun w98 H=>?_
      try dsimp only [List.set] at H
      refine ⟨H.pick [5,6,7,8] [0,1],(xg qh ((meet ⟨_,zi19,zi21,zi80,zl82,b94,ra83,rc85,b74,b96,zi81,uE5,hx17,hx18,hx78,hx79,N,H.xH 9 2 [1,0,4,2,3,5,6,7,8] [0,1] qo qo⟩)))⟩
    ·skip
     refine zf H Tryz.underlying24 ti2 kk.toNat rfl rfl qf qf qf fun b99 w100 H=>⟨H.pick [3,4,5,6] [0,1],(zH [8,20] qh qm (vg rfl ?_ (vg rfl ?_ zI)))⟩
     ·skip
      have H1:St W0 w100 ((.box bs [Sv ac code.length cc,.int .i64 zi19,.int .u64 zi20] 127) :: (rr (some ⟨b99,0,none⟩) kk.toNat kk.toNat 2 1 ((List.replicate kk.toNat (0:Int)).map (Value.int .i64))) :: (rr (some ⟨b74,0,none⟩) kk.toNat kk.toNat 2 1 ((List.replicate kk.toNat (0:Int)).map (Value.int .i64))) :: (.box b1 [.int .i64 0,.int .i64 0,Sv none 0 0,Sv none 0 0,Sv none 0 0,Sv none 0 0,Sv none 0 0,Sv none 0 0,Bv false] 56) :: (.box bY [.int .i64 kk,Sv rap par.length rcp,Sv raR rules.length rcR] 27) :: (rr rap par.length rcp 2 1 (par.map (Value.int .i64))) :: (rr raR rules.length rcR 56 9 rxR) :: ps) ((sF false Fc ac cc code) :: (qX true rFR rxR rules) :: Γ):=H.xH 7 2 [2,0,1,3,4,5,6] [0,1] qo qo
      have N1:Fresh _ (rFR :: Ns):=N
      have K1:Kept (Ns) ((qX true rFR rxR rules) :: Γ):=K0.behind 1 rfl
      replace K1:=K1.cons (F:=rFR) 0 rfl rfl
      refine xR #[.pointer (some ⟨bs,0,none⟩),.int .i64 kk,.int .i64 2] rfl rfl Tryz.call188 (zT code zi19 zi20 bs ac cc Fc kk (2:Int) H1 N1 K1 qg qg qg) ?_
      clear H H1 N1 K1
      rintro _ w101 ⟨zi105,zi106,zl107,ra108,rn109,rc110,hx103,hx104,rfl,N,H⟩
      obtain rfl:=H.vM 1 rfl
      refine ⟨H.pick [4,5,6,7] [0,1],(zH [19,20] qh qm (vg rfl ?_ (vg rfl ?_ zI)))⟩
      ·skip
       refine xP [.int .i64 zi21,.int .i64 0,Sv ra108 zl107.length rc110,Sv (some ⟨b74,0,none⟩) kk.toNat kk.toNat,Sv (some ⟨b99,0,none⟩) kk.toNat kk.toNat,Sv none 0 0,Sv none 0 0,Sv none 0 0,Bv false] [(0,.int .i64 zi21),(2,Sv ra108 zl107.length rc110),(3,Sv (some ⟨b74,0,none⟩) kk.toNat kk.toNat),(4,Sv (some ⟨b99,0,none⟩) kk.toNat kk.toNat)] (⟨H.pick [4,5,6,7] [0,1],(ro 20 rfl (xx H ti56 [.int .i64 0,.int .i64 0,Sv none 0 0,Sv none 0 0,Sv none 0 0,Sv none 0 0,Sv none 0 0,Sv none 0 0,Bv false] fun b111 w112 H=>⟨H.pick [5,6,7,8] [0,1],(ro 21 rfl ?_)⟩))⟩)
       refine xu H 0 [.int .i64 zi21,.int .i64 0,Sv ra108 zl107.length rc110,Sv (some ⟨b74,0,none⟩) kk.toNat kk.toNat,Sv (some ⟨b99,0,none⟩) kk.toNat kk.toNat,Sv none 0 0,Sv none 0 0,Sv none 0 0,Bv false] Tryz.sizeOf56 fun w113 H=>?_
       try dsimp only [List.set] at H
       refine ⟨H.pick [5,6,7,8] [0,1],(xg qh ((meet ⟨_,zi19,zi21,zi105,zl107,b111,ra108,rc110,b74,b99,zi106,uE5,hx17,hx18,hx103,hx104,N,H.xH 9 2 [0,3,4,1,2,5,6,7,8] [0,1] qo qo⟩)))⟩
      ·skip
       refine xx H ti56 [.int .i64 0,.int .i64 0,Sv none 0 0,Sv none 0 0,Sv none 0 0,Sv none 0 0,Sv none 0 0,Sv none 0 0,Bv false] fun b114 w115 H=>⟨H.pick [5,6,7,8] [0,1],(ro 19 rfl (xP [.int .i64 zi21,.int .i64 0,Sv ra108 zl107.length rc110,Sv (some ⟨b74,0,none⟩) kk.toNat kk.toNat,Sv (some ⟨b99,0,none⟩) kk.toNat kk.toNat,Sv none 0 0,Sv none 0 0,Sv none 0 0,Bv false] [(0,.int .i64 zi21),(2,Sv ra108 zl107.length rc110),(3,Sv (some ⟨b74,0,none⟩) kk.toNat kk.toNat),(4,Sv (some ⟨b99,0,none⟩) kk.toNat kk.toNat)] (⟨H.pick [5,6,7,8] [0,1],(ro 21 rfl ?_)⟩)))⟩
       refine xu H 0 [.int .i64 zi21,.int .i64 0,Sv ra108 zl107.length rc110,Sv (some ⟨b74,0,none⟩) kk.toNat kk.toNat,Sv (some ⟨b99,0,none⟩) kk.toNat kk.toNat,Sv none 0 0,Sv none 0 0,Sv none 0 0,Bv false] Tryz.sizeOf56 fun w116 H=>?_
       try dsimp only [List.set] at H
       refine ⟨H.pick [5,6,7,8] [0,1],(xg qh ((meet ⟨_,zi19,zi21,zi105,zl107,b114,ra108,rc110,b74,b99,zi106,uE5,hx17,hx18,hx103,hx104,N,H.xH 9 2 [0,3,4,1,2,5,6,7,8] [0,1] qo qo⟩)))⟩
     ·skip
      refine xx H ti56 [.int .i64 0,.int .i64 0,Sv none 0 0,Sv none 0 0,Sv none 0 0,Sv none 0 0,Sv none 0 0,Sv none 0 0,Bv false] fun b117 w118 H=>⟨H.pick [4,5,6,7] [0,1],(ro 8 rfl ?_)⟩
      have H1:St W0 w118 ((.box bs [Sv ac code.length cc,.int .i64 zi19,.int .u64 zi20] 127) :: (.box b117 [.int .i64 0,.int .i64 0,Sv none 0 0,Sv none 0 0,Sv none 0 0,Sv none 0 0,Sv none 0 0,Sv none 0 0,Bv false] 56) :: (rr (some ⟨b99,0,none⟩) kk.toNat kk.toNat 2 1 ((List.replicate kk.toNat (0:Int)).map (Value.int .i64))) :: (rr (some ⟨b74,0,none⟩) kk.toNat kk.toNat 2 1 ((List.replicate kk.toNat (0:Int)).map (Value.int .i64))) :: (.box b1 [.int .i64 0,.int .i64 0,Sv none 0 0,Sv none 0 0,Sv none 0 0,Sv none 0 0,Sv none 0 0,Sv none 0 0,Bv false] 56) :: (.box bY [.int .i64 kk,Sv rap par.length rcp,Sv raR rules.length rcR] 27) :: (rr rap par.length rcp 2 1 (par.map (Value.int .i64))) :: (rr raR rules.length rcR 56 9 rxR) :: ps) ((sF false Fc ac cc code) :: (qX true rFR rxR rules) :: Γ):=H.xH 8 2 [3,0,1,2,4,5,6,7] [0,1] qo qo
      have N1:Fresh _ (rFR :: Ns):=N
      have K1:Kept (Ns) ((qX true rFR rxR rules) :: Γ):=K0.behind 1 rfl
      replace K1:=K1.cons (F:=rFR) 0 rfl rfl
      refine xR #[.pointer (some ⟨bs,0,none⟩),.int .i64 kk,.int .i64 2] rfl rfl Tryz.call188 (zT code zi19 zi20 bs ac cc Fc kk (2:Int) H1 N1 K1 qg qg qg) ?_
      clear H H1 N1 K1
      rintro _ w119 ⟨zi123,zi124,zl125,ra126,rn127,rc128,hx121,hx122,rfl,N,H⟩
      obtain rfl:=H.vM 1 rfl
      refine ⟨H.pick [5,6,7,8] [0,1],(ro 19 rfl (xP [.int .i64 zi21,.int .i64 0,Sv ra126 zl125.length rc128,Sv (some ⟨b74,0,none⟩) kk.toNat kk.toNat,Sv (some ⟨b99,0,none⟩) kk.toNat kk.toNat,Sv none 0 0,Sv none 0 0,Sv none 0 0,Bv false] [(0,.int .i64 zi21),(2,Sv ra126 zl125.length rc128),(3,Sv (some ⟨b74,0,none⟩) kk.toNat kk.toNat),(4,Sv (some ⟨b99,0,none⟩) kk.toNat kk.toNat)] (⟨H.pick [5,6,7,8] [0,1],(ro 21 rfl ?_)⟩)))⟩
      refine xu H 2 [.int .i64 zi21,.int .i64 0,Sv ra126 zl125.length rc128,Sv (some ⟨b74,0,none⟩) kk.toNat kk.toNat,Sv (some ⟨b99,0,none⟩) kk.toNat kk.toNat,Sv none 0 0,Sv none 0 0,Sv none 0 0,Bv false] Tryz.sizeOf56 fun w129 H=>?_
      try dsimp only [List.set] at H
      refine ⟨H.pick [5,6,7,8] [0,1],(xg qh ((meet ⟨_,zi19,zi21,zi123,zl125,b117,ra126,rc128,b74,b99,zi124,uE5,hx17,hx18,hx121,hx122,N,H.xH 9 2 [2,3,4,0,1,5,6,7,8] [0,1] qo qo⟩)))⟩
    ·skip
     refine xx H ti56 [.int .i64 0,.int .i64 0,Sv none 0 0,Sv none 0 0,Sv none 0 0,Sv none 0 0,Sv none 0 0,Sv none 0 0,Bv false] fun b130 w131 H=>⟨H.pick [3,4,5,6] [0,1],(zH [8,18] qh qm (vg rfl ?_ (vg rfl ?_ zI)))⟩
     ·skip
      have H1:St W0 w131 ((.box bs [Sv ac code.length cc,.int .i64 zi19,.int .u64 zi20] 127) :: (.box b130 [.int .i64 0,.int .i64 0,Sv none 0 0,Sv none 0 0,Sv none 0 0,Sv none 0 0,Sv none 0 0,Sv none 0 0,Bv false] 56) :: (rr (some ⟨b74,0,none⟩) kk.toNat kk.toNat 2 1 ((List.replicate kk.toNat (0:Int)).map (Value.int .i64))) :: (.box b1 [.int .i64 0,.int .i64 0,Sv none 0 0,Sv none 0 0,Sv none 0 0,Sv none 0 0,Sv none 0 0,Sv none 0 0,Bv false] 56) :: (.box bY [.int .i64 kk,Sv rap par.length rcp,Sv raR rules.length rcR] 27) :: (rr rap par.length rcp 2 1 (par.map (Value.int .i64))) :: (rr raR rules.length rcR 56 9 rxR) :: ps) ((sF false Fc ac cc code) :: (qX true rFR rxR rules) :: Γ):=H.xH 7 2 [2,0,1,3,4,5,6] [0,1] qo qo
      have N1:Fresh _ (rFR :: Ns):=N
      have K1:Kept (Ns) ((qX true rFR rxR rules) :: Γ):=K0.behind 1 rfl
      replace K1:=K1.cons (F:=rFR) 0 rfl rfl
      refine xR #[.pointer (some ⟨bs,0,none⟩),.int .i64 kk,.int .i64 2] rfl rfl Tryz.call188 (zT code zi19 zi20 bs ac cc Fc kk (2:Int) H1 N1 K1 qg qg qg) ?_
      clear H H1 N1 K1
      rintro _ w132 ⟨zi136,zi137,zl138,ra139,rn140,rc141,hx134,hx135,rfl,N,H⟩
      obtain rfl:=H.vM 1 rfl
      refine ⟨H.pick [4,5,6,7] [0,1],(ro 18 rfl (zf H Tryz.underlying24 ti2 kk.toNat rfl rfl qf qf qf fun b142 w143 H=>⟨H.pick [5,6,7,8] [0,1],(ro 19 rfl (xP [.int .i64 zi21,.int .i64 0,Sv ra139 zl138.length rc141,Sv (some ⟨b74,0,none⟩) kk.toNat kk.toNat,Sv (some ⟨b142,0,none⟩) kk.toNat kk.toNat,Sv none 0 0,Sv none 0 0,Sv none 0 0,Bv false] [(0,.int .i64 zi21),(2,Sv ra139 zl138.length rc141),(3,Sv (some ⟨b74,0,none⟩) kk.toNat kk.toNat),(4,Sv (some ⟨b142,0,none⟩) kk.toNat kk.toNat)] (⟨H.pick [5,6,7,8] [0,1],(ro 21 rfl ?_)⟩)))⟩))⟩
      refine xu H 3 [.int .i64 zi21,.int .i64 0,Sv ra139 zl138.length rc141,Sv (some ⟨b74,0,none⟩) kk.toNat kk.toNat,Sv (some ⟨b142,0,none⟩) kk.toNat kk.toNat,Sv none 0 0,Sv none 0 0,Sv none 0 0,Bv false] Tryz.sizeOf56 fun w144 H=>?_
      try dsimp only [List.set] at H
      refine ⟨H.pick [5,6,7,8] [0,1],(xg qh ((meet ⟨_,zi19,zi21,zi136,zl138,b130,ra139,rc141,b74,b142,zi137,uE5,hx17,hx18,hx134,hx135,N,H.xH 9 2 [3,0,4,1,2,5,6,7,8] [0,1] qo qo⟩)))⟩
     ·skip
      refine zf H Tryz.underlying24 ti2 kk.toNat rfl rfl qf qf qf fun b145 w146 H=>⟨H.pick [4,5,6,7] [0,1],(ro 8 rfl ?_)⟩
      have H1:St W0 w146 ((.box bs [Sv ac code.length cc,.int .i64 zi19,.int .u64 zi20] 127) :: (rr (some ⟨b145,0,none⟩) kk.toNat kk.toNat 2 1 ((List.replicate kk.toNat (0:Int)).map (Value.int .i64))) :: (.box b130 [.int .i64 0,.int .i64 0,Sv none 0 0,Sv none 0 0,Sv none 0 0,Sv none 0 0,Sv none 0 0,Sv none 0 0,Bv false] 56) :: (rr (some ⟨b74,0,none⟩) kk.toNat kk.toNat 2 1 ((List.replicate kk.toNat (0:Int)).map (Value.int .i64))) :: (.box b1 [.int .i64 0,.int .i64 0,Sv none 0 0,Sv none 0 0,Sv none 0 0,Sv none 0 0,Sv none 0 0,Sv none 0 0,Bv false] 56) :: (.box bY [.int .i64 kk,Sv rap par.length rcp,Sv raR rules.length rcR] 27) :: (rr rap par.length rcp 2 1 (par.map (Value.int .i64))) :: (rr raR rules.length rcR 56 9 rxR) :: ps) ((sF false Fc ac cc code) :: (qX true rFR rxR rules) :: Γ):=H.xH 8 2 [3,0,1,2,4,5,6,7] [0,1] qo qo
      have N1:Fresh _ (rFR :: Ns):=N
      have K1:Kept (Ns) ((qX true rFR rxR rules) :: Γ):=K0.behind 1 rfl
      replace K1:=K1.cons (F:=rFR) 0 rfl rfl
      refine xR #[.pointer (some ⟨bs,0,none⟩),.int .i64 kk,.int .i64 2] rfl rfl Tryz.call188 (zT code zi19 zi20 bs ac cc Fc kk (2:Int) H1 N1 K1 qg qg qg) ?_
      clear H H1 N1 K1
      rintro _ w147 ⟨zi151,zi152,zl153,ra154,rn155,rc156,hx149,hx150,rfl,N,H⟩
      obtain rfl:=H.vM 1 rfl
      refine ⟨H.pick [5,6,7,8] [0,1],(ro 19 rfl (xP [.int .i64 zi21,.int .i64 0,Sv ra154 zl153.length rc156,Sv (some ⟨b74,0,none⟩) kk.toNat kk.toNat,Sv (some ⟨b145,0,none⟩) kk.toNat kk.toNat,Sv none 0 0,Sv none 0 0,Sv none 0 0,Bv false] [(0,.int .i64 zi21),(2,Sv ra154 zl153.length rc156),(3,Sv (some ⟨b74,0,none⟩) kk.toNat kk.toNat),(4,Sv (some ⟨b145,0,none⟩) kk.toNat kk.toNat)] (⟨H.pick [5,6,7,8] [0,1],(ro 21 rfl ?_)⟩)))⟩
      refine xu H 3 [.int .i64 zi21,.int .i64 0,Sv ra154 zl153.length rc156,Sv (some ⟨b74,0,none⟩) kk.toNat kk.toNat,Sv (some ⟨b145,0,none⟩) kk.toNat kk.toNat,Sv none 0 0,Sv none 0 0,Sv none 0 0,Bv false] Tryz.sizeOf56 fun w157 H=>?_
      try dsimp only [List.set] at H
      refine ⟨H.pick [5,6,7,8] [0,1],(xg qh ((meet ⟨_,zi19,zi21,zi151,zl153,b130,ra154,rc156,b74,b145,zi152,uE5,hx17,hx18,hx149,hx150,N,H.xH 9 2 [3,2,4,0,1,5,6,7,8] [0,1] qo qo⟩)))⟩
   ·skip
    refine zf H Tryz.underlying24 ti2 kk.toNat rfl rfl qf qf qf fun b158 w159 H=>⟨H.pick [2,3,4,5] [0,1],(zH [8,13,20] qh qm (vg rfl ?_ (vg rfl ?_ (vg rfl ?_ zI))))⟩
    ·skip
     have H1:St W0 w159 ((.box bs [Sv ac code.length cc,.int .i64 zi19,.int .u64 zi20] 127) :: (rr (some ⟨b158,0,none⟩) kk.toNat kk.toNat 2 1 ((List.replicate kk.toNat (0:Int)).map (Value.int .i64))) :: (.box b1 [.int .i64 0,.int .i64 0,Sv none 0 0,Sv none 0 0,Sv none 0 0,Sv none 0 0,Sv none 0 0,Sv none 0 0,Bv false] 56) :: (.box bY [.int .i64 kk,Sv rap par.length rcp,Sv raR rules.length rcR] 27) :: (rr rap par.length rcp 2 1 (par.map (Value.int .i64))) :: (rr raR rules.length rcR 56 9 rxR) :: ps) ((sF false Fc ac cc code) :: (qX true rFR rxR rules) :: Γ):=H.xH 6 2 [1,0,2,3,4,5] [0,1] qo qo
     have N1:Fresh _ (rFR :: Ns):=N
     have K1:Kept (Ns) ((qX true rFR rxR rules) :: Γ):=K0.behind 1 rfl
     replace K1:=K1.cons (F:=rFR) 0 rfl rfl
     refine xR #[.pointer (some ⟨bs,0,none⟩),.int .i64 kk,.int .i64 2] rfl rfl Tryz.call188 (zT code zi19 zi20 bs ac cc Fc kk (2:Int) H1 N1 K1 qg qg qg) ?_
     clear H H1 N1 K1
     rintro _ w160 ⟨zi164,zi165,zl166,ra167,rn168,rc169,hx162,hx163,rfl,N,H⟩
     obtain rfl:=H.vM 1 rfl
     refine ⟨H.pick [3,4,5,6] [0,1],(zH [13,20] qh qm (vg rfl ?_ (vg rfl ?_ zI)))⟩
     ·skip
      refine zf H Tryz.underlying24 ti2 kk.toNat rfl rfl qf qf qf fun b170 w171 H=>⟨H.pick [4,5,6,7] [0,1],(zH [19,20] qh qm (vg rfl ?_ (vg rfl ?_ zI)))⟩
      ·skip
       refine xP [.int .i64 zi21,.int .i64 0,Sv ra167 zl166.length rc169,Sv (some ⟨b170,0,none⟩) kk.toNat kk.toNat,Sv (some ⟨b158,0,none⟩) kk.toNat kk.toNat,Sv none 0 0,Sv none 0 0,Sv none 0 0,Bv false] [(0,.int .i64 zi21),(2,Sv ra167 zl166.length rc169),(3,Sv (some ⟨b170,0,none⟩) kk.toNat kk.toNat),(4,Sv (some ⟨b158,0,none⟩) kk.toNat kk.toNat)] (⟨H.pick [4,5,6,7] [0,1],(ro 20 rfl (xx H ti56 [.int .i64 0,.int .i64 0,Sv none 0 0,Sv none 0 0,Sv none 0 0,Sv none 0 0,Sv none 0 0,Sv none 0 0,Bv false] fun b172 w173 H=>⟨H.pick [5,6,7,8] [0,1],(ro 21 rfl ?_)⟩))⟩)
       refine xu H 0 [.int .i64 zi21,.int .i64 0,Sv ra167 zl166.length rc169,Sv (some ⟨b170,0,none⟩) kk.toNat kk.toNat,Sv (some ⟨b158,0,none⟩) kk.toNat kk.toNat,Sv none 0 0,Sv none 0 0,Sv none 0 0,Bv false] Tryz.sizeOf56 fun w174 H=>?_
       try dsimp only [List.set] at H
       refine ⟨H.pick [5,6,7,8] [0,1],(xg qh ((meet ⟨_,zi19,zi21,zi164,zl166,b172,ra167,rc169,b170,b158,zi165,uE5,hx17,hx18,hx162,hx163,N,H.xH 9 2 [0,4,1,2,3,5,6,7,8] [0,1] qo qo⟩)))⟩
      ·skip
       refine xx H ti56 [.int .i64 0,.int .i64 0,Sv none 0 0,Sv none 0 0,Sv none 0 0,Sv none 0 0,Sv none 0 0,Sv none 0 0,Bv false] fun b175 w176 H=>⟨H.pick [5,6,7,8] [0,1],(ro 19 rfl (xP [.int .i64 zi21,.int .i64 0,Sv ra167 zl166.length rc169,Sv (some ⟨b170,0,none⟩) kk.toNat kk.toNat,Sv (some ⟨b158,0,none⟩) kk.toNat kk.toNat,Sv none 0 0,Sv none 0 0,Sv none 0 0,Bv false] [(0,.int .i64 zi21),(2,Sv ra167 zl166.length rc169),(3,Sv (some ⟨b170,0,none⟩) kk.toNat kk.toNat),(4,Sv (some ⟨b158,0,none⟩) kk.toNat kk.toNat)] (⟨H.pick [5,6,7,8] [0,1],(ro 21 rfl ?_)⟩)))⟩
       refine xu H 0 [.int .i64 zi21,.int .i64 0,Sv ra167 zl166.length rc169,Sv (some ⟨b170,0,none⟩) kk.toNat kk.toNat,Sv (some ⟨b158,0,none⟩) kk.toNat kk.toNat,Sv none 0 0,Sv none 0 0,Sv none 0 0,Bv false] Tryz.sizeOf56 fun w177 H=>?_
       try dsimp only [List.set] at H
       refine ⟨H.pick [5,6,7,8] [0,1],(xg qh ((meet ⟨_,zi19,zi21,zi164,zl166,b175,ra167,rc169,b170,b158,zi165,uE5,hx17,hx18,hx162,hx163,N,H.xH 9 2 [0,4,1,2,3,5,6,7,8] [0,1] qo qo⟩)))⟩
     ·skip
      refine xx H ti56 [.int .i64 0,.int .i64 0,Sv none 0 0,Sv none 0 0,Sv none 0 0,Sv none 0 0,Sv none 0 0,Sv none 0 0,Bv false] fun b178 w179 H=>⟨H.pick [4,5,6,7] [0,1],(ro 13 rfl (zf H Tryz.underlying24 ti2 kk.toNat rfl rfl qf qf qf fun b180 w181 H=>⟨H.pick [5,6,7,8] [0,1],(ro 19 rfl ?_)⟩))⟩
      refine xP [.int .i64 zi21,.int .i64 0,Sv ra167 zl166.length rc169,Sv (some ⟨b180,0,none⟩) kk.toNat kk.toNat,Sv (some ⟨b158,0,none⟩) kk.toNat kk.toNat,Sv none 0 0,Sv none 0 0,Sv none 0 0,Bv false] [(0,.int .i64 zi21),(2,Sv ra167 zl166.length rc169),(3,Sv (some ⟨b180,0,none⟩) kk.toNat kk.toNat),(4,Sv (some ⟨b158,0,none⟩) kk.toNat kk.toNat)] (⟨H.pick [5,6,7,8] [0,1],(ro 21 rfl ?_)⟩)
      refine xu H 1 [.int .i64 zi21,.int .i64 0,Sv ra167 zl166.length rc169,Sv (some ⟨b180,0,none⟩) kk.toNat kk.toNat,Sv (some ⟨b158,0,none⟩) kk.toNat kk.toNat,Sv none 0 0,Sv none 0 0,Sv none 0 0,Bv false] Tryz.sizeOf56 fun w182 H=>?_
      try dsimp only [List.set] at H
      refine ⟨H.pick [5,6,7,8] [0,1],(xg qh ((meet ⟨_,zi19,zi21,zi164,zl166,b178,ra167,rc169,b180,b158,zi165,uE5,hx17,hx18,hx162,hx163,N,H.xH 9 2 [1,4,0,2,3,5,6,7,8] [0,1] qo qo⟩)))⟩
    ·skip
     refine zf H Tryz.underlying24 ti2 kk.toNat rfl rfl qf qf qf fun b183 w184 H=>⟨H.pick [3,4,5,6] [0,1],(zH [8,20] qh qm (vg rfl ?_ (vg rfl ?_ zI)))⟩
     ·skip
      have H1:St W0 w184 ((.box bs [Sv ac code.length cc,.int .i64 zi19,.int .u64 zi20] 127) :: (rr (some ⟨b183,0,none⟩) kk.toNat kk.toNat 2 1 ((List.replicate kk.toNat (0:Int)).map (Value.int .i64))) :: (rr (some ⟨b158,0,none⟩) kk.toNat kk.toNat 2 1 ((List.replicate kk.toNat (0:Int)).map (Value.int .i64))) :: (.box b1 [.int .i64 0,.int .i64 0,Sv none 0 0,Sv none 0 0,Sv none 0 0,Sv none 0 0,Sv none 0 0,Sv none 0 0,Bv false] 56) :: (.box bY [.int .i64 kk,Sv rap par.length rcp,Sv raR rules.length rcR] 27) :: (rr rap par.length rcp 2 1 (par.map (Value.int .i64))) :: (rr raR rules.length rcR 56 9 rxR) :: ps) ((sF false Fc ac cc code) :: (qX true rFR rxR rules) :: Γ):=H.xH 7 2 [2,0,1,3,4,5,6] [0,1] qo qo
      have N1:Fresh _ (rFR :: Ns):=N
      have K1:Kept (Ns) ((qX true rFR rxR rules) :: Γ):=K0.behind 1 rfl
      replace K1:=K1.cons (F:=rFR) 0 rfl rfl
      refine xR #[.pointer (some ⟨bs,0,none⟩),.int .i64 kk,.int .i64 2] rfl rfl Tryz.call188 (zT code zi19 zi20 bs ac cc Fc kk (2:Int) H1 N1 K1 qg qg qg) ?_
      clear H H1 N1 K1
      rintro _ w185 ⟨zi189,zi190,zl191,ra192,rn193,rc194,hx187,hx188,rfl,N,H⟩
      obtain rfl:=H.vM 1 rfl
      refine ⟨H.pick [4,5,6,7] [0,1],(zH [19,20] qh qm (vg rfl ?_ (vg rfl ?_ zI)))⟩
      ·skip
       refine xP [.int .i64 zi21,.int .i64 0,Sv ra192 zl191.length rc194,Sv (some ⟨b183,0,none⟩) kk.toNat kk.toNat,Sv (some ⟨b158,0,none⟩) kk.toNat kk.toNat,Sv none 0 0,Sv none 0 0,Sv none 0 0,Bv false] [(0,.int .i64 zi21),(2,Sv ra192 zl191.length rc194),(3,Sv (some ⟨b183,0,none⟩) kk.toNat kk.toNat),(4,Sv (some ⟨b158,0,none⟩) kk.toNat kk.toNat)] (⟨H.pick [4,5,6,7] [0,1],(ro 20 rfl (xx H ti56 [.int .i64 0,.int .i64 0,Sv none 0 0,Sv none 0 0,Sv none 0 0,Sv none 0 0,Sv none 0 0,Sv none 0 0,Bv false] fun b195 w196 H=>⟨H.pick [5,6,7,8] [0,1],(ro 21 rfl ?_)⟩))⟩)
       refine xu H 0 [.int .i64 zi21,.int .i64 0,Sv ra192 zl191.length rc194,Sv (some ⟨b183,0,none⟩) kk.toNat kk.toNat,Sv (some ⟨b158,0,none⟩) kk.toNat kk.toNat,Sv none 0 0,Sv none 0 0,Sv none 0 0,Bv false] Tryz.sizeOf56 fun w197 H=>?_
       try dsimp only [List.set] at H
       refine ⟨H.pick [5,6,7,8] [0,1],(xg qh ((meet ⟨_,zi19,zi21,zi189,zl191,b195,ra192,rc194,b183,b158,zi190,uE5,hx17,hx18,hx187,hx188,N,H.xH 9 2 [0,4,3,1,2,5,6,7,8] [0,1] qo qo⟩)))⟩
      ·skip
       refine xx H ti56 [.int .i64 0,.int .i64 0,Sv none 0 0,Sv none 0 0,Sv none 0 0,Sv none 0 0,Sv none 0 0,Sv none 0 0,Bv false] fun b198 w199 H=>⟨H.pick [5,6,7,8] [0,1],(ro 19 rfl (xP [.int .i64 zi21,.int .i64 0,Sv ra192 zl191.length rc194,Sv (some ⟨b183,0,none⟩) kk.toNat kk.toNat,Sv (some ⟨b158,0,none⟩) kk.toNat kk.toNat,Sv none 0 0,Sv none 0 0,Sv none 0 0,Bv false] [(0,.int .i64 zi21),(2,Sv ra192 zl191.length rc194),(3,Sv (some ⟨b183,0,none⟩) kk.toNat kk.toNat),(4,Sv (some ⟨b158,0,none⟩) kk.toNat kk.toNat)] (⟨H.pick [5,6,7,8] [0,1],(ro 21 rfl ?_)⟩)))⟩
       refine xu H 0 [.int .i64 zi21,.int .i64 0,Sv ra192 zl191.length rc194,Sv (some ⟨b183,0,none⟩) kk.toNat kk.toNat,Sv (some ⟨b158,0,none⟩) kk.toNat kk.toNat,Sv none 0 0,Sv none 0 0,Sv none 0 0,Bv false] Tryz.sizeOf56 fun w200 H=>?_
       try dsimp only [List.set] at H
       refine ⟨H.pick [5,6,7,8] [0,1],(xg qh ((meet ⟨_,zi19,zi21,zi189,zl191,b198,ra192,rc194,b183,b158,zi190,uE5,hx17,hx18,hx187,hx188,N,H.xH 9 2 [0,4,3,1,2,5,6,7,8] [0,1] qo qo⟩)))⟩
     ·skip
      refine xx H ti56 [.int .i64 0,.int .i64 0,Sv none 0 0,Sv none 0 0,Sv none 0 0,Sv none 0 0,Sv none 0 0,Sv none 0 0,Bv false] fun b201 w202 H=>⟨H.pick [4,5,6,7] [0,1],(ro 8 rfl ?_)⟩
      have H1:St W0 w202 ((.box bs [Sv ac code.length cc,.int .i64 zi19,.int .u64 zi20] 127) :: (.box b201 [.int .i64 0,.int .i64 0,Sv none 0 0,Sv none 0 0,Sv none 0 0,Sv none 0 0,Sv none 0 0,Sv none 0 0,Bv false] 56) :: (rr (some ⟨b183,0,none⟩) kk.toNat kk.toNat 2 1 ((List.replicate kk.toNat (0:Int)).map (Value.int .i64))) :: (rr (some ⟨b158,0,none⟩) kk.toNat kk.toNat 2 1 ((List.replicate kk.toNat (0:Int)).map (Value.int .i64))) :: (.box b1 [.int .i64 0,.int .i64 0,Sv none 0 0,Sv none 0 0,Sv none 0 0,Sv none 0 0,Sv none 0 0,Sv none 0 0,Bv false] 56) :: (.box bY [.int .i64 kk,Sv rap par.length rcp,Sv raR rules.length rcR] 27) :: (rr rap par.length rcp 2 1 (par.map (Value.int .i64))) :: (rr raR rules.length rcR 56 9 rxR) :: ps) ((sF false Fc ac cc code) :: (qX true rFR rxR rules) :: Γ):=H.xH 8 2 [3,0,1,2,4,5,6,7] [0,1] qo qo
      have N1:Fresh _ (rFR :: Ns):=N
      have K1:Kept (Ns) ((qX true rFR rxR rules) :: Γ):=K0.behind 1 rfl
      replace K1:=K1.cons (F:=rFR) 0 rfl rfl
      refine xR #[.pointer (some ⟨bs,0,none⟩),.int .i64 kk,.int .i64 2] rfl rfl Tryz.call188 (zT code zi19 zi20 bs ac cc Fc kk (2:Int) H1 N1 K1 qg qg qg) ?_
      clear H H1 N1 K1
      rintro _ w203 ⟨zi207,zi208,zl209,ra210,rn211,rc212,hx205,hx206,rfl,N,H⟩
      obtain rfl:=H.vM 1 rfl
      refine ⟨H.pick [5,6,7,8] [0,1],(ro 19 rfl (xP [.int .i64 zi21,.int .i64 0,Sv ra210 zl209.length rc212,Sv (some ⟨b183,0,none⟩) kk.toNat kk.toNat,Sv (some ⟨b158,0,none⟩) kk.toNat kk.toNat,Sv none 0 0,Sv none 0 0,Sv none 0 0,Bv false] [(0,.int .i64 zi21),(2,Sv ra210 zl209.length rc212),(3,Sv (some ⟨b183,0,none⟩) kk.toNat kk.toNat),(4,Sv (some ⟨b158,0,none⟩) kk.toNat kk.toNat)] (⟨H.pick [5,6,7,8] [0,1],(ro 21 rfl ?_)⟩)))⟩
      refine xu H 2 [.int .i64 zi21,.int .i64 0,Sv ra210 zl209.length rc212,Sv (some ⟨b183,0,none⟩) kk.toNat kk.toNat,Sv (some ⟨b158,0,none⟩) kk.toNat kk.toNat,Sv none 0 0,Sv none 0 0,Sv none 0 0,Bv false] Tryz.sizeOf56 fun w213 H=>?_
      try dsimp only [List.set] at H
      refine ⟨H.pick [5,6,7,8] [0,1],(xg qh ((meet ⟨_,zi19,zi21,zi207,zl209,b201,ra210,rc212,b183,b158,zi208,uE5,hx17,hx18,hx205,hx206,N,H.xH 9 2 [2,4,3,0,1,5,6,7,8] [0,1] qo qo⟩)))⟩
    ·skip
     refine xx H ti56 [.int .i64 0,.int .i64 0,Sv none 0 0,Sv none 0 0,Sv none 0 0,Sv none 0 0,Sv none 0 0,Sv none 0 0,Bv false] fun b214 w215 H=>⟨H.pick [3,4,5,6] [0,1],(zH [8,13] qh qm (vg rfl ?_ (vg rfl ?_ zI)))⟩
     ·skip
      have H1:St W0 w215 ((.box bs [Sv ac code.length cc,.int .i64 zi19,.int .u64 zi20] 127) :: (.box b214 [.int .i64 0,.int .i64 0,Sv none 0 0,Sv none 0 0,Sv none 0 0,Sv none 0 0,Sv none 0 0,Sv none 0 0,Bv false] 56) :: (rr (some ⟨b158,0,none⟩) kk.toNat kk.toNat 2 1 ((List.replicate kk.toNat (0:Int)).map (Value.int .i64))) :: (.box b1 [.int .i64 0,.int .i64 0,Sv none 0 0,Sv none 0 0,Sv none 0 0,Sv none 0 0,Sv none 0 0,Sv none 0 0,Bv false] 56) :: (.box bY [.int .i64 kk,Sv rap par.length rcp,Sv raR rules.length rcR] 27) :: (rr rap par.length rcp 2 1 (par.map (Value.int .i64))) :: (rr raR rules.length rcR 56 9 rxR) :: ps) ((sF false Fc ac cc code) :: (qX true rFR rxR rules) :: Γ):=H.xH 7 2 [2,0,1,3,4,5,6] [0,1] qo qo
      have N1:Fresh _ (rFR :: Ns):=N
      have K1:Kept (Ns) ((qX true rFR rxR rules) :: Γ):=K0.behind 1 rfl
      replace K1:=K1.cons (F:=rFR) 0 rfl rfl
      refine xR #[.pointer (some ⟨bs,0,none⟩),.int .i64 kk,.int .i64 2] rfl rfl Tryz.call188 (zT code zi19 zi20 bs ac cc Fc kk (2:Int) H1 N1 K1 qg qg qg) ?_
      clear H H1 N1 K1
      rintro _ w216 ⟨zi220,zi221,zl222,ra223,rn224,rc225,hx218,hx219,rfl,N,H⟩
      obtain rfl:=H.vM 1 rfl
      refine ⟨H.pick [4,5,6,7] [0,1],(ro 13 rfl (zf H Tryz.underlying24 ti2 kk.toNat rfl rfl qf qf qf fun b226 w227 H=>⟨H.pick [5,6,7,8] [0,1],(ro 19 rfl (xP [.int .i64 zi21,.int .i64 0,Sv ra223 zl222.length rc225,Sv (some ⟨b226,0,none⟩) kk.toNat kk.toNat,Sv (some ⟨b158,0,none⟩) kk.toNat kk.toNat,Sv none 0 0,Sv none 0 0,Sv none 0 0,Bv false] [(0,.int .i64 zi21),(2,Sv ra223 zl222.length rc225),(3,Sv (some ⟨b226,0,none⟩) kk.toNat kk.toNat),(4,Sv (some ⟨b158,0,none⟩) kk.toNat kk.toNat)] (⟨H.pick [5,6,7,8] [0,1],(ro 21 rfl ?_)⟩)))⟩))⟩
      refine xu H 3 [.int .i64 zi21,.int .i64 0,Sv ra223 zl222.length rc225,Sv (some ⟨b226,0,none⟩) kk.toNat kk.toNat,Sv (some ⟨b158,0,none⟩) kk.toNat kk.toNat,Sv none 0 0,Sv none 0 0,Sv none 0 0,Bv false] Tryz.sizeOf56 fun w228 H=>?_
      try dsimp only [List.set] at H
      refine ⟨H.pick [5,6,7,8] [0,1],(xg qh ((meet ⟨_,zi19,zi21,zi220,zl222,b214,ra223,rc225,b226,b158,zi221,uE5,hx17,hx18,hx218,hx219,N,H.xH 9 2 [3,4,0,1,2,5,6,7,8] [0,1] qo qo⟩)))⟩
     ·skip
      refine zf H Tryz.underlying24 ti2 kk.toNat rfl rfl qf qf qf fun b229 w230 H=>⟨H.pick [4,5,6,7] [0,1],(ro 8 rfl ?_)⟩
      have H1:St W0 w230 ((.box bs [Sv ac code.length cc,.int .i64 zi19,.int .u64 zi20] 127) :: (rr (some ⟨b229,0,none⟩) kk.toNat kk.toNat 2 1 ((List.replicate kk.toNat (0:Int)).map (Value.int .i64))) :: (.box b214 [.int .i64 0,.int .i64 0,Sv none 0 0,Sv none 0 0,Sv none 0 0,Sv none 0 0,Sv none 0 0,Sv none 0 0,Bv false] 56) :: (rr (some ⟨b158,0,none⟩) kk.toNat kk.toNat 2 1 ((List.replicate kk.toNat (0:Int)).map (Value.int .i64))) :: (.box b1 [.int .i64 0,.int .i64 0,Sv none 0 0,Sv none 0 0,Sv none 0 0,Sv none 0 0,Sv none 0 0,Sv none 0 0,Bv false] 56) :: (.box bY [.int .i64 kk,Sv rap par.length rcp,Sv raR rules.length rcR] 27) :: (rr rap par.length rcp 2 1 (par.map (Value.int .i64))) :: (rr raR rules.length rcR 56 9 rxR) :: ps) ((sF false Fc ac cc code) :: (qX true rFR rxR rules) :: Γ):=H.xH 8 2 [3,0,1,2,4,5,6,7] [0,1] qo qo
      have N1:Fresh _ (rFR :: Ns):=N
      have K1:Kept (Ns) ((qX true rFR rxR rules) :: Γ):=K0.behind 1 rfl
      replace K1:=K1.cons (F:=rFR) 0 rfl rfl
      refine xR #[.pointer (some ⟨bs,0,none⟩),.int .i64 kk,.int .i64 2] rfl rfl Tryz.call188 (zT code zi19 zi20 bs ac cc Fc kk (2:Int) H1 N1 K1 qg qg qg) ?_
      clear H H1 N1 K1
      rintro _ w231 ⟨zi235,zi236,zl237,ra238,rn239,rc240,hx233,hx234,rfl,N,H⟩
      obtain rfl:=H.vM 1 rfl
      refine ⟨H.pick [5,6,7,8] [0,1],(ro 19 rfl (xP [.int .i64 zi21,.int .i64 0,Sv ra238 zl237.length rc240,Sv (some ⟨b229,0,none⟩) kk.toNat kk.toNat,Sv (some ⟨b158,0,none⟩) kk.toNat kk.toNat,Sv none 0 0,Sv none 0 0,Sv none 0 0,Bv false] [(0,.int .i64 zi21),(2,Sv ra238 zl237.length rc240),(3,Sv (some ⟨b229,0,none⟩) kk.toNat kk.toNat),(4,Sv (some ⟨b158,0,none⟩) kk.toNat kk.toNat)] (⟨H.pick [5,6,7,8] [0,1],(ro 21 rfl ?_)⟩)))⟩
      refine xu H 3 [.int .i64 zi21,.int .i64 0,Sv ra238 zl237.length rc240,Sv (some ⟨b229,0,none⟩) kk.toNat kk.toNat,Sv (some ⟨b158,0,none⟩) kk.toNat kk.toNat,Sv none 0 0,Sv none 0 0,Sv none 0 0,Bv false] Tryz.sizeOf56 fun w241 H=>?_
      try dsimp only [List.set] at H
      refine ⟨H.pick [5,6,7,8] [0,1],(xg qh ((meet ⟨_,zi19,zi21,zi235,zl237,b214,ra238,rc240,b229,b158,zi236,uE5,hx17,hx18,hx233,hx234,N,H.xH 9 2 [3,4,2,0,1,5,6,7,8] [0,1] qo qo⟩)))⟩
   ·skip
    refine xx H ti56 [.int .i64 0,.int .i64 0,Sv none 0 0,Sv none 0 0,Sv none 0 0,Sv none 0 0,Sv none 0 0,Sv none 0 0,Bv false] fun b242 w243 H=>⟨H.pick [2,3,4,5] [0,1],(zH [8,13,18] qh qm (vg rfl ?_ (vg rfl ?_ (vg rfl ?_ zI))))⟩
    ·skip
     have H1:St W0 w243 ((.box bs [Sv ac code.length cc,.int .i64 zi19,.int .u64 zi20] 127) :: (.box b242 [.int .i64 0,.int .i64 0,Sv none 0 0,Sv none 0 0,Sv none 0 0,Sv none 0 0,Sv none 0 0,Sv none 0 0,Bv false] 56) :: (.box b1 [.int .i64 0,.int .i64 0,Sv none 0 0,Sv none 0 0,Sv none 0 0,Sv none 0 0,Sv none 0 0,Sv none 0 0,Bv false] 56) :: (.box bY [.int .i64 kk,Sv rap par.length rcp,Sv raR rules.length rcR] 27) :: (rr rap par.length rcp 2 1 (par.map (Value.int .i64))) :: (rr raR rules.length rcR 56 9 rxR) :: ps) ((sF false Fc ac cc code) :: (qX true rFR rxR rules) :: Γ):=H.xH 6 2 [1,0,2,3,4,5] [0,1] qo qo
     have N1:Fresh _ (rFR :: Ns):=N
     have K1:Kept (Ns) ((qX true rFR rxR rules) :: Γ):=K0.behind 1 rfl
     replace K1:=K1.cons (F:=rFR) 0 rfl rfl
     refine xR #[.pointer (some ⟨bs,0,none⟩),.int .i64 kk,.int .i64 2] rfl rfl Tryz.call188 (zT code zi19 zi20 bs ac cc Fc kk (2:Int) H1 N1 K1 qg qg qg) ?_
     clear H H1 N1 K1
     rintro _ w244 ⟨zi248,zi249,zl250,ra251,rn252,rc253,hx246,hx247,rfl,N,H⟩
     obtain rfl:=H.vM 1 rfl
     refine ⟨H.pick [3,4,5,6] [0,1],(zH [13,18] qh qm (vg rfl ?_ (vg rfl ?_ zI)))⟩
     ·skip
      refine zf H Tryz.underlying24 ti2 kk.toNat rfl rfl qf qf qf fun b254 w255 H=>⟨H.pick [4,5,6,7] [0,1],(ro 18 rfl (zf H Tryz.underlying24 ti2 kk.toNat rfl rfl qf qf qf fun b256 w257 H=>⟨H.pick [5,6,7,8] [0,1],(ro 19 rfl ?_)⟩))⟩
      refine xP [.int .i64 zi21,.int .i64 0,Sv ra251 zl250.length rc253,Sv (some ⟨b254,0,none⟩) kk.toNat kk.toNat,Sv (some ⟨b256,0,none⟩) kk.toNat kk.toNat,Sv none 0 0,Sv none 0 0,Sv none 0 0,Bv false] [(0,.int .i64 zi21),(2,Sv ra251 zl250.length rc253),(3,Sv (some ⟨b254,0,none⟩) kk.toNat kk.toNat),(4,Sv (some ⟨b256,0,none⟩) kk.toNat kk.toNat)] (⟨H.pick [5,6,7,8] [0,1],(ro 21 rfl ?_)⟩)
      refine xu H 4 [.int .i64 zi21,.int .i64 0,Sv ra251 zl250.length rc253,Sv (some ⟨b254,0,none⟩) kk.toNat kk.toNat,Sv (some ⟨b256,0,none⟩) kk.toNat kk.toNat,Sv none 0 0,Sv none 0 0,Sv none 0 0,Bv false] Tryz.sizeOf56 fun w258 H=>?_
      try dsimp only [List.set] at H
      refine ⟨H.pick [5,6,7,8] [0,1],(xg qh ((meet ⟨_,zi19,zi21,zi248,zl250,b242,ra251,rc253,b254,b256,zi249,uE5,hx17,hx18,hx246,hx247,N,H.xH 9 2 [4,0,1,2,3,5,6,7,8] [0,1] qo qo⟩)))⟩
     ·skip
      refine zf H Tryz.underlying24 ti2 kk.toNat rfl rfl qf qf qf fun b259 w260 H=>⟨H.pick [4,5,6,7] [0,1],(ro 13 rfl (zf H Tryz.underlying24 ti2 kk.toNat rfl rfl qf qf qf fun b261 w262 H=>⟨H.pick [5,6,7,8] [0,1],(ro 19 rfl ?_)⟩))⟩
      refine xP [.int .i64 zi21,.int .i64 0,Sv ra251 zl250.length rc253,Sv (some ⟨b261,0,none⟩) kk.toNat kk.toNat,Sv (some ⟨b259,0,none⟩) kk.toNat kk.toNat,Sv none 0 0,Sv none 0 0,Sv none 0 0,Bv false] [(0,.int .i64 zi21),(2,Sv ra251 zl250.length rc253),(3,Sv (some ⟨b261,0,none⟩) kk.toNat kk.toNat),(4,Sv (some ⟨b259,0,none⟩) kk.toNat kk.toNat)] (⟨H.pick [5,6,7,8] [0,1],(ro 21 rfl ?_)⟩)
      refine xu H 4 [.int .i64 zi21,.int .i64 0,Sv ra251 zl250.length rc253,Sv (some ⟨b261,0,none⟩) kk.toNat kk.toNat,Sv (some ⟨b259,0,none⟩) kk.toNat kk.toNat,Sv none 0 0,Sv none 0 0,Sv none 0 0,Bv false] Tryz.sizeOf56 fun w263 H=>?_
      try dsimp only [List.set] at H
      refine ⟨H.pick [5,6,7,8] [0,1],(xg qh ((meet ⟨_,zi19,zi21,zi248,zl250,b242,ra251,rc253,b261,b259,zi249,uE5,hx17,hx18,hx246,hx247,N,H.xH 9 2 [4,1,0,2,3,5,6,7,8] [0,1] qo qo⟩)))⟩
    ·skip
     refine zf H Tryz.underlying24 ti2 kk.toNat rfl rfl qf qf qf fun b264 w265 H=>⟨H.pick [3,4,5,6] [0,1],(zH [8,18] qh qm (vg rfl ?_ (vg rfl ?_ zI)))⟩
     ·skip
      have H1:St W0 w265 ((.box bs [Sv ac code.length cc,.int .i64 zi19,.int .u64 zi20] 127) :: (rr (some ⟨b264,0,none⟩) kk.toNat kk.toNat 2 1 ((List.replicate kk.toNat (0:Int)).map (Value.int .i64))) :: (.box b242 [.int .i64 0,.int .i64 0,Sv none 0 0,Sv none 0 0,Sv none 0 0,Sv none 0 0,Sv none 0 0,Sv none 0 0,Bv false] 56) :: (.box b1 [.int .i64 0,.int .i64 0,Sv none 0 0,Sv none 0 0,Sv none 0 0,Sv none 0 0,Sv none 0 0,Sv none 0 0,Bv false] 56) :: (.box bY [.int .i64 kk,Sv rap par.length rcp,Sv raR rules.length rcR] 27) :: (rr rap par.length rcp 2 1 (par.map (Value.int .i64))) :: (rr raR rules.length rcR 56 9 rxR) :: ps) ((sF false Fc ac cc code) :: (qX true rFR rxR rules) :: Γ):=H.xH 7 2 [2,0,1,3,4,5,6] [0,1] qo qo
      have N1:Fresh _ (rFR :: Ns):=N
      have K1:Kept (Ns) ((qX true rFR rxR rules) :: Γ):=K0.behind 1 rfl
      replace K1:=K1.cons (F:=rFR) 0 rfl rfl
      refine xR #[.pointer (some ⟨bs,0,none⟩),.int .i64 kk,.int .i64 2] rfl rfl Tryz.call188 (zT code zi19 zi20 bs ac cc Fc kk (2:Int) H1 N1 K1 qg qg qg) ?_
      clear H H1 N1 K1
      rintro _ w266 ⟨zi270,zi271,zl272,ra273,rn274,rc275,hx268,hx269,rfl,N,H⟩
      obtain rfl:=H.vM 1 rfl
      refine ⟨H.pick [4,5,6,7] [0,1],(ro 18 rfl (zf H Tryz.underlying24 ti2 kk.toNat rfl rfl qf qf qf fun b276 w277 H=>⟨H.pick [5,6,7,8] [0,1],(ro 19 rfl (xP [.int .i64 zi21,.int .i64 0,Sv ra273 zl272.length rc275,Sv (some ⟨b264,0,none⟩) kk.toNat kk.toNat,Sv (some ⟨b276,0,none⟩) kk.toNat kk.toNat,Sv none 0 0,Sv none 0 0,Sv none 0 0,Bv false] [(0,.int .i64 zi21),(2,Sv ra273 zl272.length rc275),(3,Sv (some ⟨b264,0,none⟩) kk.toNat kk.toNat),(4,Sv (some ⟨b276,0,none⟩) kk.toNat kk.toNat)] (⟨H.pick [5,6,7,8] [0,1],(ro 21 rfl ?_)⟩)))⟩))⟩
      refine xu H 4 [.int .i64 zi21,.int .i64 0,Sv ra273 zl272.length rc275,Sv (some ⟨b264,0,none⟩) kk.toNat kk.toNat,Sv (some ⟨b276,0,none⟩) kk.toNat kk.toNat,Sv none 0 0,Sv none 0 0,Sv none 0 0,Bv false] Tryz.sizeOf56 fun w278 H=>?_
      try dsimp only [List.set] at H
      refine ⟨H.pick [5,6,7,8] [0,1],(xg qh ((meet ⟨_,zi19,zi21,zi270,zl272,b242,ra273,rc275,b264,b276,zi271,uE5,hx17,hx18,hx268,hx269,N,H.xH 9 2 [4,0,3,1,2,5,6,7,8] [0,1] qo qo⟩)))⟩
     ·skip
      refine zf H Tryz.underlying24 ti2 kk.toNat rfl rfl qf qf qf fun b279 w280 H=>⟨H.pick [4,5,6,7] [0,1],(ro 8 rfl ?_)⟩
      have H1:St W0 w280 ((.box bs [Sv ac code.length cc,.int .i64 zi19,.int .u64 zi20] 127) :: (rr (some ⟨b279,0,none⟩) kk.toNat kk.toNat 2 1 ((List.replicate kk.toNat (0:Int)).map (Value.int .i64))) :: (rr (some ⟨b264,0,none⟩) kk.toNat kk.toNat 2 1 ((List.replicate kk.toNat (0:Int)).map (Value.int .i64))) :: (.box b242 [.int .i64 0,.int .i64 0,Sv none 0 0,Sv none 0 0,Sv none 0 0,Sv none 0 0,Sv none 0 0,Sv none 0 0,Bv false] 56) :: (.box b1 [.int .i64 0,.int .i64 0,Sv none 0 0,Sv none 0 0,Sv none 0 0,Sv none 0 0,Sv none 0 0,Sv none 0 0,Bv false] 56) :: (.box bY [.int .i64 kk,Sv rap par.length rcp,Sv raR rules.length rcR] 27) :: (rr rap par.length rcp 2 1 (par.map (Value.int .i64))) :: (rr raR rules.length rcR 56 9 rxR) :: ps) ((sF false Fc ac cc code) :: (qX true rFR rxR rules) :: Γ):=H.xH 8 2 [3,0,1,2,4,5,6,7] [0,1] qo qo
      have N1:Fresh _ (rFR :: Ns):=N
      have K1:Kept (Ns) ((qX true rFR rxR rules) :: Γ):=K0.behind 1 rfl
      replace K1:=K1.cons (F:=rFR) 0 rfl rfl
      refine xR #[.pointer (some ⟨bs,0,none⟩),.int .i64 kk,.int .i64 2] rfl rfl Tryz.call188 (zT code zi19 zi20 bs ac cc Fc kk (2:Int) H1 N1 K1 qg qg qg) ?_
      clear H H1 N1 K1
      rintro _ w281 ⟨zi285,zi286,zl287,ra288,rn289,rc290,hx283,hx284,rfl,N,H⟩
      obtain rfl:=H.vM 1 rfl
      refine ⟨H.pick [5,6,7,8] [0,1],(ro 19 rfl (xP [.int .i64 zi21,.int .i64 0,Sv ra288 zl287.length rc290,Sv (some ⟨b264,0,none⟩) kk.toNat kk.toNat,Sv (some ⟨b279,0,none⟩) kk.toNat kk.toNat,Sv none 0 0,Sv none 0 0,Sv none 0 0,Bv false] [(0,.int .i64 zi21),(2,Sv ra288 zl287.length rc290),(3,Sv (some ⟨b264,0,none⟩) kk.toNat kk.toNat),(4,Sv (some ⟨b279,0,none⟩) kk.toNat kk.toNat)] (⟨H.pick [5,6,7,8] [0,1],(ro 21 rfl ?_)⟩)))⟩
      refine xu H 4 [.int .i64 zi21,.int .i64 0,Sv ra288 zl287.length rc290,Sv (some ⟨b264,0,none⟩) kk.toNat kk.toNat,Sv (some ⟨b279,0,none⟩) kk.toNat kk.toNat,Sv none 0 0,Sv none 0 0,Sv none 0 0,Bv false] Tryz.sizeOf56 fun w291 H=>?_
      try dsimp only [List.set] at H
      refine ⟨H.pick [5,6,7,8] [0,1],(xg qh ((meet ⟨_,zi19,zi21,zi285,zl287,b242,ra288,rc290,b264,b279,zi286,uE5,hx17,hx18,hx283,hx284,N,H.xH 9 2 [4,2,3,0,1,5,6,7,8] [0,1] qo qo⟩)))⟩
    ·skip
     refine zf H Tryz.underlying24 ti2 kk.toNat rfl rfl qf qf qf fun b292 w293 H=>⟨H.pick [3,4,5,6] [0,1],(zH [8,13] qh qm (vg rfl ?_ (vg rfl ?_ zI)))⟩
     ·skip
      have H1:St W0 w293 ((.box bs [Sv ac code.length cc,.int .i64 zi19,.int .u64 zi20] 127) :: (rr (some ⟨b292,0,none⟩) kk.toNat kk.toNat 2 1 ((List.replicate kk.toNat (0:Int)).map (Value.int .i64))) :: (.box b242 [.int .i64 0,.int .i64 0,Sv none 0 0,Sv none 0 0,Sv none 0 0,Sv none 0 0,Sv none 0 0,Sv none 0 0,Bv false] 56) :: (.box b1 [.int .i64 0,.int .i64 0,Sv none 0 0,Sv none 0 0,Sv none 0 0,Sv none 0 0,Sv none 0 0,Sv none 0 0,Bv false] 56) :: (.box bY [.int .i64 kk,Sv rap par.length rcp,Sv raR rules.length rcR] 27) :: (rr rap par.length rcp 2 1 (par.map (Value.int .i64))) :: (rr raR rules.length rcR 56 9 rxR) :: ps) ((sF false Fc ac cc code) :: (qX true rFR rxR rules) :: Γ):=H.xH 7 2 [2,0,1,3,4,5,6] [0,1] qo qo
      have N1:Fresh _ (rFR :: Ns):=N
      have K1:Kept (Ns) ((qX true rFR rxR rules) :: Γ):=K0.behind 1 rfl
      replace K1:=K1.cons (F:=rFR) 0 rfl rfl
      refine xR #[.pointer (some ⟨bs,0,none⟩),.int .i64 kk,.int .i64 2] rfl rfl Tryz.call188 (zT code zi19 zi20 bs ac cc Fc kk (2:Int) H1 N1 K1 qg qg qg) ?_
      clear H H1 N1 K1
      rintro _ w294 ⟨zi298,zi299,zl300,ra301,rn302,rc303,hx296,hx297,rfl,N,H⟩
      obtain rfl:=H.vM 1 rfl
      refine ⟨H.pick [4,5,6,7] [0,1],(ro 13 rfl (zf H Tryz.underlying24 ti2 kk.toNat rfl rfl qf qf qf fun b304 w305 H=>⟨H.pick [5,6,7,8] [0,1],(ro 19 rfl (xP [.int .i64 zi21,.int .i64 0,Sv ra301 zl300.length rc303,Sv (some ⟨b304,0,none⟩) kk.toNat kk.toNat,Sv (some ⟨b292,0,none⟩) kk.toNat kk.toNat,Sv none 0 0,Sv none 0 0,Sv none 0 0,Bv false] [(0,.int .i64 zi21),(2,Sv ra301 zl300.length rc303),(3,Sv (some ⟨b304,0,none⟩) kk.toNat kk.toNat),(4,Sv (some ⟨b292,0,none⟩) kk.toNat kk.toNat)] (⟨H.pick [5,6,7,8] [0,1],(ro 21 rfl ?_)⟩)))⟩))⟩
      refine xu H 4 [.int .i64 zi21,.int .i64 0,Sv ra301 zl300.length rc303,Sv (some ⟨b304,0,none⟩) kk.toNat kk.toNat,Sv (some ⟨b292,0,none⟩) kk.toNat kk.toNat,Sv none 0 0,Sv none 0 0,Sv none 0 0,Bv false] Tryz.sizeOf56 fun w306 H=>?_
      try dsimp only [List.set] at H
      refine ⟨H.pick [5,6,7,8] [0,1],(xg qh ((meet ⟨_,zi19,zi21,zi298,zl300,b242,ra301,rc303,b304,b292,zi299,uE5,hx17,hx18,hx296,hx297,N,H.xH 9 2 [4,3,0,1,2,5,6,7,8] [0,1] qo qo⟩)))⟩
     ·skip
      refine zf H Tryz.underlying24 ti2 kk.toNat rfl rfl qf qf qf fun b307 w308 H=>⟨H.pick [4,5,6,7] [0,1],(ro 8 rfl ?_)⟩
      have H1:St W0 w308 ((.box bs [Sv ac code.length cc,.int .i64 zi19,.int .u64 zi20] 127) :: (rr (some ⟨b307,0,none⟩) kk.toNat kk.toNat 2 1 ((List.replicate kk.toNat (0:Int)).map (Value.int .i64))) :: (rr (some ⟨b292,0,none⟩) kk.toNat kk.toNat 2 1 ((List.replicate kk.toNat (0:Int)).map (Value.int .i64))) :: (.box b242 [.int .i64 0,.int .i64 0,Sv none 0 0,Sv none 0 0,Sv none 0 0,Sv none 0 0,Sv none 0 0,Sv none 0 0,Bv false] 56) :: (.box b1 [.int .i64 0,.int .i64 0,Sv none 0 0,Sv none 0 0,Sv none 0 0,Sv none 0 0,Sv none 0 0,Sv none 0 0,Bv false] 56) :: (.box bY [.int .i64 kk,Sv rap par.length rcp,Sv raR rules.length rcR] 27) :: (rr rap par.length rcp 2 1 (par.map (Value.int .i64))) :: (rr raR rules.length rcR 56 9 rxR) :: ps) ((sF false Fc ac cc code) :: (qX true rFR rxR rules) :: Γ):=H.xH 8 2 [3,0,1,2,4,5,6,7] [0,1] qo qo
      have N1:Fresh _ (rFR :: Ns):=N
      have K1:Kept (Ns) ((qX true rFR rxR rules) :: Γ):=K0.behind 1 rfl
      replace K1:=K1.cons (F:=rFR) 0 rfl rfl
      refine xR #[.pointer (some ⟨bs,0,none⟩),.int .i64 kk,.int .i64 2] rfl rfl Tryz.call188 (zT code zi19 zi20 bs ac cc Fc kk (2:Int) H1 N1 K1 qg qg qg) ?_
      clear H H1 N1 K1
      rintro _ w309 ⟨zi313,zi314,zl315,ra316,rn317,rc318,hx311,hx312,rfl,N,H⟩
      obtain rfl:=H.vM 1 rfl
      refine ⟨H.pick [5,6,7,8] [0,1],(ro 19 rfl (xP [.int .i64 zi21,.int .i64 0,Sv ra316 zl315.length rc318,Sv (some ⟨b307,0,none⟩) kk.toNat kk.toNat,Sv (some ⟨b292,0,none⟩) kk.toNat kk.toNat,Sv none 0 0,Sv none 0 0,Sv none 0 0,Bv false] [(0,.int .i64 zi21),(2,Sv ra316 zl315.length rc318),(3,Sv (some ⟨b307,0,none⟩) kk.toNat kk.toNat),(4,Sv (some ⟨b292,0,none⟩) kk.toNat kk.toNat)] (⟨H.pick [5,6,7,8] [0,1],(ro 21 rfl ?_)⟩)))⟩
      refine xu H 4 [.int .i64 zi21,.int .i64 0,Sv ra316 zl315.length rc318,Sv (some ⟨b307,0,none⟩) kk.toNat kk.toNat,Sv (some ⟨b292,0,none⟩) kk.toNat kk.toNat,Sv none 0 0,Sv none 0 0,Sv none 0 0,Bv false] Tryz.sizeOf56 fun w319 H=>?_
      try dsimp only [List.set] at H
      refine ⟨H.pick [5,6,7,8] [0,1],(xg qh ((meet ⟨_,zi19,zi21,zi313,zl315,b242,ra316,rc318,b307,b292,zi314,uE5,hx17,hx18,hx311,hx312,N,H.xH 9 2 [4,3,2,0,1,5,6,7,8] [0,1] qo qo⟩)))⟩
  ·skip
   refine zf H Tryz.underlying24 ti2 kk.toNat rfl rfl qf qf qf fun b320 w321 H=>⟨H.pick [1,3,4,5] [0,1],(zH [2,18,20] qh qm (vg rfl ?_ (vg rfl ?_ (vg rfl ?_ zI))))⟩
   ·skip
    have H1:St W0 w321 ((.box bs [Sv ac code.length cc,.int .i64 ip,.int .u64 sd] 127) :: (rr (some ⟨b320,0,none⟩) kk.toNat kk.toNat 2 1 ((List.replicate kk.toNat (0:Int)).map (Value.int .i64))) :: (.box b1 [.int .i64 0,.int .i64 0,Sv none 0 0,Sv none 0 0,Sv none 0 0,Sv none 0 0,Sv none 0 0,Sv none 0 0,Bv false] 56) :: (.box bY [.int .i64 kk,Sv rap par.length rcp,Sv raR rules.length rcR] 27) :: (rr rap par.length rcp 2 1 (par.map (Value.int .i64))) :: (rr raR rules.length rcR 56 9 rxR) :: ps) ((sF false Fc ac cc code) :: (qX true rFR rxR rules) :: Γ):=H.xH 6 2 [2,0,1,3,4,5] [0,1] qo qo
    have N1:Fresh _ (rFR :: Ns):=N
    have K1:Kept (Ns) ((qX true rFR rxR rules) :: Γ):=K0.behind 1 rfl
    replace K1:=K1.cons (F:=rFR) 0 rfl rfl
    refine xR #[.pointer (some ⟨bs,0,none⟩),.int .i64 par.length] rfl rfl Tryz.call68 (jZ code ip sd bs ac cc Fc par.length H1 N1 K1 qg) ?_
    clear H H1 N1 K1
    rintro _ w322 ⟨zi326,zi327,zi328,hx324,hx325,rfl,N,H⟩
    refine ⟨H.pick [2,3,4,5] [0,1],(zH [8,18,20] qh qm (vg rfl ?_ (vg rfl ?_ (vg rfl ?_ zI))))⟩
    ·skip
     have H1:St W0 w322 ((.box bs [Sv ac code.length cc,.int .i64 zi326,.int .u64 zi327] 127) :: (rr (some ⟨b320,0,none⟩) kk.toNat kk.toNat 2 1 ((List.replicate kk.toNat (0:Int)).map (Value.int .i64))) :: (.box b1 [.int .i64 0,.int .i64 0,Sv none 0 0,Sv none 0 0,Sv none 0 0,Sv none 0 0,Sv none 0 0,Sv none 0 0,Bv false] 56) :: (.box bY [.int .i64 kk,Sv rap par.length rcp,Sv raR rules.length rcR] 27) :: (rr rap par.length rcp 2 1 (par.map (Value.int .i64))) :: (rr raR rules.length rcR 56 9 rxR) :: ps) ((sF false Fc ac cc code) :: (qX true rFR rxR rules) :: Γ):=H.xH 6 2 [0,1,2,3,4,5] [0,1] qo qo
     have N1:Fresh _ (rFR :: Ns):=N
     have K1:Kept (Ns) ((qX true rFR rxR rules) :: Γ):=K0.behind 1 rfl
     replace K1:=K1.cons (F:=rFR) 0 rfl rfl
     refine xR #[.pointer (some ⟨bs,0,none⟩),.int .i64 kk,.int .i64 2] rfl rfl Tryz.call188 (zT code zi326 zi327 bs ac cc Fc kk (2:Int) H1 N1 K1 qg qg qg) ?_
     clear H H1 N1 K1
     rintro _ w329 ⟨zi333,zi334,zl335,ra336,rn337,rc338,hx331,hx332,rfl,N,H⟩
     obtain rfl:=H.vM 1 rfl
     refine ⟨H.pick [3,4,5,6] [0,1],(zH [18,20] qh qm (vg rfl ?_ (vg rfl ?_ zI)))⟩
     ·skip
      refine zf H Tryz.underlying24 ti2 kk.toNat rfl rfl qf qf qf fun b339 w340 H=>⟨H.pick [4,5,6,7] [0,1],(zH [19,20] qh qm (vg rfl ?_ (vg rfl ?_ zI)))⟩
      ·skip
       refine xP [.int .i64 zi328,.int .i64 0,Sv ra336 zl335.length rc338,Sv (some ⟨b320,0,none⟩) kk.toNat kk.toNat,Sv (some ⟨b339,0,none⟩) kk.toNat kk.toNat,Sv none 0 0,Sv none 0 0,Sv none 0 0,Bv false] [(0,.int .i64 zi328),(2,Sv ra336 zl335.length rc338),(3,Sv (some ⟨b320,0,none⟩) kk.toNat kk.toNat),(4,Sv (some ⟨b339,0,none⟩) kk.toNat kk.toNat)] (⟨H.pick [4,5,6,7] [0,1],(ro 20 rfl (xx H ti56 [.int .i64 0,.int .i64 0,Sv none 0 0,Sv none 0 0,Sv none 0 0,Sv none 0 0,Sv none 0 0,Sv none 0 0,Bv false] fun b341 w342 H=>⟨H.pick [5,6,7,8] [0,1],(ro 21 rfl ?_)⟩))⟩)
       refine xu H 0 [.int .i64 zi328,.int .i64 0,Sv ra336 zl335.length rc338,Sv (some ⟨b320,0,none⟩) kk.toNat kk.toNat,Sv (some ⟨b339,0,none⟩) kk.toNat kk.toNat,Sv none 0 0,Sv none 0 0,Sv none 0 0,Bv false] Tryz.sizeOf56 fun w343 H=>?_
       try dsimp only [List.set] at H
       refine ⟨H.pick [5,6,7,8] [0,1],(xg qh ((meet ⟨_,zi326,zi328,zi333,zl335,b341,ra336,rc338,b320,b339,zi334,uE5,hx324,hx325,hx331,hx332,N,H.xH 9 2 [0,1,4,2,3,5,6,7,8] [0,1] qo qo⟩)))⟩
      ·skip
       refine xx H ti56 [.int .i64 0,.int .i64 0,Sv none 0 0,Sv none 0 0,Sv none 0 0,Sv none 0 0,Sv none 0 0,Sv none 0 0,Bv false] fun b344 w345 H=>⟨H.pick [5,6,7,8] [0,1],(ro 19 rfl (xP [.int .i64 zi328,.int .i64 0,Sv ra336 zl335.length rc338,Sv (some ⟨b320,0,none⟩) kk.toNat kk.toNat,Sv (some ⟨b339,0,none⟩) kk.toNat kk.toNat,Sv none 0 0,Sv none 0 0,Sv none 0 0,Bv false] [(0,.int .i64 zi328),(2,Sv ra336 zl335.length rc338),(3,Sv (some ⟨b320,0,none⟩) kk.toNat kk.toNat),(4,Sv (some ⟨b339,0,none⟩) kk.toNat kk.toNat)] (⟨H.pick [5,6,7,8] [0,1],(ro 21 rfl ?_)⟩)))⟩
       refine xu H 0 [.int .i64 zi328,.int .i64 0,Sv ra336 zl335.length rc338,Sv (some ⟨b320,0,none⟩) kk.toNat kk.toNat,Sv (some ⟨b339,0,none⟩) kk.toNat kk.toNat,Sv none 0 0,Sv none 0 0,Sv none 0 0,Bv false] Tryz.sizeOf56 fun w346 H=>?_
       try dsimp only [List.set] at H
       refine ⟨H.pick [5,6,7,8] [0,1],(xg qh ((meet ⟨_,zi326,zi328,zi333,zl335,b344,ra336,rc338,b320,b339,zi334,uE5,hx324,hx325,hx331,hx332,N,H.xH 9 2 [0,1,4,2,3,5,6,7,8] [0,1] qo qo⟩)))⟩
     ·skip
      refine xx H ti56 [.int .i64 0,.int .i64 0,Sv none 0 0,Sv none 0 0,Sv none 0 0,Sv none 0 0,Sv none 0 0,Sv none 0 0,Bv false] fun b347 w348 H=>⟨H.pick [4,5,6,7] [0,1],(ro 18 rfl (zf H Tryz.underlying24 ti2 kk.toNat rfl rfl qf qf qf fun b349 w350 H=>⟨H.pick [5,6,7,8] [0,1],(ro 19 rfl ?_)⟩))⟩
      refine xP [.int .i64 zi328,.int .i64 0,Sv ra336 zl335.length rc338,Sv (some ⟨b320,0,none⟩) kk.toNat kk.toNat,Sv (some ⟨b349,0,none⟩) kk.toNat kk.toNat,Sv none 0 0,Sv none 0 0,Sv none 0 0,Bv false] [(0,.int .i64 zi328),(2,Sv ra336 zl335.length rc338),(3,Sv (some ⟨b320,0,none⟩) kk.toNat kk.toNat),(4,Sv (some ⟨b349,0,none⟩) kk.toNat kk.toNat)] (⟨H.pick [5,6,7,8] [0,1],(ro 21 rfl ?_)⟩)
      refine xu H 1 [.int .i64 zi328,.int .i64 0,Sv ra336 zl335.length rc338,Sv (some ⟨b320,0,none⟩) kk.toNat kk.toNat,Sv (some ⟨b349,0,none⟩) kk.toNat kk.toNat,Sv none 0 0,Sv none 0 0,Sv none 0 0,Bv false] Tryz.sizeOf56 fun w351 H=>?_
      try dsimp only [List.set] at H
      refine ⟨H.pick [5,6,7,8] [0,1],(xg qh ((meet ⟨_,zi326,zi328,zi333,zl335,b347,ra336,rc338,b320,b349,zi334,uE5,hx324,hx325,hx331,hx332,N,H.xH 9 2 [1,0,4,2,3,5,6,7,8] [0,1] qo qo⟩)))⟩
    ·skip
     refine zf H Tryz.underlying24 ti2 kk.toNat rfl rfl qf qf qf fun b352 w353 H=>⟨H.pick [3,4,5,6] [0,1],(zH [8,20] qh qm (vg rfl ?_ (vg rfl ?_ zI)))⟩
     ·skip
      have H1:St W0 w353 ((.box bs [Sv ac code.length cc,.int .i64 zi326,.int .u64 zi327] 127) :: (rr (some ⟨b352,0,none⟩) kk.toNat kk.toNat 2 1 ((List.replicate kk.toNat (0:Int)).map (Value.int .i64))) :: (rr (some ⟨b320,0,none⟩) kk.toNat kk.toNat 2 1 ((List.replicate kk.toNat (0:Int)).map (Value.int .i64))) :: (.box b1 [.int .i64 0,.int .i64 0,Sv none 0 0,Sv none 0 0,Sv none 0 0,Sv none 0 0,Sv none 0 0,Sv none 0 0,Bv false] 56) :: (.box bY [.int .i64 kk,Sv rap par.length rcp,Sv raR rules.length rcR] 27) :: (rr rap par.length rcp 2 1 (par.map (Value.int .i64))) :: (rr raR rules.length rcR 56 9 rxR) :: ps) ((sF false Fc ac cc code) :: (qX true rFR rxR rules) :: Γ):=H.xH 7 2 [1,0,2,3,4,5,6] [0,1] qo qo
      have N1:Fresh _ (rFR :: Ns):=N
      have K1:Kept (Ns) ((qX true rFR rxR rules) :: Γ):=K0.behind 1 rfl
      replace K1:=K1.cons (F:=rFR) 0 rfl rfl
      refine xR #[.pointer (some ⟨bs,0,none⟩),.int .i64 kk,.int .i64 2] rfl rfl Tryz.call188 (zT code zi326 zi327 bs ac cc Fc kk (2:Int) H1 N1 K1 qg qg qg) ?_
      clear H H1 N1 K1
      rintro _ w354 ⟨zi358,zi359,zl360,ra361,rn362,rc363,hx356,hx357,rfl,N,H⟩
      obtain rfl:=H.vM 1 rfl
      refine ⟨H.pick [4,5,6,7] [0,1],(zH [19,20] qh qm (vg rfl ?_ (vg rfl ?_ zI)))⟩
      ·skip
       refine xP [.int .i64 zi328,.int .i64 0,Sv ra361 zl360.length rc363,Sv (some ⟨b320,0,none⟩) kk.toNat kk.toNat,Sv (some ⟨b352,0,none⟩) kk.toNat kk.toNat,Sv none 0 0,Sv none 0 0,Sv none 0 0,Bv false] [(0,.int .i64 zi328),(2,Sv ra361 zl360.length rc363),(3,Sv (some ⟨b320,0,none⟩) kk.toNat kk.toNat),(4,Sv (some ⟨b352,0,none⟩) kk.toNat kk.toNat)] (⟨H.pick [4,5,6,7] [0,1],(ro 20 rfl (xx H ti56 [.int .i64 0,.int .i64 0,Sv none 0 0,Sv none 0 0,Sv none 0 0,Sv none 0 0,Sv none 0 0,Sv none 0 0,Bv false] fun b364 w365 H=>⟨H.pick [5,6,7,8] [0,1],(ro 21 rfl ?_)⟩))⟩)
       refine xu H 0 [.int .i64 zi328,.int .i64 0,Sv ra361 zl360.length rc363,Sv (some ⟨b320,0,none⟩) kk.toNat kk.toNat,Sv (some ⟨b352,0,none⟩) kk.toNat kk.toNat,Sv none 0 0,Sv none 0 0,Sv none 0 0,Bv false] Tryz.sizeOf56 fun w366 H=>?_
       try dsimp only [List.set] at H
       refine ⟨H.pick [5,6,7,8] [0,1],(xg qh ((meet ⟨_,zi326,zi328,zi358,zl360,b364,ra361,rc363,b320,b352,zi359,uE5,hx324,hx325,hx356,hx357,N,H.xH 9 2 [0,3,4,1,2,5,6,7,8] [0,1] qo qo⟩)))⟩
      ·skip
       refine xx H ti56 [.int .i64 0,.int .i64 0,Sv none 0 0,Sv none 0 0,Sv none 0 0,Sv none 0 0,Sv none 0 0,Sv none 0 0,Bv false] fun b367 w368 H=>⟨H.pick [5,6,7,8] [0,1],(ro 19 rfl (xP [.int .i64 zi328,.int .i64 0,Sv ra361 zl360.length rc363,Sv (some ⟨b320,0,none⟩) kk.toNat kk.toNat,Sv (some ⟨b352,0,none⟩) kk.toNat kk.toNat,Sv none 0 0,Sv none 0 0,Sv none 0 0,Bv false] [(0,.int .i64 zi328),(2,Sv ra361 zl360.length rc363),(3,Sv (some ⟨b320,0,none⟩) kk.toNat kk.toNat),(4,Sv (some ⟨b352,0,none⟩) kk.toNat kk.toNat)] (⟨H.pick [5,6,7,8] [0,1],(ro 21 rfl ?_)⟩)))⟩
       refine xu H 0 [.int .i64 zi328,.int .i64 0,Sv ra361 zl360.length rc363,Sv (some ⟨b320,0,none⟩) kk.toNat kk.toNat,Sv (some ⟨b352,0,none⟩) kk.toNat kk.toNat,Sv none 0 0,Sv none 0 0,Sv none 0 0,Bv false] Tryz.sizeOf56 fun w369 H=>?_
       try dsimp only [List.set] at H
       refine ⟨H.pick [5,6,7,8] [0,1],(xg qh ((meet ⟨_,zi326,zi328,zi358,zl360,b367,ra361,rc363,b320,b352,zi359,uE5,hx324,hx325,hx356,hx357,N,H.xH 9 2 [0,3,4,1,2,5,6,7,8] [0,1] qo qo⟩)))⟩
     ·skip
      refine xx H ti56 [.int .i64 0,.int .i64 0,Sv none 0 0,Sv none 0 0,Sv none 0 0,Sv none 0 0,Sv none 0 0,Sv none 0 0,Bv false] fun b370 w371 H=>⟨H.pick [4,5,6,7] [0,1],(ro 8 rfl ?_)⟩
      have H1:St W0 w371 ((.box bs [Sv ac code.length cc,.int .i64 zi326,.int .u64 zi327] 127) :: (.box b370 [.int .i64 0,.int .i64 0,Sv none 0 0,Sv none 0 0,Sv none 0 0,Sv none 0 0,Sv none 0 0,Sv none 0 0,Bv false] 56) :: (rr (some ⟨b352,0,none⟩) kk.toNat kk.toNat 2 1 ((List.replicate kk.toNat (0:Int)).map (Value.int .i64))) :: (rr (some ⟨b320,0,none⟩) kk.toNat kk.toNat 2 1 ((List.replicate kk.toNat (0:Int)).map (Value.int .i64))) :: (.box b1 [.int .i64 0,.int .i64 0,Sv none 0 0,Sv none 0 0,Sv none 0 0,Sv none 0 0,Sv none 0 0,Sv none 0 0,Bv false] 56) :: (.box bY [.int .i64 kk,Sv rap par.length rcp,Sv raR rules.length rcR] 27) :: (rr rap par.length rcp 2 1 (par.map (Value.int .i64))) :: (rr raR rules.length rcR 56 9 rxR) :: ps) ((sF false Fc ac cc code) :: (qX true rFR rxR rules) :: Γ):=H.xH 8 2 [2,0,1,3,4,5,6,7] [0,1] qo qo
      have N1:Fresh _ (rFR :: Ns):=N
      have K1:Kept (Ns) ((qX true rFR rxR rules) :: Γ):=K0.behind 1 rfl
      replace K1:=K1.cons (F:=rFR) 0 rfl rfl
      refine xR #[.pointer (some ⟨bs,0,none⟩),.int .i64 kk,.int .i64 2] rfl rfl Tryz.call188 (zT code zi326 zi327 bs ac cc Fc kk (2:Int) H1 N1 K1 qg qg qg) ?_
      clear H H1 N1 K1
      rintro _ w372 ⟨zi376,zi377,zl378,ra379,rn380,rc381,hx374,hx375,rfl,N,H⟩
      obtain rfl:=H.vM 1 rfl
      refine ⟨H.pick [5,6,7,8] [0,1],(ro 19 rfl (xP [.int .i64 zi328,.int .i64 0,Sv ra379 zl378.length rc381,Sv (some ⟨b320,0,none⟩) kk.toNat kk.toNat,Sv (some ⟨b352,0,none⟩) kk.toNat kk.toNat,Sv none 0 0,Sv none 0 0,Sv none 0 0,Bv false] [(0,.int .i64 zi328),(2,Sv ra379 zl378.length rc381),(3,Sv (some ⟨b320,0,none⟩) kk.toNat kk.toNat),(4,Sv (some ⟨b352,0,none⟩) kk.toNat kk.toNat)] (⟨H.pick [5,6,7,8] [0,1],(ro 21 rfl ?_)⟩)))⟩
      refine xu H 2 [.int .i64 zi328,.int .i64 0,Sv ra379 zl378.length rc381,Sv (some ⟨b320,0,none⟩) kk.toNat kk.toNat,Sv (some ⟨b352,0,none⟩) kk.toNat kk.toNat,Sv none 0 0,Sv none 0 0,Sv none 0 0,Bv false] Tryz.sizeOf56 fun w382 H=>?_
      try dsimp only [List.set] at H
      refine ⟨H.pick [5,6,7,8] [0,1],(xg qh ((meet ⟨_,zi326,zi328,zi376,zl378,b370,ra379,rc381,b320,b352,zi377,uE5,hx324,hx325,hx374,hx375,N,H.xH 9 2 [2,3,4,0,1,5,6,7,8] [0,1] qo qo⟩)))⟩
    ·skip
     refine xx H ti56 [.int .i64 0,.int .i64 0,Sv none 0 0,Sv none 0 0,Sv none 0 0,Sv none 0 0,Sv none 0 0,Sv none 0 0,Bv false] fun b383 w384 H=>⟨H.pick [3,4,5,6] [0,1],(zH [8,18] qh qm (vg rfl ?_ (vg rfl ?_ zI)))⟩
     ·skip
      have H1:St W0 w384 ((.box bs [Sv ac code.length cc,.int .i64 zi326,.int .u64 zi327] 127) :: (.box b383 [.int .i64 0,.int .i64 0,Sv none 0 0,Sv none 0 0,Sv none 0 0,Sv none 0 0,Sv none 0 0,Sv none 0 0,Bv false] 56) :: (rr (some ⟨b320,0,none⟩) kk.toNat kk.toNat 2 1 ((List.replicate kk.toNat (0:Int)).map (Value.int .i64))) :: (.box b1 [.int .i64 0,.int .i64 0,Sv none 0 0,Sv none 0 0,Sv none 0 0,Sv none 0 0,Sv none 0 0,Sv none 0 0,Bv false] 56) :: (.box bY [.int .i64 kk,Sv rap par.length rcp,Sv raR rules.length rcR] 27) :: (rr rap par.length rcp 2 1 (par.map (Value.int .i64))) :: (rr raR rules.length rcR 56 9 rxR) :: ps) ((sF false Fc ac cc code) :: (qX true rFR rxR rules) :: Γ):=H.xH 7 2 [1,0,2,3,4,5,6] [0,1] qo qo
      have N1:Fresh _ (rFR :: Ns):=N
      have K1:Kept (Ns) ((qX true rFR rxR rules) :: Γ):=K0.behind 1 rfl
      replace K1:=K1.cons (F:=rFR) 0 rfl rfl
      refine xR #[.pointer (some ⟨bs,0,none⟩),.int .i64 kk,.int .i64 2] rfl rfl Tryz.call188 (zT code zi326 zi327 bs ac cc Fc kk (2:Int) H1 N1 K1 qg qg qg) ?_
      clear H H1 N1 K1
      rintro _ w385 ⟨zi389,zi390,zl391,ra392,rn393,rc394,hx387,hx388,rfl,N,H⟩
      obtain rfl:=H.vM 1 rfl
      refine ⟨H.pick [4,5,6,7] [0,1],(ro 18 rfl (zf H Tryz.underlying24 ti2 kk.toNat rfl rfl qf qf qf fun b395 w396 H=>⟨H.pick [5,6,7,8] [0,1],(ro 19 rfl (xP [.int .i64 zi328,.int .i64 0,Sv ra392 zl391.length rc394,Sv (some ⟨b320,0,none⟩) kk.toNat kk.toNat,Sv (some ⟨b395,0,none⟩) kk.toNat kk.toNat,Sv none 0 0,Sv none 0 0,Sv none 0 0,Bv false] [(0,.int .i64 zi328),(2,Sv ra392 zl391.length rc394),(3,Sv (some ⟨b320,0,none⟩) kk.toNat kk.toNat),(4,Sv (some ⟨b395,0,none⟩) kk.toNat kk.toNat)] (⟨H.pick [5,6,7,8] [0,1],(ro 21 rfl ?_)⟩)))⟩))⟩
      refine xu H 3 [.int .i64 zi328,.int .i64 0,Sv ra392 zl391.length rc394,Sv (some ⟨b320,0,none⟩) kk.toNat kk.toNat,Sv (some ⟨b395,0,none⟩) kk.toNat kk.toNat,Sv none 0 0,Sv none 0 0,Sv none 0 0,Bv false] Tryz.sizeOf56 fun w397 H=>?_
      try dsimp only [List.set] at H
      refine ⟨H.pick [5,6,7,8] [0,1],(xg qh ((meet ⟨_,zi326,zi328,zi389,zl391,b383,ra392,rc394,b320,b395,zi390,uE5,hx324,hx325,hx387,hx388,N,H.xH 9 2 [3,0,4,1,2,5,6,7,8] [0,1] qo qo⟩)))⟩
     ·skip
      refine zf H Tryz.underlying24 ti2 kk.toNat rfl rfl qf qf qf fun b398 w399 H=>⟨H.pick [4,5,6,7] [0,1],(ro 8 rfl ?_)⟩
      have H1:St W0 w399 ((.box bs [Sv ac code.length cc,.int .i64 zi326,.int .u64 zi327] 127) :: (rr (some ⟨b398,0,none⟩) kk.toNat kk.toNat 2 1 ((List.replicate kk.toNat (0:Int)).map (Value.int .i64))) :: (.box b383 [.int .i64 0,.int .i64 0,Sv none 0 0,Sv none 0 0,Sv none 0 0,Sv none 0 0,Sv none 0 0,Sv none 0 0,Bv false] 56) :: (rr (some ⟨b320,0,none⟩) kk.toNat kk.toNat 2 1 ((List.replicate kk.toNat (0:Int)).map (Value.int .i64))) :: (.box b1 [.int .i64 0,.int .i64 0,Sv none 0 0,Sv none 0 0,Sv none 0 0,Sv none 0 0,Sv none 0 0,Sv none 0 0,Bv false] 56) :: (.box bY [.int .i64 kk,Sv rap par.length rcp,Sv raR rules.length rcR] 27) :: (rr rap par.length rcp 2 1 (par.map (Value.int .i64))) :: (rr raR rules.length rcR 56 9 rxR) :: ps) ((sF false Fc ac cc code) :: (qX true rFR rxR rules) :: Γ):=H.xH 8 2 [2,0,1,3,4,5,6,7] [0,1] qo qo
      have N1:Fresh _ (rFR :: Ns):=N
      have K1:Kept (Ns) ((qX true rFR rxR rules) :: Γ):=K0.behind 1 rfl
      replace K1:=K1.cons (F:=rFR) 0 rfl rfl
      refine xR #[.pointer (some ⟨bs,0,none⟩),.int .i64 kk,.int .i64 2] rfl rfl Tryz.call188 (zT code zi326 zi327 bs ac cc Fc kk (2:Int) H1 N1 K1 qg qg qg) ?_
      clear H H1 N1 K1
      rintro _ w400 ⟨zi404,zi405,zl406,ra407,rn408,rc409,hx402,hx403,rfl,N,H⟩
      obtain rfl:=H.vM 1 rfl
      refine ⟨H.pick [5,6,7,8] [0,1],(ro 19 rfl (xP [.int .i64 zi328,.int .i64 0,Sv ra407 zl406.length rc409,Sv (some ⟨b320,0,none⟩) kk.toNat kk.toNat,Sv (some ⟨b398,0,none⟩) kk.toNat kk.toNat,Sv none 0 0,Sv none 0 0,Sv none 0 0,Bv false] [(0,.int .i64 zi328),(2,Sv ra407 zl406.length rc409),(3,Sv (some ⟨b320,0,none⟩) kk.toNat kk.toNat),(4,Sv (some ⟨b398,0,none⟩) kk.toNat kk.toNat)] (⟨H.pick [5,6,7,8] [0,1],(ro 21 rfl ?_)⟩)))⟩
      refine xu H 3 [.int .i64 zi328,.int .i64 0,Sv ra407 zl406.length rc409,Sv (some ⟨b320,0,none⟩) kk.toNat kk.toNat,Sv (some ⟨b398,0,none⟩) kk.toNat kk.toNat,Sv none 0 0,Sv none 0 0,Sv none 0 0,Bv false] Tryz.sizeOf56 fun w410 H=>?_
      try dsimp only [List.set] at H
      refine ⟨H.pick [5,6,7,8] [0,1],(xg qh ((meet ⟨_,zi326,zi328,zi404,zl406,b383,ra407,rc409,b320,b398,zi405,uE5,hx324,hx325,hx402,hx403,N,H.xH 9 2 [3,2,4,0,1,5,6,7,8] [0,1] qo qo⟩)))⟩
   ·skip
    refine zf H Tryz.underlying24 ti2 kk.toNat rfl rfl qf qf qf fun b411 w412 H=>⟨H.pick [2,4,5,6] [0,1],(zH [2,20] qh qm (vg rfl ?_ (vg rfl ?_ zI)))⟩
    ·skip
     have H1:St W0 w412 ((.box bs [Sv ac code.length cc,.int .i64 ip,.int .u64 sd] 127) :: (rr (some ⟨b411,0,none⟩) kk.toNat kk.toNat 2 1 ((List.replicate kk.toNat (0:Int)).map (Value.int .i64))) :: (rr (some ⟨b320,0,none⟩) kk.toNat kk.toNat 2 1 ((List.replicate kk.toNat (0:Int)).map (Value.int .i64))) :: (.box b1 [.int .i64 0,.int .i64 0,Sv none 0 0,Sv none 0 0,Sv none 0 0,Sv none 0 0,Sv none 0 0,Sv none 0 0,Bv false] 56) :: (.box bY [.int .i64 kk,Sv rap par.length rcp,Sv raR rules.length rcR] 27) :: (rr rap par.length rcp 2 1 (par.map (Value.int .i64))) :: (rr raR rules.length rcR 56 9 rxR) :: ps) ((sF false Fc ac cc code) :: (qX true rFR rxR rules) :: Γ):=H.xH 7 2 [3,0,1,2,4,5,6] [0,1] qo qo
     have N1:Fresh _ (rFR :: Ns):=N
     have K1:Kept (Ns) ((qX true rFR rxR rules) :: Γ):=K0.behind 1 rfl
     replace K1:=K1.cons (F:=rFR) 0 rfl rfl
     refine xR #[.pointer (some ⟨bs,0,none⟩),.int .i64 par.length] rfl rfl Tryz.call68 (jZ code ip sd bs ac cc Fc par.length H1 N1 K1 qg) ?_
     clear H H1 N1 K1
     rintro _ w413 ⟨zi417,zi418,zi419,hx415,hx416,rfl,N,H⟩
     refine ⟨H.pick [3,4,5,6] [0,1],(zH [8,20] qh qm (vg rfl ?_ (vg rfl ?_ zI)))⟩
     ·skip
      have H1:St W0 w413 ((.box bs [Sv ac code.length cc,.int .i64 zi417,.int .u64 zi418] 127) :: (rr (some ⟨b411,0,none⟩) kk.toNat kk.toNat 2 1 ((List.replicate kk.toNat (0:Int)).map (Value.int .i64))) :: (rr (some ⟨b320,0,none⟩) kk.toNat kk.toNat 2 1 ((List.replicate kk.toNat (0:Int)).map (Value.int .i64))) :: (.box b1 [.int .i64 0,.int .i64 0,Sv none 0 0,Sv none 0 0,Sv none 0 0,Sv none 0 0,Sv none 0 0,Sv none 0 0,Bv false] 56) :: (.box bY [.int .i64 kk,Sv rap par.length rcp,Sv raR rules.length rcR] 27) :: (rr rap par.length rcp 2 1 (par.map (Value.int .i64))) :: (rr raR rules.length rcR 56 9 rxR) :: ps) ((sF false Fc ac cc code) :: (qX true rFR rxR rules) :: Γ):=H.xH 7 2 [0,1,2,3,4,5,6] [0,1] qo qo
      have N1:Fresh _ (rFR :: Ns):=N
      have K1:Kept (Ns) ((qX true rFR rxR rules) :: Γ):=K0.behind 1 rfl
      replace K1:=K1.cons (F:=rFR) 0 rfl rfl
      refine xR #[.pointer (some ⟨bs,0,none⟩),.int .i64 kk,.int .i64 2] rfl rfl Tryz.call188 (zT code zi417 zi418 bs ac cc Fc kk (2:Int) H1 N1 K1 qg qg qg) ?_
      clear H H1 N1 K1
      rintro _ w420 ⟨zi424,zi425,zl426,ra427,rn428,rc429,hx422,hx423,rfl,N,H⟩
      obtain rfl:=H.vM 1 rfl
      refine ⟨H.pick [4,5,6,7] [0,1],(zH [19,20] qh qm (vg rfl ?_ (vg rfl ?_ zI)))⟩
      ·skip
       refine xP [.int .i64 zi419,.int .i64 0,Sv ra427 zl426.length rc429,Sv (some ⟨b320,0,none⟩) kk.toNat kk.toNat,Sv (some ⟨b411,0,none⟩) kk.toNat kk.toNat,Sv none 0 0,Sv none 0 0,Sv none 0 0,Bv false] [(0,.int .i64 zi419),(2,Sv ra427 zl426.length rc429),(3,Sv (some ⟨b320,0,none⟩) kk.toNat kk.toNat),(4,Sv (some ⟨b411,0,none⟩) kk.toNat kk.toNat)] (⟨H.pick [4,5,6,7] [0,1],(ro 20 rfl (xx H ti56 [.int .i64 0,.int .i64 0,Sv none 0 0,Sv none 0 0,Sv none 0 0,Sv none 0 0,Sv none 0 0,Sv none 0 0,Bv false] fun b430 w431 H=>⟨H.pick [5,6,7,8] [0,1],(ro 21 rfl ?_)⟩))⟩)
       refine xu H 0 [.int .i64 zi419,.int .i64 0,Sv ra427 zl426.length rc429,Sv (some ⟨b320,0,none⟩) kk.toNat kk.toNat,Sv (some ⟨b411,0,none⟩) kk.toNat kk.toNat,Sv none 0 0,Sv none 0 0,Sv none 0 0,Bv false] Tryz.sizeOf56 fun w432 H=>?_
       try dsimp only [List.set] at H
       refine ⟨H.pick [5,6,7,8] [0,1],(xg qh ((meet ⟨_,zi417,zi419,zi424,zl426,b430,ra427,rc429,b320,b411,zi425,uE5,hx415,hx416,hx422,hx423,N,H.xH 9 2 [0,3,4,1,2,5,6,7,8] [0,1] qo qo⟩)))⟩
      ·skip
       refine xx H ti56 [.int .i64 0,.int .i64 0,Sv none 0 0,Sv none 0 0,Sv none 0 0,Sv none 0 0,Sv none 0 0,Sv none 0 0,Bv false] fun b433 w434 H=>⟨H.pick [5,6,7,8] [0,1],(ro 19 rfl (xP [.int .i64 zi419,.int .i64 0,Sv ra427 zl426.length rc429,Sv (some ⟨b320,0,none⟩) kk.toNat kk.toNat,Sv (some ⟨b411,0,none⟩) kk.toNat kk.toNat,Sv none 0 0,Sv none 0 0,Sv none 0 0,Bv false] [(0,.int .i64 zi419),(2,Sv ra427 zl426.length rc429),(3,Sv (some ⟨b320,0,none⟩) kk.toNat kk.toNat),(4,Sv (some ⟨b411,0,none⟩) kk.toNat kk.toNat)] (⟨H.pick [5,6,7,8] [0,1],(ro 21 rfl ?_)⟩)))⟩
       refine xu H 0 [.int .i64 zi419,.int .i64 0,Sv ra427 zl426.length rc429,Sv (some ⟨b320,0,none⟩) kk.toNat kk.toNat,Sv (some ⟨b411,0,none⟩) kk.toNat kk.toNat,Sv none 0 0,Sv none 0 0,Sv none 0 0,Bv false] Tryz.sizeOf56 fun w435 H=>?_
       try dsimp only [List.set] at H
       refine ⟨H.pick [5,6,7,8] [0,1],(xg qh ((meet ⟨_,zi417,zi419,zi424,zl426,b433,ra427,rc429,b320,b411,zi425,uE5,hx415,hx416,hx422,hx423,N,H.xH 9 2 [0,3,4,1,2,5,6,7,8] [0,1] qo qo⟩)))⟩
     ·skip
      refine xx H ti56 [.int .i64 0,.int .i64 0,Sv none 0 0,Sv none 0 0,Sv none 0 0,Sv none 0 0,Sv none 0 0,Sv none 0 0,Bv false] fun b436 w437 H=>⟨H.pick [4,5,6,7] [0,1],(ro 8 rfl ?_)⟩
      have H1:St W0 w437 ((.box bs [Sv ac code.length cc,.int .i64 zi417,.int .u64 zi418] 127) :: (.box b436 [.int .i64 0,.int .i64 0,Sv none 0 0,Sv none 0 0,Sv none 0 0,Sv none 0 0,Sv none 0 0,Sv none 0 0,Bv false] 56) :: (rr (some ⟨b411,0,none⟩) kk.toNat kk.toNat 2 1 ((List.replicate kk.toNat (0:Int)).map (Value.int .i64))) :: (rr (some ⟨b320,0,none⟩) kk.toNat kk.toNat 2 1 ((List.replicate kk.toNat (0:Int)).map (Value.int .i64))) :: (.box b1 [.int .i64 0,.int .i64 0,Sv none 0 0,Sv none 0 0,Sv none 0 0,Sv none 0 0,Sv none 0 0,Sv none 0 0,Bv false] 56) :: (.box bY [.int .i64 kk,Sv rap par.length rcp,Sv raR rules.length rcR] 27) :: (rr rap par.length rcp 2 1 (par.map (Value.int .i64))) :: (rr raR rules.length rcR 56 9 rxR) :: ps) ((sF false Fc ac cc code) :: (qX true rFR rxR rules) :: Γ):=H.xH 8 2 [1,0,2,3,4,5,6,7] [0,1] qo qo
      have N1:Fresh _ (rFR :: Ns):=N
      have K1:Kept (Ns) ((qX true rFR rxR rules) :: Γ):=K0.behind 1 rfl
      replace K1:=K1.cons (F:=rFR) 0 rfl rfl
      refine xR #[.pointer (some ⟨bs,0,none⟩),.int .i64 kk,.int .i64 2] rfl rfl Tryz.call188 (zT code zi417 zi418 bs ac cc Fc kk (2:Int) H1 N1 K1 qg qg qg) ?_
      clear H H1 N1 K1
      rintro _ w438 ⟨zi442,zi443,zl444,ra445,rn446,rc447,hx440,hx441,rfl,N,H⟩
      obtain rfl:=H.vM 1 rfl
      refine ⟨H.pick [5,6,7,8] [0,1],(ro 19 rfl (xP [.int .i64 zi419,.int .i64 0,Sv ra445 zl444.length rc447,Sv (some ⟨b320,0,none⟩) kk.toNat kk.toNat,Sv (some ⟨b411,0,none⟩) kk.toNat kk.toNat,Sv none 0 0,Sv none 0 0,Sv none 0 0,Bv false] [(0,.int .i64 zi419),(2,Sv ra445 zl444.length rc447),(3,Sv (some ⟨b320,0,none⟩) kk.toNat kk.toNat),(4,Sv (some ⟨b411,0,none⟩) kk.toNat kk.toNat)] (⟨H.pick [5,6,7,8] [0,1],(ro 21 rfl ?_)⟩)))⟩
      refine xu H 2 [.int .i64 zi419,.int .i64 0,Sv ra445 zl444.length rc447,Sv (some ⟨b320,0,none⟩) kk.toNat kk.toNat,Sv (some ⟨b411,0,none⟩) kk.toNat kk.toNat,Sv none 0 0,Sv none 0 0,Sv none 0 0,Bv false] Tryz.sizeOf56 fun w448 H=>?_
      try dsimp only [List.set] at H
      refine ⟨H.pick [5,6,7,8] [0,1],(xg qh ((meet ⟨_,zi417,zi419,zi442,zl444,b436,ra445,rc447,b320,b411,zi443,uE5,hx415,hx416,hx440,hx441,N,H.xH 9 2 [2,3,4,0,1,5,6,7,8] [0,1] qo qo⟩)))⟩
    ·skip
     refine xx H ti56 [.int .i64 0,.int .i64 0,Sv none 0 0,Sv none 0 0,Sv none 0 0,Sv none 0 0,Sv none 0 0,Sv none 0 0,Bv false] fun b449 w450 H=>⟨H.pick [3,5,6,7] [0,1],(ro 2 rfl ?_)⟩
     have H1:St W0 w450 ((.box bs [Sv ac code.length cc,.int .i64 ip,.int .u64 sd] 127) :: (.box b449 [.int .i64 0,.int .i64 0,Sv none 0 0,Sv none 0 0,Sv none 0 0,Sv none 0 0,Sv none 0 0,Sv none 0 0,Bv false] 56) :: (rr (some ⟨b411,0,none⟩) kk.toNat kk.toNat 2 1 ((List.replicate kk.toNat (0:Int)).map (Value.int .i64))) :: (rr (some ⟨b320,0,none⟩) kk.toNat kk.toNat 2 1 ((List.replicate kk.toNat (0:Int)).map (Value.int .i64))) :: (.box b1 [.int .i64 0,.int .i64 0,Sv none 0 0,Sv none 0 0,Sv none 0 0,Sv none 0 0,Sv none 0 0,Sv none 0 0,Bv false] 56) :: (.box bY [.int .i64 kk,Sv rap par.length rcp,Sv raR rules.length rcR] 27) :: (rr rap par.length rcp 2 1 (par.map (Value.int .i64))) :: (rr raR rules.length rcR 56 9 rxR) :: ps) ((sF false Fc ac cc code) :: (qX true rFR rxR rules) :: Γ):=H.xH 8 2 [4,0,1,2,3,5,6,7] [0,1] qo qo
     have N1:Fresh _ (rFR :: Ns):=N
     have K1:Kept (Ns) ((qX true rFR rxR rules) :: Γ):=K0.behind 1 rfl
     replace K1:=K1.cons (F:=rFR) 0 rfl rfl
     refine xR #[.pointer (some ⟨bs,0,none⟩),.int .i64 par.length] rfl rfl Tryz.call68 (jZ code ip sd bs ac cc Fc par.length H1 N1 K1 qg) ?_
     clear H H1 N1 K1
     rintro _ w451 ⟨zi455,zi456,zi457,hx453,hx454,rfl,N,H⟩
     refine ⟨H.pick [4,5,6,7] [0,1],(ro 8 rfl ?_)⟩
     have H1:St W0 w451 ((.box bs [Sv ac code.length cc,.int .i64 zi455,.int .u64 zi456] 127) :: (.box b449 [.int .i64 0,.int .i64 0,Sv none 0 0,Sv none 0 0,Sv none 0 0,Sv none 0 0,Sv none 0 0,Sv none 0 0,Bv false] 56) :: (rr (some ⟨b411,0,none⟩) kk.toNat kk.toNat 2 1 ((List.replicate kk.toNat (0:Int)).map (Value.int .i64))) :: (rr (some ⟨b320,0,none⟩) kk.toNat kk.toNat 2 1 ((List.replicate kk.toNat (0:Int)).map (Value.int .i64))) :: (.box b1 [.int .i64 0,.int .i64 0,Sv none 0 0,Sv none 0 0,Sv none 0 0,Sv none 0 0,Sv none 0 0,Sv none 0 0,Bv false] 56) :: (.box bY [.int .i64 kk,Sv rap par.length rcp,Sv raR rules.length rcR] 27) :: (rr rap par.length rcp 2 1 (par.map (Value.int .i64))) :: (rr raR rules.length rcR 56 9 rxR) :: ps) ((sF false Fc ac cc code) :: (qX true rFR rxR rules) :: Γ):=H.xH 8 2 [0,1,2,3,4,5,6,7] [0,1] qo qo
     have N1:Fresh _ (rFR :: Ns):=N
     have K1:Kept (Ns) ((qX true rFR rxR rules) :: Γ):=K0.behind 1 rfl
     replace K1:=K1.cons (F:=rFR) 0 rfl rfl
     refine xR #[.pointer (some ⟨bs,0,none⟩),.int .i64 kk,.int .i64 2] rfl rfl Tryz.call188 (zT code zi455 zi456 bs ac cc Fc kk (2:Int) H1 N1 K1 qg qg qg) ?_
     clear H H1 N1 K1
     rintro _ w458 ⟨zi462,zi463,zl464,ra465,rn466,rc467,hx460,hx461,rfl,N,H⟩
     obtain rfl:=H.vM 1 rfl
     refine ⟨H.pick [5,6,7,8] [0,1],(ro 19 rfl (xP [.int .i64 zi457,.int .i64 0,Sv ra465 zl464.length rc467,Sv (some ⟨b320,0,none⟩) kk.toNat kk.toNat,Sv (some ⟨b411,0,none⟩) kk.toNat kk.toNat,Sv none 0 0,Sv none 0 0,Sv none 0 0,Bv false] [(0,.int .i64 zi457),(2,Sv ra465 zl464.length rc467),(3,Sv (some ⟨b320,0,none⟩) kk.toNat kk.toNat),(4,Sv (some ⟨b411,0,none⟩) kk.toNat kk.toNat)] (⟨H.pick [5,6,7,8] [0,1],(ro 21 rfl ?_)⟩)))⟩
     refine xu H 2 [.int .i64 zi457,.int .i64 0,Sv ra465 zl464.length rc467,Sv (some ⟨b320,0,none⟩) kk.toNat kk.toNat,Sv (some ⟨b411,0,none⟩) kk.toNat kk.toNat,Sv none 0 0,Sv none 0 0,Sv none 0 0,Bv false] Tryz.sizeOf56 fun w468 H=>?_
     try dsimp only [List.set] at H
     refine ⟨H.pick [5,6,7,8] [0,1],(xg qh ((meet ⟨_,zi455,zi457,zi462,zl464,b449,ra465,rc467,b320,b411,zi463,uE5,hx453,hx454,hx460,hx461,N,H.xH 9 2 [2,3,4,0,1,5,6,7,8] [0,1] qo qo⟩)))⟩
   ·skip
    refine xx H ti56 [.int .i64 0,.int .i64 0,Sv none 0 0,Sv none 0 0,Sv none 0 0,Sv none 0 0,Sv none 0 0,Sv none 0 0,Bv false] fun b469 w470 H=>⟨H.pick [2,4,5,6] [0,1],(zH [2,18] qh qm (vg rfl ?_ (vg rfl ?_ zI)))⟩
    ·skip
     have H1:St W0 w470 ((.box bs [Sv ac code.length cc,.int .i64 ip,.int .u64 sd] 127) :: (.box b469 [.int .i64 0,.int .i64 0,Sv none 0 0,Sv none 0 0,Sv none 0 0,Sv none 0 0,Sv none 0 0,Sv none 0 0,Bv false] 56) :: (rr (some ⟨b320,0,none⟩) kk.toNat kk.toNat 2 1 ((List.replicate kk.toNat (0:Int)).map (Value.int .i64))) :: (.box b1 [.int .i64 0,.int .i64 0,Sv none 0 0,Sv none 0 0,Sv none 0 0,Sv none 0 0,Sv none 0 0,Sv none 0 0,Bv false] 56) :: (.box bY [.int .i64 kk,Sv rap par.length rcp,Sv raR rules.length rcR] 27) :: (rr rap par.length rcp 2 1 (par.map (Value.int .i64))) :: (rr raR rules.length rcR 56 9 rxR) :: ps) ((sF false Fc ac cc code) :: (qX true rFR rxR rules) :: Γ):=H.xH 7 2 [3,0,1,2,4,5,6] [0,1] qo qo
     have N1:Fresh _ (rFR :: Ns):=N
     have K1:Kept (Ns) ((qX true rFR rxR rules) :: Γ):=K0.behind 1 rfl
     replace K1:=K1.cons (F:=rFR) 0 rfl rfl
     refine xR #[.pointer (some ⟨bs,0,none⟩),.int .i64 par.length] rfl rfl Tryz.call68 (jZ code ip sd bs ac cc Fc par.length H1 N1 K1 qg) ?_
     clear H H1 N1 K1
     rintro _ w471 ⟨zi475,zi476,zi477,hx473,hx474,rfl,N,H⟩
     refine ⟨H.pick [3,4,5,6] [0,1],(zH [8,18] qh qm (vg rfl ?_ (vg rfl ?_ zI)))⟩
     ·skip
      have H1:St W0 w471 ((.box bs [Sv ac code.length cc,.int .i64 zi475,.int .u64 zi476] 127) :: (.box b469 [.int .i64 0,.int .i64 0,Sv none 0 0,Sv none 0 0,Sv none 0 0,Sv none 0 0,Sv none 0 0,Sv none 0 0,Bv false] 56) :: (rr (some ⟨b320,0,none⟩) kk.toNat kk.toNat 2 1 ((List.replicate kk.toNat (0:Int)).map (Value.int .i64))) :: (.box b1 [.int .i64 0,.int .i64 0,Sv none 0 0,Sv none 0 0,Sv none 0 0,Sv none 0 0,Sv none 0 0,Sv none 0 0,Bv false] 56) :: (.box bY [.int .i64 kk,Sv rap par.length rcp,Sv raR rules.length rcR] 27) :: (rr rap par.length rcp 2 1 (par.map (Value.int .i64))) :: (rr raR rules.length rcR 56 9 rxR) :: ps) ((sF false Fc ac cc code) :: (qX true rFR rxR rules) :: Γ):=H.xH 7 2 [0,1,2,3,4,5,6] [0,1] qo qo
      have N1:Fresh _ (rFR :: Ns):=N
      have K1:Kept (Ns) ((qX true rFR rxR rules) :: Γ):=K0.behind 1 rfl
      replace K1:=K1.cons (F:=rFR) 0 rfl rfl
      refine xR #[.pointer (some ⟨bs,0,none⟩),.int .i64 kk,.int .i64 2] rfl rfl Tryz.call188 (zT code zi475 zi476 bs ac cc Fc kk (2:Int) H1 N1 K1 qg qg qg) ?_
      clear H H1 N1 K1
      rintro _ w478 ⟨zi482,zi483,zl484,ra485,rn486,rc487,hx480,hx481,rfl,N,H⟩
      obtain rfl:=H.vM 1 rfl
      refine ⟨H.pick [4,5,6,7] [0,1],(ro 18 rfl (zf H Tryz.underlying24 ti2 kk.toNat rfl rfl qf qf qf fun b488 w489 H=>⟨H.pick [5,6,7,8] [0,1],(ro 19 rfl (xP [.int .i64 zi477,.int .i64 0,Sv ra485 zl484.length rc487,Sv (some ⟨b320,0,none⟩) kk.toNat kk.toNat,Sv (some ⟨b488,0,none⟩) kk.toNat kk.toNat,Sv none 0 0,Sv none 0 0,Sv none 0 0,Bv false] [(0,.int .i64 zi477),(2,Sv ra485 zl484.length rc487),(3,Sv (some ⟨b320,0,none⟩) kk.toNat kk.toNat),(4,Sv (some ⟨b488,0,none⟩) kk.toNat kk.toNat)] (⟨H.pick [5,6,7,8] [0,1],(ro 21 rfl ?_)⟩)))⟩))⟩
      refine xu H 3 [.int .i64 zi477,.int .i64 0,Sv ra485 zl484.length rc487,Sv (some ⟨b320,0,none⟩) kk.toNat kk.toNat,Sv (some ⟨b488,0,none⟩) kk.toNat kk.toNat,Sv none 0 0,Sv none 0 0,Sv none 0 0,Bv false] Tryz.sizeOf56 fun w490 H=>?_
      try dsimp only [List.set] at H
      refine ⟨H.pick [5,6,7,8] [0,1],(xg qh ((meet ⟨_,zi475,zi477,zi482,zl484,b469,ra485,rc487,b320,b488,zi483,uE5,hx473,hx474,hx480,hx481,N,H.xH 9 2 [3,0,4,1,2,5,6,7,8] [0,1] qo qo⟩)))⟩
     ·skip
      refine zf H Tryz.underlying24 ti2 kk.toNat rfl rfl qf qf qf fun b491 w492 H=>⟨H.pick [4,5,6,7] [0,1],(ro 8 rfl ?_)⟩
      have H1:St W0 w492 ((.box bs [Sv ac code.length cc,.int .i64 zi475,.int .u64 zi476] 127) :: (rr (some ⟨b491,0,none⟩) kk.toNat kk.toNat 2 1 ((List.replicate kk.toNat (0:Int)).map (Value.int .i64))) :: (.box b469 [.int .i64 0,.int .i64 0,Sv none 0 0,Sv none 0 0,Sv none 0 0,Sv none 0 0,Sv none 0 0,Sv none 0 0,Bv false] 56) :: (rr (some ⟨b320,0,none⟩) kk.toNat kk.toNat 2 1 ((List.replicate kk.toNat (0:Int)).map (Value.int .i64))) :: (.box b1 [.int .i64 0,.int .i64 0,Sv none 0 0,Sv none 0 0,Sv none 0 0,Sv none 0 0,Sv none 0 0,Sv none 0 0,Bv false] 56) :: (.box bY [.int .i64 kk,Sv rap par.length rcp,Sv raR rules.length rcR] 27) :: (rr rap par.length rcp 2 1 (par.map (Value.int .i64))) :: (rr raR rules.length rcR 56 9 rxR) :: ps) ((sF false Fc ac cc code) :: (qX true rFR rxR rules) :: Γ):=H.xH 8 2 [1,0,2,3,4,5,6,7] [0,1] qo qo
      have N1:Fresh _ (rFR :: Ns):=N
      have K1:Kept (Ns) ((qX true rFR rxR rules) :: Γ):=K0.behind 1 rfl
      replace K1:=K1.cons (F:=rFR) 0 rfl rfl
      refine xR #[.pointer (some ⟨bs,0,none⟩),.int .i64 kk,.int .i64 2] rfl rfl Tryz.call188 (zT code zi475 zi476 bs ac cc Fc kk (2:Int) H1 N1 K1 qg qg qg) ?_
      clear H H1 N1 K1
      rintro _ w493 ⟨zi497,zi498,zl499,ra500,rn501,rc502,hx495,hx496,rfl,N,H⟩
      obtain rfl:=H.vM 1 rfl
      refine ⟨H.pick [5,6,7,8] [0,1],(ro 19 rfl (xP [.int .i64 zi477,.int .i64 0,Sv ra500 zl499.length rc502,Sv (some ⟨b320,0,none⟩) kk.toNat kk.toNat,Sv (some ⟨b491,0,none⟩) kk.toNat kk.toNat,Sv none 0 0,Sv none 0 0,Sv none 0 0,Bv false] [(0,.int .i64 zi477),(2,Sv ra500 zl499.length rc502),(3,Sv (some ⟨b320,0,none⟩) kk.toNat kk.toNat),(4,Sv (some ⟨b491,0,none⟩) kk.toNat kk.toNat)] (⟨H.pick [5,6,7,8] [0,1],(ro 21 rfl ?_)⟩)))⟩
      refine xu H 3 [.int .i64 zi477,.int .i64 0,Sv ra500 zl499.length rc502,Sv (some ⟨b320,0,none⟩) kk.toNat kk.toNat,Sv (some ⟨b491,0,none⟩) kk.toNat kk.toNat,Sv none 0 0,Sv none 0 0,Sv none 0 0,Bv false] Tryz.sizeOf56 fun w503 H=>?_
      try dsimp only [List.set] at H
      refine ⟨H.pick [5,6,7,8] [0,1],(xg qh ((meet ⟨_,zi475,zi477,zi497,zl499,b469,ra500,rc502,b320,b491,zi498,uE5,hx473,hx474,hx495,hx496,N,H.xH 9 2 [3,2,4,0,1,5,6,7,8] [0,1] qo qo⟩)))⟩
    ·skip
     refine zf H Tryz.underlying24 ti2 kk.toNat rfl rfl qf qf qf fun b504 w505 H=>⟨H.pick [3,5,6,7] [0,1],(ro 2 rfl ?_)⟩
     have H1:St W0 w505 ((.box bs [Sv ac code.length cc,.int .i64 ip,.int .u64 sd] 127) :: (rr (some ⟨b504,0,none⟩) kk.toNat kk.toNat 2 1 ((List.replicate kk.toNat (0:Int)).map (Value.int .i64))) :: (.box b469 [.int .i64 0,.int .i64 0,Sv none 0 0,Sv none 0 0,Sv none 0 0,Sv none 0 0,Sv none 0 0,Sv none 0 0,Bv false] 56) :: (rr (some ⟨b320,0,none⟩) kk.toNat kk.toNat 2 1 ((List.replicate kk.toNat (0:Int)).map (Value.int .i64))) :: (.box b1 [.int .i64 0,.int .i64 0,Sv none 0 0,Sv none 0 0,Sv none 0 0,Sv none 0 0,Sv none 0 0,Sv none 0 0,Bv false] 56) :: (.box bY [.int .i64 kk,Sv rap par.length rcp,Sv raR rules.length rcR] 27) :: (rr rap par.length rcp 2 1 (par.map (Value.int .i64))) :: (rr raR rules.length rcR 56 9 rxR) :: ps) ((sF false Fc ac cc code) :: (qX true rFR rxR rules) :: Γ):=H.xH 8 2 [4,0,1,2,3,5,6,7] [0,1] qo qo
     have N1:Fresh _ (rFR :: Ns):=N
     have K1:Kept (Ns) ((qX true rFR rxR rules) :: Γ):=K0.behind 1 rfl
     replace K1:=K1.cons (F:=rFR) 0 rfl rfl
     refine xR #[.pointer (some ⟨bs,0,none⟩),.int .i64 par.length] rfl rfl Tryz.call68 (jZ code ip sd bs ac cc Fc par.length H1 N1 K1 qg) ?_
     clear H H1 N1 K1
     rintro _ w506 ⟨zi510,zi511,zi512,hx508,hx509,rfl,N,H⟩
     refine ⟨H.pick [4,5,6,7] [0,1],(ro 8 rfl ?_)⟩
     have H1:St W0 w506 ((.box bs [Sv ac code.length cc,.int .i64 zi510,.int .u64 zi511] 127) :: (rr (some ⟨b504,0,none⟩) kk.toNat kk.toNat 2 1 ((List.replicate kk.toNat (0:Int)).map (Value.int .i64))) :: (.box b469 [.int .i64 0,.int .i64 0,Sv none 0 0,Sv none 0 0,Sv none 0 0,Sv none 0 0,Sv none 0 0,Sv none 0 0,Bv false] 56) :: (rr (some ⟨b320,0,none⟩) kk.toNat kk.toNat 2 1 ((List.replicate kk.toNat (0:Int)).map (Value.int .i64))) :: (.box b1 [.int .i64 0,.int .i64 0,Sv none 0 0,Sv none 0 0,Sv none 0 0,Sv none 0 0,Sv none 0 0,Sv none 0 0,Bv false] 56) :: (.box bY [.int .i64 kk,Sv rap par.length rcp,Sv raR rules.length rcR] 27) :: (rr rap par.length rcp 2 1 (par.map (Value.int .i64))) :: (rr raR rules.length rcR 56 9 rxR) :: ps) ((sF false Fc ac cc code) :: (qX true rFR rxR rules) :: Γ):=H.xH 8 2 [0,1,2,3,4,5,6,7] [0,1] qo qo
     have N1:Fresh _ (rFR :: Ns):=N
     have K1:Kept (Ns) ((qX true rFR rxR rules) :: Γ):=K0.behind 1 rfl
     replace K1:=K1.cons (F:=rFR) 0 rfl rfl
     refine xR #[.pointer (some ⟨bs,0,none⟩),.int .i64 kk,.int .i64 2] rfl rfl Tryz.call188 (zT code zi510 zi511 bs ac cc Fc kk (2:Int) H1 N1 K1 qg qg qg) ?_
     clear H H1 N1 K1
     rintro _ w513 ⟨zi517,zi518,zl519,ra520,rn521,rc522,hx515,hx516,rfl,N,H⟩
     obtain rfl:=H.vM 1 rfl
     refine ⟨H.pick [5,6,7,8] [0,1],(ro 19 rfl (xP [.int .i64 zi512,.int .i64 0,Sv ra520 zl519.length rc522,Sv (some ⟨b320,0,none⟩) kk.toNat kk.toNat,Sv (some ⟨b504,0,none⟩) kk.toNat kk.toNat,Sv none 0 0,Sv none 0 0,Sv none 0 0,Bv false] [(0,.int .i64 zi512),(2,Sv ra520 zl519.length rc522),(3,Sv (some ⟨b320,0,none⟩) kk.toNat kk.toNat),(4,Sv (some ⟨b504,0,none⟩) kk.toNat kk.toNat)] (⟨H.pick [5,6,7,8] [0,1],(ro 21 rfl ?_)⟩)))⟩
     refine xu H 3 [.int .i64 zi512,.int .i64 0,Sv ra520 zl519.length rc522,Sv (some ⟨b320,0,none⟩) kk.toNat kk.toNat,Sv (some ⟨b504,0,none⟩) kk.toNat kk.toNat,Sv none 0 0,Sv none 0 0,Sv none 0 0,Bv false] Tryz.sizeOf56 fun w523 H=>?_
     try dsimp only [List.set] at H
     refine ⟨H.pick [5,6,7,8] [0,1],(xg qh ((meet ⟨_,zi510,zi512,zi517,zl519,b469,ra520,rc522,b320,b504,zi518,uE5,hx508,hx509,hx515,hx516,N,H.xH 9 2 [3,2,4,0,1,5,6,7,8] [0,1] qo qo⟩)))⟩
  ·skip
   refine zf H Tryz.underlying24 ti2 kk.toNat rfl rfl qf qf qf fun b524 w525 H=>⟨H.pick [1,3,4,5] [0,1],(zH [2,13,20] qh qm (vg rfl ?_ (vg rfl ?_ (vg rfl ?_ zI))))⟩
   ·skip
    have H1:St W0 w525 ((.box bs [Sv ac code.length cc,.int .i64 ip,.int .u64 sd] 127) :: (rr (some ⟨b524,0,none⟩) kk.toNat kk.toNat 2 1 ((List.replicate kk.toNat (0:Int)).map (Value.int .i64))) :: (.box b1 [.int .i64 0,.int .i64 0,Sv none 0 0,Sv none 0 0,Sv none 0 0,Sv none 0 0,Sv none 0 0,Sv none 0 0,Bv false] 56) :: (.box bY [.int .i64 kk,Sv rap par.length rcp,Sv raR rules.length rcR] 27) :: (rr rap par.length rcp 2 1 (par.map (Value.int .i64))) :: (rr raR rules.length rcR 56 9 rxR) :: ps) ((sF false Fc ac cc code) :: (qX true rFR rxR rules) :: Γ):=H.xH 6 2 [2,0,1,3,4,5] [0,1] qo qo
    have N1:Fresh _ (rFR :: Ns):=N
    have K1:Kept (Ns) ((qX true rFR rxR rules) :: Γ):=K0.behind 1 rfl
    replace K1:=K1.cons (F:=rFR) 0 rfl rfl
    refine xR #[.pointer (some ⟨bs,0,none⟩),.int .i64 par.length] rfl rfl Tryz.call68 (jZ code ip sd bs ac cc Fc par.length H1 N1 K1 qg) ?_
    clear H H1 N1 K1
    rintro _ w526 ⟨zi530,zi531,zi532,hx528,hx529,rfl,N,H⟩
    refine ⟨H.pick [2,3,4,5] [0,1],(zH [8,13,20] qh qm (vg rfl ?_ (vg rfl ?_ (vg rfl ?_ zI))))⟩
    ·skip
     have H1:St W0 w526 ((.box bs [Sv ac code.length cc,.int .i64 zi530,.int .u64 zi531] 127) :: (rr (some ⟨b524,0,none⟩) kk.toNat kk.toNat 2 1 ((List.replicate kk.toNat (0:Int)).map (Value.int .i64))) :: (.box b1 [.int .i64 0,.int .i64 0,Sv none 0 0,Sv none 0 0,Sv none 0 0,Sv none 0 0,Sv none 0 0,Sv none 0 0,Bv false] 56) :: (.box bY [.int .i64 kk,Sv rap par.length rcp,Sv raR rules.length rcR] 27) :: (rr rap par.length rcp 2 1 (par.map (Value.int .i64))) :: (rr raR rules.length rcR 56 9 rxR) :: ps) ((sF false Fc ac cc code) :: (qX true rFR rxR rules) :: Γ):=H.xH 6 2 [0,1,2,3,4,5] [0,1] qo qo
     have N1:Fresh _ (rFR :: Ns):=N
     have K1:Kept (Ns) ((qX true rFR rxR rules) :: Γ):=K0.behind 1 rfl
     replace K1:=K1.cons (F:=rFR) 0 rfl rfl
     refine xR #[.pointer (some ⟨bs,0,none⟩),.int .i64 kk,.int .i64 2] rfl rfl Tryz.call188 (zT code zi530 zi531 bs ac cc Fc kk (2:Int) H1 N1 K1 qg qg qg) ?_
     clear H H1 N1 K1
     rintro _ w533 ⟨zi537,zi538,zl539,ra540,rn541,rc542,hx535,hx536,rfl,N,H⟩
     obtain rfl:=H.vM 1 rfl
     refine ⟨H.pick [3,4,5,6] [0,1],(zH [13,20] qh qm (vg rfl ?_ (vg rfl ?_ zI)))⟩
     ·skip
      refine zf H Tryz.underlying24 ti2 kk.toNat rfl rfl qf qf qf fun b543 w544 H=>⟨H.pick [4,5,6,7] [0,1],(zH [19,20] qh qm (vg rfl ?_ (vg rfl ?_ zI)))⟩
      ·skip
       refine xP [.int .i64 zi532,.int .i64 0,Sv ra540 zl539.length rc542,Sv (some ⟨b543,0,none⟩) kk.toNat kk.toNat,Sv (some ⟨b524,0,none⟩) kk.toNat kk.toNat,Sv none 0 0,Sv none 0 0,Sv none 0 0,Bv false] [(0,.int .i64 zi532),(2,Sv ra540 zl539.length rc542),(3,Sv (some ⟨b543,0,none⟩) kk.toNat kk.toNat),(4,Sv (some ⟨b524,0,none⟩) kk.toNat kk.toNat)] (⟨H.pick [4,5,6,7] [0,1],(ro 20 rfl (xx H ti56 [.int .i64 0,.int .i64 0,Sv none 0 0,Sv none 0 0,Sv none 0 0,Sv none 0 0,Sv none 0 0,Sv none 0 0,Bv false] fun b545 w546 H=>⟨H.pick [5,6,7,8] [0,1],(ro 21 rfl ?_)⟩))⟩)
       refine xu H 0 [.int .i64 zi532,.int .i64 0,Sv ra540 zl539.length rc542,Sv (some ⟨b543,0,none⟩) kk.toNat kk.toNat,Sv (some ⟨b524,0,none⟩) kk.toNat kk.toNat,Sv none 0 0,Sv none 0 0,Sv none 0 0,Bv false] Tryz.sizeOf56 fun w547 H=>?_
       try dsimp only [List.set] at H
       refine ⟨H.pick [5,6,7,8] [0,1],(xg qh ((meet ⟨_,zi530,zi532,zi537,zl539,b545,ra540,rc542,b543,b524,zi538,uE5,hx528,hx529,hx535,hx536,N,H.xH 9 2 [0,4,1,2,3,5,6,7,8] [0,1] qo qo⟩)))⟩
      ·skip
       refine xx H ti56 [.int .i64 0,.int .i64 0,Sv none 0 0,Sv none 0 0,Sv none 0 0,Sv none 0 0,Sv none 0 0,Sv none 0 0,Bv false] fun b548 w549 H=>⟨H.pick [5,6,7,8] [0,1],(ro 19 rfl (xP [.int .i64 zi532,.int .i64 0,Sv ra540 zl539.length rc542,Sv (some ⟨b543,0,none⟩) kk.toNat kk.toNat,Sv (some ⟨b524,0,none⟩) kk.toNat kk.toNat,Sv none 0 0,Sv none 0 0,Sv none 0 0,Bv false] [(0,.int .i64 zi532),(2,Sv ra540 zl539.length rc542),(3,Sv (some ⟨b543,0,none⟩) kk.toNat kk.toNat),(4,Sv (some ⟨b524,0,none⟩) kk.toNat kk.toNat)] (⟨H.pick [5,6,7,8] [0,1],(ro 21 rfl ?_)⟩)))⟩
       refine xu H 0 [.int .i64 zi532,.int .i64 0,Sv ra540 zl539.length rc542,Sv (some ⟨b543,0,none⟩) kk.toNat kk.toNat,Sv (some ⟨b524,0,none⟩) kk.toNat kk.toNat,Sv none 0 0,Sv none 0 0,Sv none 0 0,Bv false] Tryz.sizeOf56 fun w550 H=>?_
       try dsimp only [List.set] at H
       refine ⟨H.pick [5,6,7,8] [0,1],(xg qh ((meet ⟨_,zi530,zi532,zi537,zl539,b548,ra540,rc542,b543,b524,zi538,uE5,hx528,hx529,hx535,hx536,N,H.xH 9 2 [0,4,1,2,3,5,6,7,8] [0,1] qo qo⟩)))⟩
     ·skip
      refine xx H ti56 [.int .i64 0,.int .i64 0,Sv none 0 0,Sv none 0 0,Sv none 0 0,Sv none 0 0,Sv none 0 0,Sv none 0 0,Bv false] fun b551 w552 H=>⟨H.pick [4,5,6,7] [0,1],(ro 13 rfl (zf H Tryz.underlying24 ti2 kk.toNat rfl rfl qf qf qf fun b553 w554 H=>⟨H.pick [5,6,7,8] [0,1],(ro 19 rfl ?_)⟩))⟩
      refine xP [.int .i64 zi532,.int .i64 0,Sv ra540 zl539.length rc542,Sv (some ⟨b553,0,none⟩) kk.toNat kk.toNat,Sv (some ⟨b524,0,none⟩) kk.toNat kk.toNat,Sv none 0 0,Sv none 0 0,Sv none 0 0,Bv false] [(0,.int .i64 zi532),(2,Sv ra540 zl539.length rc542),(3,Sv (some ⟨b553,0,none⟩) kk.toNat kk.toNat),(4,Sv (some ⟨b524,0,none⟩) kk.toNat kk.toNat)] (⟨H.pick [5,6,7,8] [0,1],(ro 21 rfl ?_)⟩)
      refine xu H 1 [.int .i64 zi532,.int .i64 0,Sv ra540 zl539.length rc542,Sv (some ⟨b553,0,none⟩) kk.toNat kk.toNat,Sv (some ⟨b524,0,none⟩) kk.toNat kk.toNat,Sv none 0 0,Sv none 0 0,Sv none 0 0,Bv false] Tryz.sizeOf56 fun w555 H=>?_
      try dsimp only [List.set] at H
      refine ⟨H.pick [5,6,7,8] [0,1],(xg qh ((meet ⟨_,zi530,zi532,zi537,zl539,b551,ra540,rc542,b553,b524,zi538,uE5,hx528,hx529,hx535,hx536,N,H.xH 9 2 [1,4,0,2,3,5,6,7,8] [0,1] qo qo⟩)))⟩
    ·skip
     refine zf H Tryz.underlying24 ti2 kk.toNat rfl rfl qf qf qf fun b556 w557 H=>⟨H.pick [3,4,5,6] [0,1],(zH [8,20] qh qm (vg rfl ?_ (vg rfl ?_ zI)))⟩
     ·skip
      have H1:St W0 w557 ((.box bs [Sv ac code.length cc,.int .i64 zi530,.int .u64 zi531] 127) :: (rr (some ⟨b556,0,none⟩) kk.toNat kk.toNat 2 1 ((List.replicate kk.toNat (0:Int)).map (Value.int .i64))) :: (rr (some ⟨b524,0,none⟩) kk.toNat kk.toNat 2 1 ((List.replicate kk.toNat (0:Int)).map (Value.int .i64))) :: (.box b1 [.int .i64 0,.int .i64 0,Sv none 0 0,Sv none 0 0,Sv none 0 0,Sv none 0 0,Sv none 0 0,Sv none 0 0,Bv false] 56) :: (.box bY [.int .i64 kk,Sv rap par.length rcp,Sv raR rules.length rcR] 27) :: (rr rap par.length rcp 2 1 (par.map (Value.int .i64))) :: (rr raR rules.length rcR 56 9 rxR) :: ps) ((sF false Fc ac cc code) :: (qX true rFR rxR rules) :: Γ):=H.xH 7 2 [1,0,2,3,4,5,6] [0,1] qo qo
      have N1:Fresh _ (rFR :: Ns):=N
      have K1:Kept (Ns) ((qX true rFR rxR rules) :: Γ):=K0.behind 1 rfl
      replace K1:=K1.cons (F:=rFR) 0 rfl rfl
      refine xR #[.pointer (some ⟨bs,0,none⟩),.int .i64 kk,.int .i64 2] rfl rfl Tryz.call188 (zT code zi530 zi531 bs ac cc Fc kk (2:Int) H1 N1 K1 qg qg qg) ?_
      clear H H1 N1 K1
      rintro _ w558 ⟨zi562,zi563,zl564,ra565,rn566,rc567,hx560,hx561,rfl,N,H⟩
      obtain rfl:=H.vM 1 rfl
      refine ⟨H.pick [4,5,6,7] [0,1],(zH [19,20] qh qm (vg rfl ?_ (vg rfl ?_ zI)))⟩
      ·skip
       refine xP [.int .i64 zi532,.int .i64 0,Sv ra565 zl564.length rc567,Sv (some ⟨b556,0,none⟩) kk.toNat kk.toNat,Sv (some ⟨b524,0,none⟩) kk.toNat kk.toNat,Sv none 0 0,Sv none 0 0,Sv none 0 0,Bv false] [(0,.int .i64 zi532),(2,Sv ra565 zl564.length rc567),(3,Sv (some ⟨b556,0,none⟩) kk.toNat kk.toNat),(4,Sv (some ⟨b524,0,none⟩) kk.toNat kk.toNat)] (⟨H.pick [4,5,6,7] [0,1],(ro 20 rfl (xx H ti56 [.int .i64 0,.int .i64 0,Sv none 0 0,Sv none 0 0,Sv none 0 0,Sv none 0 0,Sv none 0 0,Sv none 0 0,Bv false] fun b568 w569 H=>⟨H.pick [5,6,7,8] [0,1],(ro 21 rfl ?_)⟩))⟩)
       refine xu H 0 [.int .i64 zi532,.int .i64 0,Sv ra565 zl564.length rc567,Sv (some ⟨b556,0,none⟩) kk.toNat kk.toNat,Sv (some ⟨b524,0,none⟩) kk.toNat kk.toNat,Sv none 0 0,Sv none 0 0,Sv none 0 0,Bv false] Tryz.sizeOf56 fun w570 H=>?_
       try dsimp only [List.set] at H
       refine ⟨H.pick [5,6,7,8] [0,1],(xg qh ((meet ⟨_,zi530,zi532,zi562,zl564,b568,ra565,rc567,b556,b524,zi563,uE5,hx528,hx529,hx560,hx561,N,H.xH 9 2 [0,4,3,1,2,5,6,7,8] [0,1] qo qo⟩)))⟩
      ·skip
       refine xx H ti56 [.int .i64 0,.int .i64 0,Sv none 0 0,Sv none 0 0,Sv none 0 0,Sv none 0 0,Sv none 0 0,Sv none 0 0,Bv false] fun b571 w572 H=>⟨H.pick [5,6,7,8] [0,1],(ro 19 rfl (xP [.int .i64 zi532,.int .i64 0,Sv ra565 zl564.length rc567,Sv (some ⟨b556,0,none⟩) kk.toNat kk.toNat,Sv (some ⟨b524,0,none⟩) kk.toNat kk.toNat,Sv none 0 0,Sv none 0 0,Sv none 0 0,Bv false] [(0,.int .i64 zi532),(2,Sv ra565 zl564.length rc567),(3,Sv (some ⟨b556,0,none⟩) kk.toNat kk.toNat),(4,Sv (some ⟨b524,0,none⟩) kk.toNat kk.toNat)] (⟨H.pick [5,6,7,8] [0,1],(ro 21 rfl ?_)⟩)))⟩
       refine xu H 0 [.int .i64 zi532,.int .i64 0,Sv ra565 zl564.length rc567,Sv (some ⟨b556,0,none⟩) kk.toNat kk.toNat,Sv (some ⟨b524,0,none⟩) kk.toNat kk.toNat,Sv none 0 0,Sv none 0 0,Sv none 0 0,Bv false] Tryz.sizeOf56 fun w573 H=>?_
       try dsimp only [List.set] at H
       refine ⟨H.pick [5,6,7,8] [0,1],(xg qh ((meet ⟨_,zi530,zi532,zi562,zl564,b571,ra565,rc567,b556,b524,zi563,uE5,hx528,hx529,hx560,hx561,N,H.xH 9 2 [0,4,3,1,2,5,6,7,8] [0,1] qo qo⟩)))⟩
     ·skip
      refine xx H ti56 [.int .i64 0,.int .i64 0,Sv none 0 0,Sv none 0 0,Sv none 0 0,Sv none 0 0,Sv none 0 0,Sv none 0 0,Bv false] fun b574 w575 H=>⟨H.pick [4,5,6,7] [0,1],(ro 8 rfl ?_)⟩
      have H1:St W0 w575 ((.box bs [Sv ac code.length cc,.int .i64 zi530,.int .u64 zi531] 127) :: (.box b574 [.int .i64 0,.int .i64 0,Sv none 0 0,Sv none 0 0,Sv none 0 0,Sv none 0 0,Sv none 0 0,Sv none 0 0,Bv false] 56) :: (rr (some ⟨b556,0,none⟩) kk.toNat kk.toNat 2 1 ((List.replicate kk.toNat (0:Int)).map (Value.int .i64))) :: (rr (some ⟨b524,0,none⟩) kk.toNat kk.toNat 2 1 ((List.replicate kk.toNat (0:Int)).map (Value.int .i64))) :: (.box b1 [.int .i64 0,.int .i64 0,Sv none 0 0,Sv none 0 0,Sv none 0 0,Sv none 0 0,Sv none 0 0,Sv none 0 0,Bv false] 56) :: (.box bY [.int .i64 kk,Sv rap par.length rcp,Sv raR rules.length rcR] 27) :: (rr rap par.length rcp 2 1 (par.map (Value.int .i64))) :: (rr raR rules.length rcR 56 9 rxR) :: ps) ((sF false Fc ac cc code) :: (qX true rFR rxR rules) :: Γ):=H.xH 8 2 [2,0,1,3,4,5,6,7] [0,1] qo qo
      have N1:Fresh _ (rFR :: Ns):=N
      have K1:Kept (Ns) ((qX true rFR rxR rules) :: Γ):=K0.behind 1 rfl
      replace K1:=K1.cons (F:=rFR) 0 rfl rfl
      refine xR #[.pointer (some ⟨bs,0,none⟩),.int .i64 kk,.int .i64 2] rfl rfl Tryz.call188 (zT code zi530 zi531 bs ac cc Fc kk (2:Int) H1 N1 K1 qg qg qg) ?_
      clear H H1 N1 K1
      rintro _ w576 ⟨zi580,zi581,zl582,ra583,rn584,rc585,hx578,hx579,rfl,N,H⟩
      obtain rfl:=H.vM 1 rfl
      refine ⟨H.pick [5,6,7,8] [0,1],(ro 19 rfl (xP [.int .i64 zi532,.int .i64 0,Sv ra583 zl582.length rc585,Sv (some ⟨b556,0,none⟩) kk.toNat kk.toNat,Sv (some ⟨b524,0,none⟩) kk.toNat kk.toNat,Sv none 0 0,Sv none 0 0,Sv none 0 0,Bv false] [(0,.int .i64 zi532),(2,Sv ra583 zl582.length rc585),(3,Sv (some ⟨b556,0,none⟩) kk.toNat kk.toNat),(4,Sv (some ⟨b524,0,none⟩) kk.toNat kk.toNat)] (⟨H.pick [5,6,7,8] [0,1],(ro 21 rfl ?_)⟩)))⟩
      refine xu H 2 [.int .i64 zi532,.int .i64 0,Sv ra583 zl582.length rc585,Sv (some ⟨b556,0,none⟩) kk.toNat kk.toNat,Sv (some ⟨b524,0,none⟩) kk.toNat kk.toNat,Sv none 0 0,Sv none 0 0,Sv none 0 0,Bv false] Tryz.sizeOf56 fun w586 H=>?_
      try dsimp only [List.set] at H
      refine ⟨H.pick [5,6,7,8] [0,1],(xg qh ((meet ⟨_,zi530,zi532,zi580,zl582,b574,ra583,rc585,b556,b524,zi581,uE5,hx528,hx529,hx578,hx579,N,H.xH 9 2 [2,4,3,0,1,5,6,7,8] [0,1] qo qo⟩)))⟩
    ·skip
     refine xx H ti56 [.int .i64 0,.int .i64 0,Sv none 0 0,Sv none 0 0,Sv none 0 0,Sv none 0 0,Sv none 0 0,Sv none 0 0,Bv false] fun b587 w588 H=>⟨H.pick [3,4,5,6] [0,1],(zH [8,13] qh qm (vg rfl ?_ (vg rfl ?_ zI)))⟩
     ·skip
      have H1:St W0 w588 ((.box bs [Sv ac code.length cc,.int .i64 zi530,.int .u64 zi531] 127) :: (.box b587 [.int .i64 0,.int .i64 0,Sv none 0 0,Sv none 0 0,Sv none 0 0,Sv none 0 0,Sv none 0 0,Sv none 0 0,Bv false] 56) :: (rr (some ⟨b524,0,none⟩) kk.toNat kk.toNat 2 1 ((List.replicate kk.toNat (0:Int)).map (Value.int .i64))) :: (.box b1 [.int .i64 0,.int .i64 0,Sv none 0 0,Sv none 0 0,Sv none 0 0,Sv none 0 0,Sv none 0 0,Sv none 0 0,Bv false] 56) :: (.box bY [.int .i64 kk,Sv rap par.length rcp,Sv raR rules.length rcR] 27) :: (rr rap par.length rcp 2 1 (par.map (Value.int .i64))) :: (rr raR rules.length rcR 56 9 rxR) :: ps) ((sF false Fc ac cc code) :: (qX true rFR rxR rules) :: Γ):=H.xH 7 2 [1,0,2,3,4,5,6] [0,1] qo qo
      have N1:Fresh _ (rFR :: Ns):=N
      have K1:Kept (Ns) ((qX true rFR rxR rules) :: Γ):=K0.behind 1 rfl
      replace K1:=K1.cons (F:=rFR) 0 rfl rfl
      refine xR #[.pointer (some ⟨bs,0,none⟩),.int .i64 kk,.int .i64 2] rfl rfl Tryz.call188 (zT code zi530 zi531 bs ac cc Fc kk (2:Int) H1 N1 K1 qg qg qg) ?_
      clear H H1 N1 K1
      rintro _ w589 ⟨zi593,zi594,zl595,ra596,rn597,rc598,hx591,hx592,rfl,N,H⟩
      obtain rfl:=H.vM 1 rfl
      refine ⟨H.pick [4,5,6,7] [0,1],(ro 13 rfl (zf H Tryz.underlying24 ti2 kk.toNat rfl rfl qf qf qf fun b599 w600 H=>⟨H.pick [5,6,7,8] [0,1],(ro 19 rfl (xP [.int .i64 zi532,.int .i64 0,Sv ra596 zl595.length rc598,Sv (some ⟨b599,0,none⟩) kk.toNat kk.toNat,Sv (some ⟨b524,0,none⟩) kk.toNat kk.toNat,Sv none 0 0,Sv none 0 0,Sv none 0 0,Bv false] [(0,.int .i64 zi532),(2,Sv ra596 zl595.length rc598),(3,Sv (some ⟨b599,0,none⟩) kk.toNat kk.toNat),(4,Sv (some ⟨b524,0,none⟩) kk.toNat kk.toNat)] (⟨H.pick [5,6,7,8] [0,1],(ro 21 rfl ?_)⟩)))⟩))⟩
      refine xu H 3 [.int .i64 zi532,.int .i64 0,Sv ra596 zl595.length rc598,Sv (some ⟨b599,0,none⟩) kk.toNat kk.toNat,Sv (some ⟨b524,0,none⟩) kk.toNat kk.toNat,Sv none 0 0,Sv none 0 0,Sv none 0 0,Bv false] Tryz.sizeOf56 fun w601 H=>?_
      try dsimp only [List.set] at H
      refine ⟨H.pick [5,6,7,8] [0,1],(xg qh ((meet ⟨_,zi530,zi532,zi593,zl595,b587,ra596,rc598,b599,b524,zi594,uE5,hx528,hx529,hx591,hx592,N,H.xH 9 2 [3,4,0,1,2,5,6,7,8] [0,1] qo qo⟩)))⟩
     ·skip
      refine zf H Tryz.underlying24 ti2 kk.toNat rfl rfl qf qf qf fun b602 w603 H=>⟨H.pick [4,5,6,7] [0,1],(ro 8 rfl ?_)⟩
      have H1:St W0 w603 ((.box bs [Sv ac code.length cc,.int .i64 zi530,.int .u64 zi531] 127) :: (rr (some ⟨b602,0,none⟩) kk.toNat kk.toNat 2 1 ((List.replicate kk.toNat (0:Int)).map (Value.int .i64))) :: (.box b587 [.int .i64 0,.int .i64 0,Sv none 0 0,Sv none 0 0,Sv none 0 0,Sv none 0 0,Sv none 0 0,Sv none 0 0,Bv false] 56) :: (rr (some ⟨b524,0,none⟩) kk.toNat kk.toNat 2 1 ((List.replicate kk.toNat (0:Int)).map (Value.int .i64))) :: (.box b1 [.int .i64 0,.int .i64 0,Sv none 0 0,Sv none 0 0,Sv none 0 0,Sv none 0 0,Sv none 0 0,Sv none 0 0,Bv false] 56) :: (.box bY [.int .i64 kk,Sv rap par.length rcp,Sv raR rules.length rcR] 27) :: (rr rap par.length rcp 2 1 (par.map (Value.int .i64))) :: (rr raR rules.length rcR 56 9 rxR) :: ps) ((sF false Fc ac cc code) :: (qX true rFR rxR rules) :: Γ):=H.xH 8 2 [2,0,1,3,4,5,6,7] [0,1] qo qo
      have N1:Fresh _ (rFR :: Ns):=N
      have K1:Kept (Ns) ((qX true rFR rxR rules) :: Γ):=K0.behind 1 rfl
      replace K1:=K1.cons (F:=rFR) 0 rfl rfl
      refine xR #[.pointer (some ⟨bs,0,none⟩),.int .i64 kk,.int .i64 2] rfl rfl Tryz.call188 (zT code zi530 zi531 bs ac cc Fc kk (2:Int) H1 N1 K1 qg qg qg) ?_
      clear H H1 N1 K1
      rintro _ w604 ⟨zi608,zi609,zl610,ra611,rn612,rc613,hx606,hx607,rfl,N,H⟩
      obtain rfl:=H.vM 1 rfl
      refine ⟨H.pick [5,6,7,8] [0,1],(ro 19 rfl (xP [.int .i64 zi532,.int .i64 0,Sv ra611 zl610.length rc613,Sv (some ⟨b602,0,none⟩) kk.toNat kk.toNat,Sv (some ⟨b524,0,none⟩) kk.toNat kk.toNat,Sv none 0 0,Sv none 0 0,Sv none 0 0,Bv false] [(0,.int .i64 zi532),(2,Sv ra611 zl610.length rc613),(3,Sv (some ⟨b602,0,none⟩) kk.toNat kk.toNat),(4,Sv (some ⟨b524,0,none⟩) kk.toNat kk.toNat)] (⟨H.pick [5,6,7,8] [0,1],(ro 21 rfl ?_)⟩)))⟩
      refine xu H 3 [.int .i64 zi532,.int .i64 0,Sv ra611 zl610.length rc613,Sv (some ⟨b602,0,none⟩) kk.toNat kk.toNat,Sv (some ⟨b524,0,none⟩) kk.toNat kk.toNat,Sv none 0 0,Sv none 0 0,Sv none 0 0,Bv false] Tryz.sizeOf56 fun w614 H=>?_
      try dsimp only [List.set] at H
      refine ⟨H.pick [5,6,7,8] [0,1],(xg qh ((meet ⟨_,zi530,zi532,zi608,zl610,b587,ra611,rc613,b602,b524,zi609,uE5,hx528,hx529,hx606,hx607,N,H.xH 9 2 [3,4,2,0,1,5,6,7,8] [0,1] qo qo⟩)))⟩
   ·skip
    refine zf H Tryz.underlying24 ti2 kk.toNat rfl rfl qf qf qf fun b615 w616 H=>⟨H.pick [2,4,5,6] [0,1],(zH [2,20] qh qm (vg rfl ?_ (vg rfl ?_ zI)))⟩
    ·skip
     have H1:St W0 w616 ((.box bs [Sv ac code.length cc,.int .i64 ip,.int .u64 sd] 127) :: (rr (some ⟨b615,0,none⟩) kk.toNat kk.toNat 2 1 ((List.replicate kk.toNat (0:Int)).map (Value.int .i64))) :: (rr (some ⟨b524,0,none⟩) kk.toNat kk.toNat 2 1 ((List.replicate kk.toNat (0:Int)).map (Value.int .i64))) :: (.box b1 [.int .i64 0,.int .i64 0,Sv none 0 0,Sv none 0 0,Sv none 0 0,Sv none 0 0,Sv none 0 0,Sv none 0 0,Bv false] 56) :: (.box bY [.int .i64 kk,Sv rap par.length rcp,Sv raR rules.length rcR] 27) :: (rr rap par.length rcp 2 1 (par.map (Value.int .i64))) :: (rr raR rules.length rcR 56 9 rxR) :: ps) ((sF false Fc ac cc code) :: (qX true rFR rxR rules) :: Γ):=H.xH 7 2 [3,0,1,2,4,5,6] [0,1] qo qo
     have N1:Fresh _ (rFR :: Ns):=N
     have K1:Kept (Ns) ((qX true rFR rxR rules) :: Γ):=K0.behind 1 rfl
     replace K1:=K1.cons (F:=rFR) 0 rfl rfl
     refine xR #[.pointer (some ⟨bs,0,none⟩),.int .i64 par.length] rfl rfl Tryz.call68 (jZ code ip sd bs ac cc Fc par.length H1 N1 K1 qg) ?_
     clear H H1 N1 K1
     rintro _ w617 ⟨zi621,zi622,zi623,hx619,hx620,rfl,N,H⟩
     refine ⟨H.pick [3,4,5,6] [0,1],(zH [8,20] qh qm (vg rfl ?_ (vg rfl ?_ zI)))⟩
     ·skip
      have H1:St W0 w617 ((.box bs [Sv ac code.length cc,.int .i64 zi621,.int .u64 zi622] 127) :: (rr (some ⟨b615,0,none⟩) kk.toNat kk.toNat 2 1 ((List.replicate kk.toNat (0:Int)).map (Value.int .i64))) :: (rr (some ⟨b524,0,none⟩) kk.toNat kk.toNat 2 1 ((List.replicate kk.toNat (0:Int)).map (Value.int .i64))) :: (.box b1 [.int .i64 0,.int .i64 0,Sv none 0 0,Sv none 0 0,Sv none 0 0,Sv none 0 0,Sv none 0 0,Sv none 0 0,Bv false] 56) :: (.box bY [.int .i64 kk,Sv rap par.length rcp,Sv raR rules.length rcR] 27) :: (rr rap par.length rcp 2 1 (par.map (Value.int .i64))) :: (rr raR rules.length rcR 56 9 rxR) :: ps) ((sF false Fc ac cc code) :: (qX true rFR rxR rules) :: Γ):=H.xH 7 2 [0,1,2,3,4,5,6] [0,1] qo qo
      have N1:Fresh _ (rFR :: Ns):=N
      have K1:Kept (Ns) ((qX true rFR rxR rules) :: Γ):=K0.behind 1 rfl
      replace K1:=K1.cons (F:=rFR) 0 rfl rfl
      refine xR #[.pointer (some ⟨bs,0,none⟩),.int .i64 kk,.int .i64 2] rfl rfl Tryz.call188 (zT code zi621 zi622 bs ac cc Fc kk (2:Int) H1 N1 K1 qg qg qg) ?_
      clear H H1 N1 K1
      rintro _ w624 ⟨zi628,zi629,zl630,ra631,rn632,rc633,hx626,hx627,rfl,N,H⟩
      obtain rfl:=H.vM 1 rfl
      refine ⟨H.pick [4,5,6,7] [0,1],(zH [19,20] qh qm (vg rfl ?_ (vg rfl ?_ zI)))⟩
      ·skip
       refine xP [.int .i64 zi623,.int .i64 0,Sv ra631 zl630.length rc633,Sv (some ⟨b615,0,none⟩) kk.toNat kk.toNat,Sv (some ⟨b524,0,none⟩) kk.toNat kk.toNat,Sv none 0 0,Sv none 0 0,Sv none 0 0,Bv false] [(0,.int .i64 zi623),(2,Sv ra631 zl630.length rc633),(3,Sv (some ⟨b615,0,none⟩) kk.toNat kk.toNat),(4,Sv (some ⟨b524,0,none⟩) kk.toNat kk.toNat)] (⟨H.pick [4,5,6,7] [0,1],(ro 20 rfl (xx H ti56 [.int .i64 0,.int .i64 0,Sv none 0 0,Sv none 0 0,Sv none 0 0,Sv none 0 0,Sv none 0 0,Sv none 0 0,Bv false] fun b634 w635 H=>⟨H.pick [5,6,7,8] [0,1],(ro 21 rfl ?_)⟩))⟩)
       refine xu H 0 [.int .i64 zi623,.int .i64 0,Sv ra631 zl630.length rc633,Sv (some ⟨b615,0,none⟩) kk.toNat kk.toNat,Sv (some ⟨b524,0,none⟩) kk.toNat kk.toNat,Sv none 0 0,Sv none 0 0,Sv none 0 0,Bv false] Tryz.sizeOf56 fun w636 H=>?_
       try dsimp only [List.set] at H
       refine ⟨H.pick [5,6,7,8] [0,1],(xg qh ((meet ⟨_,zi621,zi623,zi628,zl630,b634,ra631,rc633,b615,b524,zi629,uE5,hx619,hx620,hx626,hx627,N,H.xH 9 2 [0,4,3,1,2,5,6,7,8] [0,1] qo qo⟩)))⟩
      ·skip
       refine xx H ti56 [.int .i64 0,.int .i64 0,Sv none 0 0,Sv none 0 0,Sv none 0 0,Sv none 0 0,Sv none 0 0,Sv none 0 0,Bv false] fun b637 w638 H=>⟨H.pick [5,6,7,8] [0,1],(ro 19 rfl (xP [.int .i64 zi623,.int .i64 0,Sv ra631 zl630.length rc633,Sv (some ⟨b615,0,none⟩) kk.toNat kk.toNat,Sv (some ⟨b524,0,none⟩) kk.toNat kk.toNat,Sv none 0 0,Sv none 0 0,Sv none 0 0,Bv false] [(0,.int .i64 zi623),(2,Sv ra631 zl630.length rc633),(3,Sv (some ⟨b615,0,none⟩) kk.toNat kk.toNat),(4,Sv (some ⟨b524,0,none⟩) kk.toNat kk.toNat)] (⟨H.pick [5,6,7,8] [0,1],(ro 21 rfl ?_)⟩)))⟩
       refine xu H 0 [.int .i64 zi623,.int .i64 0,Sv ra631 zl630.length rc633,Sv (some ⟨b615,0,none⟩) kk.toNat kk.toNat,Sv (some ⟨b524,0,none⟩) kk.toNat kk.toNat,Sv none 0 0,Sv none 0 0,Sv none 0 0,Bv false] Tryz.sizeOf56 fun w639 H=>?_
       try dsimp only [List.set] at H
       refine ⟨H.pick [5,6,7,8] [0,1],(xg qh ((meet ⟨_,zi621,zi623,zi628,zl630,b637,ra631,rc633,b615,b524,zi629,uE5,hx619,hx620,hx626,hx627,N,H.xH 9 2 [0,4,3,1,2,5,6,7,8] [0,1] qo qo⟩)))⟩
     ·skip
      refine xx H ti56 [.int .i64 0,.int .i64 0,Sv none 0 0,Sv none 0 0,Sv none 0 0,Sv none 0 0,Sv none 0 0,Sv none 0 0,Bv false] fun b640 w641 H=>⟨H.pick [4,5,6,7] [0,1],(ro 8 rfl ?_)⟩
      have H1:St W0 w641 ((.box bs [Sv ac code.length cc,.int .i64 zi621,.int .u64 zi622] 127) :: (.box b640 [.int .i64 0,.int .i64 0,Sv none 0 0,Sv none 0 0,Sv none 0 0,Sv none 0 0,Sv none 0 0,Sv none 0 0,Bv false] 56) :: (rr (some ⟨b615,0,none⟩) kk.toNat kk.toNat 2 1 ((List.replicate kk.toNat (0:Int)).map (Value.int .i64))) :: (rr (some ⟨b524,0,none⟩) kk.toNat kk.toNat 2 1 ((List.replicate kk.toNat (0:Int)).map (Value.int .i64))) :: (.box b1 [.int .i64 0,.int .i64 0,Sv none 0 0,Sv none 0 0,Sv none 0 0,Sv none 0 0,Sv none 0 0,Sv none 0 0,Bv false] 56) :: (.box bY [.int .i64 kk,Sv rap par.length rcp,Sv raR rules.length rcR] 27) :: (rr rap par.length rcp 2 1 (par.map (Value.int .i64))) :: (rr raR rules.length rcR 56 9 rxR) :: ps) ((sF false Fc ac cc code) :: (qX true rFR rxR rules) :: Γ):=H.xH 8 2 [1,0,2,3,4,5,6,7] [0,1] qo qo
      have N1:Fresh _ (rFR :: Ns):=N
      have K1:Kept (Ns) ((qX true rFR rxR rules) :: Γ):=K0.behind 1 rfl
      replace K1:=K1.cons (F:=rFR) 0 rfl rfl
      refine xR #[.pointer (some ⟨bs,0,none⟩),.int .i64 kk,.int .i64 2] rfl rfl Tryz.call188 (zT code zi621 zi622 bs ac cc Fc kk (2:Int) H1 N1 K1 qg qg qg) ?_
      clear H H1 N1 K1
      rintro _ w642 ⟨zi646,zi647,zl648,ra649,rn650,rc651,hx644,hx645,rfl,N,H⟩
      obtain rfl:=H.vM 1 rfl
      refine ⟨H.pick [5,6,7,8] [0,1],(ro 19 rfl (xP [.int .i64 zi623,.int .i64 0,Sv ra649 zl648.length rc651,Sv (some ⟨b615,0,none⟩) kk.toNat kk.toNat,Sv (some ⟨b524,0,none⟩) kk.toNat kk.toNat,Sv none 0 0,Sv none 0 0,Sv none 0 0,Bv false] [(0,.int .i64 zi623),(2,Sv ra649 zl648.length rc651),(3,Sv (some ⟨b615,0,none⟩) kk.toNat kk.toNat),(4,Sv (some ⟨b524,0,none⟩) kk.toNat kk.toNat)] (⟨H.pick [5,6,7,8] [0,1],(ro 21 rfl ?_)⟩)))⟩
      refine xu H 2 [.int .i64 zi623,.int .i64 0,Sv ra649 zl648.length rc651,Sv (some ⟨b615,0,none⟩) kk.toNat kk.toNat,Sv (some ⟨b524,0,none⟩) kk.toNat kk.toNat,Sv none 0 0,Sv none 0 0,Sv none 0 0,Bv false] Tryz.sizeOf56 fun w652 H=>?_
      try dsimp only [List.set] at H
      refine ⟨H.pick [5,6,7,8] [0,1],(xg qh ((meet ⟨_,zi621,zi623,zi646,zl648,b640,ra649,rc651,b615,b524,zi647,uE5,hx619,hx620,hx644,hx645,N,H.xH 9 2 [2,4,3,0,1,5,6,7,8] [0,1] qo qo⟩)))⟩
    ·skip
     refine xx H ti56 [.int .i64 0,.int .i64 0,Sv none 0 0,Sv none 0 0,Sv none 0 0,Sv none 0 0,Sv none 0 0,Sv none 0 0,Bv false] fun b653 w654 H=>⟨H.pick [3,5,6,7] [0,1],(ro 2 rfl ?_)⟩
     have H1:St W0 w654 ((.box bs [Sv ac code.length cc,.int .i64 ip,.int .u64 sd] 127) :: (.box b653 [.int .i64 0,.int .i64 0,Sv none 0 0,Sv none 0 0,Sv none 0 0,Sv none 0 0,Sv none 0 0,Sv none 0 0,Bv false] 56) :: (rr (some ⟨b615,0,none⟩) kk.toNat kk.toNat 2 1 ((List.replicate kk.toNat (0:Int)).map (Value.int .i64))) :: (rr (some ⟨b524,0,none⟩) kk.toNat kk.toNat 2 1 ((List.replicate kk.toNat (0:Int)).map (Value.int .i64))) :: (.box b1 [.int .i64 0,.int .i64 0,Sv none 0 0,Sv none 0 0,Sv none 0 0,Sv none 0 0,Sv none 0 0,Sv none 0 0,Bv false] 56) :: (.box bY [.int .i64 kk,Sv rap par.length rcp,Sv raR rules.length rcR] 27) :: (rr rap par.length rcp 2 1 (par.map (Value.int .i64))) :: (rr raR rules.length rcR 56 9 rxR) :: ps) ((sF false Fc ac cc code) :: (qX true rFR rxR rules) :: Γ):=H.xH 8 2 [4,0,1,2,3,5,6,7] [0,1] qo qo
     have N1:Fresh _ (rFR :: Ns):=N
     have K1:Kept (Ns) ((qX true rFR rxR rules) :: Γ):=K0.behind 1 rfl
     replace K1:=K1.cons (F:=rFR) 0 rfl rfl
     refine xR #[.pointer (some ⟨bs,0,none⟩),.int .i64 par.length] rfl rfl Tryz.call68 (jZ code ip sd bs ac cc Fc par.length H1 N1 K1 qg) ?_
     clear H H1 N1 K1
     rintro _ w655 ⟨zi659,zi660,zi661,hx657,hx658,rfl,N,H⟩
     refine ⟨H.pick [4,5,6,7] [0,1],(ro 8 rfl ?_)⟩
     have H1:St W0 w655 ((.box bs [Sv ac code.length cc,.int .i64 zi659,.int .u64 zi660] 127) :: (.box b653 [.int .i64 0,.int .i64 0,Sv none 0 0,Sv none 0 0,Sv none 0 0,Sv none 0 0,Sv none 0 0,Sv none 0 0,Bv false] 56) :: (rr (some ⟨b615,0,none⟩) kk.toNat kk.toNat 2 1 ((List.replicate kk.toNat (0:Int)).map (Value.int .i64))) :: (rr (some ⟨b524,0,none⟩) kk.toNat kk.toNat 2 1 ((List.replicate kk.toNat (0:Int)).map (Value.int .i64))) :: (.box b1 [.int .i64 0,.int .i64 0,Sv none 0 0,Sv none 0 0,Sv none 0 0,Sv none 0 0,Sv none 0 0,Sv none 0 0,Bv false] 56) :: (.box bY [.int .i64 kk,Sv rap par.length rcp,Sv raR rules.length rcR] 27) :: (rr rap par.length rcp 2 1 (par.map (Value.int .i64))) :: (rr raR rules.length rcR 56 9 rxR) :: ps) ((sF false Fc ac cc code) :: (qX true rFR rxR rules) :: Γ):=H.xH 8 2 [0,1,2,3,4,5,6,7] [0,1] qo qo
     have N1:Fresh _ (rFR :: Ns):=N
     have K1:Kept (Ns) ((qX true rFR rxR rules) :: Γ):=K0.behind 1 rfl
     replace K1:=K1.cons (F:=rFR) 0 rfl rfl
     refine xR #[.pointer (some ⟨bs,0,none⟩),.int .i64 kk,.int .i64 2] rfl rfl Tryz.call188 (zT code zi659 zi660 bs ac cc Fc kk (2:Int) H1 N1 K1 qg qg qg) ?_
     clear H H1 N1 K1
     rintro _ w662 ⟨zi666,zi667,zl668,ra669,rn670,rc671,hx664,hx665,rfl,N,H⟩
     obtain rfl:=H.vM 1 rfl
     refine ⟨H.pick [5,6,7,8] [0,1],(ro 19 rfl (xP [.int .i64 zi661,.int .i64 0,Sv ra669 zl668.length rc671,Sv (some ⟨b615,0,none⟩) kk.toNat kk.toNat,Sv (some ⟨b524,0,none⟩) kk.toNat kk.toNat,Sv none 0 0,Sv none 0 0,Sv none 0 0,Bv false] [(0,.int .i64 zi661),(2,Sv ra669 zl668.length rc671),(3,Sv (some ⟨b615,0,none⟩) kk.toNat kk.toNat),(4,Sv (some ⟨b524,0,none⟩) kk.toNat kk.toNat)] (⟨H.pick [5,6,7,8] [0,1],(ro 21 rfl ?_)⟩)))⟩
     refine xu H 2 [.int .i64 zi661,.int .i64 0,Sv ra669 zl668.length rc671,Sv (some ⟨b615,0,none⟩) kk.toNat kk.toNat,Sv (some ⟨b524,0,none⟩) kk.toNat kk.toNat,Sv none 0 0,Sv none 0 0,Sv none 0 0,Bv false] Tryz.sizeOf56 fun w672 H=>?_
     try dsimp only [List.set] at H
     refine ⟨H.pick [5,6,7,8] [0,1],(xg qh ((meet ⟨_,zi659,zi661,zi666,zl668,b653,ra669,rc671,b615,b524,zi667,uE5,hx657,hx658,hx664,hx665,N,H.xH 9 2 [2,4,3,0,1,5,6,7,8] [0,1] qo qo⟩)))⟩
   ·skip
    refine xx H ti56 [.int .i64 0,.int .i64 0,Sv none 0 0,Sv none 0 0,Sv none 0 0,Sv none 0 0,Sv none 0 0,Sv none 0 0,Bv false] fun b673 w674 H=>⟨H.pick [2,4,5,6] [0,1],(zH [2,13] qh qm (vg rfl ?_ (vg rfl ?_ zI)))⟩
    ·skip
     have H1:St W0 w674 ((.box bs [Sv ac code.length cc,.int .i64 ip,.int .u64 sd] 127) :: (.box b673 [.int .i64 0,.int .i64 0,Sv none 0 0,Sv none 0 0,Sv none 0 0,Sv none 0 0,Sv none 0 0,Sv none 0 0,Bv false] 56) :: (rr (some ⟨b524,0,none⟩) kk.toNat kk.toNat 2 1 ((List.replicate kk.toNat (0:Int)).map (Value.int .i64))) :: (.box b1 [.int .i64 0,.int .i64 0,Sv none 0 0,Sv none 0 0,Sv none 0 0,Sv none 0 0,Sv none 0 0,Sv none 0 0,Bv false] 56) :: (.box bY [.int .i64 kk,Sv rap par.length rcp,Sv raR rules.length rcR] 27) :: (rr rap par.length rcp 2 1 (par.map (Value.int .i64))) :: (rr raR rules.length rcR 56 9 rxR) :: ps) ((sF false Fc ac cc code) :: (qX true rFR rxR rules) :: Γ):=H.xH 7 2 [3,0,1,2,4,5,6] [0,1] qo qo
     have N1:Fresh _ (rFR :: Ns):=N
     have K1:Kept (Ns) ((qX true rFR rxR rules) :: Γ):=K0.behind 1 rfl
     replace K1:=K1.cons (F:=rFR) 0 rfl rfl
     refine xR #[.pointer (some ⟨bs,0,none⟩),.int .i64 par.length] rfl rfl Tryz.call68 (jZ code ip sd bs ac cc Fc par.length H1 N1 K1 qg) ?_
     clear H H1 N1 K1
     rintro _ w675 ⟨zi679,zi680,zi681,hx677,hx678,rfl,N,H⟩
     refine ⟨H.pick [3,4,5,6] [0,1],(zH [8,13] qh qm (vg rfl ?_ (vg rfl ?_ zI)))⟩
     ·skip
      have H1:St W0 w675 ((.box bs [Sv ac code.length cc,.int .i64 zi679,.int .u64 zi680] 127) :: (.box b673 [.int .i64 0,.int .i64 0,Sv none 0 0,Sv none 0 0,Sv none 0 0,Sv none 0 0,Sv none 0 0,Sv none 0 0,Bv false] 56) :: (rr (some ⟨b524,0,none⟩) kk.toNat kk.toNat 2 1 ((List.replicate kk.toNat (0:Int)).map (Value.int .i64))) :: (.box b1 [.int .i64 0,.int .i64 0,Sv none 0 0,Sv none 0 0,Sv none 0 0,Sv none 0 0,Sv none 0 0,Sv none 0 0,Bv false] 56) :: (.box bY [.int .i64 kk,Sv rap par.length rcp,Sv raR rules.length rcR] 27) :: (rr rap par.length rcp 2 1 (par.map (Value.int .i64))) :: (rr raR rules.length rcR 56 9 rxR) :: ps) ((sF false Fc ac cc code) :: (qX true rFR rxR rules) :: Γ):=H.xH 7 2 [0,1,2,3,4,5,6] [0,1] qo qo
      have N1:Fresh _ (rFR :: Ns):=N
      have K1:Kept (Ns) ((qX true rFR rxR rules) :: Γ):=K0.behind 1 rfl
      replace K1:=K1.cons (F:=rFR) 0 rfl rfl
      refine xR #[.pointer (some ⟨bs,0,none⟩),.int .i64 kk,.int .i64 2] rfl rfl Tryz.call188 (zT code zi679 zi680 bs ac cc Fc kk (2:Int) H1 N1 K1 qg qg qg) ?_
      clear H H1 N1 K1
      rintro _ w682 ⟨zi686,zi687,zl688,ra689,rn690,rc691,hx684,hx685,rfl,N,H⟩
      obtain rfl:=H.vM 1 rfl
      refine ⟨H.pick [4,5,6,7] [0,1],(ro 13 rfl (zf H Tryz.underlying24 ti2 kk.toNat rfl rfl qf qf qf fun b692 w693 H=>⟨H.pick [5,6,7,8] [0,1],(ro 19 rfl (xP [.int .i64 zi681,.int .i64 0,Sv ra689 zl688.length rc691,Sv (some ⟨b692,0,none⟩) kk.toNat kk.toNat,Sv (some ⟨b524,0,none⟩) kk.toNat kk.toNat,Sv none 0 0,Sv none 0 0,Sv none 0 0,Bv false] [(0,.int .i64 zi681),(2,Sv ra689 zl688.length rc691),(3,Sv (some ⟨b692,0,none⟩) kk.toNat kk.toNat),(4,Sv (some ⟨b524,0,none⟩) kk.toNat kk.toNat)] (⟨H.pick [5,6,7,8] [0,1],(ro 21 rfl ?_)⟩)))⟩))⟩
      refine xu H 3 [.int .i64 zi681,.int .i64 0,Sv ra689 zl688.length rc691,Sv (some ⟨b692,0,none⟩) kk.toNat kk.toNat,Sv (some ⟨b524,0,none⟩) kk.toNat kk.toNat,Sv none 0 0,Sv none 0 0,Sv none 0 0,Bv false] Tryz.sizeOf56 fun w694 H=>?_
      try dsimp only [List.set] at H
      refine ⟨H.pick [5,6,7,8] [0,1],(xg qh ((meet ⟨_,zi679,zi681,zi686,zl688,b673,ra689,rc691,b692,b524,zi687,uE5,hx677,hx678,hx684,hx685,N,H.xH 9 2 [3,4,0,1,2,5,6,7,8] [0,1] qo qo⟩)))⟩
     ·skip
      refine zf H Tryz.underlying24 ti2 kk.toNat rfl rfl qf qf qf fun b695 w696 H=>⟨H.pick [4,5,6,7] [0,1],(ro 8 rfl ?_)⟩
      have H1:St W0 w696 ((.box bs [Sv ac code.length cc,.int .i64 zi679,.int .u64 zi680] 127) :: (rr (some ⟨b695,0,none⟩) kk.toNat kk.toNat 2 1 ((List.replicate kk.toNat (0:Int)).map (Value.int .i64))) :: (.box b673 [.int .i64 0,.int .i64 0,Sv none 0 0,Sv none 0 0,Sv none 0 0,Sv none 0 0,Sv none 0 0,Sv none 0 0,Bv false] 56) :: (rr (some ⟨b524,0,none⟩) kk.toNat kk.toNat 2 1 ((List.replicate kk.toNat (0:Int)).map (Value.int .i64))) :: (.box b1 [.int .i64 0,.int .i64 0,Sv none 0 0,Sv none 0 0,Sv none 0 0,Sv none 0 0,Sv none 0 0,Sv none 0 0,Bv false] 56) :: (.box bY [.int .i64 kk,Sv rap par.length rcp,Sv raR rules.length rcR] 27) :: (rr rap par.length rcp 2 1 (par.map (Value.int .i64))) :: (rr raR rules.length rcR 56 9 rxR) :: ps) ((sF false Fc ac cc code) :: (qX true rFR rxR rules) :: Γ):=H.xH 8 2 [1,0,2,3,4,5,6,7] [0,1] qo qo
      have N1:Fresh _ (rFR :: Ns):=N
      have K1:Kept (Ns) ((qX true rFR rxR rules) :: Γ):=K0.behind 1 rfl
      replace K1:=K1.cons (F:=rFR) 0 rfl rfl
      refine xR #[.pointer (some ⟨bs,0,none⟩),.int .i64 kk,.int .i64 2] rfl rfl Tryz.call188 (zT code zi679 zi680 bs ac cc Fc kk (2:Int) H1 N1 K1 qg qg qg) ?_
      clear H H1 N1 K1
      rintro _ w697 ⟨zi701,zi702,zl703,ra704,rn705,rc706,hx699,hx700,rfl,N,H⟩
      obtain rfl:=H.vM 1 rfl
      refine ⟨H.pick [5,6,7,8] [0,1],(ro 19 rfl (xP [.int .i64 zi681,.int .i64 0,Sv ra704 zl703.length rc706,Sv (some ⟨b695,0,none⟩) kk.toNat kk.toNat,Sv (some ⟨b524,0,none⟩) kk.toNat kk.toNat,Sv none 0 0,Sv none 0 0,Sv none 0 0,Bv false] [(0,.int .i64 zi681),(2,Sv ra704 zl703.length rc706),(3,Sv (some ⟨b695,0,none⟩) kk.toNat kk.toNat),(4,Sv (some ⟨b524,0,none⟩) kk.toNat kk.toNat)] (⟨H.pick [5,6,7,8] [0,1],(ro 21 rfl ?_)⟩)))⟩
      refine xu H 3 [.int .i64 zi681,.int .i64 0,Sv ra704 zl703.length rc706,Sv (some ⟨b695,0,none⟩) kk.toNat kk.toNat,Sv (some ⟨b524,0,none⟩) kk.toNat kk.toNat,Sv none 0 0,Sv none 0 0,Sv none 0 0,Bv false] Tryz.sizeOf56 fun w707 H=>?_
      try dsimp only [List.set] at H
      refine ⟨H.pick [5,6,7,8] [0,1],(xg qh ((meet ⟨_,zi679,zi681,zi701,zl703,b673,ra704,rc706,b695,b524,zi702,uE5,hx677,hx678,hx699,hx700,N,H.xH 9 2 [3,4,2,0,1,5,6,7,8] [0,1] qo qo⟩)))⟩
    ·skip
     refine zf H Tryz.underlying24 ti2 kk.toNat rfl rfl qf qf qf fun b708 w709 H=>⟨H.pick [3,5,6,7] [0,1],(ro 2 rfl ?_)⟩
     have H1:St W0 w709 ((.box bs [Sv ac code.length cc,.int .i64 ip,.int .u64 sd] 127) :: (rr (some ⟨b708,0,none⟩) kk.toNat kk.toNat 2 1 ((List.replicate kk.toNat (0:Int)).map (Value.int .i64))) :: (.box b673 [.int .i64 0,.int .i64 0,Sv none 0 0,Sv none 0 0,Sv none 0 0,Sv none 0 0,Sv none 0 0,Sv none 0 0,Bv false] 56) :: (rr (some ⟨b524,0,none⟩) kk.toNat kk.toNat 2 1 ((List.replicate kk.toNat (0:Int)).map (Value.int .i64))) :: (.box b1 [.int .i64 0,.int .i64 0,Sv none 0 0,Sv none 0 0,Sv none 0 0,Sv none 0 0,Sv none 0 0,Sv none 0 0,Bv false] 56) :: (.box bY [.int .i64 kk,Sv rap par.length rcp,Sv raR rules.length rcR] 27) :: (rr rap par.length rcp 2 1 (par.map (Value.int .i64))) :: (rr raR rules.length rcR 56 9 rxR) :: ps) ((sF false Fc ac cc code) :: (qX true rFR rxR rules) :: Γ):=H.xH 8 2 [4,0,1,2,3,5,6,7] [0,1] qo qo
     have N1:Fresh _ (rFR :: Ns):=N
     have K1:Kept (Ns) ((qX true rFR rxR rules) :: Γ):=K0.behind 1 rfl
     replace K1:=K1.cons (F:=rFR) 0 rfl rfl
     refine xR #[.pointer (some ⟨bs,0,none⟩),.int .i64 par.length] rfl rfl Tryz.call68 (jZ code ip sd bs ac cc Fc par.length H1 N1 K1 qg) ?_
     clear H H1 N1 K1
     rintro _ w710 ⟨zi714,zi715,zi716,hx712,hx713,rfl,N,H⟩
     refine ⟨H.pick [4,5,6,7] [0,1],(ro 8 rfl ?_)⟩
     have H1:St W0 w710 ((.box bs [Sv ac code.length cc,.int .i64 zi714,.int .u64 zi715] 127) :: (rr (some ⟨b708,0,none⟩) kk.toNat kk.toNat 2 1 ((List.replicate kk.toNat (0:Int)).map (Value.int .i64))) :: (.box b673 [.int .i64 0,.int .i64 0,Sv none 0 0,Sv none 0 0,Sv none 0 0,Sv none 0 0,Sv none 0 0,Sv none 0 0,Bv false] 56) :: (rr (some ⟨b524,0,none⟩) kk.toNat kk.toNat 2 1 ((List.replicate kk.toNat (0:Int)).map (Value.int .i64))) :: (.box b1 [.int .i64 0,.int .i64 0,Sv none 0 0,Sv none 0 0,Sv none 0 0,Sv none 0 0,Sv none 0 0,Sv none 0 0,Bv false] 56) :: (.box bY [.int .i64 kk,Sv rap par.length rcp,Sv raR rules.length rcR] 27) :: (rr rap par.length rcp 2 1 (par.map (Value.int .i64))) :: (rr raR rules.length rcR 56 9 rxR) :: ps) ((sF false Fc ac cc code) :: (qX true rFR rxR rules) :: Γ):=H.xH 8 2 [0,1,2,3,4,5,6,7] [0,1] qo qo
     have N1:Fresh _ (rFR :: Ns):=N
     have K1:Kept (Ns) ((qX true rFR rxR rules) :: Γ):=K0.behind 1 rfl
     replace K1:=K1.cons (F:=rFR) 0 rfl rfl
     refine xR #[.pointer (some ⟨bs,0,none⟩),.int .i64 kk,.int .i64 2] rfl rfl Tryz.call188 (zT code zi714 zi715 bs ac cc Fc kk (2:Int) H1 N1 K1 qg qg qg) ?_
     clear H H1 N1 K1
     rintro _ w717 ⟨zi721,zi722,zl723,ra724,rn725,rc726,hx719,hx720,rfl,N,H⟩
     obtain rfl:=H.vM 1 rfl
     refine ⟨H.pick [5,6,7,8] [0,1],(ro 19 rfl (xP [.int .i64 zi716,.int .i64 0,Sv ra724 zl723.length rc726,Sv (some ⟨b708,0,none⟩) kk.toNat kk.toNat,Sv (some ⟨b524,0,none⟩) kk.toNat kk.toNat,Sv none 0 0,Sv none 0 0,Sv none 0 0,Bv false] [(0,.int .i64 zi716),(2,Sv ra724 zl723.length rc726),(3,Sv (some ⟨b708,0,none⟩) kk.toNat kk.toNat),(4,Sv (some ⟨b524,0,none⟩) kk.toNat kk.toNat)] (⟨H.pick [5,6,7,8] [0,1],(ro 21 rfl ?_)⟩)))⟩
     refine xu H 3 [.int .i64 zi716,.int .i64 0,Sv ra724 zl723.length rc726,Sv (some ⟨b708,0,none⟩) kk.toNat kk.toNat,Sv (some ⟨b524,0,none⟩) kk.toNat kk.toNat,Sv none 0 0,Sv none 0 0,Sv none 0 0,Bv false] Tryz.sizeOf56 fun w727 H=>?_
     try dsimp only [List.set] at H
     refine ⟨H.pick [5,6,7,8] [0,1],(xg qh ((meet ⟨_,zi714,zi716,zi721,zl723,b673,ra724,rc726,b708,b524,zi722,uE5,hx712,hx713,hx719,hx720,N,H.xH 9 2 [3,4,2,0,1,5,6,7,8] [0,1] qo qo⟩)))⟩
  ·skip
   refine xx H ti56 [.int .i64 0,.int .i64 0,Sv none 0 0,Sv none 0 0,Sv none 0 0,Sv none 0 0,Sv none 0 0,Sv none 0 0,Bv false] fun b728 w729 H=>⟨H.pick [1,3,4,5] [0,1],(zH [2,13,18] qh qm (vg rfl ?_ (vg rfl ?_ (vg rfl ?_ zI))))⟩
   ·skip
    have H1:St W0 w729 ((.box bs [Sv ac code.length cc,.int .i64 ip,.int .u64 sd] 127) :: (.box b728 [.int .i64 0,.int .i64 0,Sv none 0 0,Sv none 0 0,Sv none 0 0,Sv none 0 0,Sv none 0 0,Sv none 0 0,Bv false] 56) :: (.box b1 [.int .i64 0,.int .i64 0,Sv none 0 0,Sv none 0 0,Sv none 0 0,Sv none 0 0,Sv none 0 0,Sv none 0 0,Bv false] 56) :: (.box bY [.int .i64 kk,Sv rap par.length rcp,Sv raR rules.length rcR] 27) :: (rr rap par.length rcp 2 1 (par.map (Value.int .i64))) :: (rr raR rules.length rcR 56 9 rxR) :: ps) ((sF false Fc ac cc code) :: (qX true rFR rxR rules) :: Γ):=H.xH 6 2 [2,0,1,3,4,5] [0,1] qo qo
    have N1:Fresh _ (rFR :: Ns):=N
    have K1:Kept (Ns) ((qX true rFR rxR rules) :: Γ):=K0.behind 1 rfl
    replace K1:=K1.cons (F:=rFR) 0 rfl rfl
    refine xR #[.pointer (some ⟨bs,0,none⟩),.int .i64 par.length] rfl rfl Tryz.call68 (jZ code ip sd bs ac cc Fc par.length H1 N1 K1 qg) ?_
    clear H H1 N1 K1
    rintro _ w730 ⟨zi734,zi735,zi736,hx732,hx733,rfl,N,H⟩
    refine ⟨H.pick [2,3,4,5] [0,1],(zH [8,13,18] qh qm (vg rfl ?_ (vg rfl ?_ (vg rfl ?_ zI))))⟩
    ·skip
     have H1:St W0 w730 ((.box bs [Sv ac code.length cc,.int .i64 zi734,.int .u64 zi735] 127) :: (.box b728 [.int .i64 0,.int .i64 0,Sv none 0 0,Sv none 0 0,Sv none 0 0,Sv none 0 0,Sv none 0 0,Sv none 0 0,Bv false] 56) :: (.box b1 [.int .i64 0,.int .i64 0,Sv none 0 0,Sv none 0 0,Sv none 0 0,Sv none 0 0,Sv none 0 0,Sv none 0 0,Bv false] 56) :: (.box bY [.int .i64 kk,Sv rap par.length rcp,Sv raR rules.length rcR] 27) :: (rr rap par.length rcp 2 1 (par.map (Value.int .i64))) :: (rr raR rules.length rcR 56 9 rxR) :: ps) ((sF false Fc ac cc code) :: (qX true rFR rxR rules) :: Γ):=H.xH 6 2 [0,1,2,3,4,5] [0,1] qo qo
     have N1:Fresh _ (rFR :: Ns):=N
     have K1:Kept (Ns) ((qX true rFR rxR rules) :: Γ):=K0.behind 1 rfl
     replace K1:=K1.cons (F:=rFR) 0 rfl rfl
     refine xR #[.pointer (some ⟨bs,0,none⟩),.int .i64 kk,.int .i64 2] rfl rfl Tryz.call188 (zT code zi734 zi735 bs ac cc Fc kk (2:Int) H1 N1 K1 qg qg qg) ?_
     clear H H1 N1 K1
     rintro _ w737 ⟨zi741,zi742,zl743,ra744,rn745,rc746,hx739,hx740,rfl,N,H⟩
     obtain rfl:=H.vM 1 rfl
     refine ⟨H.pick [3,4,5,6] [0,1],(zH [13,18] qh qm (vg rfl ?_ (vg rfl ?_ zI)))⟩
     ·skip
      refine zf H Tryz.underlying24 ti2 kk.toNat rfl rfl qf qf qf fun b747 w748 H=>⟨H.pick [4,5,6,7] [0,1],(ro 18 rfl (zf H Tryz.underlying24 ti2 kk.toNat rfl rfl qf qf qf fun b749 w750 H=>⟨H.pick [5,6,7,8] [0,1],(ro 19 rfl ?_)⟩))⟩
      refine xP [.int .i64 zi736,.int .i64 0,Sv ra744 zl743.length rc746,Sv (some ⟨b747,0,none⟩) kk.toNat kk.toNat,Sv (some ⟨b749,0,none⟩) kk.toNat kk.toNat,Sv none 0 0,Sv none 0 0,Sv none 0 0,Bv false] [(0,.int .i64 zi736),(2,Sv ra744 zl743.length rc746),(3,Sv (some ⟨b747,0,none⟩) kk.toNat kk.toNat),(4,Sv (some ⟨b749,0,none⟩) kk.toNat kk.toNat)] (⟨H.pick [5,6,7,8] [0,1],(ro 21 rfl ?_)⟩)
      refine xu H 4 [.int .i64 zi736,.int .i64 0,Sv ra744 zl743.length rc746,Sv (some ⟨b747,0,none⟩) kk.toNat kk.toNat,Sv (some ⟨b749,0,none⟩) kk.toNat kk.toNat,Sv none 0 0,Sv none 0 0,Sv none 0 0,Bv false] Tryz.sizeOf56 fun w751 H=>?_
      try dsimp only [List.set] at H
      refine ⟨H.pick [5,6,7,8] [0,1],(xg qh ((meet ⟨_,zi734,zi736,zi741,zl743,b728,ra744,rc746,b747,b749,zi742,uE5,hx732,hx733,hx739,hx740,N,H.xH 9 2 [4,0,1,2,3,5,6,7,8] [0,1] qo qo⟩)))⟩
     ·skip
      refine zf H Tryz.underlying24 ti2 kk.toNat rfl rfl qf qf qf fun b752 w753 H=>⟨H.pick [4,5,6,7] [0,1],(ro 13 rfl (zf H Tryz.underlying24 ti2 kk.toNat rfl rfl qf qf qf fun b754 w755 H=>⟨H.pick [5,6,7,8] [0,1],(ro 19 rfl ?_)⟩))⟩
      refine xP [.int .i64 zi736,.int .i64 0,Sv ra744 zl743.length rc746,Sv (some ⟨b754,0,none⟩) kk.toNat kk.toNat,Sv (some ⟨b752,0,none⟩) kk.toNat kk.toNat,Sv none 0 0,Sv none 0 0,Sv none 0 0,Bv false] [(0,.int .i64 zi736),(2,Sv ra744 zl743.length rc746),(3,Sv (some ⟨b754,0,none⟩) kk.toNat kk.toNat),(4,Sv (some ⟨b752,0,none⟩) kk.toNat kk.toNat)] (⟨H.pick [5,6,7,8] [0,1],(ro 21 rfl ?_)⟩)
      refine xu H 4 [.int .i64 zi736,.int .i64 0,Sv ra744 zl743.length rc746,Sv (some ⟨b754,0,none⟩) kk.toNat kk.toNat,Sv (some ⟨b752,0,none⟩) kk.toNat kk.toNat,Sv none 0 0,Sv none 0 0,Sv none 0 0,Bv false] Tryz.sizeOf56 fun w756 H=>?_
      try dsimp only [List.set] at H
      refine ⟨H.pick [5,6,7,8] [0,1],(xg qh ((meet ⟨_,zi734,zi736,zi741,zl743,b728,ra744,rc746,b754,b752,zi742,uE5,hx732,hx733,hx739,hx740,N,H.xH 9 2 [4,1,0,2,3,5,6,7,8] [0,1] qo qo⟩)))⟩
    ·skip
     refine zf H Tryz.underlying24 ti2 kk.toNat rfl rfl qf qf qf fun b757 w758 H=>⟨H.pick [3,4,5,6] [0,1],(zH [8,18] qh qm (vg rfl ?_ (vg rfl ?_ zI)))⟩
     ·skip
      have H1:St W0 w758 ((.box bs [Sv ac code.length cc,.int .i64 zi734,.int .u64 zi735] 127) :: (rr (some ⟨b757,0,none⟩) kk.toNat kk.toNat 2 1 ((List.replicate kk.toNat (0:Int)).map (Value.int .i64))) :: (.box b728 [.int .i64 0,.int .i64 0,Sv none 0 0,Sv none 0 0,Sv none 0 0,Sv none 0 0,Sv none 0 0,Sv none 0 0,Bv false] 56) :: (.box b1 [.int .i64 0,.int .i64 0,Sv none 0 0,Sv none 0 0,Sv none 0 0,Sv none 0 0,Sv none 0 0,Sv none 0 0,Bv false] 56) :: (.box bY [.int .i64 kk,Sv rap par.length rcp,Sv raR rules.length rcR] 27) :: (rr rap par.length rcp 2 1 (par.map (Value.int .i64))) :: (rr raR rules.length rcR 56 9 rxR) :: ps) ((sF false Fc ac cc code) :: (qX true rFR rxR rules) :: Γ):=H.xH 7 2 [1,0,2,3,4,5,6] [0,1] qo qo
      have N1:Fresh _ (rFR :: Ns):=N
      have K1:Kept (Ns) ((qX true rFR rxR rules) :: Γ):=K0.behind 1 rfl
      replace K1:=K1.cons (F:=rFR) 0 rfl rfl
      refine xR #[.pointer (some ⟨bs,0,none⟩),.int .i64 kk,.int .i64 2] rfl rfl Tryz.call188 (zT code zi734 zi735 bs ac cc Fc kk (2:Int) H1 N1 K1 qg qg qg) ?_
      clear H H1 N1 K1
      rintro _ w759 ⟨zi763,zi764,zl765,ra766,rn767,rc768,hx761,hx762,rfl,N,H⟩
      obtain rfl:=H.vM 1 rfl
      refine ⟨H.pick [4,5,6,7] [0,1],(ro 18 rfl (zf H Tryz.underlying24 ti2 kk.toNat rfl rfl qf qf qf fun b769 w770 H=>⟨H.pick [5,6,7,8] [0,1],(ro 19 rfl (xP [.int .i64 zi736,.int .i64 0,Sv ra766 zl765.length rc768,Sv (some ⟨b757,0,none⟩) kk.toNat kk.toNat,Sv (some ⟨b769,0,none⟩) kk.toNat kk.toNat,Sv none 0 0,Sv none 0 0,Sv none 0 0,Bv false] [(0,.int .i64 zi736),(2,Sv ra766 zl765.length rc768),(3,Sv (some ⟨b757,0,none⟩) kk.toNat kk.toNat),(4,Sv (some ⟨b769,0,none⟩) kk.toNat kk.toNat)] (⟨H.pick [5,6,7,8] [0,1],(ro 21 rfl ?_)⟩)))⟩))⟩
      refine xu H 4 [.int .i64 zi736,.int .i64 0,Sv ra766 zl765.length rc768,Sv (some ⟨b757,0,none⟩) kk.toNat kk.toNat,Sv (some ⟨b769,0,none⟩) kk.toNat kk.toNat,Sv none 0 0,Sv none 0 0,Sv none 0 0,Bv false] Tryz.sizeOf56 fun w771 H=>?_
      try dsimp only [List.set] at H
      refine ⟨H.pick [5,6,7,8] [0,1],(xg qh ((meet ⟨_,zi734,zi736,zi763,zl765,b728,ra766,rc768,b757,b769,zi764,uE5,hx732,hx733,hx761,hx762,N,H.xH 9 2 [4,0,3,1,2,5,6,7,8] [0,1] qo qo⟩)))⟩
     ·skip
      refine zf H Tryz.underlying24 ti2 kk.toNat rfl rfl qf qf qf fun b772 w773 H=>⟨H.pick [4,5,6,7] [0,1],(ro 8 rfl ?_)⟩
      have H1:St W0 w773 ((.box bs [Sv ac code.length cc,.int .i64 zi734,.int .u64 zi735] 127) :: (rr (some ⟨b772,0,none⟩) kk.toNat kk.toNat 2 1 ((List.replicate kk.toNat (0:Int)).map (Value.int .i64))) :: (rr (some ⟨b757,0,none⟩) kk.toNat kk.toNat 2 1 ((List.replicate kk.toNat (0:Int)).map (Value.int .i64))) :: (.box b728 [.int .i64 0,.int .i64 0,Sv none 0 0,Sv none 0 0,Sv none 0 0,Sv none 0 0,Sv none 0 0,Sv none 0 0,Bv false] 56) :: (.box b1 [.int .i64 0,.int .i64 0,Sv none 0 0,Sv none 0 0,Sv none 0 0,Sv none 0 0,Sv none 0 0,Sv none 0 0,Bv false] 56) :: (.box bY [.int .i64 kk,Sv rap par.length rcp,Sv raR rules.length rcR] 27) :: (rr rap par.length rcp 2 1 (par.map (Value.int .i64))) :: (rr raR rules.length rcR 56 9 rxR) :: ps) ((sF false Fc ac cc code) :: (qX true rFR rxR rules) :: Γ):=H.xH 8 2 [2,0,1,3,4,5,6,7] [0,1] qo qo
      have N1:Fresh _ (rFR :: Ns):=N
      have K1:Kept (Ns) ((qX true rFR rxR rules) :: Γ):=K0.behind 1 rfl
      replace K1:=K1.cons (F:=rFR) 0 rfl rfl
      refine xR #[.pointer (some ⟨bs,0,none⟩),.int .i64 kk,.int .i64 2] rfl rfl Tryz.call188 (zT code zi734 zi735 bs ac cc Fc kk (2:Int) H1 N1 K1 qg qg qg) ?_
      clear H H1 N1 K1
      rintro _ w774 ⟨zi778,zi779,zl780,ra781,rn782,rc783,hx776,hx777,rfl,N,H⟩
      obtain rfl:=H.vM 1 rfl
      refine ⟨H.pick [5,6,7,8] [0,1],(ro 19 rfl (xP [.int .i64 zi736,.int .i64 0,Sv ra781 zl780.length rc783,Sv (some ⟨b757,0,none⟩) kk.toNat kk.toNat,Sv (some ⟨b772,0,none⟩) kk.toNat kk.toNat,Sv none 0 0,Sv none 0 0,Sv none 0 0,Bv false] [(0,.int .i64 zi736),(2,Sv ra781 zl780.length rc783),(3,Sv (some ⟨b757,0,none⟩) kk.toNat kk.toNat),(4,Sv (some ⟨b772,0,none⟩) kk.toNat kk.toNat)] (⟨H.pick [5,6,7,8] [0,1],(ro 21 rfl ?_)⟩)))⟩
      refine xu H 4 [.int .i64 zi736,.int .i64 0,Sv ra781 zl780.length rc783,Sv (some ⟨b757,0,none⟩) kk.toNat kk.toNat,Sv (some ⟨b772,0,none⟩) kk.toNat kk.toNat,Sv none 0 0,Sv none 0 0,Sv none 0 0,Bv false] Tryz.sizeOf56 fun w784 H=>?_
      try dsimp only [List.set] at H
      refine ⟨H.pick [5,6,7,8] [0,1],(xg qh ((meet ⟨_,zi734,zi736,zi778,zl780,b728,ra781,rc783,b757,b772,zi779,uE5,hx732,hx733,hx776,hx777,N,H.xH 9 2 [4,2,3,0,1,5,6,7,8] [0,1] qo qo⟩)))⟩
    ·skip
     refine zf H Tryz.underlying24 ti2 kk.toNat rfl rfl qf qf qf fun b785 w786 H=>⟨H.pick [3,4,5,6] [0,1],(zH [8,13] qh qm (vg rfl ?_ (vg rfl ?_ zI)))⟩
     ·skip
      have H1:St W0 w786 ((.box bs [Sv ac code.length cc,.int .i64 zi734,.int .u64 zi735] 127) :: (rr (some ⟨b785,0,none⟩) kk.toNat kk.toNat 2 1 ((List.replicate kk.toNat (0:Int)).map (Value.int .i64))) :: (.box b728 [.int .i64 0,.int .i64 0,Sv none 0 0,Sv none 0 0,Sv none 0 0,Sv none 0 0,Sv none 0 0,Sv none 0 0,Bv false] 56) :: (.box b1 [.int .i64 0,.int .i64 0,Sv none 0 0,Sv none 0 0,Sv none 0 0,Sv none 0 0,Sv none 0 0,Sv none 0 0,Bv false] 56) :: (.box bY [.int .i64 kk,Sv rap par.length rcp,Sv raR rules.length rcR] 27) :: (rr rap par.length rcp 2 1 (par.map (Value.int .i64))) :: (rr raR rules.length rcR 56 9 rxR) :: ps) ((sF false Fc ac cc code) :: (qX true rFR rxR rules) :: Γ):=H.xH 7 2 [1,0,2,3,4,5,6] [0,1] qo qo
      have N1:Fresh _ (rFR :: Ns):=N
      have K1:Kept (Ns) ((qX true rFR rxR rules) :: Γ):=K0.behind 1 rfl
      replace K1:=K1.cons (F:=rFR) 0 rfl rfl
      refine xR #[.pointer (some ⟨bs,0,none⟩),.int .i64 kk,.int .i64 2] rfl rfl Tryz.call188 (zT code zi734 zi735 bs ac cc Fc kk (2:Int) H1 N1 K1 qg qg qg) ?_
      clear H H1 N1 K1
      rintro _ w787 ⟨zi791,zi792,zl793,ra794,rn795,rc796,hx789,hx790,rfl,N,H⟩
      obtain rfl:=H.vM 1 rfl
      refine ⟨H.pick [4,5,6,7] [0,1],(ro 13 rfl (zf H Tryz.underlying24 ti2 kk.toNat rfl rfl qf qf qf fun b797 w798 H=>⟨H.pick [5,6,7,8] [0,1],(ro 19 rfl (xP [.int .i64 zi736,.int .i64 0,Sv ra794 zl793.length rc796,Sv (some ⟨b797,0,none⟩) kk.toNat kk.toNat,Sv (some ⟨b785,0,none⟩) kk.toNat kk.toNat,Sv none 0 0,Sv none 0 0,Sv none 0 0,Bv false] [(0,.int .i64 zi736),(2,Sv ra794 zl793.length rc796),(3,Sv (some ⟨b797,0,none⟩) kk.toNat kk.toNat),(4,Sv (some ⟨b785,0,none⟩) kk.toNat kk.toNat)] (⟨H.pick [5,6,7,8] [0,1],(ro 21 rfl ?_)⟩)))⟩))⟩
      refine xu H 4 [.int .i64 zi736,.int .i64 0,Sv ra794 zl793.length rc796,Sv (some ⟨b797,0,none⟩) kk.toNat kk.toNat,Sv (some ⟨b785,0,none⟩) kk.toNat kk.toNat,Sv none 0 0,Sv none 0 0,Sv none 0 0,Bv false] Tryz.sizeOf56 fun w799 H=>?_
      try dsimp only [List.set] at H
      refine ⟨H.pick [5,6,7,8] [0,1],(xg qh ((meet ⟨_,zi734,zi736,zi791,zl793,b728,ra794,rc796,b797,b785,zi792,uE5,hx732,hx733,hx789,hx790,N,H.xH 9 2 [4,3,0,1,2,5,6,7,8] [0,1] qo qo⟩)))⟩
     ·skip
      refine zf H Tryz.underlying24 ti2 kk.toNat rfl rfl qf qf qf fun b800 w801 H=>⟨H.pick [4,5,6,7] [0,1],(ro 8 rfl ?_)⟩
      have H1:St W0 w801 ((.box bs [Sv ac code.length cc,.int .i64 zi734,.int .u64 zi735] 127) :: (rr (some ⟨b800,0,none⟩) kk.toNat kk.toNat 2 1 ((List.replicate kk.toNat (0:Int)).map (Value.int .i64))) :: (rr (some ⟨b785,0,none⟩) kk.toNat kk.toNat 2 1 ((List.replicate kk.toNat (0:Int)).map (Value.int .i64))) :: (.box b728 [.int .i64 0,.int .i64 0,Sv none 0 0,Sv none 0 0,Sv none 0 0,Sv none 0 0,Sv none 0 0,Sv none 0 0,Bv false] 56) :: (.box b1 [.int .i64 0,.int .i64 0,Sv none 0 0,Sv none 0 0,Sv none 0 0,Sv none 0 0,Sv none 0 0,Sv none 0 0,Bv false] 56) :: (.box bY [.int .i64 kk,Sv rap par.length rcp,Sv raR rules.length rcR] 27) :: (rr rap par.length rcp 2 1 (par.map (Value.int .i64))) :: (rr raR rules.length rcR 56 9 rxR) :: ps) ((sF false Fc ac cc code) :: (qX true rFR rxR rules) :: Γ):=H.xH 8 2 [2,0,1,3,4,5,6,7] [0,1] qo qo
      have N1:Fresh _ (rFR :: Ns):=N
      have K1:Kept (Ns) ((qX true rFR rxR rules) :: Γ):=K0.behind 1 rfl
      replace K1:=K1.cons (F:=rFR) 0 rfl rfl
      refine xR #[.pointer (some ⟨bs,0,none⟩),.int .i64 kk,.int .i64 2] rfl rfl Tryz.call188 (zT code zi734 zi735 bs ac cc Fc kk (2:Int) H1 N1 K1 qg qg qg) ?_
      clear H H1 N1 K1
      rintro _ w802 ⟨zi806,zi807,zl808,ra809,rn810,rc811,hx804,hx805,rfl,N,H⟩
      obtain rfl:=H.vM 1 rfl
      refine ⟨H.pick [5,6,7,8] [0,1],(ro 19 rfl (xP [.int .i64 zi736,.int .i64 0,Sv ra809 zl808.length rc811,Sv (some ⟨b800,0,none⟩) kk.toNat kk.toNat,Sv (some ⟨b785,0,none⟩) kk.toNat kk.toNat,Sv none 0 0,Sv none 0 0,Sv none 0 0,Bv false] [(0,.int .i64 zi736),(2,Sv ra809 zl808.length rc811),(3,Sv (some ⟨b800,0,none⟩) kk.toNat kk.toNat),(4,Sv (some ⟨b785,0,none⟩) kk.toNat kk.toNat)] (⟨H.pick [5,6,7,8] [0,1],(ro 21 rfl ?_)⟩)))⟩
      refine xu H 4 [.int .i64 zi736,.int .i64 0,Sv ra809 zl808.length rc811,Sv (some ⟨b800,0,none⟩) kk.toNat kk.toNat,Sv (some ⟨b785,0,none⟩) kk.toNat kk.toNat,Sv none 0 0,Sv none 0 0,Sv none 0 0,Bv false] Tryz.sizeOf56 fun w812 H=>?_
      try dsimp only [List.set] at H
      refine ⟨H.pick [5,6,7,8] [0,1],(xg qh ((meet ⟨_,zi734,zi736,zi806,zl808,b728,ra809,rc811,b800,b785,zi807,uE5,hx732,hx733,hx804,hx805,N,H.xH 9 2 [4,3,2,0,1,5,6,7,8] [0,1] qo qo⟩)))⟩
   ·skip
    refine zf H Tryz.underlying24 ti2 kk.toNat rfl rfl qf qf qf fun b813 w814 H=>⟨H.pick [2,4,5,6] [0,1],(zH [2,18] qh qm (vg rfl ?_ (vg rfl ?_ zI)))⟩
    ·skip
     have H1:St W0 w814 ((.box bs [Sv ac code.length cc,.int .i64 ip,.int .u64 sd] 127) :: (rr (some ⟨b813,0,none⟩) kk.toNat kk.toNat 2 1 ((List.replicate kk.toNat (0:Int)).map (Value.int .i64))) :: (.box b728 [.int .i64 0,.int .i64 0,Sv none 0 0,Sv none 0 0,Sv none 0 0,Sv none 0 0,Sv none 0 0,Sv none 0 0,Bv false] 56) :: (.box b1 [.int .i64 0,.int .i64 0,Sv none 0 0,Sv none 0 0,Sv none 0 0,Sv none 0 0,Sv none 0 0,Sv none 0 0,Bv false] 56) :: (.box bY [.int .i64 kk,Sv rap par.length rcp,Sv raR rules.length rcR] 27) :: (rr rap par.length rcp 2 1 (par.map (Value.int .i64))) :: (rr raR rules.length rcR 56 9 rxR) :: ps) ((sF false Fc ac cc code) :: (qX true rFR rxR rules) :: Γ):=H.xH 7 2 [3,0,1,2,4,5,6] [0,1] qo qo
     have N1:Fresh _ (rFR :: Ns):=N
     have K1:Kept (Ns) ((qX true rFR rxR rules) :: Γ):=K0.behind 1 rfl
     replace K1:=K1.cons (F:=rFR) 0 rfl rfl
     refine xR #[.pointer (some ⟨bs,0,none⟩),.int .i64 par.length] rfl rfl Tryz.call68 (jZ code ip sd bs ac cc Fc par.length H1 N1 K1 qg) ?_
     clear H H1 N1 K1
     rintro _ w815 ⟨zi819,zi820,zi821,hx817,hx818,rfl,N,H⟩
     refine ⟨H.pick [3,4,5,6] [0,1],(zH [8,18] qh qm (vg rfl ?_ (vg rfl ?_ zI)))⟩
     ·skip
      have H1:St W0 w815 ((.box bs [Sv ac code.length cc,.int .i64 zi819,.int .u64 zi820] 127) :: (rr (some ⟨b813,0,none⟩) kk.toNat kk.toNat 2 1 ((List.replicate kk.toNat (0:Int)).map (Value.int .i64))) :: (.box b728 [.int .i64 0,.int .i64 0,Sv none 0 0,Sv none 0 0,Sv none 0 0,Sv none 0 0,Sv none 0 0,Sv none 0 0,Bv false] 56) :: (.box b1 [.int .i64 0,.int .i64 0,Sv none 0 0,Sv none 0 0,Sv none 0 0,Sv none 0 0,Sv none 0 0,Sv none 0 0,Bv false] 56) :: (.box bY [.int .i64 kk,Sv rap par.length rcp,Sv raR rules.length rcR] 27) :: (rr rap par.length rcp 2 1 (par.map (Value.int .i64))) :: (rr raR rules.length rcR 56 9 rxR) :: ps) ((sF false Fc ac cc code) :: (qX true rFR rxR rules) :: Γ):=H.xH 7 2 [0,1,2,3,4,5,6] [0,1] qo qo
      have N1:Fresh _ (rFR :: Ns):=N
      have K1:Kept (Ns) ((qX true rFR rxR rules) :: Γ):=K0.behind 1 rfl
      replace K1:=K1.cons (F:=rFR) 0 rfl rfl
      refine xR #[.pointer (some ⟨bs,0,none⟩),.int .i64 kk,.int .i64 2] rfl rfl Tryz.call188 (zT code zi819 zi820 bs ac cc Fc kk (2:Int) H1 N1 K1 qg qg qg) ?_
      clear H H1 N1 K1
      rintro _ w822 ⟨zi826,zi827,zl828,ra829,rn830,rc831,hx824,hx825,rfl,N,H⟩
      obtain rfl:=H.vM 1 rfl
      refine ⟨H.pick [4,5,6,7] [0,1],(ro 18 rfl (zf H Tryz.underlying24 ti2 kk.toNat rfl rfl qf qf qf fun b832 w833 H=>⟨H.pick [5,6,7,8] [0,1],(ro 19 rfl (xP [.int .i64 zi821,.int .i64 0,Sv ra829 zl828.length rc831,Sv (some ⟨b813,0,none⟩) kk.toNat kk.toNat,Sv (some ⟨b832,0,none⟩) kk.toNat kk.toNat,Sv none 0 0,Sv none 0 0,Sv none 0 0,Bv false] [(0,.int .i64 zi821),(2,Sv ra829 zl828.length rc831),(3,Sv (some ⟨b813,0,none⟩) kk.toNat kk.toNat),(4,Sv (some ⟨b832,0,none⟩) kk.toNat kk.toNat)] (⟨H.pick [5,6,7,8] [0,1],(ro 21 rfl ?_)⟩)))⟩))⟩
      refine xu H 4 [.int .i64 zi821,.int .i64 0,Sv ra829 zl828.length rc831,Sv (some ⟨b813,0,none⟩) kk.toNat kk.toNat,Sv (some ⟨b832,0,none⟩) kk.toNat kk.toNat,Sv none 0 0,Sv none 0 0,Sv none 0 0,Bv false] Tryz.sizeOf56 fun w834 H=>?_
      try dsimp only [List.set] at H
      refine ⟨H.pick [5,6,7,8] [0,1],(xg qh ((meet ⟨_,zi819,zi821,zi826,zl828,b728,ra829,rc831,b813,b832,zi827,uE5,hx817,hx818,hx824,hx825,N,H.xH 9 2 [4,0,3,1,2,5,6,7,8] [0,1] qo qo⟩)))⟩
     ·skip
      refine zf H Tryz.underlying24 ti2 kk.toNat rfl rfl qf qf qf fun b835 w836 H=>⟨H.pick [4,5,6,7] [0,1],(ro 8 rfl ?_)⟩
      have H1:St W0 w836 ((.box bs [Sv ac code.length cc,.int .i64 zi819,.int .u64 zi820] 127) :: (rr (some ⟨b835,0,none⟩) kk.toNat kk.toNat 2 1 ((List.replicate kk.toNat (0:Int)).map (Value.int .i64))) :: (rr (some ⟨b813,0,none⟩) kk.toNat kk.toNat 2 1 ((List.replicate kk.toNat (0:Int)).map (Value.int .i64))) :: (.box b728 [.int .i64 0,.int .i64 0,Sv none 0 0,Sv none 0 0,Sv none 0 0,Sv none 0 0,Sv none 0 0,Sv none 0 0,Bv false] 56) :: (.box b1 [.int .i64 0,.int .i64 0,Sv none 0 0,Sv none 0 0,Sv none 0 0,Sv none 0 0,Sv none 0 0,Sv none 0 0,Bv false] 56) :: (.box bY [.int .i64 kk,Sv rap par.length rcp,Sv raR rules.length rcR] 27) :: (rr rap par.length rcp 2 1 (par.map (Value.int .i64))) :: (rr raR rules.length rcR 56 9 rxR) :: ps) ((sF false Fc ac cc code) :: (qX true rFR rxR rules) :: Γ):=H.xH 8 2 [1,0,2,3,4,5,6,7] [0,1] qo qo
      have N1:Fresh _ (rFR :: Ns):=N
      have K1:Kept (Ns) ((qX true rFR rxR rules) :: Γ):=K0.behind 1 rfl
      replace K1:=K1.cons (F:=rFR) 0 rfl rfl
      refine xR #[.pointer (some ⟨bs,0,none⟩),.int .i64 kk,.int .i64 2] rfl rfl Tryz.call188 (zT code zi819 zi820 bs ac cc Fc kk (2:Int) H1 N1 K1 qg qg qg) ?_
      clear H H1 N1 K1
      rintro _ w837 ⟨zi841,zi842,zl843,ra844,rn845,rc846,hx839,hx840,rfl,N,H⟩
      obtain rfl:=H.vM 1 rfl
      refine ⟨H.pick [5,6,7,8] [0,1],(ro 19 rfl (xP [.int .i64 zi821,.int .i64 0,Sv ra844 zl843.length rc846,Sv (some ⟨b813,0,none⟩) kk.toNat kk.toNat,Sv (some ⟨b835,0,none⟩) kk.toNat kk.toNat,Sv none 0 0,Sv none 0 0,Sv none 0 0,Bv false] [(0,.int .i64 zi821),(2,Sv ra844 zl843.length rc846),(3,Sv (some ⟨b813,0,none⟩) kk.toNat kk.toNat),(4,Sv (some ⟨b835,0,none⟩) kk.toNat kk.toNat)] (⟨H.pick [5,6,7,8] [0,1],(ro 21 rfl ?_)⟩)))⟩
      refine xu H 4 [.int .i64 zi821,.int .i64 0,Sv ra844 zl843.length rc846,Sv (some ⟨b813,0,none⟩) kk.toNat kk.toNat,Sv (some ⟨b835,0,none⟩) kk.toNat kk.toNat,Sv none 0 0,Sv none 0 0,Sv none 0 0,Bv false] Tryz.sizeOf56 fun w847 H=>?_
      try dsimp only [List.set] at H
      refine ⟨H.pick [5,6,7,8] [0,1],(xg qh ((meet ⟨_,zi819,zi821,zi841,zl843,b728,ra844,rc846,b813,b835,zi842,uE5,hx817,hx818,hx839,hx840,N,H.xH 9 2 [4,2,3,0,1,5,6,7,8] [0,1] qo qo⟩)))⟩
    ·skip
     refine zf H Tryz.underlying24 ti2 kk.toNat rfl rfl qf qf qf fun b848 w849 H=>⟨H.pick [3,5,6,7] [0,1],(ro 2 rfl ?_)⟩
     have H1:St W0 w849 ((.box bs [Sv ac code.length cc,.int .i64 ip,.int .u64 sd] 127) :: (rr (some ⟨b848,0,none⟩) kk.toNat kk.toNat 2 1 ((List.replicate kk.toNat (0:Int)).map (Value.int .i64))) :: (rr (some ⟨b813,0,none⟩) kk.toNat kk.toNat 2 1 ((List.replicate kk.toNat (0:Int)).map (Value.int .i64))) :: (.box b728 [.int .i64 0,.int .i64 0,Sv none 0 0,Sv none 0 0,Sv none 0 0,Sv none 0 0,Sv none 0 0,Sv none 0 0,Bv false] 56) :: (.box b1 [.int .i64 0,.int .i64 0,Sv none 0 0,Sv none 0 0,Sv none 0 0,Sv none 0 0,Sv none 0 0,Sv none 0 0,Bv false] 56) :: (.box bY [.int .i64 kk,Sv rap par.length rcp,Sv raR rules.length rcR] 27) :: (rr rap par.length rcp 2 1 (par.map (Value.int .i64))) :: (rr raR rules.length rcR 56 9 rxR) :: ps) ((sF false Fc ac cc code) :: (qX true rFR rxR rules) :: Γ):=H.xH 8 2 [4,0,1,2,3,5,6,7] [0,1] qo qo
     have N1:Fresh _ (rFR :: Ns):=N
     have K1:Kept (Ns) ((qX true rFR rxR rules) :: Γ):=K0.behind 1 rfl
     replace K1:=K1.cons (F:=rFR) 0 rfl rfl
     refine xR #[.pointer (some ⟨bs,0,none⟩),.int .i64 par.length] rfl rfl Tryz.call68 (jZ code ip sd bs ac cc Fc par.length H1 N1 K1 qg) ?_
     clear H H1 N1 K1
     rintro _ w850 ⟨zi854,zi855,zi856,hx852,hx853,rfl,N,H⟩
     refine ⟨H.pick [4,5,6,7] [0,1],(ro 8 rfl ?_)⟩
     have H1:St W0 w850 ((.box bs [Sv ac code.length cc,.int .i64 zi854,.int .u64 zi855] 127) :: (rr (some ⟨b848,0,none⟩) kk.toNat kk.toNat 2 1 ((List.replicate kk.toNat (0:Int)).map (Value.int .i64))) :: (rr (some ⟨b813,0,none⟩) kk.toNat kk.toNat 2 1 ((List.replicate kk.toNat (0:Int)).map (Value.int .i64))) :: (.box b728 [.int .i64 0,.int .i64 0,Sv none 0 0,Sv none 0 0,Sv none 0 0,Sv none 0 0,Sv none 0 0,Sv none 0 0,Bv false] 56) :: (.box b1 [.int .i64 0,.int .i64 0,Sv none 0 0,Sv none 0 0,Sv none 0 0,Sv none 0 0,Sv none 0 0,Sv none 0 0,Bv false] 56) :: (.box bY [.int .i64 kk,Sv rap par.length rcp,Sv raR rules.length rcR] 27) :: (rr rap par.length rcp 2 1 (par.map (Value.int .i64))) :: (rr raR rules.length rcR 56 9 rxR) :: ps) ((sF false Fc ac cc code) :: (qX true rFR rxR rules) :: Γ):=H.xH 8 2 [0,1,2,3,4,5,6,7] [0,1] qo qo
     have N1:Fresh _ (rFR :: Ns):=N
     have K1:Kept (Ns) ((qX true rFR rxR rules) :: Γ):=K0.behind 1 rfl
     replace K1:=K1.cons (F:=rFR) 0 rfl rfl
     refine xR #[.pointer (some ⟨bs,0,none⟩),.int .i64 kk,.int .i64 2] rfl rfl Tryz.call188 (zT code zi854 zi855 bs ac cc Fc kk (2:Int) H1 N1 K1 qg qg qg) ?_
     clear H H1 N1 K1
     rintro _ w857 ⟨zi861,zi862,zl863,ra864,rn865,rc866,hx859,hx860,rfl,N,H⟩
     obtain rfl:=H.vM 1 rfl
     refine ⟨H.pick [5,6,7,8] [0,1],(ro 19 rfl (xP [.int .i64 zi856,.int .i64 0,Sv ra864 zl863.length rc866,Sv (some ⟨b813,0,none⟩) kk.toNat kk.toNat,Sv (some ⟨b848,0,none⟩) kk.toNat kk.toNat,Sv none 0 0,Sv none 0 0,Sv none 0 0,Bv false] [(0,.int .i64 zi856),(2,Sv ra864 zl863.length rc866),(3,Sv (some ⟨b813,0,none⟩) kk.toNat kk.toNat),(4,Sv (some ⟨b848,0,none⟩) kk.toNat kk.toNat)] (⟨H.pick [5,6,7,8] [0,1],(ro 21 rfl ?_)⟩)))⟩
     refine xu H 4 [.int .i64 zi856,.int .i64 0,Sv ra864 zl863.length rc866,Sv (some ⟨b813,0,none⟩) kk.toNat kk.toNat,Sv (some ⟨b848,0,none⟩) kk.toNat kk.toNat,Sv none 0 0,Sv none 0 0,Sv none 0 0,Bv false] Tryz.sizeOf56 fun w867 H=>?_
     try dsimp only [List.set] at H
     refine ⟨H.pick [5,6,7,8] [0,1],(xg qh ((meet ⟨_,zi854,zi856,zi861,zl863,b728,ra864,rc866,b813,b848,zi862,uE5,hx852,hx853,hx859,hx860,N,H.xH 9 2 [4,2,3,0,1,5,6,7,8] [0,1] qo qo⟩)))⟩
   ·skip
    refine zf H Tryz.underlying24 ti2 kk.toNat rfl rfl qf qf qf fun b868 w869 H=>⟨H.pick [2,4,5,6] [0,1],(zH [2,13] qh qm (vg rfl ?_ (vg rfl ?_ zI)))⟩
    ·skip
     have H1:St W0 w869 ((.box bs [Sv ac code.length cc,.int .i64 ip,.int .u64 sd] 127) :: (rr (some ⟨b868,0,none⟩) kk.toNat kk.toNat 2 1 ((List.replicate kk.toNat (0:Int)).map (Value.int .i64))) :: (.box b728 [.int .i64 0,.int .i64 0,Sv none 0 0,Sv none 0 0,Sv none 0 0,Sv none 0 0,Sv none 0 0,Sv none 0 0,Bv false] 56) :: (.box b1 [.int .i64 0,.int .i64 0,Sv none 0 0,Sv none 0 0,Sv none 0 0,Sv none 0 0,Sv none 0 0,Sv none 0 0,Bv false] 56) :: (.box bY [.int .i64 kk,Sv rap par.length rcp,Sv raR rules.length rcR] 27) :: (rr rap par.length rcp 2 1 (par.map (Value.int .i64))) :: (rr raR rules.length rcR 56 9 rxR) :: ps) ((sF false Fc ac cc code) :: (qX true rFR rxR rules) :: Γ):=H.xH 7 2 [3,0,1,2,4,5,6] [0,1] qo qo
     have N1:Fresh _ (rFR :: Ns):=N
     have K1:Kept (Ns) ((qX true rFR rxR rules) :: Γ):=K0.behind 1 rfl
     replace K1:=K1.cons (F:=rFR) 0 rfl rfl
     refine xR #[.pointer (some ⟨bs,0,none⟩),.int .i64 par.length] rfl rfl Tryz.call68 (jZ code ip sd bs ac cc Fc par.length H1 N1 K1 qg) ?_
     clear H H1 N1 K1
     rintro _ w870 ⟨zi874,zi875,zi876,hx872,hx873,rfl,N,H⟩
     refine ⟨H.pick [3,4,5,6] [0,1],(zH [8,13] qh qm (vg rfl ?_ (vg rfl ?_ zI)))⟩
     ·skip
      have H1:St W0 w870 ((.box bs [Sv ac code.length cc,.int .i64 zi874,.int .u64 zi875] 127) :: (rr (some ⟨b868,0,none⟩) kk.toNat kk.toNat 2 1 ((List.replicate kk.toNat (0:Int)).map (Value.int .i64))) :: (.box b728 [.int .i64 0,.int .i64 0,Sv none 0 0,Sv none 0 0,Sv none 0 0,Sv none 0 0,Sv none 0 0,Sv none 0 0,Bv false] 56) :: (.box b1 [.int .i64 0,.int .i64 0,Sv none 0 0,Sv none 0 0,Sv none 0 0,Sv none 0 0,Sv none 0 0,Sv none 0 0,Bv false] 56) :: (.box bY [.int .i64 kk,Sv rap par.length rcp,Sv raR rules.length rcR] 27) :: (rr rap par.length rcp 2 1 (par.map (Value.int .i64))) :: (rr raR rules.length rcR 56 9 rxR) :: ps) ((sF false Fc ac cc code) :: (qX true rFR rxR rules) :: Γ):=H.xH 7 2 [0,1,2,3,4,5,6] [0,1] qo qo
      have N1:Fresh _ (rFR :: Ns):=N
      have K1:Kept (Ns) ((qX true rFR rxR rules) :: Γ):=K0.behind 1 rfl
      replace K1:=K1.cons (F:=rFR) 0 rfl rfl
      refine xR #[.pointer (some ⟨bs,0,none⟩),.int .i64 kk,.int .i64 2] rfl rfl Tryz.call188 (zT code zi874 zi875 bs ac cc Fc kk (2:Int) H1 N1 K1 qg qg qg) ?_
      clear H H1 N1 K1
      rintro _ w877 ⟨zi881,zi882,zl883,ra884,rn885,rc886,hx879,hx880,rfl,N,H⟩
      obtain rfl:=H.vM 1 rfl
      refine ⟨H.pick [4,5,6,7] [0,1],(ro 13 rfl (zf H Tryz.underlying24 ti2 kk.toNat rfl rfl qf qf qf fun b887 w888 H=>⟨H.pick [5,6,7,8] [0,1],(ro 19 rfl (xP [.int .i64 zi876,.int .i64 0,Sv ra884 zl883.length rc886,Sv (some ⟨b887,0,none⟩) kk.toNat kk.toNat,Sv (some ⟨b868,0,none⟩) kk.toNat kk.toNat,Sv none 0 0,Sv none 0 0,Sv none 0 0,Bv false] [(0,.int .i64 zi876),(2,Sv ra884 zl883.length rc886),(3,Sv (some ⟨b887,0,none⟩) kk.toNat kk.toNat),(4,Sv (some ⟨b868,0,none⟩) kk.toNat kk.toNat)] (⟨H.pick [5,6,7,8] [0,1],(ro 21 rfl ?_)⟩)))⟩))⟩
      refine xu H 4 [.int .i64 zi876,.int .i64 0,Sv ra884 zl883.length rc886,Sv (some ⟨b887,0,none⟩) kk.toNat kk.toNat,Sv (some ⟨b868,0,none⟩) kk.toNat kk.toNat,Sv none 0 0,Sv none 0 0,Sv none 0 0,Bv false] Tryz.sizeOf56 fun w889 H=>?_
      try dsimp only [List.set] at H
      refine ⟨H.pick [5,6,7,8] [0,1],(xg qh ((meet ⟨_,zi874,zi876,zi881,zl883,b728,ra884,rc886,b887,b868,zi882,uE5,hx872,hx873,hx879,hx880,N,H.xH 9 2 [4,3,0,1,2,5,6,7,8] [0,1] qo qo⟩)))⟩
     ·skip
      refine zf H Tryz.underlying24 ti2 kk.toNat rfl rfl qf qf qf fun b890 w891 H=>⟨H.pick [4,5,6,7] [0,1],(ro 8 rfl ?_)⟩
      have H1:St W0 w891 ((.box bs [Sv ac code.length cc,.int .i64 zi874,.int .u64 zi875] 127) :: (rr (some ⟨b890,0,none⟩) kk.toNat kk.toNat 2 1 ((List.replicate kk.toNat (0:Int)).map (Value.int .i64))) :: (rr (some ⟨b868,0,none⟩) kk.toNat kk.toNat 2 1 ((List.replicate kk.toNat (0:Int)).map (Value.int .i64))) :: (.box b728 [.int .i64 0,.int .i64 0,Sv none 0 0,Sv none 0 0,Sv none 0 0,Sv none 0 0,Sv none 0 0,Sv none 0 0,Bv false] 56) :: (.box b1 [.int .i64 0,.int .i64 0,Sv none 0 0,Sv none 0 0,Sv none 0 0,Sv none 0 0,Sv none 0 0,Sv none 0 0,Bv false] 56) :: (.box bY [.int .i64 kk,Sv rap par.length rcp,Sv raR rules.length rcR] 27) :: (rr rap par.length rcp 2 1 (par.map (Value.int .i64))) :: (rr raR rules.length rcR 56 9 rxR) :: ps) ((sF false Fc ac cc code) :: (qX true rFR rxR rules) :: Γ):=H.xH 8 2 [1,0,2,3,4,5,6,7] [0,1] qo qo
      have N1:Fresh _ (rFR :: Ns):=N
      have K1:Kept (Ns) ((qX true rFR rxR rules) :: Γ):=K0.behind 1 rfl
      replace K1:=K1.cons (F:=rFR) 0 rfl rfl
      refine xR #[.pointer (some ⟨bs,0,none⟩),.int .i64 kk,.int .i64 2] rfl rfl Tryz.call188 (zT code zi874 zi875 bs ac cc Fc kk (2:Int) H1 N1 K1 qg qg qg) ?_
      clear H H1 N1 K1
      rintro _ w892 ⟨zi896,zi897,zl898,ra899,rn900,rc901,hx894,hx895,rfl,N,H⟩
      obtain rfl:=H.vM 1 rfl
      refine ⟨H.pick [5,6,7,8] [0,1],(ro 19 rfl (xP [.int .i64 zi876,.int .i64 0,Sv ra899 zl898.length rc901,Sv (some ⟨b890,0,none⟩) kk.toNat kk.toNat,Sv (some ⟨b868,0,none⟩) kk.toNat kk.toNat,Sv none 0 0,Sv none 0 0,Sv none 0 0,Bv false] [(0,.int .i64 zi876),(2,Sv ra899 zl898.length rc901),(3,Sv (some ⟨b890,0,none⟩) kk.toNat kk.toNat),(4,Sv (some ⟨b868,0,none⟩) kk.toNat kk.toNat)] (⟨H.pick [5,6,7,8] [0,1],(ro 21 rfl ?_)⟩)))⟩
      refine xu H 4 [.int .i64 zi876,.int .i64 0,Sv ra899 zl898.length rc901,Sv (some ⟨b890,0,none⟩) kk.toNat kk.toNat,Sv (some ⟨b868,0,none⟩) kk.toNat kk.toNat,Sv none 0 0,Sv none 0 0,Sv none 0 0,Bv false] Tryz.sizeOf56 fun w902 H=>?_
      try dsimp only [List.set] at H
      refine ⟨H.pick [5,6,7,8] [0,1],(xg qh ((meet ⟨_,zi874,zi876,zi896,zl898,b728,ra899,rc901,b890,b868,zi897,uE5,hx872,hx873,hx894,hx895,N,H.xH 9 2 [4,3,2,0,1,5,6,7,8] [0,1] qo qo⟩)))⟩
    ·skip
     refine zf H Tryz.underlying24 ti2 kk.toNat rfl rfl qf qf qf fun b903 w904 H=>⟨H.pick [3,5,6,7] [0,1],(ro 2 rfl ?_)⟩
     have H1:St W0 w904 ((.box bs [Sv ac code.length cc,.int .i64 ip,.int .u64 sd] 127) :: (rr (some ⟨b903,0,none⟩) kk.toNat kk.toNat 2 1 ((List.replicate kk.toNat (0:Int)).map (Value.int .i64))) :: (rr (some ⟨b868,0,none⟩) kk.toNat kk.toNat 2 1 ((List.replicate kk.toNat (0:Int)).map (Value.int .i64))) :: (.box b728 [.int .i64 0,.int .i64 0,Sv none 0 0,Sv none 0 0,Sv none 0 0,Sv none 0 0,Sv none 0 0,Sv none 0 0,Bv false] 56) :: (.box b1 [.int .i64 0,.int .i64 0,Sv none 0 0,Sv none 0 0,Sv none 0 0,Sv none 0 0,Sv none 0 0,Sv none 0 0,Bv false] 56) :: (.box bY [.int .i64 kk,Sv rap par.length rcp,Sv raR rules.length rcR] 27) :: (rr rap par.length rcp 2 1 (par.map (Value.int .i64))) :: (rr raR rules.length rcR 56 9 rxR) :: ps) ((sF false Fc ac cc code) :: (qX true rFR rxR rules) :: Γ):=H.xH 8 2 [4,0,1,2,3,5,6,7] [0,1] qo qo
     have N1:Fresh _ (rFR :: Ns):=N
     have K1:Kept (Ns) ((qX true rFR rxR rules) :: Γ):=K0.behind 1 rfl
     replace K1:=K1.cons (F:=rFR) 0 rfl rfl
     refine xR #[.pointer (some ⟨bs,0,none⟩),.int .i64 par.length] rfl rfl Tryz.call68 (jZ code ip sd bs ac cc Fc par.length H1 N1 K1 qg) ?_
     clear H H1 N1 K1
     rintro _ w905 ⟨zi909,zi910,zi911,hx907,hx908,rfl,N,H⟩
     refine ⟨H.pick [4,5,6,7] [0,1],(ro 8 rfl ?_)⟩
     have H1:St W0 w905 ((.box bs [Sv ac code.length cc,.int .i64 zi909,.int .u64 zi910] 127) :: (rr (some ⟨b903,0,none⟩) kk.toNat kk.toNat 2 1 ((List.replicate kk.toNat (0:Int)).map (Value.int .i64))) :: (rr (some ⟨b868,0,none⟩) kk.toNat kk.toNat 2 1 ((List.replicate kk.toNat (0:Int)).map (Value.int .i64))) :: (.box b728 [.int .i64 0,.int .i64 0,Sv none 0 0,Sv none 0 0,Sv none 0 0,Sv none 0 0,Sv none 0 0,Sv none 0 0,Bv false] 56) :: (.box b1 [.int .i64 0,.int .i64 0,Sv none 0 0,Sv none 0 0,Sv none 0 0,Sv none 0 0,Sv none 0 0,Sv none 0 0,Bv false] 56) :: (.box bY [.int .i64 kk,Sv rap par.length rcp,Sv raR rules.length rcR] 27) :: (rr rap par.length rcp 2 1 (par.map (Value.int .i64))) :: (rr raR rules.length rcR 56 9 rxR) :: ps) ((sF false Fc ac cc code) :: (qX true rFR rxR rules) :: Γ):=H.xH 8 2 [0,1,2,3,4,5,6,7] [0,1] qo qo
     have N1:Fresh _ (rFR :: Ns):=N
     have K1:Kept (Ns) ((qX true rFR rxR rules) :: Γ):=K0.behind 1 rfl
     replace K1:=K1.cons (F:=rFR) 0 rfl rfl
     refine xR #[.pointer (some ⟨bs,0,none⟩),.int .i64 kk,.int .i64 2] rfl rfl Tryz.call188 (zT code zi909 zi910 bs ac cc Fc kk (2:Int) H1 N1 K1 qg qg qg) ?_
     clear H H1 N1 K1
     rintro _ w912 ⟨zi916,zi917,zl918,ra919,rn920,rc921,hx914,hx915,rfl,N,H⟩
     obtain rfl:=H.vM 1 rfl
     refine ⟨H.pick [5,6,7,8] [0,1],(ro 19 rfl (xP [.int .i64 zi911,.int .i64 0,Sv ra919 zl918.length rc921,Sv (some ⟨b903,0,none⟩) kk.toNat kk.toNat,Sv (some ⟨b868,0,none⟩) kk.toNat kk.toNat,Sv none 0 0,Sv none 0 0,Sv none 0 0,Bv false] [(0,.int .i64 zi911),(2,Sv ra919 zl918.length rc921),(3,Sv (some ⟨b903,0,none⟩) kk.toNat kk.toNat),(4,Sv (some ⟨b868,0,none⟩) kk.toNat kk.toNat)] (⟨H.pick [5,6,7,8] [0,1],(ro 21 rfl ?_)⟩)))⟩
     refine xu H 4 [.int .i64 zi911,.int .i64 0,Sv ra919 zl918.length rc921,Sv (some ⟨b903,0,none⟩) kk.toNat kk.toNat,Sv (some ⟨b868,0,none⟩) kk.toNat kk.toNat,Sv none 0 0,Sv none 0 0,Sv none 0 0,Bv false] Tryz.sizeOf56 fun w922 H=>?_
     try dsimp only [List.set] at H
     refine ⟨H.pick [5,6,7,8] [0,1],(xg qh ((meet ⟨_,zi909,zi911,zi916,zl918,b728,ra919,rc921,b903,b868,zi917,uE5,hx907,hx908,hx914,hx915,N,H.xH 9 2 [4,3,2,0,1,5,6,7,8] [0,1] qo qo⟩)))⟩
 ·skip
  clear H N
  rintro ρ w923 ⟨zl,zi3,zi4,zi5,zl6,b7,ra8,rc9,b10,b11,zi12,rfl,hx924,hx925,hx926,hx927,N,H⟩
  refine t_n (zcr (sps [.pointer (some ⟨bs,0,none⟩),.pointer (some ⟨bY,0,none⟩),.pointer (some ⟨bY,0,none⟩)] (oF rfl (oL rfl (H.cell 6 rfl rfl) ?_))))
  have H1:St W0 w923 ((.box bs [Sv ac code.length cc,.int .i64 zi5,.int .u64 zi12] 127) :: (.box b7 [.int .i64 zi4,.int .i64 0,Sv ra8 zl6.length rc9,Sv (some ⟨b10,0,none⟩) kk.toNat kk.toNat,Sv (some ⟨b11,0,none⟩) kk.toNat kk.toNat,Sv none 0 0,Sv none 0 0,Sv none 0 0,Bv false] 56) :: (rr (some ⟨b11,0,none⟩) kk.toNat kk.toNat 2 1 ((List.replicate kk.toNat (0:Int)).map (Value.int .i64))) :: (rr (some ⟨b10,0,none⟩) kk.toNat kk.toNat 2 1 ((List.replicate kk.toNat (0:Int)).map (Value.int .i64))) :: (rr ra8 zl6.length rc9 2 1 (zl6.map (Value.int .i64))) :: (.box b1 [.int .i64 0,.int .i64 0,Sv none 0 0,Sv none 0 0,Sv none 0 0,Sv none 0 0,Sv none 0 0,Sv none 0 0,Bv false] 56) :: (.box bY [.int .i64 kk,Sv rap par.length rcp,Sv raR rules.length rcR] 27) :: (rr rap par.length rcp 2 1 (par.map (Value.int .i64))) :: (rr raR rules.length rcR 56 9 rxR) :: ps) ((sF false Fc ac cc code) :: (qX true rFR rxR rules) :: Γ):=H.xH 9 2 [3,0,1,2,4,5,6,7,8] [0,1] qo qo
  have N1:Fresh _ (rFR :: Ns):=N
  have K1:Kept (Ns) ((qX true rFR rxR rules) :: Γ):=K0.behind 1 rfl
  replace K1:=K1.cons (F:=rFR) 0 rfl rfl
  refine sw (xR #[.pointer (some ⟨bs,0,none⟩),.int .i64 kk,.int .i64 2] rfl rfl Tryz.call145 (dFew_ok code zi5 zi12 bs ac cc Fc kk (2:Int) H1 N1 K1 qg qg qg) ?_)
  clear H H1 N1 K1
  rintro _ w928 ⟨zi932,zi933,zl934,ra935,rn936,rc937,hx930,hx931,rfl,N,H⟩
  obtain rfl:=H.vM 1 rfl
  refine oF rfl (sw (xX H 2 [.int .i64 zi4,.int .i64 0,Sv ra8 zl6.length rc9,Sv (some ⟨b10,0,none⟩) kk.toNat kk.toNat,Sv (some ⟨b11,0,none⟩) kk.toNat kk.toNat,Sv ra935 zl934.length rc937,Sv none 0 0,Sv none 0 0,Bv false] Tryz.sizeOf24 fun w938 H=>?_))
  try dsimp only [List.set] at H
  refine zjc (sps [.pointer (some ⟨bs,0,none⟩),.pointer (some ⟨bY,0,none⟩),.pointer (some ⟨bY,0,none⟩)] (oF rfl (oL rfl (H.cell 7 rfl rfl) ?_)))
  have H1:St W0 w938 ((.box bs [Sv ac code.length cc,.int .i64 zi932,.int .u64 zi933] 127) :: (rr ra935 zl934.length rc937 2 1 (zl934.map (Value.int .i64))) :: (.box b7 [.int .i64 zi4,.int .i64 0,Sv ra8 zl6.length rc9,Sv (some ⟨b10,0,none⟩) kk.toNat kk.toNat,Sv (some ⟨b11,0,none⟩) kk.toNat kk.toNat,Sv ra935 zl934.length rc937,Sv none 0 0,Sv none 0 0,Bv false] 56) :: (rr (some ⟨b11,0,none⟩) kk.toNat kk.toNat 2 1 ((List.replicate kk.toNat (0:Int)).map (Value.int .i64))) :: (rr (some ⟨b10,0,none⟩) kk.toNat kk.toNat 2 1 ((List.replicate kk.toNat (0:Int)).map (Value.int .i64))) :: (rr ra8 zl6.length rc9 2 1 (zl6.map (Value.int .i64))) :: (.box b1 [.int .i64 0,.int .i64 0,Sv none 0 0,Sv none 0 0,Sv none 0 0,Sv none 0 0,Sv none 0 0,Sv none 0 0,Bv false] 56) :: (.box bY [.int .i64 kk,Sv rap par.length rcp,Sv raR rules.length rcR] 27) :: (rr rap par.length rcp 2 1 (par.map (Value.int .i64))) :: (rr raR rules.length rcR 56 9 rxR) :: ps) ((sF false Fc ac cc code) :: (qX true rFR rxR rules) :: Γ):=H.xH 10 2 [0,1,2,3,4,5,6,7,8,9] [0,1] qo qo
  have N1:Fresh _ (rFR :: Ns):=N
  have K1:Kept (Ns) ((qX true rFR rxR rules) :: Γ):=K0.behind 1 rfl
  replace K1:=K1.cons (F:=rFR) 0 rfl rfl
  refine sw (xR #[.pointer (some ⟨bs,0,none⟩),.int .i64 kk,.int .i64 1] rfl rfl Tryz.call145 (dFew_ok code zi932 zi933 bs ac cc Fc kk (1:Int) H1 N1 K1 qg qg qg) ?_)
  clear H H1 N1 K1
  rintro _ w939 ⟨zi943,zi944,zl945,ra946,rn947,rc948,hx941,hx942,rfl,N,H⟩
  obtain rfl:=H.vM 1 rfl
  refine oF rfl (sw (xX H 3 [.int .i64 zi4,.int .i64 0,Sv ra8 zl6.length rc9,Sv (some ⟨b10,0,none⟩) kk.toNat kk.toNat,Sv (some ⟨b11,0,none⟩) kk.toNat kk.toNat,Sv ra935 zl934.length rc937,Sv ra946 zl945.length rc948,Sv none 0 0,Bv false] Tryz.sizeOf24 fun w949 H=>?_))
  try dsimp only [List.set] at H
  refine zjcc (sp (.pointer (some ⟨bs,0,none⟩)) ?_)
  have H1:St W0 w949 ((.box bs [Sv ac code.length cc,.int .i64 zi943,.int .u64 zi944] 127) :: (rr ra946 zl945.length rc948 2 1 (zl945.map (Value.int .i64))) :: (rr ra935 zl934.length rc937 2 1 (zl934.map (Value.int .i64))) :: (.box b7 [.int .i64 zi4,.int .i64 0,Sv ra8 zl6.length rc9,Sv (some ⟨b10,0,none⟩) kk.toNat kk.toNat,Sv (some ⟨b11,0,none⟩) kk.toNat kk.toNat,Sv ra935 zl934.length rc937,Sv ra946 zl945.length rc948,Sv none 0 0,Bv false] 56) :: (rr (some ⟨b11,0,none⟩) kk.toNat kk.toNat 2 1 ((List.replicate kk.toNat (0:Int)).map (Value.int .i64))) :: (rr (some ⟨b10,0,none⟩) kk.toNat kk.toNat 2 1 ((List.replicate kk.toNat (0:Int)).map (Value.int .i64))) :: (rr ra8 zl6.length rc9 2 1 (zl6.map (Value.int .i64))) :: (.box b1 [.int .i64 0,.int .i64 0,Sv none 0 0,Sv none 0 0,Sv none 0 0,Sv none 0 0,Sv none 0 0,Sv none 0 0,Bv false] 56) :: (.box bY [.int .i64 kk,Sv rap par.length rcp,Sv raR rules.length rcR] 27) :: (rr rap par.length rcp 2 1 (par.map (Value.int .i64))) :: (rr raR rules.length rcR 56 9 rxR) :: ps) ((sF false Fc ac cc code) :: (qX true rFR rxR rules) :: Γ):=H.xH 11 2 [0,1,2,3,4,5,6,7,8,9,10] [0,1] qo qo
  have N1:Fresh _ (rFR :: Ns):=N
  have K1:Kept (Ns) ((qX true rFR rxR rules) :: Γ):=K0.behind 1 rfl
  replace K1:=K1.cons (F:=rFR) 0 rfl rfl
  refine sw (xR #[.pointer (some ⟨bs,0,none⟩),.int .i64 5] rfl rfl Tryz.call66 (dOne_ok code zi943 zi944 bs ac cc Fc (5:Int) H1 N1 K1 qg) ?_)
  clear H H1 N1 K1
  rintro _ w950 ⟨zi953,zi954,zb955,hx952,rfl,N,H⟩
  refine zjn ?_
  refine c_cut (fun ρ w956=>∃ (zl:Env) (s_at:Int) (s_seed:Int) (vP:yOA) (vN:Nat) (vO:Nat) (r_Have:yLI),ρ=upd (upd (upd (upd (upd zl 0 (.pointer (some ⟨bs,0,none⟩))) 1 (.pointer (some ⟨bY,0,none⟩))) 4 (.pointer (some ⟨b1,0,none⟩))) 5 (.int .i64 par.length)) 6 (.pointer (some ⟨b7,0,none⟩))∧(vJ kk 1 r_Have)∧(ip≤s_at∧s_at≤ip+92)∧Fresh W0.heap.size (rFR :: Ns)∧St W0 w956 ((.box bs [Sv ac code.length cc,.int .i64 s_at,.int .u64 s_seed] 127) :: (rr ra946 zl945.length rc948 2 1 (zl945.map (Value.int .i64))) :: (rr ra935 zl934.length rc937 2 1 (zl934.map (Value.int .i64))) :: (.box b7 [.int .i64 zi4,.int .i64 0,Sv ra8 zl6.length rc9,Sv vP vN vO,Sv (some ⟨b11,0,none⟩) kk.toNat kk.toNat,Sv ra935 zl934.length rc937,Sv ra946 zl945.length rc948,Sv none 0 0,Bv false] 56) :: (rr (some ⟨b11,0,none⟩) kk.toNat kk.toNat 2 1 ((List.replicate kk.toNat (0:Int)).map (Value.int .i64))) :: (rr vP vN vO 2 1 (r_Have.map (Value.int .i64))) :: (rr ra8 zl6.length rc9 2 1 (zl6.map (Value.int .i64))) :: (.box b1 [.int .i64 0,.int .i64 0,Sv none 0 0,Sv none 0 0,Sv none 0 0,Sv none 0 0,Sv none 0 0,Sv none 0 0,Bv false] 56) :: (.box bY [.int .i64 kk,Sv rap par.length rcp,Sv raR rules.length rcR] 27) :: (rr rap par.length rcp 2 1 (par.map (Value.int .i64))) :: (rr raR rules.length rcR 56 9 rxR) :: ps) ((sF false Fc ac cc code) :: (qX true rFR rxR rules) :: Γ)) ?_ ?_
  ·skip
   refine xI (zb955) rfl (fun h957=>?_) (fun h957=>?_)
   ·skip
    refine zn (sps [.pointer (some ⟨bs,0,none⟩),.pointer (some ⟨bY,0,none⟩),.pointer (some ⟨bY,0,none⟩)] (oF rfl (oL rfl (H.cell 8 rfl rfl) ?_)))
    have H1:St W0 w950 ((.box bs [Sv ac code.length cc,.int .i64 zi953,.int .u64 zi954] 127) :: (rr ra946 zl945.length rc948 2 1 (zl945.map (Value.int .i64))) :: (rr ra935 zl934.length rc937 2 1 (zl934.map (Value.int .i64))) :: (.box b7 [.int .i64 zi4,.int .i64 0,Sv ra8 zl6.length rc9,Sv (some ⟨b10,0,none⟩) kk.toNat kk.toNat,Sv (some ⟨b11,0,none⟩) kk.toNat kk.toNat,Sv ra935 zl934.length rc937,Sv ra946 zl945.length rc948,Sv none 0 0,Bv false] 56) :: (rr (some ⟨b11,0,none⟩) kk.toNat kk.toNat 2 1 ((List.replicate kk.toNat (0:Int)).map (Value.int .i64))) :: (rr (some ⟨b10,0,none⟩) kk.toNat kk.toNat 2 1 ((List.replicate kk.toNat (0:Int)).map (Value.int .i64))) :: (rr ra8 zl6.length rc9 2 1 (zl6.map (Value.int .i64))) :: (.box b1 [.int .i64 0,.int .i64 0,Sv none 0 0,Sv none 0 0,Sv none 0 0,Sv none 0 0,Sv none 0 0,Sv none 0 0,Bv false] 56) :: (.box bY [.int .i64 kk,Sv rap par.length rcp,Sv raR rules.length rcR] 27) :: (rr rap par.length rcp 2 1 (par.map (Value.int .i64))) :: (rr raR rules.length rcR 56 9 rxR) :: ps) ((sF false Fc ac cc code) :: (qX true rFR rxR rules) :: Γ):=H.xH 11 2 [0,1,2,3,4,5,6,7,8,9,10] [0,1] qo qo
    have N1:Fresh _ (rFR :: Ns):=N
    have K1:Kept (Ns) ((qX true rFR rxR rules) :: Γ):=K0.behind 1 rfl
    replace K1:=K1.cons (F:=rFR) 0 rfl rfl
    refine sw (xR #[.pointer (some ⟨bs,0,none⟩),.int .i64 kk,.int .i64 1] rfl rfl Tryz.call188 (zT code zi953 zi954 bs ac cc Fc kk (1:Int) H1 N1 K1 qg qg qg) ?_)
    clear H H1 N1 K1
    rintro _ w958 ⟨zi962,zi963,zl964,ra965,rn966,rc967,hx960,hx961,rfl,N,H⟩
    obtain rfl:=H.vM 1 rfl
    refine oF rfl (sw (xX H 4 [.int .i64 zi4,.int .i64 0,Sv ra8 zl6.length rc9,Sv ra965 zl964.length rc967,Sv (some ⟨b11,0,none⟩) kk.toNat kk.toNat,Sv ra935 zl934.length rc937,Sv ra946 zl945.length rc948,Sv none 0 0,Bv false] Tryz.sizeOf24 fun w968 H=>?_))
    try dsimp only [List.set] at H
    refine zo (meet ⟨_,zi962,zi963,ra965,zl964.length,rc967,zl964,uE5,?_,?_,N,H.xH 12 2 [0,2,3,4,5,1,7,8,9,10,11] [0,1] qo qo⟩)
    · first | exact (‹vJ kk 1 _∧_›).1 | exact vJ.zero qf qf
    · first | assumption | omega
   ·skip
    refine xe (meet ⟨_,zi953,zi954,(some ⟨b10,0,none⟩),kk.toNat,kk.toNat,(List.replicate kk.toNat (0:Int)),uE5,?_,?_,N,H⟩)
    · first | exact (‹vJ kk 1 _∧_›).1 | exact vJ.zero qf qf
    · first | assumption | omega
  ·skip
   clear H N
   rintro ρ w969 ⟨zl,s_at,s_seed,vP,vN,vO,r_Have,rfl,jh,jhp,N,H⟩
   have hn_r_Have:=H.vM 5 rfl
   refine t_n (zcc (sp (.pointer (some ⟨bs,0,none⟩)) ?_))
   have H1:St W0 w969 ((.box bs [Sv ac code.length cc,.int .i64 s_at,.int .u64 s_seed] 127) :: (rr ra946 zl945.length rc948 2 1 (zl945.map (Value.int .i64))) :: (rr ra935 zl934.length rc937 2 1 (zl934.map (Value.int .i64))) :: (.box b7 [.int .i64 zi4,.int .i64 0,Sv ra8 zl6.length rc9,Sv vP vN vO,Sv (some ⟨b11,0,none⟩) kk.toNat kk.toNat,Sv ra935 zl934.length rc937,Sv ra946 zl945.length rc948,Sv none 0 0,Bv false] 56) :: (rr (some ⟨b11,0,none⟩) kk.toNat kk.toNat 2 1 ((List.replicate kk.toNat (0:Int)).map (Value.int .i64))) :: (rr vP vN vO 2 1 (r_Have.map (Value.int .i64))) :: (rr ra8 zl6.length rc9 2 1 (zl6.map (Value.int .i64))) :: (.box b1 [.int .i64 0,.int .i64 0,Sv none 0 0,Sv none 0 0,Sv none 0 0,Sv none 0 0,Sv none 0 0,Sv none 0 0,Bv false] 56) :: (.box bY [.int .i64 kk,Sv rap par.length rcp,Sv raR rules.length rcR] 27) :: (rr rap par.length rcp 2 1 (par.map (Value.int .i64))) :: (rr raR rules.length rcR 56 9 rxR) :: ps) ((sF false Fc ac cc code) :: (qX true rFR rxR rules) :: Γ):=H.xH 11 2 [0,1,2,3,4,5,6,7,8,9,10] [0,1] qo qo
   have N1:Fresh _ (rFR :: Ns):=N
   have K1:Kept (Ns) ((qX true rFR rxR rules) :: Γ):=K0.behind 1 rfl
   replace K1:=K1.cons (F:=rFR) 0 rfl rfl
   refine sw (xR #[.pointer (some ⟨bs,0,none⟩),.int .i64 5] rfl rfl Tryz.call66 (dOne_ok code s_at s_seed bs ac cc Fc (5:Int) H1 N1 K1 qg) ?_)
   clear H H1 N1 K1
   rintro _ w970 ⟨zi973,zi974,zb975,hx972,rfl,N,H⟩
   refine zjn ?_
   refine c_cut (fun ρ w976=>∃ (zl:Env) (s_at_1:Int) (s_seed_1:Int) (jC:yOA) (jA:Nat) (jB:Nat) (r_Lack:yLI),ρ=upd (upd (upd (upd (upd zl 0 (.pointer (some ⟨bs,0,none⟩))) 1 (.pointer (some ⟨bY,0,none⟩))) 4 (.pointer (some ⟨b1,0,none⟩))) 5 (.int .i64 par.length)) 6 (.pointer (some ⟨b7,0,none⟩))∧(vJ kk 1 r_Lack)∧(ip≤s_at_1∧s_at_1≤ip+118)∧Fresh W0.heap.size (rFR :: Ns)∧St W0 w976 ((.box bs [Sv ac code.length cc,.int .i64 s_at_1,.int .u64 s_seed_1] 127) :: (rr ra946 zl945.length rc948 2 1 (zl945.map (Value.int .i64))) :: (rr ra935 zl934.length rc937 2 1 (zl934.map (Value.int .i64))) :: (.box b7 [.int .i64 zi4,.int .i64 0,Sv ra8 zl6.length rc9,Sv vP vN vO,Sv jC jA jB,Sv ra935 zl934.length rc937,Sv ra946 zl945.length rc948,Sv none 0 0,Bv false] 56) :: (rr jC jA jB 2 1 (r_Lack.map (Value.int .i64))) :: (rr vP vN vO 2 1 (r_Have.map (Value.int .i64))) :: (rr ra8 zl6.length rc9 2 1 (zl6.map (Value.int .i64))) :: (.box b1 [.int .i64 0,.int .i64 0,Sv none 0 0,Sv none 0 0,Sv none 0 0,Sv none 0 0,Sv none 0 0,Sv none 0 0,Bv false] 56) :: (.box bY [.int .i64 kk,Sv rap par.length rcp,Sv raR rules.length rcR] 27) :: (rr rap par.length rcp 2 1 (par.map (Value.int .i64))) :: (rr raR rules.length rcR 56 9 rxR) :: ps) ((sF false Fc ac cc code) :: (qX true rFR rxR rules) :: Γ)) ?_ ?_
   ·skip
    refine xI (zb975) rfl (fun h977=>?_) (fun h977=>?_)
    ·skip
     refine zn (sps [.pointer (some ⟨bs,0,none⟩),.pointer (some ⟨bY,0,none⟩),.pointer (some ⟨bY,0,none⟩)] (oF rfl (oL rfl (H.cell 8 rfl rfl) ?_)))
     have H1:St W0 w970 ((.box bs [Sv ac code.length cc,.int .i64 zi973,.int .u64 zi974] 127) :: (rr ra946 zl945.length rc948 2 1 (zl945.map (Value.int .i64))) :: (rr ra935 zl934.length rc937 2 1 (zl934.map (Value.int .i64))) :: (.box b7 [.int .i64 zi4,.int .i64 0,Sv ra8 zl6.length rc9,Sv vP vN vO,Sv (some ⟨b11,0,none⟩) kk.toNat kk.toNat,Sv ra935 zl934.length rc937,Sv ra946 zl945.length rc948,Sv none 0 0,Bv false] 56) :: (rr (some ⟨b11,0,none⟩) kk.toNat kk.toNat 2 1 ((List.replicate kk.toNat (0:Int)).map (Value.int .i64))) :: (rr vP vN vO 2 1 (r_Have.map (Value.int .i64))) :: (rr ra8 zl6.length rc9 2 1 (zl6.map (Value.int .i64))) :: (.box b1 [.int .i64 0,.int .i64 0,Sv none 0 0,Sv none 0 0,Sv none 0 0,Sv none 0 0,Sv none 0 0,Sv none 0 0,Bv false] 56) :: (.box bY [.int .i64 kk,Sv rap par.length rcp,Sv raR rules.length rcR] 27) :: (rr rap par.length rcp 2 1 (par.map (Value.int .i64))) :: (rr raR rules.length rcR 56 9 rxR) :: ps) ((sF false Fc ac cc code) :: (qX true rFR rxR rules) :: Γ):=H.xH 11 2 [0,1,2,3,4,5,6,7,8,9,10] [0,1] qo qo
     have N1:Fresh _ (rFR :: Ns):=N
     have K1:Kept (Ns) ((qX true rFR rxR rules) :: Γ):=K0.behind 1 rfl
     replace K1:=K1.cons (F:=rFR) 0 rfl rfl
     refine sw (xR #[.pointer (some ⟨bs,0,none⟩),.int .i64 kk,.int .i64 1] rfl rfl Tryz.call188 (zT code zi973 zi974 bs ac cc Fc kk (1:Int) H1 N1 K1 qg qg qg) ?_)
     clear H H1 N1 K1
     rintro _ w978 ⟨zi982,zi983,zl984,ra985,rn986,rc987,hx980,hx981,rfl,N,H⟩
     obtain rfl:=H.vM 1 rfl
     refine oF rfl (sw (xX H 4 [.int .i64 zi4,.int .i64 0,Sv ra8 zl6.length rc9,Sv vP vN vO,Sv ra985 zl984.length rc987,Sv ra935 zl934.length rc937,Sv ra946 zl945.length rc948,Sv none 0 0,Bv false] Tryz.sizeOf24 fun w988 H=>?_))
     try dsimp only [List.set] at H
     refine zo (meet ⟨_,zi982,zi983,ra985,zl984.length,rc987,zl984,uE5,?_,?_,N,H.xH 12 2 [0,2,3,4,1,6,7,8,9,10,11] [0,1] qo qo⟩)
     · first | exact (‹vJ kk 1 _∧_›).1 | exact vJ.zero qf qf
     · first | assumption | omega
    ·skip
     refine xe (meet ⟨_,zi973,zi974,(some ⟨b11,0,none⟩),kk.toNat,kk.toNat,(List.replicate kk.toNat (0:Int)),uE5,?_,?_,N,H⟩)
     · first | exact (‹vJ kk 1 _∧_›).1 | exact vJ.zero qf qf
     · first | assumption | omega
   ·skip
    clear H N
    rintro ρ w989 ⟨zl,s_at_1,s_seed_1,jC,jA,jB,r_Lack,rfl,jl,jlp,N,H⟩
    have hn_r_Lack:=H.vM 4 rfl
    refine t_n (zcc (sp (.pointer (some ⟨bs,0,none⟩)) ?_))
    have H1:St W0 w989 ((.box bs [Sv ac code.length cc,.int .i64 s_at_1,.int .u64 s_seed_1] 127) :: (rr ra946 zl945.length rc948 2 1 (zl945.map (Value.int .i64))) :: (rr ra935 zl934.length rc937 2 1 (zl934.map (Value.int .i64))) :: (.box b7 [.int .i64 zi4,.int .i64 0,Sv ra8 zl6.length rc9,Sv vP vN vO,Sv jC jA jB,Sv ra935 zl934.length rc937,Sv ra946 zl945.length rc948,Sv none 0 0,Bv false] 56) :: (rr jC jA jB 2 1 (r_Lack.map (Value.int .i64))) :: (rr vP vN vO 2 1 (r_Have.map (Value.int .i64))) :: (rr ra8 zl6.length rc9 2 1 (zl6.map (Value.int .i64))) :: (.box b1 [.int .i64 0,.int .i64 0,Sv none 0 0,Sv none 0 0,Sv none 0 0,Sv none 0 0,Sv none 0 0,Sv none 0 0,Bv false] 56) :: (.box bY [.int .i64 kk,Sv rap par.length rcp,Sv raR rules.length rcR] 27) :: (rr rap par.length rcp 2 1 (par.map (Value.int .i64))) :: (rr raR rules.length rcR 56 9 rxR) :: ps) ((sF false Fc ac cc code) :: (qX true rFR rxR rules) :: Γ):=H.xH 11 2 [0,1,2,3,4,5,6,7,8,9,10] [0,1] qo qo
    have N1:Fresh _ (rFR :: Ns):=N
    have K1:Kept (Ns) ((qX true rFR rxR rules) :: Γ):=K0.behind 1 rfl
    replace K1:=K1.cons (F:=rFR) 0 rfl rfl
    refine sw (xR #[.pointer (some ⟨bs,0,none⟩),.int .i64 4] rfl rfl Tryz.call66 (dOne_ok code s_at_1 s_seed_1 bs ac cc Fc (4:Int) H1 N1 K1 qg) ?_)
    clear H H1 N1 K1
    rintro _ w990 ⟨zi993,zi994,zb995,hx992,rfl,N,H⟩
    refine zjn ?_
    refine c_cut (fun ρ w996=>∃ (zl:Env) (s_at_51:Int) (s_seed_51:Int) (r_Rank:Int),ρ=upd (upd (upd (upd (upd zl 0 (.pointer (some ⟨bs,0,none⟩))) 1 (.pointer (some ⟨bY,0,none⟩))) 4 (.pointer (some ⟨b1,0,none⟩))) 5 (.int .i64 par.length)) 6 (.pointer (some ⟨b7,0,none⟩))∧(0≤r_Rank∧r_Rank≤2)∧(ip≤s_at_51∧s_at_51≤ip+122)∧Fresh W0.heap.size (rFR :: Ns)∧St W0 w996 ((.box bs [Sv ac code.length cc,.int .i64 s_at_51,.int .u64 s_seed_51] 127) :: (rr ra946 zl945.length rc948 2 1 (zl945.map (Value.int .i64))) :: (rr ra935 zl934.length rc937 2 1 (zl934.map (Value.int .i64))) :: (.box b7 [.int .i64 zi4,.int .i64 r_Rank,Sv ra8 zl6.length rc9,Sv vP vN vO,Sv jC jA jB,Sv ra935 zl934.length rc937,Sv ra946 zl945.length rc948,Sv none 0 0,Bv false] 56) :: (rr jC jA jB 2 1 (r_Lack.map (Value.int .i64))) :: (rr vP vN vO 2 1 (r_Have.map (Value.int .i64))) :: (rr ra8 zl6.length rc9 2 1 (zl6.map (Value.int .i64))) :: (.box b1 [.int .i64 0,.int .i64 0,Sv none 0 0,Sv none 0 0,Sv none 0 0,Sv none 0 0,Sv none 0 0,Sv none 0 0,Bv false] 56) :: (.box bY [.int .i64 kk,Sv rap par.length rcp,Sv raR rules.length rcR] 27) :: (rr rap par.length rcp 2 1 (par.map (Value.int .i64))) :: (rr raR rules.length rcR 56 9 rxR) :: ps) ((sF false Fc ac cc code) :: (qX true rFR rxR rules) :: Γ)) ?_ ?_
    ·skip
     refine xI (zb995) rfl (fun h997=>?_) (fun h997=>?_)
     ·skip
      refine zn (sp (.pointer (some ⟨bs,0,none⟩)) ?_)
      have H1:St W0 w990 ((.box bs [Sv ac code.length cc,.int .i64 zi993,.int .u64 zi994] 127) :: (rr ra946 zl945.length rc948 2 1 (zl945.map (Value.int .i64))) :: (rr ra935 zl934.length rc937 2 1 (zl934.map (Value.int .i64))) :: (.box b7 [.int .i64 zi4,.int .i64 0,Sv ra8 zl6.length rc9,Sv vP vN vO,Sv jC jA jB,Sv ra935 zl934.length rc937,Sv ra946 zl945.length rc948,Sv none 0 0,Bv false] 56) :: (rr jC jA jB 2 1 (r_Lack.map (Value.int .i64))) :: (rr vP vN vO 2 1 (r_Have.map (Value.int .i64))) :: (rr ra8 zl6.length rc9 2 1 (zl6.map (Value.int .i64))) :: (.box b1 [.int .i64 0,.int .i64 0,Sv none 0 0,Sv none 0 0,Sv none 0 0,Sv none 0 0,Sv none 0 0,Sv none 0 0,Bv false] 56) :: (.box bY [.int .i64 kk,Sv rap par.length rcp,Sv raR rules.length rcR] 27) :: (rr rap par.length rcp 2 1 (par.map (Value.int .i64))) :: (rr raR rules.length rcR 56 9 rxR) :: ps) ((sF false Fc ac cc code) :: (qX true rFR rxR rules) :: Γ):=H.xH 11 2 [0,1,2,3,4,5,6,7,8,9,10] [0,1] qo qo
      have N1:Fresh _ (rFR :: Ns):=N
      have K1:Kept (Ns) ((qX true rFR rxR rules) :: Γ):=K0.behind 1 rfl
      replace K1:=K1.cons (F:=rFR) 0 rfl rfl
      refine sw (xR #[.pointer (some ⟨bs,0,none⟩),.int .i64 3] rfl rfl Tryz.call68 (jZ code zi993 zi994 bs ac cc Fc (3:Int) H1 N1 K1 qg) ?_)
      clear H H1 N1 K1
      rintro _ w998 ⟨zi1002,zi1003,zi1004,hx1000,hx1001,rfl,N,H⟩
      refine oF rfl (sw (xX H 3 [.int .i64 zi4,.int .i64 zi1004,Sv ra8 zl6.length rc9,Sv vP vN vO,Sv jC jA jB,Sv ra935 zl934.length rc937,Sv ra946 zl945.length rc948,Sv none 0 0,Bv false] Tryz.sizeOf2 fun w1005 H=>?_))
      try dsimp only [List.set] at H
      refine zo (meet ⟨_,zi1002,zi1003,zi1004,uE5,?_,?_,N,H⟩)
      · first | assumption | omega
      · first | assumption | omega
     ·skip
      refine xe (meet ⟨_,zi993,zi994,0,uE5,?_,?_,N,H⟩)
      · first | assumption | omega
      · first | assumption | omega
    ·skip
     clear H N
     rintro ρ w1006 ⟨zl,s_at_51,s_seed_51,r_Rank,rfl,jr,jrp,N,H⟩
     refine t_n (zcc (sp (.int .i64 1) (zjn (qZ ?_))))
     replace H:=H.nilRow 142 2
     replace H:=H.jD (α:=IntoD)
     refine zU (fun m' ρ w1007=>∃ (zl:Env) (c:Nat) (s_at_52:Int) (s_seed_52:Int) (yf:yOA) (vT:Nat) (yc:Nat) (r_Into:List IntoD) (yM:List Value) (vU:yLN),ρ=upd (upd (upd (upd (upd (upd zl 0 (.pointer (some ⟨bs,0,none⟩))) 1 (.pointer (some ⟨bY,0,none⟩))) 4 (.pointer (some ⟨b1,0,none⟩))) 5 (.int .i64 par.length)) 6 (.pointer (some ⟨b7,0,none⟩))) 7 (.int .i64 c)∧((c:Int)≤par.length)∧(ip≤s_at_52∧s_at_52≤ip+126+26 * c)∧(1≤(c:Int))∧(r_Into.length≤3∧IntoDr kk par zi4 r_Into c)∧m' =(par.length - (c:Int)).toNat∧Fresh W0.heap.size (rFR :: vU :: Ns)∧St W0 w1007 ((rr yf vT yc 142 2 yM) :: (.box bs [Sv ac code.length cc,.int .i64 s_at_52,.int .u64 s_seed_52] 127) :: (rr ra946 zl945.length rc948 2 1 (zl945.map (Value.int .i64))) :: (rr ra935 zl934.length rc937 2 1 (zl934.map (Value.int .i64))) :: (.box b7 [.int .i64 zi4,.int .i64 r_Rank,Sv ra8 zl6.length rc9,Sv vP vN vO,Sv jC jA jB,Sv ra935 zl934.length rc937,Sv ra946 zl945.length rc948,Sv yf vT yc,Bv false] 56) :: (rr jC jA jB 2 1 (r_Lack.map (Value.int .i64))) :: (rr vP vN vO 2 1 (r_Have.map (Value.int .i64))) :: (rr ra8 zl6.length rc9 2 1 (zl6.map (Value.int .i64))) :: (.box b1 [.int .i64 0,.int .i64 0,Sv none 0 0,Sv none 0 0,Sv none 0 0,Sv none 0 0,Sv none 0 0,Sv none 0 0,Bv false] 56) :: (.box bY [.int .i64 kk,Sv rap par.length rcp,Sv raR rules.length rcR] 27) :: (rr rap par.length rcp 2 1 (par.map (Value.int .i64))) :: (rr raR rules.length rcR 56 9 rxR) :: ps) ((qX true vU yM r_Into) :: (sF false Fc ac cc code) :: (qX true rFR rxR rules) :: Γ)) ((par.length - (1:Int)).toNat) ⟨_,1,s_at_51,s_seed_51,none,0,0,([]:List IntoD),[],[],uE6,qf,qf,qf,(by exact ⟨by simp,IntoDr.nil _ _ _ _⟩),rfl,(N.emp.xH 2 [1,0] qo),H⟩ ?_
     clear H N
     rintro m' ρ w1008 ⟨zl,c,s_at_52,s_seed_52,yf,vT,yc,r_Into,yM,vU,rfl,i0,i1,i2,i3,rfl,N,H⟩
     have hn_r_Into:=H.zi (α:=IntoD) 0 rfl 0 rfl qj
     refine zcc (sps [.int .i64 c,.int .i64 par.length,Bv (decide ((c:Int) < par.length))] (zjn (cD rfl (fun h1009=>?_) (fun h1009=>?_))))
     ·skip
      refine xe (t_n (zg (qZ (zcr (sps [.pointer (some ⟨bY,0,none⟩),.int .i64 c] (oF rfl (oL rfl (H.cell 4 rfl rfl) ?_)))))))
      obtain ⟨G1010,hn1011,h1012⟩:=H.rowIsI 10 rfl
      obtain ⟨G1013,hn1014,h1015⟩:=H.rowIsR (α:=jy) 11 rfl 2 rfl qj
      have c1:CellIn (⟨kk,par,rules⟩:qy) c:=⟨by show (0:Int)≤c;omega,by show (c:Int)≤(par.length:Int) - 1;omega⟩
      refine sw (oq (l02In_ok _ (⟨kk,par,rules⟩:qy) c zi4 (qJ (H.cells 9 rfl) 0 3) h1012 h1015 ql ql) H fun w1016 H=>sp (Bv (dec (Lies (⟨kk,par,rules⟩:qy).qw zi4 c))) ?_)
      cases h1018:(dec (Lies (⟨kk,par,rules⟩:qy).qw zi4 c))
      ·skip
       replace h1018:=zO h1018
       refine xU [81,82,83,84] (sps [Bv false,Bv false] (xU [87,88] (sp (Bv false) (zjn (xI false rfl (fun h=>absurd h qj) (fun _=>xe (b_n (t_n (zn (sp (.int .i64 c) (sw (zN c 1 rfl rfl qf (sp (.int .i64 (c+1)) (zo (xm (m' :=(par.length - ((c+1):Int)).toNat) qf ⟨_,c+1,s_at_52,s_seed_52,yf,vT,yc,r_Into,yM,vU,uE6,?_,?_,?_,?_,rfl,N,H⟩)))))))))))))))
       · omega
       · omega
       · omega
       · first | exact ⟨by omega,i3.2.mono qf⟩ | exact ⟨by simp;omega,i3.2.snoc qf ‹Lies par _ _› (‹vJ kk 1 _∧_›).1 (‹vJ kk 1 _∧_›).2⟩
      ·skip
       replace h1018:=yB h1018
       refine qL 80 rfl rfl (oF rfl (qL 80 rfl rfl (oL rfl (H.cell 4 rfl rfl) (qL 80 rfl rfl (oN rfl (qL 80 rfl rfl (sps [Bv (decide ((vT:Int) < 3)),Bv (decide ((vT:Int) < 3)),Bv (decide ((vT:Int) < 3))] ?_)))))))
       cases h1019:(decide ((vT:Int) < 3))
       ·skip
        replace h1019:=of_decide_eq_false h1019
        refine xU [87,88] (sp (Bv false) (zjn (xI false rfl (fun h=>absurd h qj) (fun _=>xe (b_n (t_n (zn (sp (.int .i64 c) (sw (zN c 1 rfl rfl qf (sp (.int .i64 (c+1)) (zo (xm (m' :=(par.length - ((c+1):Int)).toNat) qf ⟨_,c+1,s_at_52,s_seed_52,yf,vT,yc,r_Into,yM,vU,uE6,?_,?_,?_,?_,rfl,N,H⟩)))))))))))))
        · omega
        · omega
        · omega
        · first | exact ⟨by omega,i3.2.mono qf⟩ | exact ⟨by simp;omega,i3.2.snoc qf ‹Lies par _ _› (‹vJ kk 1 _∧_›).1 (‹vJ kk 1 _∧_›).2⟩
       ·skip
        replace h1019:=of_decide_eq_true h1019
        refine qL 86 rfl rfl (sp (.pointer (some ⟨bs,0,none⟩)) (qL 86 rfl rfl ?_))
        have H1:St W0 w1016 ((.box bs [Sv ac code.length cc,.int .i64 s_at_52,.int .u64 s_seed_52] 127) :: (rr yf vT yc 142 2 yM) :: (rr ra946 zl945.length rc948 2 1 (zl945.map (Value.int .i64))) :: (rr ra935 zl934.length rc937 2 1 (zl934.map (Value.int .i64))) :: (.box b7 [.int .i64 zi4,.int .i64 r_Rank,Sv ra8 zl6.length rc9,Sv vP vN vO,Sv jC jA jB,Sv ra935 zl934.length rc937,Sv ra946 zl945.length rc948,Sv yf vT yc,Bv false] 56) :: (rr jC jA jB 2 1 (r_Lack.map (Value.int .i64))) :: (rr vP vN vO 2 1 (r_Have.map (Value.int .i64))) :: (rr ra8 zl6.length rc9 2 1 (zl6.map (Value.int .i64))) :: (.box b1 [.int .i64 0,.int .i64 0,Sv none 0 0,Sv none 0 0,Sv none 0 0,Sv none 0 0,Sv none 0 0,Sv none 0 0,Bv false] 56) :: (.box bY [.int .i64 kk,Sv rap par.length rcp,Sv raR rules.length rcR] 27) :: (rr rap par.length rcp 2 1 (par.map (Value.int .i64))) :: (rr raR rules.length rcR 56 9 rxR) :: ps) ((sF false Fc ac cc code) :: (qX true vU yM r_Into) :: (qX true rFR rxR rules) :: Γ):=H.xH 12 3 [1,0,2,3,4,5,6,7,8,9,10,11] [1,0,2] qo qo
        have N1:Fresh _ (rFR :: vU :: Ns):=N
        have K1:Kept (Ns) ((qX true vU yM r_Into) :: (qX true rFR rxR rules) :: Γ):=K0.behind 2 rfl
        replace K1:=K1.cons (F:=vU) 0 rfl rfl
        replace K1:=K1.cons (F:=rFR) 1 rfl rfl
        refine sw (xR #[.pointer (some ⟨bs,0,none⟩),.int .i64 3] rfl rfl Tryz.call66 (dOne_ok code s_at_52 s_seed_52 bs ac cc Fc (3:Int) H1 N1 K1 qg) ?_)
        clear H H1 N1 K1
        rintro _ w1020 ⟨zi1023,zi1024,zb1025,hx1022,rfl,N,H⟩
        refine sp (Bv zb1025) (zjn (xI (zb1025) rfl (fun h1026=>?_) (fun h1026=>?_)))
        ·skip
         refine c_cut (fun ρ w1035=>∃ (zl:Env) (zi1027:Int) (zl1028:yLI) (zi1029:Int) (a1030:yOA) (c1031:Nat) (ra1032:yOA) (rc1033:Nat) (G1034:yLN),ρ=upd (upd (upd (upd (upd (upd (upd (upd (upd (upd (upd (upd zl 0 (.pointer (some ⟨bs,0,none⟩))) 1 (.pointer (some ⟨bY,0,none⟩))) 4 (.pointer (some ⟨b1,0,none⟩))) 5 (.int .i64 par.length)) 6 (.pointer (some ⟨b7,0,none⟩))) 7 (.int .i64 c)) 81 (.pointer (some ⟨b7,0+7,none⟩))) 82 (Sv yf vT yc)) 83 (.int .i64 vT)) 84 (Bv true)) 87 (.pointer (some ⟨bs,0,none⟩))) 88 (Bv zb1025)∧(zi1023≤zi1027∧zi1027≤zi1023+24)∧(vJ kk (1:Int) zl1028∧QJ zl1028≠0)∧Fresh W0.heap.size ((vU++G1034) :: rFR :: Ns)∧St W0 w1035 ((.box bs [Sv ac code.length cc,.int .i64 zi1027,.int .u64 zi1029] 127) :: (rr a1030 (vT+1) c1031 142 2 (yM++[.int .i64 c,Sv ra1032 zl1028.length rc1033])) :: (rr ra946 zl945.length rc948 2 1 (zl945.map (Value.int .i64))) :: (rr ra935 zl934.length rc937 2 1 (zl934.map (Value.int .i64))) :: (.box b7 [.int .i64 zi4,.int .i64 r_Rank,Sv ra8 zl6.length rc9,Sv vP vN vO,Sv jC jA jB,Sv ra935 zl934.length rc937,Sv ra946 zl945.length rc948,Sv a1030 (vT+1) c1031,Bv false] 56) :: (rr jC jA jB 2 1 (r_Lack.map (Value.int .i64))) :: (rr vP vN vO 2 1 (r_Have.map (Value.int .i64))) :: (rr ra8 zl6.length rc9 2 1 (zl6.map (Value.int .i64))) :: (.box b1 [.int .i64 0,.int .i64 0,Sv none 0 0,Sv none 0 0,Sv none 0 0,Sv none 0 0,Sv none 0 0,Sv none 0 0,Bv false] 56) :: (.box bY [.int .i64 kk,Sv rap par.length rcp,Sv raR rules.length rcR] 27) :: (rr rap par.length rcp 2 1 (par.map (Value.int .i64))) :: (rr raR rules.length rcR 56 9 rxR) :: ps) ((qX true (vU++G1034) (yM++[.int .i64 c,Sv ra1032 zl1028.length rc1033]) (r_Into++[(⟨c,zl1028⟩:IntoD)])) :: (sF true G1034 ra1032 rc1033 zl1028) :: (sF false Fc ac cc code) :: (qX true rFR rxR rules) :: Γ)) ?_ ?_
         ·skip
          refine XG rfl H [2,3,5,6,7,8,9,10,11] [0,1,2] fun H=>?_
          have S:=H.jG [2,3,5,6,7,8,9,10,11] [0,1,2]
          refine tF 0 rfl rfl S ?_
          refine rtp 2 (.int .i64 c) S ?_
          refine rtp 3 (.pointer (some ⟨bs,0,none⟩)) S ?_
          refine rtp 4 (.pointer (some ⟨bY,0,none⟩)) S ?_
          refine rtp 5 (.pointer (some ⟨bY,0,none⟩)) S ?_
          refine tF 6 rfl rfl S ?_
          refine tL 7 rfl rfl (fun _ h=>h.cell 6 rfl rfl) S ?_
          refine zH [1,8] qh qm (vg rfl ?_ (vg rfl ?_ zI))
          ·skip
           refine zt (Sv yf vT yc) Tryz.isAgg54 rfl (H.cell 4 rfl rfl) (⟨H.pick [2,3,5,6,7,8,9,10,11] [0,1,2],(ro 8 rfl ?_)⟩)
           have H1:St W0 w1020.drew ((.box bs [Sv ac code.length cc,.int .i64 zi1023,.int .u64 zi1024] 127) :: (rr yf vT yc 142 2 yM) :: (rr ra946 zl945.length rc948 2 1 (zl945.map (Value.int .i64))) :: (rr ra935 zl934.length rc937 2 1 (zl934.map (Value.int .i64))) :: (.box b7 [.int .i64 zi4,.int .i64 r_Rank,Sv ra8 zl6.length rc9,Sv vP vN vO,Sv jC jA jB,Sv ra935 zl934.length rc937,Sv ra946 zl945.length rc948,Sv yf vT yc,Bv false] 56) :: (rr jC jA jB 2 1 (r_Lack.map (Value.int .i64))) :: (rr vP vN vO 2 1 (r_Have.map (Value.int .i64))) :: (rr ra8 zl6.length rc9 2 1 (zl6.map (Value.int .i64))) :: (.box b1 [.int .i64 0,.int .i64 0,Sv none 0 0,Sv none 0 0,Sv none 0 0,Sv none 0 0,Sv none 0 0,Sv none 0 0,Bv false] 56) :: (.box bY [.int .i64 kk,Sv rap par.length rcp,Sv raR rules.length rcR] 27) :: (rr rap par.length rcp 2 1 (par.map (Value.int .i64))) :: (rr raR rules.length rcR 56 9 rxR) :: ps) ((sF false Fc ac cc code) :: (qX true vU yM r_Into) :: (qX true rFR rxR rules) :: Γ):=H.xH 12 3 [0,1,2,3,4,5,6,7,8,9,10,11] [0,1,2] qo qo
           have N1:Fresh _ (rFR :: vU :: Ns):=N
           have K1:Kept (Ns) ((qX true vU yM r_Into) :: (qX true rFR rxR rules) :: Γ):=K0.behind 2 rfl
           replace K1:=K1.cons (F:=vU) 0 rfl rfl
           replace K1:=K1.cons (F:=rFR) 1 rfl rfl
           refine xR #[.pointer (some ⟨bs,0,none⟩),.int .i64 kk,.int .i64 1] rfl rfl Tryz.call188 (zT code zi1023 zi1024 bs ac cc Fc kk (1:Int) H1 N1 K1 qg qg qg) ?_
           clear H H1 N1 K1
           rintro _ w1037 ⟨zi1041,zi1042,zl1043,ra1044,rn1045,rc1046,hx1039,hx1040,rfl,N,H⟩
           obtain rfl:=H.vM 1 rfl
           refine ⟨H.pick [3,4,6,7,8,9,10,11,12] [0,1,2],(ro 9 rfl (xP [.int .i64 c,Sv ra1044 zl1043.length rc1046] [(0,.int .i64 c),(1,Sv ra1044 zl1043.length rc1046)] (⟨H.pick [3,4,6,7,8,9,10,11,12] [0,1,2],(ro 10 rfl (zJ H Tryz.underlying54 ti142 [.int .i64 c,Sv ra1044 zl1043.length rc1046] fun b1047 w1048 H=>⟨H.pick [4,5,7,8,9,10,11,12,13] [0,1,2],(ro 11 rfl ?_)⟩))⟩)))⟩
           obtain ⟨G1052,N,hn1053,H⟩:=H.vz 2 rfl N (fun F hF b hb=>(List.mem_append.1 (show F∈[rFR,vU]++Ns from hF)).elim (fun h=>(H.jJ (L:=[rFR,vU]) [2,1]) F h b hb) fun h=>H.XI (K0.behind 3 rfl) F h b hb)
           try dsimp only [List.set] at H
           refine zM H 3 rfl 0 rfl Tryz.underlying54 ti142 rfl qj rfl rfl rfl (by simp [Value.oneCell',Value.cells]) qp qf fun a1049 c1050 w1051 H=>?_
           try dsimp only [List.set] at H
           replace H:=H.snoc_IntoD 2 rfl c 0 rfl
           replace N:Fresh W0.heap.size ((vU++G1052) :: rFR :: Ns):=(N.xH 3 [2,0,1] qo).join
           refine ⟨H.pick [4,5,7,8,9,10,11,12,13] [2,3,4],(tF 12 rfl rfl (H.pick [4,5,7,8,9,10,11,12,13] [2,3,4]) ?_)⟩
           refine ro 13 rfl (xX H 6 [.int .i64 zi4,.int .i64 r_Rank,Sv ra8 zl6.length rc9,Sv vP vN vO,Sv jC jA jB,Sv ra935 zl934.length rc937,Sv ra946 zl945.length rc948,Sv a1049 (vT+1) c1050,Bv false] Tryz.sizeOf54 fun w1054 H=>?_)
           try dsimp only [List.set] at H
           refine ⟨H.pick [4,5,7,8,9,10,11,12,13] [2,3,4],(xg qh ((meet ⟨_,zi1041,zl1043,zi1042,a1049,c1050,ra1044,rc1046,G1052,uE12,hx1039,hx1040,N,H.xH 14 5 [1,3,4,5,6,7,8,9,10,11,12,13] [0,1,2,4] qo qo⟩)))⟩
          ·skip
           have H1:St W0 w1020.drew ((.box bs [Sv ac code.length cc,.int .i64 zi1023,.int .u64 zi1024] 127) :: (rr yf vT yc 142 2 yM) :: (rr ra946 zl945.length rc948 2 1 (zl945.map (Value.int .i64))) :: (rr ra935 zl934.length rc937 2 1 (zl934.map (Value.int .i64))) :: (.box b7 [.int .i64 zi4,.int .i64 r_Rank,Sv ra8 zl6.length rc9,Sv vP vN vO,Sv jC jA jB,Sv ra935 zl934.length rc937,Sv ra946 zl945.length rc948,Sv yf vT yc,Bv false] 56) :: (rr jC jA jB 2 1 (r_Lack.map (Value.int .i64))) :: (rr vP vN vO 2 1 (r_Have.map (Value.int .i64))) :: (rr ra8 zl6.length rc9 2 1 (zl6.map (Value.int .i64))) :: (.box b1 [.int .i64 0,.int .i64 0,Sv none 0 0,Sv none 0 0,Sv none 0 0,Sv none 0 0,Sv none 0 0,Sv none 0 0,Bv false] 56) :: (.box bY [.int .i64 kk,Sv rap par.length rcp,Sv raR rules.length rcR] 27) :: (rr rap par.length rcp 2 1 (par.map (Value.int .i64))) :: (rr raR rules.length rcR 56 9 rxR) :: ps) ((sF false Fc ac cc code) :: (qX true vU yM r_Into) :: (qX true rFR rxR rules) :: Γ):=H.xH 12 3 [0,1,2,3,4,5,6,7,8,9,10,11] [0,1,2] qo qo
           have N1:Fresh _ (rFR :: vU :: Ns):=N
           have K1:Kept (Ns) ((qX true vU yM r_Into) :: (qX true rFR rxR rules) :: Γ):=K0.behind 2 rfl
           replace K1:=K1.cons (F:=vU) 0 rfl rfl
           replace K1:=K1.cons (F:=rFR) 1 rfl rfl
           refine xR #[.pointer (some ⟨bs,0,none⟩),.int .i64 kk,.int .i64 1] rfl rfl Tryz.call188 (zT code zi1023 zi1024 bs ac cc Fc kk (1:Int) H1 N1 K1 qg qg qg) ?_
           clear H H1 N1 K1
           rintro _ w1055 ⟨zi1059,zi1060,zl1061,ra1062,rn1063,rc1064,hx1057,hx1058,rfl,N,H⟩
           obtain rfl:=H.vM 1 rfl
           refine ⟨H.pick [3,4,6,7,8,9,10,11,12] [0,1,2],(zH [1,9] qh qm (vg rfl ?_ (vg rfl ?_ zI)))⟩
           ·skip
            refine zt (Sv yf vT yc) Tryz.isAgg54 rfl (H.cell 5 rfl rfl) (⟨H.pick [3,4,6,7,8,9,10,11,12] [0,1,2],(ro 9 rfl (xP [.int .i64 c,Sv ra1062 zl1061.length rc1064] [(0,.int .i64 c),(1,Sv ra1062 zl1061.length rc1064)] (⟨H.pick [3,4,6,7,8,9,10,11,12] [0,1,2],(ro 10 rfl (zJ H Tryz.underlying54 ti142 [.int .i64 c,Sv ra1062 zl1061.length rc1064] fun b1065 w1066 H=>⟨H.pick [4,5,7,8,9,10,11,12,13] [0,1,2],(ro 11 rfl ?_)⟩))⟩)))⟩)
            obtain ⟨G1070,N,hn1071,H⟩:=H.vz 2 rfl N (fun F hF b hb=>(List.mem_append.1 (show F∈[rFR,vU]++Ns from hF)).elim (fun h=>(H.jJ (L:=[rFR,vU]) [2,1]) F h b hb) fun h=>H.XI (K0.behind 3 rfl) F h b hb)
            try dsimp only [List.set] at H
            refine zM H 3 rfl 0 rfl Tryz.underlying54 ti142 rfl qj rfl rfl rfl (by simp [Value.oneCell',Value.cells]) qp qf fun a1067 c1068 w1069 H=>?_
            try dsimp only [List.set] at H
            replace H:=H.snoc_IntoD 2 rfl c 0 rfl
            replace N:Fresh W0.heap.size ((vU++G1070) :: rFR :: Ns):=(N.xH 3 [2,0,1] qo).join
            refine ⟨H.pick [4,5,7,8,9,10,11,12,13] [2,3,4],(tF 12 rfl rfl (H.pick [4,5,7,8,9,10,11,12,13] [2,3,4]) ?_)⟩
            refine ro 13 rfl (xX H 6 [.int .i64 zi4,.int .i64 r_Rank,Sv ra8 zl6.length rc9,Sv vP vN vO,Sv jC jA jB,Sv ra935 zl934.length rc937,Sv ra946 zl945.length rc948,Sv a1067 (vT+1) c1068,Bv false] Tryz.sizeOf54 fun w1072 H=>?_)
            try dsimp only [List.set] at H
            refine ⟨H.pick [4,5,7,8,9,10,11,12,13] [2,3,4],(xg qh ((meet ⟨_,zi1059,zl1061,zi1060,a1067,c1068,ra1062,rc1064,G1070,uE12,hx1057,hx1058,N,H.xH 14 5 [1,3,4,5,6,7,8,9,10,11,12,13] [0,1,2,4] qo qo⟩)))⟩
           ·skip
            refine xP [.int .i64 c,Sv ra1062 zl1061.length rc1064] [(0,.int .i64 c),(1,Sv ra1062 zl1061.length rc1064)] (⟨H.pick [3,4,6,7,8,9,10,11,12] [0,1,2],(zH [1,10] qh qm (vg rfl ?_ (vg rfl ?_ zI)))⟩)
            ·skip
             refine zt (Sv yf vT yc) Tryz.isAgg54 rfl (H.cell 5 rfl rfl) (⟨H.pick [3,4,6,7,8,9,10,11,12] [0,1,2],(ro 10 rfl (zJ H Tryz.underlying54 ti142 [.int .i64 c,Sv ra1062 zl1061.length rc1064] fun b1073 w1074 H=>⟨H.pick [4,5,7,8,9,10,11,12,13] [0,1,2],(ro 11 rfl ?_)⟩))⟩)
             obtain ⟨G1078,N,hn1079,H⟩:=H.vz 2 rfl N (fun F hF b hb=>(List.mem_append.1 (show F∈[rFR,vU]++Ns from hF)).elim (fun h=>(H.jJ (L:=[rFR,vU]) [2,1]) F h b hb) fun h=>H.XI (K0.behind 3 rfl) F h b hb)
             try dsimp only [List.set] at H
             refine zM H 3 rfl 0 rfl Tryz.underlying54 ti142 rfl qj rfl rfl rfl (by simp [Value.oneCell',Value.cells]) qp qf fun a1075 c1076 w1077 H=>?_
             try dsimp only [List.set] at H
             replace H:=H.snoc_IntoD 2 rfl c 0 rfl
             replace N:Fresh W0.heap.size ((vU++G1078) :: rFR :: Ns):=(N.xH 3 [2,0,1] qo).join
             refine ⟨H.pick [4,5,7,8,9,10,11,12,13] [2,3,4],(tF 12 rfl rfl (H.pick [4,5,7,8,9,10,11,12,13] [2,3,4]) ?_)⟩
             refine ro 13 rfl (xX H 6 [.int .i64 zi4,.int .i64 r_Rank,Sv ra8 zl6.length rc9,Sv vP vN vO,Sv jC jA jB,Sv ra935 zl934.length rc937,Sv ra946 zl945.length rc948,Sv a1075 (vT+1) c1076,Bv false] Tryz.sizeOf54 fun w1080 H=>?_)
             try dsimp only [List.set] at H
             refine ⟨H.pick [4,5,7,8,9,10,11,12,13] [2,3,4],(xg qh ((meet ⟨_,zi1059,zl1061,zi1060,a1075,c1076,ra1062,rc1064,G1078,uE12,hx1057,hx1058,N,H.xH 14 5 [1,3,4,5,6,7,8,9,10,11,12,13] [0,1,2,4] qo qo⟩)))⟩
            ·skip
             refine zJ H Tryz.underlying54 ti142 [.int .i64 c,Sv ra1062 zl1061.length rc1064] fun b1081 w1082 H=>⟨H.pick [4,5,7,8,9,10,11,12,13] [0,1,2],(ro 1 rfl (zt (Sv yf vT yc) Tryz.isAgg54 rfl (H.cell 6 rfl rfl) (⟨H.pick [4,5,7,8,9,10,11,12,13] [0,1,2],(ro 11 rfl ?_)⟩)))⟩
             obtain ⟨G1086,N,hn1087,H⟩:=H.vz 2 rfl N (fun F hF b hb=>(List.mem_append.1 (show F∈[rFR,vU]++Ns from hF)).elim (fun h=>(H.jJ (L:=[rFR,vU]) [2,1]) F h b hb) fun h=>H.XI (K0.behind 3 rfl) F h b hb)
             try dsimp only [List.set] at H
             refine zM H 3 rfl 0 rfl Tryz.underlying54 ti142 rfl qj rfl rfl rfl (by simp [Value.oneCell',Value.cells]) qp qf fun a1083 c1084 w1085 H=>?_
             try dsimp only [List.set] at H
             replace H:=H.snoc_IntoD 2 rfl c 0 rfl
             replace N:Fresh W0.heap.size ((vU++G1086) :: rFR :: Ns):=(N.xH 3 [2,0,1] qo).join
             refine ⟨H.pick [4,5,7,8,9,10,11,12,13] [2,3,4],(tF 12 rfl rfl (H.pick [4,5,7,8,9,10,11,12,13] [2,3,4]) ?_)⟩
             refine ro 13 rfl (xX H 6 [.int .i64 zi4,.int .i64 r_Rank,Sv ra8 zl6.length rc9,Sv vP vN vO,Sv jC jA jB,Sv ra935 zl934.length rc937,Sv ra946 zl945.length rc948,Sv a1083 (vT+1) c1084,Bv false] Tryz.sizeOf54 fun w1088 H=>?_)
             try dsimp only [List.set] at H
             refine ⟨H.pick [4,5,7,8,9,10,11,12,13] [2,3,4],(xg qh ((meet ⟨_,zi1059,zl1061,zi1060,a1083,c1084,ra1062,rc1064,G1086,uE12,hx1057,hx1058,N,H.xH 14 5 [1,3,4,5,6,7,8,9,10,11,12,13] [0,1,2,4] qo qo⟩)))⟩
         ·skip
          clear H N
          rintro ρ w1089 ⟨zl,zi1027,zl1028,zi1029,a1030,c1031,ra1032,rc1033,G1034,rfl,hx1090,hx1091,N,H⟩
          refine b_n (t_n (zn (sp (.int .i64 c) (sw (zN c 1 rfl rfl qf (sp (.int .i64 (c+1)) (zo (xm (m' :=(par.length - ((c+1):Int)).toNat) qf ⟨_,c+1,zi1027,zi1029,a1030,vT+1,c1031,(r_Into++[(⟨c,zl1028⟩:IntoD)]),(yM++[Value.int .i64 c,Value.slice ra1032 zl1028.length rc1033]:List Value),(vU++G1034),uE6,?_,?_,?_,?_,rfl,(N.xH 2 [1,0] qo),H.xH 12 4 [1,0,2,3,4,5,6,7,8,9,10,11] [0,2,3] qo qo⟩))))))))
          · omega
          · omega
          · omega
          · first | exact ⟨by omega,i3.2.mono qf⟩ | exact ⟨by simp;omega,i3.2.snoc qf ‹Lies par _ _› (‹vJ kk 1 _∧_›).1 (‹vJ kk 1 _∧_›).2⟩
        ·skip
         refine xe (b_n (t_n (zn (sp (.int .i64 c) (sw (zN c 1 rfl rfl qf (sp (.int .i64 (c+1)) (zo (xm (m' :=(par.length - ((c+1):Int)).toNat) qf ⟨_,c+1,zi1023,zi1024,yf,vT,yc,r_Into,yM,vU,uE6,?_,?_,?_,?_,rfl,N,H.xH 12 3 [1,0,2,3,4,5,6,7,8,9,10,11] [1,0,2] qo qo⟩)))))))))
         · omega
         · omega
         · omega
         · first | exact ⟨by omega,i3.2.mono qf⟩ | exact ⟨by simp;omega,i3.2.snoc qf ‹Lies par _ _› (‹vJ kk 1 _∧_›).1 (‹vJ kk 1 _∧_›).2⟩
     ·skip
      refine zx4 (zcr (oF rfl (oL rfl (H.cell 4 rfl rfl) (sps [Bv (decide ((zi4:Int) > 0)),Bv (decide ((zi4:Int) > 0))] ?_))))
      cases h1092:(decide ((zi4:Int) > 0))
      ·skip
       replace h1092:=of_decide_eq_false h1092
       refine xU [107,108] (sp (Bv false) (oF rfl (sw (xX H 4 [.int .i64 zi4,.int .i64 r_Rank,Sv ra8 zl6.length rc9,Sv vP vN vO,Sv jC jA jB,Sv ra935 zl934.length rc937,Sv ra946 zl945.length rc948,Sv yf vT yc,Bv false] Tryz.sizeOf4 fun w1093 H=>?_))))
       try dsimp only [List.set] at H
       refine zjc (sw (zB [.int .i64 zi4,.int .i64 r_Rank,Sv ra8 zl6.length rc9,Sv vP vN vO,Sv jC jA jB,Sv ra935 zl934.length rc937,Sv ra946 zl945.length rc948,Sv yf vT yc,Bv false] Tryz.isAgg56 Tryz.sizeOf56 rfl (qJ (H.cells 4 rfl) 0 9) (sw (xu H 8 [.int .i64 zi4,.int .i64 r_Rank,Sv ra8 zl6.length rc9,Sv vP vN vO,Sv jC jA jB,Sv ra935 zl934.length rc937,Sv ra946 zl945.length rc948,Sv yf vT yc,Bv false] Tryz.sizeOf56 fun w1094 H=>?_))))
       try dsimp only [List.set] at H
       refine zjr (retC H 8 rfl rfl Tryz.isAgg56 Tryz.sizeOf56 rfl ⟨_,rfl,?_⟩)
       have he:(c:Int)=par.length:=by omega
       exact ⟨s_at_52,s_seed_52,zi4,r_Rank,zl6,r_Have,r_Lack,zl934,zl945,r_Into,false,ra8,zl6.length,rc9,vP,vN,vO,jC,jA,jB,ra935,zl934.length,rc937,ra946,zl945.length,rc948,yf,vT,yc,yM,vU,qf,(by exact ruleDr_of qf qg (by first | exact (fun _=>by omega) | exact (fun h=>by cases h)) ql jh jl ql ql ⟨i3.1,he▸i3.2⟩),rfl,N,H.xH 12 3 [1,9,10,11,7,6,5,3,2,0] [1,2,0] qo qo⟩
      ·skip
       replace h1092:=of_decide_eq_true h1092
       refine qL 106 rfl rfl (sp (.pointer (some ⟨bs,0,none⟩)) (qL 106 rfl rfl ?_))
       have H1:St W0 w1008 ((.box bs [Sv ac code.length cc,.int .i64 s_at_52,.int .u64 s_seed_52] 127) :: (rr yf vT yc 142 2 yM) :: (rr ra946 zl945.length rc948 2 1 (zl945.map (Value.int .i64))) :: (rr ra935 zl934.length rc937 2 1 (zl934.map (Value.int .i64))) :: (.box b7 [.int .i64 zi4,.int .i64 r_Rank,Sv ra8 zl6.length rc9,Sv vP vN vO,Sv jC jA jB,Sv ra935 zl934.length rc937,Sv ra946 zl945.length rc948,Sv yf vT yc,Bv false] 56) :: (rr jC jA jB 2 1 (r_Lack.map (Value.int .i64))) :: (rr vP vN vO 2 1 (r_Have.map (Value.int .i64))) :: (rr ra8 zl6.length rc9 2 1 (zl6.map (Value.int .i64))) :: (.box b1 [.int .i64 0,.int .i64 0,Sv none 0 0,Sv none 0 0,Sv none 0 0,Sv none 0 0,Sv none 0 0,Sv none 0 0,Bv false] 56) :: (.box bY [.int .i64 kk,Sv rap par.length rcp,Sv raR rules.length rcR] 27) :: (rr rap par.length rcp 2 1 (par.map (Value.int .i64))) :: (rr raR rules.length rcR 56 9 rxR) :: ps) ((sF false Fc ac cc code) :: (qX true vU yM r_Into) :: (qX true rFR rxR rules) :: Γ):=H.xH 12 3 [1,0,2,3,4,5,6,7,8,9,10,11] [1,0,2] qo qo
       have N1:Fresh _ (rFR :: vU :: Ns):=N
       have K1:Kept (Ns) ((qX true vU yM r_Into) :: (qX true rFR rxR rules) :: Γ):=K0.behind 2 rfl
       replace K1:=K1.cons (F:=vU) 0 rfl rfl
       replace K1:=K1.cons (F:=rFR) 1 rfl rfl
       refine sw (xR #[.pointer (some ⟨bs,0,none⟩),.int .i64 6] rfl rfl Tryz.call66 (dOne_ok code s_at_52 s_seed_52 bs ac cc Fc (6:Int) H1 N1 K1 qg) ?_)
       clear H H1 N1 K1
       rintro _ w1095 ⟨zi1098,zi1099,zb1100,hx1097,rfl,N,H⟩
       refine sp (Bv zb1100) (oF rfl (sw (xX H 4 [.int .i64 zi4,.int .i64 r_Rank,Sv ra8 zl6.length rc9,Sv vP vN vO,Sv jC jA jB,Sv ra935 zl934.length rc937,Sv ra946 zl945.length rc948,Sv yf vT yc,Bv zb1100] Tryz.sizeOf4 fun w1101 H=>?_)))
       try dsimp only [List.set] at H
       refine zjc (sw (zB [.int .i64 zi4,.int .i64 r_Rank,Sv ra8 zl6.length rc9,Sv vP vN vO,Sv jC jA jB,Sv ra935 zl934.length rc937,Sv ra946 zl945.length rc948,Sv yf vT yc,Bv zb1100] Tryz.isAgg56 Tryz.sizeOf56 rfl (qJ (H.cells 4 rfl) 0 9) (sw (xu H 8 [.int .i64 zi4,.int .i64 r_Rank,Sv ra8 zl6.length rc9,Sv vP vN vO,Sv jC jA jB,Sv ra935 zl934.length rc937,Sv ra946 zl945.length rc948,Sv yf vT yc,Bv zb1100] Tryz.sizeOf56 fun w1102 H=>?_))))
       try dsimp only [List.set] at H
       refine zjr (retC H 8 rfl rfl Tryz.isAgg56 Tryz.sizeOf56 rfl ⟨_,rfl,?_⟩)
       have he:(c:Int)=par.length:=by omega
       exact ⟨zi1098,zi1099,zi4,r_Rank,zl6,r_Have,r_Lack,zl934,zl945,r_Into,zb1100,ra8,zl6.length,rc9,vP,vN,vO,jC,jA,jB,ra935,zl934.length,rc937,ra946,zl945.length,rc948,yf,vT,yc,yM,vU,qf,(by exact ruleDr_of qf qg (by first | exact (fun _=>by omega) | exact (fun h=>by cases h)) ql jh jl ql ql ⟨i3.1,he▸i3.2⟩),rfl,N,H.xH 12 3 [0,9,10,11,7,6,5,3,2,1] [0,2,1] qo qo⟩
end
end Go.Proofs.YtcpnclokildllaaGreat
