/- Walks and laws, printed by program and by hand: what each function comes to, for all arguments, part 5. -/
import Derived.Test.YtdhklgjmiamiaaaGreatA4
import Derived.Shelf.SlSortCmp.Whole1
import Derived.Ground.SlsfProg
namespace Go.Proofs.YtdhklgjmiamiaaaGreat
set_option linter.unusedVariables false
set_option linter.unusedSimpArgs false
open Go.Proofs.YtdhklgjmiamiaaaGreat.Tot (tot)
open Go.Proofs.YtdhklgjmiamiaaaGreat.Mark (cnt mrk mkd mkd_mark cnt_mark)
section
open Go.RowKit
set_option linter.unusedVariables false
set_option linter.unusedSimpArgs false
set_option maxRecDepth 100000
set_option maxHeartbeats 4000000
theorem dShrink_ok {W0 w:World} {ps:List Prv} {Γ:List Fact} {Ns:List yLN} (code:List UInt8) (ip:Int) (sd:Int) (bs:Nat) (ac:yOA) (cc:Nat) (Fc:yLN) (H:St W0 w ((.box bs [.slice ac code.length cc,.int .i64 ip,.int .u64 sd] 115) :: ps) ((sF false Fc ac cc code) :: Γ)) (N:Fresh W0.heap.size (Ns)) (K0:Kept Ns Γ) (q0:0≤ip∧ip≤30000):Calls Tryz.prog 40 #[.pointer (some ⟨bs,0,none⟩)] w (fun e w' =>∃ v,e=.returned v∧∃ (ip_:Int) (sd_:Int) (kk_:Int) (par_:yLI) (rules_:List jw) (alive_:List Bool) (bags_:yLL) (around_:yLI) (raq:yOA) (rnq:Nat) (rcq:Nat) (raS:yOA) (rnS:Nat) (rcS:Nat) (rxS:List Value) (rFS:yLN) (raA:yOA) (rnA:Nat) (rcA:Nat) (raB:yOA) (rnB:Nat) (rcB:Nat) (rxB:List Value) (rFB:yLN) (raD:yOA) (rnD:Nat) (rcD:Nat),(ip≤ip_∧ip_≤ip+5000)∧(SysDr kk_ par_ rules_)∧(StDr kk_ par_.length 4 alive_ bags_ around_)∧v=.tuple #[.agg #[.int .i64 kk_,.slice raq rnq rcq,.slice raS rnS rcS],.agg #[.slice raA rnA rcA,.slice raB rnB rcB,.slice raD rnD rcD]]∧Fresh W0.heap.size (rFB :: Ns)∧St W0 w' ((.box bs [.slice ac code.length cc,.int .i64 ip_,.int .u64 sd_] 115) :: (rr raq rnq rcq 2 1 (par_.map (Value.int .i64))) :: (rr raS rnS rcS 70 9 rxS) :: (rr raA rnA rcA 4 1 (alive_.map (Value.bool))) :: (rr raB rnB rcB 24 1 rxB) :: (rr raD rnD rcD 2 1 (around_.map (Value.int .i64))) :: ps) ((sF false Fc ac cc code) :: (xB false rFS rxS rules_) :: (xB true rFB rxB bags_) :: Γ)):=by
 refine en Tryz.func40 Tryz.ntmps40 ?_
 have ncode:=qM (H.get 0 rfl).1
 refine zcr (sw (xx H ti27 [.int .i64 0,.slice none 0 0,.slice none 0 0] fun b1 w2 H=>sw (xx H ti31 [.slice none 0 0,.slice none 0 0,.slice none 0 0] fun b3 w4 H=>zjc (sq 1 ?_))))
 have H1:=H.yg 3 1 [2,0,1] [0] qo qo
 have N1:Fresh _ (Ns):=N
 have K1:Kept (Ns) (Γ):=K0.behind 0 rfl
 refine sw (zJ #[.pointer (some ⟨bs,0,none⟩)] rfl rfl Tryz.call87 (dSystem_ok code ip sd bs ac cc Fc H1 N1 K1 qg) ?_)
 clear H H1 N1 K1
 rintro _ w5 ⟨zi9,zi10,zi11,zl12,zR13,ra14,rn15,rc16,ra17,rn18,rc19,rx20,rF21,hx7,hx8,rfl,N,H⟩
 obtain rfl:=H.jm 1 rfl
 obtain rfl:=H.xK (α:=jw) 2 rfl 1 rfl qj
 have k1:=(‹SysDr _ _ _›).kinds
 have k3:=(‹SysDr _ _ _›).few
 have k4:=(‹SysDr _ _ _›).rules
 refine sw (xx H ti27 [.int .i64 0,.slice none 0 0,.slice none 0 0] fun b22 w23 H=>sw (xG H 0 [.int .i64 zi11,.slice ra14 zl12.length rc16,.slice ra17 zR13.length rc19] Tryz.sizeOf27 fun w24 H=>?_))
 try dsimp only [List.set] at H
 refine zjcc (sp (.int .i64 0) (zjn (qY ?_)))
 replace H:=H.unfree 1 rfl
 refine zq (fun m' ρ w25=>∃ (xM:Env) (i:Nat) (s_at:Int) (s_seed:Int) (y_Rules:List jw) (vz:List Value) (zg:yLN),ρ=upd (upd (upd (upd (upd xM 0 (.pointer (some ⟨bs,0,none⟩))) 2 (.pointer (some ⟨b1,0,none⟩))) 3 (.pointer (some ⟨b3,0,none⟩))) 4 (.pointer (some ⟨b22,0,none⟩))) 5 (.int .i64 i)∧((i:Int)≤zR13.length)∧(ip≤s_at∧s_at≤ip+2000+100 * i)∧(y_Rules.length≤5∧jC zi11 zl12 y_Rules)∧m' =(zR13.length - (i:Int)).toNat∧Fresh W0.heap.size (Ns)∧St W0 w25 ((.box b22 [.int .i64 zi11,.slice ra14 zl12.length rc16,.slice ra17 zR13.length rc19] 27) :: (.box bs [.slice ac code.length cc,.int .i64 s_at,.int .u64 s_seed] 115) :: (rr ra14 zl12.length rc16 2 1 (zl12.map (Value.int .i64))) :: (rr ra17 zR13.length rc19 70 9 vz) :: (.box b3 [.slice none 0 0,.slice none 0 0,.slice none 0 0] 31) :: (.box b1 [.int .i64 0,.slice none 0 0,.slice none 0 0] 27) :: ps) ((sF false Fc ac cc code) :: (xB false zg vz y_Rules) :: Γ)) ((zR13.length - (0:Int)).toNat) ⟨_,0,zi9,zi10,zR13,rx20,rF21,uE5,qf,qf,(by exact ⟨by omega,k4⟩),rfl,(N.zV 1 [] qo),H.zV 6 3 [0,1,2,3,4,5] [1,0] qo qo⟩ ?_
 clear H N
 rintro m' ρ w26 ⟨xM,i,s_at,s_seed,y_Rules,vz,zg,rfl,i0,j1,j2,rfl,N,H⟩
 have hn_y_Rules:=H.xK (α:=jw) 3 rfl 1 rfl qj
 refine zcc (sp (.int .i64 i) (oF rfl (oL rfl (H.cell 0 rfl rfl) (oN rfl (sq 1 (zjn (cD rfl (fun h27=>?_) (fun h27=>?_))))))))
 ·skip
  refine qW (t_n (xQ (qY (zcr (oF rfl (oL rfl (H.cell 0 rfl rfl) (sp (.int .i64 i) ?_)))))))
  obtain ⟨b28,rfl⟩:=H.jW 3 rfl qf
  obtain ⟨QQ,Qb,Ve,Qg,Qd,Vh,Qe,Qc,Vf,ae29Here,ce29Here,Fe29Here,Xw,Xu,Fe29Out,Qw,Qv,Vg,hx30,H⟩:=H.rowel_RuleD 3 rfl 1 rfl (iv:=i) i qf qf
  refine oI rfl rfl (sq 1 (zjcc (sq 1 ?_)))
  have H1:=H.yg 6 8 [1,0,2,3,4,5] [6,0,1,2,3,4,5,7] qo qo
  have N1:Fresh _ (Ns):=N
  have K1:Kept (Ns) ((sF false Ve QQ Qb ((y_Rules[i]!).zB)) :: (sF false Vh Qg Qd ((y_Rules[i]!).vJ)) :: (sF false Vf Qe Qc ((y_Rules[i]!).vP)) :: (sF false Fe29Here ae29Here ce29Here ((y_Rules[i]!).vT)) :: (sF false Fe29Out Xw Xu ((y_Rules[i]!).yP)) :: (sF false Vg Qw Qv ((y_Rules[i]!).xh)) :: (xB false zg vz y_Rules) :: Γ):=K0.behind 7 rfl
  refine sw (zJ #[.pointer (some ⟨bs,0,none⟩),.int .i64 8] rfl rfl Tryz.call41 (dOne_ok code s_at s_seed bs ac cc Fc (8:Int) H1 N1 K1 qg) ?_)
  clear H H1 N1 K1
  rintro _ w31 ⟨zi34,zi35,zb36,hx33,rfl,N,H⟩
  refine zjn (xE _ rfl (fun h37=>?_) (fun h37=>?_))
  ·skip
   refine c_exit (t_x (b_x (t_n (xU (sp (.int .i64 i) (sw (zA i 1 rfl rfl qf (sq 1 (xY (xe (m' :=(zR13.length - ((i+1):Int)).toNat) qf ⟨_,i+1,_,_,_,_,_,uE5,?_,?_,?_,rfl,N,H.zV 6 8 [1,0,2,3,4,5] [0,7] qo qo⟩))))))))))
   · omega
   · omega
   · exact ⟨by (try simp only [List.length_set]);omega,by have q2:=j2.2;(repeat' (first | assumption | exact k2.1 | exact zX.zero qf qf | (simp only [List.length_set];omega) | omega | apply jC.here | apply jC.out | apply jC.into))⟩
  ·skip
   refine qW (t_n (zcr (sq 1 (oF rfl (oL rfl (H.cell 1 rfl rfl) (sw (vM H Tryz.underlying24 ti2 zi11.toNat rfl rfl qf qf qf fun b38 w39 H=>sq 1 (oF rfl (sw (o_storePart H 4 rfl (.slice (some ⟨b38,0,none⟩) zi11.toNat zi11.toNat) Tryz.sizeOf24 rfl rfl rfl (part_lt (hx30 5 _ rfl)) fun w40 H=>?_))))))))))
   have hx41:=part_get (cells:=[.int .i64 ((y_Rules[i]!).qP),.int .i64 ((y_Rules[i]!).jI),.slice QQ (((y_Rules[i]!).zB).length) Qb,.slice Qg (((y_Rules[i]!).vJ).length) Qd,.slice Qe (((y_Rules[i]!).vP).length) Qc,.slice ae29Here (((y_Rules[i]!).vT).length) ce29Here,.slice Xw (((y_Rules[i]!).yP).length) Xu,.slice Qw (((y_Rules[i]!).xh).length) Qv,.bool ((y_Rules[i]!).jB)]) hx30 5 (.slice (some ⟨b38,0,none⟩) zi11.toNat zi11.toNat) (Nat.le_of_ble_eq_true rfl)
   replace hx41:∀ (q:Nat) (v:Value),([.int .i64 ((y_Rules[i]!).qP),.int .i64 ((y_Rules[i]!).jI),.slice QQ (((y_Rules[i]!).zB).length) Qb,.slice Qg (((y_Rules[i]!).vJ).length) Qd,.slice Qe (((y_Rules[i]!).vP).length) Qc,.slice (some ⟨b38,0,none⟩) zi11.toNat zi11.toNat,.slice Xw (((y_Rules[i]!).yP).length) Xu,.slice Qw (((y_Rules[i]!).xh).length) Qv,.bool ((y_Rules[i]!).jB)]:List Value)[q]? =some v→(vz.set (0+(i:Int).toNat * 9+5) (.slice (some ⟨b38,0,none⟩) zi11.toNat zi11.toNat))[0+(i:Int).toNat * 9+q]? =some v:=hx41
   try dsimp only [List.set] at H
   refine zjcc (sp (.int .i64 1) (zjn (qY ?_)))
   have k7:=(j2.2 i qf).need.1.len qf
   refine zq (fun m' ρ w42=>∃ (xM:Env) (k:Nat) (s_at_1:Int) (s_seed_1:Int) (r18:yLI),ρ=upd (upd (upd (upd (upd (upd (upd xM 0 (.pointer (some ⟨bs,0,none⟩))) 2 (.pointer (some ⟨b1,0,none⟩))) 3 (.pointer (some ⟨b3,0,none⟩))) 4 (.pointer (some ⟨b22,0,none⟩))) 5 (.int .i64 i)) 6 (.pointer (some ⟨b28,0+(i:Int).toNat * 9,none⟩))) 7 (.int .i64 k)∧((k:Int)≤zi11)∧(ip≤s_at_1∧s_at_1≤ip+2002+100 * i+4 * k)∧(HereTo zi11 k r18)∧(1≤(k:Int))∧m' =(zi11 - (k:Int)).toNat∧Fresh W0.heap.size (Ns)∧St W0 w42 ((rr (some ⟨b38,0,none⟩) zi11.toNat zi11.toNat 2 1 (r18.map (Value.int .i64))) :: (.box bs [.slice ac code.length cc,.int .i64 s_at_1,.int .u64 s_seed_1] 115) :: (.box b22 [.int .i64 zi11,.slice ra14 zl12.length rc16,.slice (some ⟨b28,0,none⟩) zR13.length rc19] 27) :: (rr ra14 zl12.length rc16 2 1 (zl12.map (Value.int .i64))) :: (rr (some ⟨b28,0,none⟩) zR13.length rc19 70 9 (vz.set (0+(i:Int).toNat * 9+5) (.slice (some ⟨b38,0,none⟩) zi11.toNat zi11.toNat))) :: (.box b3 [.slice none 0 0,.slice none 0 0,.slice none 0 0] 31) :: (.box b1 [.int .i64 0,.slice none 0 0,.slice none 0 0] 27) :: ps) ((sF false Fc ac cc code) :: (sF false Ve QQ Qb ((y_Rules[i]!).zB)) :: (sF false Vh Qg Qd ((y_Rules[i]!).vJ)) :: (sF false Vf Qe Qc ((y_Rules[i]!).vP)) :: (sF false Fe29Out Xw Xu ((y_Rules[i]!).yP)) :: (sF false Vg Qw Qv ((y_Rules[i]!).xh)) :: (xB false zg vz y_Rules) :: Γ)) ((zi11 - (1:Int)).toNat) ⟨_,1,zi34,zi35,(List.replicate zi11.toNat (0:Int)),uE7,qf,qf,(by exact HereTo.zero qf),qf,rfl,N,H.zV 7 8 [0,1,2,3,4,5,6] [0,1,2,3,5,6,7] qo qo⟩ ?_
   clear H N
   rintro m' ρ w43 ⟨xM,k,s_at_1,s_seed_1,r18,rfl,i0,k0,k2,k6,rfl,N,H⟩
   have hn_r18:=H.jm 0 rfl
   refine zcc (sp (.int .i64 k) (oF rfl (oL rfl (H.cell 2 rfl rfl) (sq 1 (zjn (cD rfl (fun h44=>?_) (fun h44=>?_)))))))
   ·skip
    refine qW (t_n (xQ (qY (zcr (sq 2 (oF rfl (oL rfl (H.rowGet 4 rfl (hx41 2 _ rfl)) (sp (.int .i64 k) ?_))))))))
    obtain ⟨b45,o46,rfl⟩:=H.addr 1 rfl qf
    refine oI rfl rfl (oL rfl (H.zH 1 rfl k qf) (sp (.bool (decide ((((y_Rules[i]!).zB)[k]! :Int) > 0))) (sp (.bool (decide ((((y_Rules[i]!).zB)[k]! :Int) > 0))) ?_)))
    cases h48:(decide ((((y_Rules[i]!).zB)[k]! :Int) > 0))
    ·skip
     replace h48:=of_decide_eq_false h48
     refine xZ [44,45] (sp (.bool false) (zjn (xE false rfl (fun h=>absurd h qj) (fun _=>qW (b_n (t_n (xU (sp (.int .i64 k) (sw (zA k 1 rfl rfl qf (sq 1 (xY (xe (m' :=(zi11 - ((k+1):Int)).toNat) qf ⟨_,k+1,_,_,_,uE7,?_,?_,?_,?_,rfl,N,H⟩)))))))))))))
     · omega
     · omega
     · first | exact k2.go | exact k2.put qf qf qf
     · omega
    ·skip
     replace h48:=of_decide_eq_true h48
     refine qL 43 rfl rfl (sq 1 (qL 43 rfl rfl ?_))
     have H1:=H.yg 7 7 [1,0,2,3,4,5,6] [0,1,2,3,4,5,6] qo qo
     have N1:Fresh _ (Ns):=N
     have K1:Kept (Ns) ((sF false Ve (some ⟨b45,o46,none⟩) Qb ((y_Rules[i]!).zB)) :: (sF false Vh Qg Qd ((y_Rules[i]!).vJ)) :: (sF false Vf Qe Qc ((y_Rules[i]!).vP)) :: (sF false Fe29Out Xw Xu ((y_Rules[i]!).yP)) :: (sF false Vg Qw Qv ((y_Rules[i]!).xh)) :: (xB false zg vz y_Rules) :: Γ):=K0.behind 6 rfl
     refine sw (zJ #[.pointer (some ⟨bs,0,none⟩),.int .i64 2] rfl rfl Tryz.call41 (dOne_ok code s_at_1 s_seed_1 bs ac cc Fc (2:Int) H1 N1 K1 qg) ?_)
     clear H H1 N1 K1
     rintro _ w49 ⟨zi52,zi53,zb54,hx51,rfl,N,H⟩
     refine sp (.bool zb54) (zjn (xE _ rfl (fun h55=>?_) (fun h55=>?_)))
     ·skip
      refine c_cut (fun ρ w59=>∃ (xM:Env) (zi56:Int) (zi57:Int) (zi58:Int),ρ=upd (upd (upd (upd (upd (upd (upd (upd (upd xM 0 (.pointer (some ⟨bs,0,none⟩))) 2 (.pointer (some ⟨b1,0,none⟩))) 3 (.pointer (some ⟨b3,0,none⟩))) 4 (.pointer (some ⟨b22,0,none⟩))) 5 (.int .i64 i)) 6 (.pointer (some ⟨b28,0+(i:Int).toNat * 9,none⟩))) 7 (.int .i64 k)) 44 (.pointer (some ⟨bs,0,none⟩))) 45 (.bool zb54)∧(zi52≤zi56∧zi56≤zi52+2)∧(0≤zi57∧(zi57 < (3:Int)∨zi57=0))∧Fresh W0.heap.size (Ns)∧St W0 w59 ((.box bs [.slice ac code.length cc,.int .i64 zi56,.int .u64 zi58] 115) :: (rr (some ⟨b38,0,none⟩) zi11.toNat zi11.toNat 2 1 ((r18.set ((k - 1:Int).toNat) ((r18[(k - 1:Int).toNat]!)+zi57)).map (Value.int .i64))) :: (.box b22 [.int .i64 zi11,.slice ra14 zl12.length rc16,.slice (some ⟨b28,0,none⟩) zR13.length rc19] 27) :: (rr ra14 zl12.length rc16 2 1 (zl12.map (Value.int .i64))) :: (rr (some ⟨b28,0,none⟩) zR13.length rc19 70 9 (vz.set (0+(i:Int).toNat * 9+5) (.slice (some ⟨b38,0,none⟩) zi11.toNat zi11.toNat))) :: (.box b3 [.slice none 0 0,.slice none 0 0,.slice none 0 0] 31) :: (.box b1 [.int .i64 0,.slice none 0 0,.slice none 0 0] 27) :: ps) ((sF false Fc ac cc code) :: (sF false Ve (some ⟨b45,o46,none⟩) Qb ((y_Rules[i]!).zB)) :: (sF false Vh Qg Qd ((y_Rules[i]!).vJ)) :: (sF false Vf Qe Qc ((y_Rules[i]!).vP)) :: (sF false Fe29Out Xw Xu ((y_Rules[i]!).yP)) :: (sF false Vg Qw Qv ((y_Rules[i]!).xh)) :: (xB false zg vz y_Rules) :: Γ)) ?_ ?_
      ·skip
       refine XL rfl H [2,3,4,5,6] [0,1,2,3,4,5,6] fun H=>?_
       have S:=H.jo [2,3,4,5,6] [0,1,2,3,4,5,6]
       refine rtl 0 S ?_
       refine rtl 1 S ?_
       refine tF 2 rfl rfl S ?_
       refine tL 3 rfl rfl (fun _ h=>h.rowGet 2 rfl (hx41 5 _ rfl)) S ?_
       refine rtp 4 (.int .i64 k) S ?_
       refine rt 5 _ (y_sub k 1 rfl rfl qf) S ?_
       refine tI 6 rfl rfl rfl S ?_
       refine rtl 8 S ?_
       refine zY [7,9] qh qm (jd rfl ?_ (jd rfl ?_ zZ))
       ·skip
        refine zl (.int .i64 (r18[(k - 1:Int).toNat]!)) Tryz.isAgg2 rfl (H.rowInt 1 rfl (iv:=k - 1) (i:=((k - 1:Int).toNat)) qf qf) (⟨H.pick [2,3,4,5,6] [0,1,2,3,4,5,6],(ro 9 rfl ?_)⟩)
        have H1:=H.yg 7 7 [0,1,2,3,4,5,6] [0,1,2,3,4,5,6] qo qo
        have N1:Fresh _ (Ns):=N
        have K1:Kept (Ns) ((sF false Ve (some ⟨b45,o46,none⟩) Qb ((y_Rules[i]!).zB)) :: (sF false Vh Qg Qd ((y_Rules[i]!).vJ)) :: (sF false Vf Qe Qc ((y_Rules[i]!).vP)) :: (sF false Fe29Out Xw Xu ((y_Rules[i]!).yP)) :: (sF false Vg Qw Qv ((y_Rules[i]!).xh)) :: (xB false zg vz y_Rules) :: Γ):=K0.behind 6 rfl
        refine zJ #[.pointer (some ⟨bs,0,none⟩),.int .i64 3] rfl rfl Tryz.call43 (yJ code zi52 zi53 bs ac cc Fc (3:Int) H1 N1 K1 qg) ?_
        clear H H1 N1 K1
        rintro _ w61 ⟨zi65,zi66,zi67,hx63,hx64,rfl,N,H⟩
        have k5:=k2.2 (k - 1:Int).toNat qf qf
        refine ⟨H.pick [2,3,4,5,6] [0,1,2,3,4,5,6],?_⟩
        have S:=H.jo [2,3,4,5,6] [0,1,2,3,4,5,6]
        refine rt 10 _ (y_add (r18[(k - 1:Int).toNat]!) zi67 rfl rfl qf) S ?_
        refine tI 11 rfl rfl rfl S ?_
        refine ro 12 rfl (XE H 1 rfl ((r18[(k - 1:Int).toNat]!)+zi67) Tryz.sizeOf2 rfl rfl (i:=((k - 1:Int).toNat)) qf qf fun w68 H=>?_)
        try dsimp only [List.set] at H
        refine ⟨H.pick [2,3,4,5,6] [0,1,2,3,4,5,6],(xq qh ((meet ⟨_,zi65,zi67,zi66,uE9,hx63,hx64,N,H⟩)))⟩
       ·skip
        have H1:=H.yg 7 7 [0,1,2,3,4,5,6] [0,1,2,3,4,5,6] qo qo
        have N1:Fresh _ (Ns):=N
        have K1:Kept (Ns) ((sF false Ve (some ⟨b45,o46,none⟩) Qb ((y_Rules[i]!).zB)) :: (sF false Vh Qg Qd ((y_Rules[i]!).vJ)) :: (sF false Vf Qe Qc ((y_Rules[i]!).vP)) :: (sF false Fe29Out Xw Xu ((y_Rules[i]!).yP)) :: (sF false Vg Qw Qv ((y_Rules[i]!).xh)) :: (xB false zg vz y_Rules) :: Γ):=K0.behind 6 rfl
        refine zJ #[.pointer (some ⟨bs,0,none⟩),.int .i64 3] rfl rfl Tryz.call43 (yJ code zi52 zi53 bs ac cc Fc (3:Int) H1 N1 K1 qg) ?_
        clear H H1 N1 K1
        rintro _ w69 ⟨zi73,zi74,zi75,hx71,hx72,rfl,N,H⟩
        have k5:=k2.2 (k - 1:Int).toNat qf qf
        refine ⟨H.pick [2,3,4,5,6] [0,1,2,3,4,5,6],(ro 7 rfl (zl (.int .i64 (r18[(k - 1:Int).toNat]!)) Tryz.isAgg2 rfl (H.rowInt 1 rfl (iv:=k - 1) (i:=((k - 1:Int).toNat)) qf qf) (⟨H.pick [2,3,4,5,6] [0,1,2,3,4,5,6],?_⟩)))⟩
        have S:=H.jo [2,3,4,5,6] [0,1,2,3,4,5,6]
        refine rt 10 _ (y_add (r18[(k - 1:Int).toNat]!) zi75 rfl rfl qf) S ?_
        refine tI 11 rfl rfl rfl S ?_
        refine ro 12 rfl (XE H 1 rfl ((r18[(k - 1:Int).toNat]!)+zi75) Tryz.sizeOf2 rfl rfl (i:=((k - 1:Int).toNat)) qf qf fun w76 H=>?_)
        try dsimp only [List.set] at H
        refine ⟨H.pick [2,3,4,5,6] [0,1,2,3,4,5,6],(xq qh ((meet ⟨_,zi73,zi75,zi74,uE9,hx71,hx72,N,H⟩)))⟩
      ·skip
       clear H N
       rintro ρ w77 ⟨xM,zi56,zi57,zi58,rfl,hx78,hx79,N,H⟩
       refine b_n (t_n (xU (sp (.int .i64 k) (sw (zA k 1 rfl rfl qf (sq 1 (xY (xe (m' :=(zi11 - ((k+1):Int)).toNat) qf ⟨_,k+1,_,_,_,uE7,?_,?_,?_,?_,rfl,N,H.zV 7 7 [1,0,2,3,4,5,6] [0,1,2,3,4,5,6] qo qo⟩))))))))
       · omega
       · omega
       · first | exact k2.go | exact k2.put qf qf qf
       · omega
     ·skip
      refine qW (b_n (t_n (xU (sp (.int .i64 k) (sw (zA k 1 rfl rfl qf (sq 1 (xY (xe (m' :=(zi11 - ((k+1):Int)).toNat) qf ⟨_,k+1,_,_,_,uE7,?_,?_,?_,?_,rfl,N,H.zV 7 7 [1,0,2,3,4,5,6] [0,1,2,3,4,5,6] qo qo⟩)))))))))
      · omega
      · omega
      · first | exact k2.go | exact k2.put qf qf qf
      · omega
   ·skip
    refine zx4 (zcc (sq 1 ?_))
    have H1:=H.yg 7 7 [1,0,2,3,4,5,6] [0,1,2,3,4,5,6] qo qo
    have N1:Fresh _ (Ns):=N
    have K1:Kept (Ns) ((sF false Ve QQ Qb ((y_Rules[i]!).zB)) :: (sF false Vh Qg Qd ((y_Rules[i]!).vJ)) :: (sF false Vf Qe Qc ((y_Rules[i]!).vP)) :: (sF false Fe29Out Xw Xu ((y_Rules[i]!).yP)) :: (sF false Vg Qw Qv ((y_Rules[i]!).xh)) :: (xB false zg vz y_Rules) :: Γ):=K0.behind 6 rfl
    refine sw (zJ #[.pointer (some ⟨bs,0,none⟩),.int .i64 2] rfl rfl Tryz.call41 (dOne_ok code s_at_1 s_seed_1 bs ac cc Fc (2:Int) H1 N1 K1 qg) ?_)
    clear H H1 N1 K1
    rintro _ w80 ⟨zi83,zi84,zb85,hx82,rfl,N,H⟩
    refine zjn (xE _ rfl (fun h86=>?_) (fun h86=>?_))
    ·skip
     refine xU (sq 1 (oF rfl (oL rfl (H.cell 2 rfl rfl) (sw (vM H Tryz.underlying24 ti2 zi11.toNat rfl rfl qf qf qf fun b87 w88 H=>sq 1 (oF rfl ?_))))))
     obtain ⟨G89,N,hn90,H⟩:=H.zG 2 rfl N (fun F hF b hb=>(List.mem_append.1 (show F∈[]++Ns from hF)).elim (fun h=>(H.vS (L:=[]) []) F h b hb) fun h=>H.QW (K0.behind 7 rfl) F h b hb)
     try dsimp only [List.set] at H
     obtain ⟨F91,H⟩:=H.part_5 7 rfl 0 rfl (iv:=i) i qf (by first | omega | (simp only [List.length_set];omega))
     try dsimp only [List.set] at H
     refine sw (o_storePart H 5 rfl (.slice (some ⟨b87,0,none⟩) zi11.toNat zi11.toNat) Tryz.sizeOf24 rfl rfl rfl (part_lt (hx41 6 _ rfl)) fun w92 H=>?_)
     have hx93:=part_get (cells:=[.int .i64 ((y_Rules[i]!).qP),.int .i64 ((y_Rules[i]!).jI),.slice QQ (((y_Rules[i]!).zB).length) Qb,.slice Qg (((y_Rules[i]!).vJ).length) Qd,.slice Qe (((y_Rules[i]!).vP).length) Qc,.slice (some ⟨b38,0,none⟩) zi11.toNat zi11.toNat,.slice Xw (((y_Rules[i]!).yP).length) Xu,.slice Qw (((y_Rules[i]!).xh).length) Qv,.bool ((y_Rules[i]!).jB)]) hx41 6 (.slice (some ⟨b87,0,none⟩) zi11.toNat zi11.toNat) (Nat.le_of_ble_eq_true rfl)
     replace hx93:∀ (q:Nat) (v:Value),([.int .i64 ((y_Rules[i]!).qP),.int .i64 ((y_Rules[i]!).jI),.slice QQ (((y_Rules[i]!).zB).length) Qb,.slice Qg (((y_Rules[i]!).vJ).length) Qd,.slice Qe (((y_Rules[i]!).vP).length) Qc,.slice (some ⟨b38,0,none⟩) zi11.toNat zi11.toNat,.slice (some ⟨b87,0,none⟩) zi11.toNat zi11.toNat,.slice Qw (((y_Rules[i]!).xh).length) Qv,.bool ((y_Rules[i]!).jB)]:List Value)[q]? =some v→((vz.set (0+(i:Int).toNat * 9+5) (.slice (some ⟨b38,0,none⟩) zi11.toNat zi11.toNat)).set (0+(i:Int).toNat * 9+6) (.slice (some ⟨b87,0,none⟩) zi11.toNat zi11.toNat))[0+(i:Int).toNat * 9+q]? =some v:=hx93
     try dsimp only [List.set] at H
     refine zjc (sq 1 ?_)
     have H1:=H.yg 8 9 [1,0,2,3,4,5,6,7] [2,0,1,3,4,5,6,7,8] qo qo
     have N1:Fresh _ (G89 :: Ns):=N
     have K1:Kept (Ns) ((xB false F91 (vz.set (0+(i:Int).toNat * 9+5) (.slice (some ⟨b38,0,none⟩) zi11.toNat zi11.toNat)) (y_Rules.set i { y_Rules[i]! with vT:=r18 })) :: (isF true G89 (.slice (some ⟨b38,0,none⟩) zi11.toNat zi11.toNat) r18) :: (sF false Ve QQ Qb ((y_Rules[i]!).zB)) :: (sF false Vh Qg Qd ((y_Rules[i]!).vJ)) :: (sF false Vf Qe Qc ((y_Rules[i]!).vP)) :: (sF false Fe29Out Xw Xu ((y_Rules[i]!).yP)) :: (sF false Vg Qw Qv ((y_Rules[i]!).xh)) :: (xB false zg vz y_Rules) :: Γ):=K0.behind 8 rfl
     replace K1:=K1.cons (F:=G89) 1 rfl rfl
     refine sw (zJ #[.pointer (some ⟨bs,0,none⟩),.int .i64 2] rfl rfl Tryz.call41 (dOne_ok code zi83 zi84 bs ac cc Fc (2:Int) H1 N1 K1 qg) ?_)
     clear H H1 N1 K1
     rintro _ w94 ⟨zi97,zi98,zb99,hx96,rfl,N,H⟩
     refine zjn (xE _ rfl (fun h100=>?_) (fun h100=>?_))
     ·skip
      refine xU (sq 1 (sw (vU H Tryz.underlying68 ti128 fun b101 w102 H=>sq 1 (oF rfl ?_))))
      obtain ⟨G103,N,hn104,H⟩:=H.zG 2 rfl N (fun F hF b hb=>(List.mem_append.1 (show F∈[G89]++Ns from hF)).elim (fun h=>(H.vS (L:=[G89]) [2]) F h b hb) fun h=>H.QW (K0.behind 9 rfl) F h b hb)
      try dsimp only [List.set] at H
      obtain ⟨F105,H⟩:=H.part_6 2 rfl 0 rfl (iv:=i) i qf (by first | omega | (simp only [List.length_set];omega))
      try dsimp only [List.set] at H
      refine sw (o_storePart H 6 rfl (.slice (some ⟨b101,0,none⟩) 0 0) Tryz.sizeOf68 rfl rfl rfl (part_lt (hx93 7 _ rfl)) fun w106 H=>?_)
      have hx107:=part_get (cells:=[.int .i64 ((y_Rules[i]!).qP),.int .i64 ((y_Rules[i]!).jI),.slice QQ (((y_Rules[i]!).zB).length) Qb,.slice Qg (((y_Rules[i]!).vJ).length) Qd,.slice Qe (((y_Rules[i]!).vP).length) Qc,.slice (some ⟨b38,0,none⟩) zi11.toNat zi11.toNat,.slice (some ⟨b87,0,none⟩) zi11.toNat zi11.toNat,.slice Qw (((y_Rules[i]!).xh).length) Qv,.bool ((y_Rules[i]!).jB)]) hx93 7 (.slice (some ⟨b101,0,none⟩) 0 0) (Nat.le_of_ble_eq_true rfl)
      replace hx107:∀ (q:Nat) (v:Value),([.int .i64 ((y_Rules[i]!).qP),.int .i64 ((y_Rules[i]!).jI),.slice QQ (((y_Rules[i]!).zB).length) Qb,.slice Qg (((y_Rules[i]!).vJ).length) Qd,.slice Qe (((y_Rules[i]!).vP).length) Qc,.slice (some ⟨b38,0,none⟩) zi11.toNat zi11.toNat,.slice (some ⟨b87,0,none⟩) zi11.toNat zi11.toNat,.slice (some ⟨b101,0,none⟩) 0 0,.bool ((y_Rules[i]!).jB)]:List Value)[q]? =some v→(((vz.set (0+(i:Int).toNat * 9+5) (.slice (some ⟨b38,0,none⟩) zi11.toNat zi11.toNat)).set (0+(i:Int).toNat * 9+6) (.slice (some ⟨b87,0,none⟩) zi11.toNat zi11.toNat)).set (0+(i:Int).toNat * 9+7) (.slice (some ⟨b101,0,none⟩) 0 0))[0+(i:Int).toNat * 9+q]? =some v:=hx107
      try dsimp only [List.set] at H
      refine xY (b_n (t_n (xU (sp (.int .i64 i) (sw (zA i 1 rfl rfl qf (sq 1 (xY ?_))))))))
      replace H:=H.boxRow 0 rfl 2 0 rfl qj
      try dsimp only [List.set] at H
      replace H:=H.zW (α:=Xy)
      replace H:St _ _ ((rr (some ⟨b101,0,none⟩) 0 0 128 2 []) :: (.box bs [.slice ac code.length cc,.int .i64 zi97,.int .u64 zi98] 115) :: (rr none 0 0 0 1 []) :: (rr none 0 0 0 1 []) :: (.box b22 [.int .i64 zi11,.slice ra14 zl12.length rc16,.slice (some ⟨b28,0,none⟩) zR13.length rc19] 27) :: (rr ra14 zl12.length rc16 2 1 (zl12.map (Value.int .i64))) :: (rr (some ⟨b28,0,none⟩) zR13.length rc19 70 9 (((vz.set (0+(i:Int).toNat * 9+5) (.slice (some ⟨b38,0,none⟩) zi11.toNat zi11.toNat)).set (0+(i:Int).toNat * 9+6) (.slice (some ⟨b87,0,none⟩) zi11.toNat zi11.toNat)).set (0+(i:Int).toNat * 9+7) (.slice (some ⟨b101,0,none⟩) 0 0))) :: (.box b3 [.slice none 0 0,.slice none 0 0,.slice none 0 0] 31) :: (.box b1 [.int .i64 0,.slice none 0 0,.slice none 0 0] 27) :: ps) ((xB true [] [] ([]:List Xy)) :: (xB false F105 ((vz.set (0+(i:Int).toNat * 9+5) (.slice (some ⟨b38,0,none⟩) zi11.toNat zi11.toNat)).set (0+(i:Int).toNat * 9+6) (.slice (some ⟨b87,0,none⟩) zi11.toNat zi11.toNat)) ((y_Rules.set i { y_Rules[i]! with vT:=r18 }).set i { (y_Rules.set i { y_Rules[i]! with vT:=r18 })[i]! with yP:=(List.replicate zi11.toNat (0:Int))})) :: (isF true G103 (.slice (some ⟨b87,0,none⟩) zi11.toNat zi11.toNat) (List.replicate zi11.toNat (0:Int))) :: (sF false Fc ac cc code) :: (xB false F91 (vz.set (0+(i:Int).toNat * 9+5) (.slice (some ⟨b38,0,none⟩) zi11.toNat zi11.toNat)) (y_Rules.set i { y_Rules[i]! with vT:=r18 })) :: (isF true G89 (.slice (some ⟨b38,0,none⟩) zi11.toNat zi11.toNat) r18) :: (sF false Ve QQ Qb ((y_Rules[i]!).zB)) :: (sF false Vh Qg Qd ((y_Rules[i]!).vJ)) :: (sF false Vf Qe Qc ((y_Rules[i]!).vP)) :: (sF false Fe29Out Xw Xu ((y_Rules[i]!).yP)) :: (sF false Vg Qw Qv ((y_Rules[i]!).xh)) :: (xB false zg vz y_Rules) :: Γ):=H
      have H0:=H
      obtain ⟨G108,hg110,hn109,H⟩:=H.yj (α:=Xy) 0 rfl 0 rfl qj
      replace N:Fresh W0.heap.size (G108 :: G103 :: G89 :: Ns):=Fresh.ice N.emp H0 0 hg110.1 hg110.2 (fun F hF b hb=>(List.mem_append.1 (show F∈[G103,G89]++Ns from hF)).elim (fun h=>(H0.vS (L:=[G103,G89]) [2,5]) F h b hb) fun h=>H0.QW (K0.behind 12 rfl) F h b hb)
      clear H0
      try dsimp only [List.set] at H
      obtain ⟨F111,H⟩:=H.part_7 2 rfl 0 rfl (iv:=i) i qf (by first | omega | (simp only [List.length_set];omega))
      try dsimp only [List.set] at H
      refine xe (m' :=(zR13.length - ((i+1):Int)).toNat) qf ⟨_,i+1,_,_,_,_,_,uE5,?_,?_,?_,rfl,(N.zV 3 [] qo),H.zV 9 14 [4,1,5,6,7,8] [5,0] qo qo⟩
      · omega
      · omega
      · exact ⟨by (try simp only [List.length_set]);omega,by have q2:=j2.2;(repeat' (first | assumption | exact k2.1 | exact zX.zero qf qf | (simp only [List.length_set];omega) | omega | apply jC.here | apply jC.out | apply jC.into))⟩
     ·skip
      refine qW (b_n (t_n (xU (sp (.int .i64 i) (sw (zA i 1 rfl rfl qf (sq 1 (xY ?_))))))))
      obtain ⟨G112,N,hn113,H⟩:=H.zG 1 rfl N (fun F hF b hb=>(List.mem_append.1 (show F∈[G89]++Ns from hF)).elim (fun h=>(H.vS (L:=[G89]) [2]) F h b hb) fun h=>H.QW (K0.behind 9 rfl) F h b hb)
      try dsimp only [List.set] at H
      obtain ⟨F114,H⟩:=H.part_6 2 rfl 0 rfl (iv:=i) i qf (by first | omega | (simp only [List.length_set];omega))
      try dsimp only [List.set] at H
      refine xe (m' :=(zR13.length - ((i+1):Int)).toNat) qf ⟨_,i+1,_,_,_,_,_,uE5,?_,?_,?_,rfl,(N.zV 2 [] qo),H.zV 8 11 [3,0,4,5,6,7] [2,0] qo qo⟩
      · omega
      · omega
      · exact ⟨by (try simp only [List.length_set]);omega,by have q2:=j2.2;(repeat' (first | assumption | exact k2.1 | exact zX.zero qf qf | (simp only [List.length_set];omega) | omega | apply jC.here | apply jC.out | apply jC.into))⟩
    ·skip
     refine qW (t_n (zcr (sq 1 ?_)))
     have H1:=H.yg 7 7 [0,1,2,3,4,5,6] [0,1,2,3,4,5,6] qo qo
     have N1:Fresh _ (Ns):=N
     have K1:Kept (Ns) ((sF false Ve QQ Qb ((y_Rules[i]!).zB)) :: (sF false Vh Qg Qd ((y_Rules[i]!).vJ)) :: (sF false Vf Qe Qc ((y_Rules[i]!).vP)) :: (sF false Fe29Out Xw Xu ((y_Rules[i]!).yP)) :: (sF false Vg Qw Qv ((y_Rules[i]!).xh)) :: (xB false zg vz y_Rules) :: Γ):=K0.behind 6 rfl
     refine sw (zJ #[.pointer (some ⟨bs,0,none⟩),.int .i64 2] rfl rfl Tryz.call41 (dOne_ok code zi83 zi84 bs ac cc Fc (2:Int) H1 N1 K1 qg) ?_)
     clear H H1 N1 K1
     rintro _ w115 ⟨zi118,zi119,zb120,hx117,rfl,N,H⟩
     refine zjn (xE _ rfl (fun h121=>?_) (fun h121=>?_))
     ·skip
      refine xU (sq 1 (sw (vU H Tryz.underlying68 ti128 fun b122 w123 H=>sq 1 (oF rfl ?_))))
      obtain ⟨G124,N,hn125,H⟩:=H.zG 2 rfl N (fun F hF b hb=>(List.mem_append.1 (show F∈[]++Ns from hF)).elim (fun h=>(H.vS (L:=[]) []) F h b hb) fun h=>H.QW (K0.behind 7 rfl) F h b hb)
      try dsimp only [List.set] at H
      obtain ⟨F126,H⟩:=H.part_5 7 rfl 0 rfl (iv:=i) i qf (by first | omega | (simp only [List.length_set];omega))
      try dsimp only [List.set] at H
      refine sw (o_storePart H 5 rfl (.slice (some ⟨b122,0,none⟩) 0 0) Tryz.sizeOf68 rfl rfl rfl (part_lt (hx41 7 _ rfl)) fun w127 H=>?_)
      have hx128:=part_get (cells:=[.int .i64 ((y_Rules[i]!).qP),.int .i64 ((y_Rules[i]!).jI),.slice QQ (((y_Rules[i]!).zB).length) Qb,.slice Qg (((y_Rules[i]!).vJ).length) Qd,.slice Qe (((y_Rules[i]!).vP).length) Qc,.slice (some ⟨b38,0,none⟩) zi11.toNat zi11.toNat,.slice Xw (((y_Rules[i]!).yP).length) Xu,.slice Qw (((y_Rules[i]!).xh).length) Qv,.bool ((y_Rules[i]!).jB)]) hx41 7 (.slice (some ⟨b122,0,none⟩) 0 0) (Nat.le_of_ble_eq_true rfl)
      replace hx128:∀ (q:Nat) (v:Value),([.int .i64 ((y_Rules[i]!).qP),.int .i64 ((y_Rules[i]!).jI),.slice QQ (((y_Rules[i]!).zB).length) Qb,.slice Qg (((y_Rules[i]!).vJ).length) Qd,.slice Qe (((y_Rules[i]!).vP).length) Qc,.slice (some ⟨b38,0,none⟩) zi11.toNat zi11.toNat,.slice Xw (((y_Rules[i]!).yP).length) Xu,.slice (some ⟨b122,0,none⟩) 0 0,.bool ((y_Rules[i]!).jB)]:List Value)[q]? =some v→((vz.set (0+(i:Int).toNat * 9+5) (.slice (some ⟨b38,0,none⟩) zi11.toNat zi11.toNat)).set (0+(i:Int).toNat * 9+7) (.slice (some ⟨b122,0,none⟩) 0 0))[0+(i:Int).toNat * 9+q]? =some v:=hx128
      try dsimp only [List.set] at H
      refine xY (b_n (t_n (xU (sp (.int .i64 i) (sw (zA i 1 rfl rfl qf (sq 1 (xY ?_))))))))
      replace H:=H.boxRow 0 rfl 2 0 rfl qj
      try dsimp only [List.set] at H
      replace H:=H.zW (α:=Xy)
      replace H:St _ _ ((rr (some ⟨b122,0,none⟩) 0 0 128 2 []) :: (.box bs [.slice ac code.length cc,.int .i64 zi118,.int .u64 zi119] 115) :: (rr none 0 0 0 1 []) :: (.box b22 [.int .i64 zi11,.slice ra14 zl12.length rc16,.slice (some ⟨b28,0,none⟩) zR13.length rc19] 27) :: (rr ra14 zl12.length rc16 2 1 (zl12.map (Value.int .i64))) :: (rr (some ⟨b28,0,none⟩) zR13.length rc19 70 9 ((vz.set (0+(i:Int).toNat * 9+5) (.slice (some ⟨b38,0,none⟩) zi11.toNat zi11.toNat)).set (0+(i:Int).toNat * 9+7) (.slice (some ⟨b122,0,none⟩) 0 0))) :: (.box b3 [.slice none 0 0,.slice none 0 0,.slice none 0 0] 31) :: (.box b1 [.int .i64 0,.slice none 0 0,.slice none 0 0] 27) :: ps) ((xB true [] [] ([]:List Xy)) :: (xB false F126 (vz.set (0+(i:Int).toNat * 9+5) (.slice (some ⟨b38,0,none⟩) zi11.toNat zi11.toNat)) (y_Rules.set i { y_Rules[i]! with vT:=r18 })) :: (isF true G124 (.slice (some ⟨b38,0,none⟩) zi11.toNat zi11.toNat) r18) :: (sF false Fc ac cc code) :: (sF false Ve QQ Qb ((y_Rules[i]!).zB)) :: (sF false Vh Qg Qd ((y_Rules[i]!).vJ)) :: (sF false Vf Qe Qc ((y_Rules[i]!).vP)) :: (sF false Fe29Out Xw Xu ((y_Rules[i]!).yP)) :: (sF false Vg Qw Qv ((y_Rules[i]!).xh)) :: (xB false zg vz y_Rules) :: Γ):=H
      have H0:=H
      obtain ⟨G129,hg131,hn130,H⟩:=H.yj (α:=Xy) 0 rfl 0 rfl qj
      replace N:Fresh W0.heap.size (G129 :: G124 :: Ns):=Fresh.ice N.emp H0 0 hg131.1 hg131.2 (fun F hF b hb=>(List.mem_append.1 (show F∈[G124]++Ns from hF)).elim (fun h=>(H0.vS (L:=[G124]) [2]) F h b hb) fun h=>H0.QW (K0.behind 10 rfl) F h b hb)
      clear H0
      try dsimp only [List.set] at H
      obtain ⟨F132,H⟩:=H.part_7 2 rfl 0 rfl (iv:=i) i qf (by first | omega | (simp only [List.length_set];omega))
      try dsimp only [List.set] at H
      refine xe (m' :=(zR13.length - ((i+1):Int)).toNat) qf ⟨_,i+1,_,_,_,_,_,uE5,?_,?_,?_,rfl,(N.zV 2 [] qo),H.zV 8 12 [3,1,4,5,6,7] [5,0] qo qo⟩
      · omega
      · omega
      · exact ⟨by (try simp only [List.length_set]);omega,by have q2:=j2.2;(repeat' (first | assumption | exact k2.1 | exact zX.zero qf qf | (simp only [List.length_set];omega) | omega | apply jC.here | apply jC.out | apply jC.into))⟩
     ·skip
      refine qW (b_n (t_n (xU (sp (.int .i64 i) (sw (zA i 1 rfl rfl qf (sq 1 (xY ?_))))))))
      obtain ⟨G133,N,hn134,H⟩:=H.zG 1 rfl N (fun F hF b hb=>(List.mem_append.1 (show F∈[]++Ns from hF)).elim (fun h=>(H.vS (L:=[]) []) F h b hb) fun h=>H.QW (K0.behind 7 rfl) F h b hb)
      try dsimp only [List.set] at H
      obtain ⟨F135,H⟩:=H.part_5 7 rfl 0 rfl (iv:=i) i qf (by first | omega | (simp only [List.length_set];omega))
      try dsimp only [List.set] at H
      refine xe (m' :=(zR13.length - ((i+1):Int)).toNat) qf ⟨_,i+1,_,_,_,_,_,uE5,?_,?_,?_,rfl,(N.zV 1 [] qo),H.zV 7 9 [2,0,3,4,5,6] [2,0] qo qo⟩
      · omega
      · omega
      · exact ⟨by (try simp only [List.length_set]);omega,by have q2:=j2.2;(repeat' (first | assumption | exact k2.1 | exact zX.zero qf qf | (simp only [List.length_set];omega) | omega | apply jC.here | apply jC.out | apply jC.into))⟩
 ·skip
  refine zx4 (xQ ?_)
  refine XL rfl H [0,2,3] [0,1] fun H=>?_
  have S:=H.jo [0,2,3] [0,1]
  refine rt 0 _ (yh (cs:=[.int .i64 zi11,.slice ra14 zl12.length rc16,.slice ra17 zR13.length rc19]) Tryz.isAgg27 Tryz.sizeOf27 rfl (fun _ h=>qC (h.cells 0 rfl) 0 3)) S ?_
  refine rtl 1 S ?_
  refine ro 2 rfl ?_
  have sd:=(‹SysDr _ _ _›).with j2.1 j2.2
  have f0:jL (⟨zi11,zl12,y_Rules⟩:qE):=sd.frame
  have H1:=H.yg 6 2 [1,0,2,3,4,5] [0,1] qo qo
  have N1:Fresh _ (Ns):=N
  have K1:Kept (Ns) (Γ):=K0.behind 0 rfl
  refine zJ #[.pointer (some ⟨bs,0,none⟩),.pointer (some ⟨b22,0,none⟩),.int .i64 4] rfl rfl Tryz.call88 (dState_ok code s_at s_seed bs ac cc Fc zi11 zl12 y_Rules b22 ra14 zl12.length rc16 ra17 zR13.length rc19 vz zg false (4:Int) H1 N1 K1 qg qg qg) ?_
  clear H H1 N1 K1
  rintro _ w137 ⟨zi141,zi142,zm143,zL144,zl145,ra146,rn147,rc148,ra149,rn150,rc151,rx152,rF153,ra154,rn155,rc156,hx139,hx140,rfl,N,H⟩
  obtain rfl:=H.XC 4 rfl
  obtain rfl:=H.xK (α:=yLI) 5 rfl 2 rfl qj
  obtain rfl:=H.jm 6 rfl
  refine ⟨H.pick [1,2,3] [0,1],(ro 3 rfl (xG H 8 [.int .i64 zi11,.slice ra14 zl12.length rc16,.slice ra17 zR13.length rc19] Tryz.sizeOf27 fun w157 H=>?_))⟩
  try dsimp only [List.set] at H
  refine ⟨H.pick [1,2,3] [0,1],(ro 4 rfl (xG H 7 [.slice ra146 zm143.length rc148,.slice ra149 zL144.length rc151,.slice ra154 zl145.length rc156] Tryz.sizeOf31 fun w158 H=>?_))⟩
  try dsimp only [List.set] at H
  refine ⟨H.pick [1,2,3] [0,1],(xq qh (t_n (c_ret (retCC H 8 rfl 7 rfl rfl Tryz.isAgg27 Tryz.sizeOf27 Tryz.isAgg31 Tryz.sizeOf31 rfl rfl ⟨_,rfl,(⟨zi141,zi142,zi11,zl12,y_Rules,zm143,zL144,zl145,ra14,zl12.length,rc16,ra17,zR13.length,rc19,vz,zg,ra146,zm143.length,rc148,ra149,zL144.length,rc151,rx152,rF153,ra154,zl145.length,rc156,qf,ql,ql,rfl,N,H.zV 9 3 [0,2,3,4,5,6] [0,1,2] qo qo⟩)⟩))))⟩

theorem a2Given_ok {W0 w:World} {ps:List Prv} {Γ:List Fact} {Ns:List yLN} (code:List UInt8) (ac:yOA) (cc:Nat) (Fc:yLN) (H:St W0 w (ps) ((sF false Fc ac cc code) :: Γ)) (N:Fresh W0.heap.size (Ns)) (K0:Kept Ns Γ):Calls Tryz.prog 19 #[.slice ac code.length cc] w (fun e w' =>∃ v,e=.returned v∧∃ (kk_:Int) (par_:yLI) (rules_:List jw) (alive_:List Bool) (bags_:yLL) (around_:yLI) (raq:yOA) (rnq:Nat) (rcq:Nat) (raS:yOA) (rnS:Nat) (rcS:Nat) (rxS:List Value) (rFS:yLN) (raA:yOA) (rnA:Nat) (rcA:Nat) (raB:yOA) (rnB:Nat) (rcB:Nat) (rxB:List Value) (rFB:yLN) (raD:yOA) (rnD:Nat) (rcD:Nat),(SysDr kk_ par_ rules_)∧(StDr kk_ par_.length 4 alive_ bags_ around_)∧v=.tuple #[.agg #[.int .i64 kk_,.slice raq rnq rcq,.slice raS rnS rcS],.agg #[.slice raA rnA rcA,.slice raB rnB rcB,.slice raD rnD rcD]]∧Fresh W0.heap.size (rFB :: Ns)∧St W0 w' ((rr raq rnq rcq 2 1 (par_.map (Value.int .i64))) :: (rr raS rnS rcS 70 9 rxS) :: (rr raA rnA rcA 4 1 (alive_.map (Value.bool))) :: (rr raB rnB rcB 24 1 rxB) :: (rr raD rnD rcD 2 1 (around_.map (Value.int .i64))) :: ps) ((sF false Fc ac cc code) :: (xB false rFS rxS rules_) :: (xB true rFB rxB bags_) :: Γ)):=by
 refine en Tryz.func19 Tryz.ntmps19 ?_
 have ncode:=qM (H.get 0 rfl).1
 refine zcr (sw (xx H ti27 [.int .i64 0,.slice none 0 0,.slice none 0 0] fun b1 w2 H=>sw (xx H ti31 [.slice none 0 0,.slice none 0 0,.slice none 0 0] fun b3 w4 H=>zjc (sq 1 (sw (zQ #[.slice ac code.length cc] rfl rfl Tryz.call39 (en Tryz.func39 Tryz.ntmps39 ?_)))))))
 refine zcr (sq 1 (zjc (sq 1 (sw (zO [.slice ac code.length cc,.int .i64 0,.int .u64 0] [(0,.slice ac code.length cc)] (sw (zS H [.slice ac code.length cc,.int .i64 0,.int .u64 0] fun b5 w6 H=>sq 1 (zjr (ret1 (.pointer (some ⟨b5,0,none⟩)) rfl rfl ⟨_,rfl,?_⟩)))))))))
 have H1:=H.yg 3 1 [0,1,2] [0] qo qo
 have N1:Fresh _ (Ns):=N
 have K1:Kept (Ns) (Γ):=K0.behind 0 rfl
 refine sw (zJ #[.pointer (some ⟨b5,0,none⟩)] rfl rfl Tryz.call40 (dShrink_ok code (0:Int) 0 b5 ac cc Fc H1 N1 K1 qg) ?_)
 clear H H1 N1 K1
 rintro _ w7 ⟨zi12,zi13,zi14,zl15,zR16,zm17,zL18,zl19,ra20,rn21,rc22,ra23,rn24,rc25,rx26,rF27,ra28,rn29,rc30,ra31,rn32,rc33,rx34,rF35,ra36,rn37,rc38,hx9,hx10,hx11,rfl,N,H⟩
 obtain rfl:=H.jm 1 rfl
 obtain rfl:=H.xK (α:=jw) 2 rfl 1 rfl qj
 obtain rfl:=H.XC 3 rfl
 obtain rfl:=H.xK (α:=yLI) 4 rfl 2 rfl qj
 obtain rfl:=H.jm 5 rfl
 refine sq 2 (sw (xG H 7 [.int .i64 zi14,.slice ra20 zl15.length rc22,.slice ra23 zR16.length rc25] Tryz.sizeOf27 fun w39 H=>?_))
 try dsimp only [List.set] at H
 refine sw (xG H 6 [.slice ra28 zm17.length rc30,.slice ra31 zL18.length rc33,.slice ra36 zl19.length rc38] Tryz.sizeOf31 fun w40 H=>?_)
 try dsimp only [List.set] at H
 refine zjr (retCC H 7 rfl 6 rfl rfl Tryz.isAgg27 Tryz.sizeOf27 Tryz.isAgg31 Tryz.sizeOf31 rfl rfl ⟨_,rfl,(⟨zi14,zl15,zR16,zm17,zL18,zl19,ra20,zl15.length,rc22,ra23,zR16.length,rc25,rx26,rF27,ra28,zm17.length,rc30,ra31,zL18.length,rc33,rx34,rF35,ra36,zl19.length,rc38,ql,ql,rfl,N,H.zV 8 3 [1,2,3,4,5] [0,1,2] qo qo⟩)⟩)
end
section

def atV (code:List UInt8) (i n:Int):Int:=if i≥code.length∨n < 1 then 0 else (((code[i.toNat]!).toNat:Nat):Int) % n
theorem atV_no {code:List UInt8} {i n:Int} (h:i≥code.length∨n < 1):atV code i n=0:=by rw [atV,if_pos h]
theorem atV_yes {code:List UInt8} {i n:Int} (h:¬ i≥code.length) (h1:¬ n < 1):atV code i n=(((code[i.toNat]!).toNat:Nat):Int) % n:=by rw [atV,if_neg qf]
theorem atV_bd (code:List UInt8) (i:Int) {n:Int} (h:1≤n):0≤atV code i n∧atV code i n≤n - 1:=by
  rw [atV]
  split
  · omega
  · have h1:=Int.emod_nonneg (((code[i.toNat]!).toNat:Nat):Int) (show n≠0 by omega)
    have h2:=Int.emod_lt_of_pos (((code[i.toNat]!).toNat:Nat):Int) (show 0 < n by omega)
    omega
end
section
open Go.RowKit
set_option linter.unusedVariables false
set_option linter.unusedSimpArgs false
set_option maxRecDepth 100000
set_option maxHeartbeats 4000000
theorem a2At_ok (w:World) (code:List UInt8) (q:Int) (n:Int) {acode:yOA} {ccode:Nat} {Fcode:yLN} (hcode:qO.rep w Fcode [.slice acode code.length ccode] code) (p0:0≤q):Calls Tryz.prog 23 #[.slice acode code.length ccode,.int .i64 q,.int .i64 n] w (Ret (fun v w' =>v=.int .i64 (atV code q n)) w):=by
 refine en Tryz.func23 Tryz.ntmps23 ?_
 have H:=(St.start w).arg hcode
 have nhcode:=qM hcode
 clear hcode
 have N:=Fresh.nil w.heap.size
 refine zcr (sp (.int .i64 0) (zjcc (sp (.int .i64 q) (sq 1 (oN rfl (sp (.bool (decide ((q:Int)≥code.length))) (sp (.bool (decide ((q:Int)≥code.length))) ?_)))))))
 cases h1:(decide ((q:Int)≥code.length))
 ·skip
  replace h1:=of_decide_eq_false h1
  refine qL 11 rfl rfl (sp (.int .i64 n) (qL 11 rfl rfl (sp (.bool (decide ((n:Int) < 1))) (sp (.bool (decide ((n:Int) < 1))) (zjn (cD rfl (fun h2=>?_) (fun h2=>?_)))))))
  ·skip
   refine zcr (sp (.int .i64 0) (zjr (t_r (ret1 (.int .i64 0) rfl rfl ⟨_,rfl,?_,H.base⟩))))
   rw [atV_no qf]
  ·skip
   have rm:=fun (x:Int)=>Int.emod_nonneg x (show n≠0 by omega)
   have rl:=fun (x:Int)=>Int.emod_lt_of_pos x (show 0 < n by omega)
   refine qW (t_n (zcr (sq 1 (sp (.int .i64 q) ?_))))
   obtain ⟨b3,o4,rfl⟩:=H.addr 0 rfl qf
   refine oI rfl rfl ?_
   have hb6:=byte_lt (code[q.toNat]!)
   refine oL rfl (H.elemByte 0 rfl q q.toNat qf qf qf) (sw (o_convI (((code[q.toNat]!).toNat:Nat):Int) Tryz.underlying5 Tryz.underlying2 rfl qf (sp (.int .i64 n) (sw (o_rem (((code[q.toNat]!).toNat:Nat):Int) n rfl rfl qf qf qf (sq 1 (zjr (ret1 (.int .i64 ((((code[q.toNat]!).toNat:Nat):Int) % n)) rfl rfl ⟨_,rfl,?_,H.base⟩))))))))
   rw [atV_yes ‹_› ‹_›]
 ·skip
  replace h1:=of_decide_eq_true h1
  refine xZ [12,13] (sp (.bool true) (zjn (xE true rfl (fun _=>zcr (sp (.int .i64 0) (zjr (t_r (ret1 (.int .i64 0) rfl rfl ⟨_,rfl,?_,H.base⟩))))) (fun h=>absurd h qj))))
  rw [atV_no qf]

theorem specSame_ok (w:World) (a:qF) (b:qF) {aaAlive:yOA} {caAlive:Nat} {FaAlive:yLN} {aaBags:yOA} {caBags:Nat} {FaBags:yLN} {Vd:yOA} {Va:Nat} {FaAround:yLN} {abAlive:yOA} {cbAlive:Nat} {FbAlive:yLN} {abBags:yOA} {cbBags:Nat} {FbBags:yLN} {Vb:yOA} {X9:Nat} {FbAround:yLN} (haAlive:qO.rep w FaAlive [.slice aaAlive a.qG.length caAlive] a.qG) (haBags:qO.rep w FaBags [.slice aaBags a.qN.length caBags] a.qN) (haAround:qO.rep w FaAround [.slice Vd a.qH.length Va] a.qH) (hbAlive:qO.rep w FbAlive [.slice abAlive b.qG.length cbAlive] b.qG) (hbBags:qO.rep w FbBags [.slice abBags b.qN.length cbBags] b.qN) (hbAround:qO.rep w FbAround [.slice Vb b.qH.length X9] b.qH):Calls Tryz.prog 22 #[.agg #[.slice aaAlive a.qG.length caAlive,.slice aaBags a.qN.length caBags,.slice Vd a.qH.length Va],.agg #[.slice abAlive b.qG.length cbAlive,.slice abBags b.qN.length cbBags,.slice Vb b.qH.length X9]] w (Ret (fun v w' =>v=.bool (decide (a=b))) w):=by
 refine en Tryz.func22 Tryz.ntmps22 ?_
 have H:=((((((St.start w).arg hbAround).arg hbBags).arg hbAlive).arg haAround).arg haBags).arg haAlive
 have nhaAlive:=qM haAlive
 have nhaBags:=qM haBags
 have nhaAround:=qM haAround
 have nhbAlive:=qM hbAlive
 have nhbBags:=qM hbBags
 have nhbAround:=qM hbAround
 clear haAlive haBags haAround hbAlive hbBags hbAround
 have N:=Fresh.nil w.heap.size
 refine zcr (sw (zS H [.slice aaAlive a.qG.length caAlive,.slice aaBags a.qN.length caBags,.slice Vd a.qH.length Va] fun b1 w2 H=>sw (zS H [.slice abAlive b.qG.length cbAlive,.slice abBags b.qN.length cbBags,.slice Vb b.qH.length X9] fun b3 w4 H=>sp (.bool false) (zjc (sw (oq (l02Same_ok _ a b (qC (H.cells 1 rfl) 0 3) (H.get 0 rfl).1 (H.get 1 rfl).1 (H.get 2 rfl).1 (qC (H.cells 0 rfl) 0 3) (H.get 3 rfl).1 (H.get 4 rfl).1 (H.get 5 rfl).1) H fun w6 H=>sq 1 (zjr (ret1 (.bool (decide (a=b))) rfl rfl ⟨_,rfl,?_,H.base⟩))))))))
 rfl
end
section

def FullOk (parts:yLL) (rest:yLI):Prop:=∀ i,i < parts.length→within (parts[i]!) rest=false
def FullTo (parts:yLL) (rest:yLI) (k:Nat):Prop:=∀ i,i < k→within (parts[i]!) rest=false
theorem FullTo.succ {parts:yLL} {rest:yLI} {k:Nat} (h:FullTo parts rest k) (h1:within (parts[k]!) rest=false):FullTo parts rest (k+1):=fun j hj=>by
  by_cases e:j=k
  · subst e;exact h1
  · exact h j qf
open Classical in
noncomputable def packs (parts:yLL):Nat→Nat→yLI→yLL
  | 0,_,rest=>if FullOk parts rest then [[]] else []
  | f+1,k,rest=>(List.range ((jA (parts[k]!) rest).toNat+1)).flatMap fun (n:Nat)=>(packs parts f (k+1) (jH rest (parts[k]!) (-(n:Int)))).map ((n:Int) :: ·)
noncomputable def jS (parts:yLL) (f k:Nat) (rest:yLI) (m:Nat):yLL:=
  (List.range m).flatMap fun (n:Nat)=>(packs parts f (k+1) (jH rest (parts[k]!) (-(n:Int)))).map ((n:Int) :: ·)
theorem packs_succ (parts:yLL) (f k:Nat) (rest:yLI):packs parts (f+1) k rest=jS parts f k rest ((jA (parts[k]!) rest).toNat+1):=rfl
theorem packsTo_zero (parts:yLL) (f k:Nat) (rest:yLI):jS parts f k rest 0=[]:=rfl
theorem packsTo_succ (parts:yLL) (f k:Nat) (rest:yLI) (m:Nat):
    jS parts f k rest (m+1)=jS parts f k rest m++(packs parts f (k+1) (jH rest (parts[k]!) (-(m:Int)))).map ((m:Int) :: ·):=by
  simp [jS,List.range_succ]
theorem packs_full {parts:yLL} {k:Nat} {rest:yLI} (h:FullOk parts rest):packs parts 0 k rest=[[]]:=by rw [packs,if_pos h]
theorem packs_none {parts:yLL} {k:Nat} {rest:yLI} (h:¬ FullOk parts rest):packs parts 0 k rest=[]:=by rw [packs,if_neg h]
def gath (out more:yLL):yLL:=(out++more).take 2001
theorem gath_nil {out:yLL} (h:out.length≤2001):gath out []=out:=by unfold gath;rw [List.append_nil];exact List.take_of_length_le h
theorem gath_one {out:yLL} {x:yLI} (h:out.length≤2000):gath out [x]=out++[x]:=by
  unfold gath;rw [List.take_of_length_le];simp;omega
theorem gath_len (out more:yLL):(gath out more).length≤2001:=by simp [gath];omega
theorem gath_room {out more:yLL} (h:(gath out more).length≤2000):gath out more=out++more:=by
  unfold gath at *
  rw [List.length_take] at h
  exact List.take_of_length_le qf
theorem gath_cat {out a b:yLL} (h:(gath out a).length≤2000):gath (gath out a) b=gath out (a++b):=by
  rw [gath_room h];simp [gath]
theorem gath_stop {out a b:yLL} (h:¬ (gath out a).length≤2000):gath out a=gath out (a++b):=by
  unfold gath at *
  rw [List.length_take] at h
  rw [← List.append_assoc]
  exact (List.take_append_of_le_length (l₁:=out++a) (l₂:=b) qf).symm
def begins (b:yLI) (l:yLL):yLL:=l.map (b++·)
theorem begins_cat (b:yLI) (l m:yLL):begins b (l++m)=begins b l++begins b m:=by simp [begins]
theorem begins_cons (b:yLI) (n:Int) (l:yLL):begins b (l.map (n :: ·))=begins (b++[n]) l:=by simp [begins]
theorem begins_nil (l:yLL):begins [] l=l:=by simp [begins]
theorem begins_one (b:yLI):begins b [[]]=[b]:=by simp [begins]
theorem gath_step {parts:yLL} {f k m:Nat} {rest b:yLI} {out:yLL} (h:(gath out (begins b (jS parts f k rest m))).length≤2000):
    gath (gath out (begins b (jS parts f k rest m))) (begins (b++[(m:Int)]) (packs parts f (k+1) (jH rest (parts[k]!) (-(m:Int)))))=gath out (begins b (jS parts f k rest (m+1))):=by
  rw [gath_cat h,packsTo_succ,begins_cat,begins_cons]
theorem packsTo_more {parts:yLL} {f k:Nat} {rest:yLI}:∀ {m M:Nat},m≤M→∃ more,jS parts f k rest M=jS parts f k rest m++more
  | m, 0, h => ⟨[], by obtain rfl : m = 0 := by omega
                       simp⟩
  | m,M+1,h=>by
    by_cases e:m=M+1
    · subst e;exact ⟨[],by simp⟩
    · obtain ⟨more,hm⟩:=packsTo_more (parts:=parts) (f:=f) (k:=k) (rest:=rest) (show m≤M by omega)
      exact ⟨_,by rw [packsTo_succ,hm,List.append_assoc]⟩
theorem gath_end {parts:yLL} {f k m:Nat} {rest b:yLI} {out:yLL} (hm:m≤(jA (parts[k]!) rest).toNat+1) (h:m=(jA (parts[k]!) rest).toNat+1∨¬ (gath out (begins b (jS parts f k rest m))).length≤2000):
    gath out (begins b (jS parts f k rest m))=gath out (begins b (packs parts (f+1) k rest)):=by
  rw [packs_succ]
  rcases h with h | h
  · rw [h]
  · obtain ⟨more,e⟩:=packsTo_more (parts:=parts) (f:=f) (k:=k) (rest:=rest) hm
    rw [e,begins_cat]
    exact gath_stop h
open Classical in
noncomputable def jV (b:yLI) (parts:yLL):yLL×Int:=
  if QM b > 16 then ([],3) else if (packs parts parts.length 0 b).length > 2000 then ([],3) else (packs parts parts.length 0 b,0)
theorem gath_all {l:yLL}:(gath [] l).length > 2000↔l.length > 2000:=by unfold gath;rw [List.nil_append,List.length_take];omega
theorem gath_few {l:yLL} (h:¬ l.length > 2000):gath [] l=l:=by unfold gath;rw [List.nil_append];exact List.take_of_length_le qf
theorem packs_len {parts:yLL}:∀ {f k:Nat} {rest x:yLI},x∈packs parts f k rest→x.length=f
  | 0,k,rest,x,h=>by
    rw [packs] at h
    split at h
    · obtain rfl:=List.mem_singleton.1 h;rfl
    · simp at h
  | f+1,k,rest,x,h=>by
    rw [packs,List.mem_flatMap] at h
    obtain ⟨n,_,h⟩:=h
    obtain ⟨y,hy,rfl⟩:=List.mem_map.1 h
    rw [List.length_cons,packs_len hy]
def PartsOk (K:Nat) (parts:yLL):Prop:=∀ i,i < parts.length→(parts[i]!).length=K∧(∀ q,q < K→0≤(parts[i]!)[q]! ∧(parts[i]!)[q]! ≤1000)∧∃ j,j < K∧0 < (parts[i]!)[j]!
def RestOk (K:Nat) (rest:yLI):Prop:=rest.length=K∧∀ q,q < K→0≤rest[q]! ∧rest[q]! ≤1000
def X6 (parts:yLL) (rest:yLI):Prop:=∃ K,K≤8∧PartsOk K parts∧RestOk K rest∧parts.length≤8

theorem times_bd {K:Nat} {parts:yLL} {rest:yLI} (hP:PartsOk K parts) (hR:RestOk K rest) {k:Nat} (hk:k < parts.length):0≤jA (parts[k]!) rest∧jA (parts[k]!) rest≤1000:=
  timesTo_bd (fun q hq=>(hR.2 q (by have:=(hP k hk).1;omega)).1) _ (Nat.le_refl _)
theorem take_get {K:Nat} {parts:yLL} {rest:yLI} (hP:PartsOk K parts) (hR:RestOk K rest) {k:Nat} (hk:k < parts.length) {n:Int} (h0:0≤n) (h1:n≤jA (parts[k]!) rest) {q:Nat} (hq:q < K):
    0≤rest[q]! + -n * (parts[k]!)[q]! ∧rest[q]! + -n * (parts[k]!)[q]! ≤rest[q]! :=by
  obtain ⟨hl,hb,_⟩:=hP k hk
  have a:=timesL_left (l:=parts[k]!) (m:=rest) (fun j hj=>(hb j qf).1) (fun j hj=>(hR.2 j qf).1) (k:=q) qf
  have b:=Int.mul_le_mul_of_nonneg_right h1 (hb q hq).1
  have c:=Int.mul_nonneg h0 (hb q hq).1
  have d: -n * (parts[k]!)[q]! = -(n * (parts[k]!)[q]!):=Int.neg_mul ..
  have e: -(jA (parts[k]!) rest) * (parts[k]!)[q]! = -(jA (parts[k]!) rest * (parts[k]!)[q]!):=Int.neg_mul ..
  omega
theorem RestOk.take {K:Nat} {parts:yLL} {rest:yLI} (hP:PartsOk K parts) (hR:RestOk K rest) {k:Nat} (hk:k < parts.length) {n:Int} (h0:0≤n) (h1:n≤jA (parts[k]!) rest):RestOk K (jH rest (parts[k]!) (-n)):=by
  refine ⟨by rw [plusL_len];exact hR.1,fun q hq=>?_⟩
  rw [plus_get (by have:=hR.1;omega)]
  have:=take_get hP hR hk h0 h1 hq
  have:=hR.2 q hq
  omega
theorem X6.times {parts:yLL} {rest:yLI} (h:X6 parts rest) {k:Nat} (hk:k < parts.length):
    (parts[k]!).length≤rest.length∧(∀ q,q < (parts[k]!).length→0≤rest[q]! ∧rest[q]! ≤1000)∧(∃ j,j < (parts[k]!).length∧0 < (parts[k]!)[j]!)∧rest.length≤8∧0≤jA (parts[k]!) rest∧jA (parts[k]!) rest≤1000:=by
  obtain ⟨K,hK,hP,hR,hn⟩:=h
  obtain ⟨hl,hb,hj⟩:=hP k hk
  have ht:=times_bd hP hR hk
  refine ⟨by have:=hR.1;omega,fun q hq=>hR.2 q qf,by rw [hl];exact hj,by have:=hR.1;omega,ht⟩
theorem X6.plus {parts:yLL} {rest:yLI} (h:X6 parts rest) {k:Nat} (hk:k < parts.length) {n:Int} (h0:0≤n) (h1:n≤jA (parts[k]!) rest):
    rest.length≤(parts[k]!).length∧Mid rest∧SmallT (parts[k]!) (-n)∧X6 parts (jH rest (parts[k]!) (-n)):=by
  obtain ⟨K,hK,hP,hR,hn⟩:=h
  obtain ⟨hl,hb,hj⟩:=hP k hk
  have ht:=times_bd hP hR hk
  refine ⟨by have:=hR.1;omega,⟨by have:=hR.1;omega,fun q hq=>by have:=hR.2 q (by have:=hR.1;omega);omega⟩,fun q hq=>?_,K,hK,hP,hR.take hP hk h0 h1,hn⟩
  have a:=hb q qf
  have b:=Int.mul_nonneg h0 a.1
  have c:=Int.mul_le_mul (show n≤1000 by omega) a.2 a.1 qf
  have d: -n * (parts[k]!)[q]! = -(n * (parts[k]!)[q]!):=Int.neg_mul ..
  omega
theorem X6.small {parts:yLL} {rest:yLI} (h:X6 parts rest):rest.length≤8∧parts.length≤8:=by
  obtain ⟨K,hK,_,hR,hn⟩:=h
  exact ⟨by have:=hR.1;omega,hn⟩
theorem X6.smallB {parts:yLL} {rest:yLI} (h:X6 parts rest):Small rest:=by
  obtain ⟨K,hK,_,hR,hn⟩:=h
  exact ⟨by have:=hR.1;omega,fun q hq=>by have:=hR.2 q (by have:=hR.1;omega);omega⟩

theorem pack_step {parts:yLL} {rest begin' :yLI} {out:yLL} {f n:Nat} (hf:begin'.length+f=parts.length) (hp:begin'.length < parts.length)
    (h:(gath out (begins begin' (jS parts (f - 1) begin'.length rest n))).length≤2000):
    gath (gath out (begins begin' (jS parts (f - 1) begin'.length rest n))) (begins (begin' ++[(n:Int)]) (packs parts (parts.length - (begin' ++[(n:Int)]).length) (begin' ++[(n:Int)]).length (jH rest (parts[begin'.length]!) (-(n:Int)))))=
      gath out (begins begin' (jS parts (f - 1) begin'.length rest (n+1))):=by
  rw [← gath_step h,List.length_append,List.length_cons,List.length_nil,show parts.length - (begin'.length+(0+1))=f - 1 by omega]
theorem pack_start {parts:yLL} {rest begin' :yLI} {out:yLL} {f:Nat} (h:out.length≤2000):out=gath out (begins begin' (jS parts f begin'.length rest 0)):=by
  rw [packsTo_zero];exact (gath_nil qf).symm
theorem pack_full {parts:yLL} {rest begin' :yLI} {out:yLL} (hl:begin'.length=parts.length) (h:FullOk parts rest) (ho:out.length≤2000):
    gath out (begins begin' (packs parts (parts.length - begin'.length) begin'.length rest))=out++[begin']:=by
  rw [show parts.length - begin'.length=0 by omega,packs_full h,begins_one,gath_one ho]
theorem pack_none {parts:yLL} {rest begin' :yLI} {out:yLL} (hl:begin'.length=parts.length) (h:¬ FullOk parts rest) (ho:out.length≤2000):
    gath out (begins begin' (packs parts (parts.length - begin'.length) begin'.length rest))=out:=by
  rw [show parts.length - begin'.length=0 by omega,packs_none h];exact gath_nil qf
theorem pack_end {parts:yLL} {rest begin' :yLI} {out:yLL} {f n:Nat} (hf:begin'.length+f=parts.length) (hp:begin'.length < parts.length) (hn:(n:Int)≤jA (parts[begin'.length]!) rest+1)
    (h0:0≤jA (parts[begin'.length]!) rest) (h:¬ (n:Int)≤jA (parts[begin'.length]!) rest∨¬ ((gath out (begins begin' (jS parts (f - 1) begin'.length rest n))).length:Int)≤2000):
    gath out (begins begin' (packs parts (parts.length - begin'.length) begin'.length rest))=gath out (begins begin' (jS parts (f - 1) begin'.length rest n)):=by
  obtain ⟨f,rfl⟩:∃ g,f=g+1:=⟨f - 1,by omega⟩
  rw [show parts.length - begin'.length=f+1 by omega]
  rw [show f+1 - 1=f from rfl] at h ⊢
  exact (gath_end qf (by rcases h with h | h;(left;omega);(right;omega))).symm
theorem all_a {b:yLI} {parts:yLL} (h:QM b > 16):jV b parts=([],3):=by rw [jV,if_pos h]
theorem all_b {b:yLI} {parts:yLL} (h:¬ QM b > 16) (h1:((gath ([]:yLL) (begins ([]:yLI) (packs parts (parts.length - ([]:yLI).length) ([]:yLI).length b))).length:Int) > 2000):jV b parts=([],3):=by
  replace h1:(gath [] (begins [] (packs parts (parts.length - 0) 0 b))).length > 2000:=by have:((gath [] (begins [] (packs parts (parts.length - 0) 0 b))).length:Int) > 2000:=h1;omega
  rw [begins_nil] at h1
  have h2:(packs parts parts.length 0 b).length > 2000:=gath_all.1 h1
  rw [jV,if_neg h,if_pos h2]
theorem all_0 {b:yLI} {parts:yLL} (h:¬ QM b > 16) (h1:¬ ((gath ([]:yLL) (begins ([]:yLI) (packs parts (parts.length - ([]:yLI).length) ([]:yLI).length b))).length:Int) > 2000):
    jV b parts=(gath ([]:yLL) (begins ([]:yLI) (packs parts (parts.length - ([]:yLI).length) ([]:yLI).length b)),0):=by
  show jV b parts=(gath [] (begins [] (packs parts (parts.length - 0) 0 b)),0)
  replace h1:¬ (gath [] (begins [] (packs parts (parts.length - 0) 0 b))).length > 2000:=fun h=>h1 (by have:((gath [] (begins [] (packs parts (parts.length - 0) 0 b))).length:Int) > 2000:=qf;exact this)
  rw [begins_nil] at h1 ⊢
  have h2:¬ (packs parts parts.length 0 b).length > 2000:=fun h=>h1 (gath_all.2 h)
  rw [jV,if_neg h,if_neg h2,show parts.length - 0=parts.length from rfl,gath_few h2]

theorem fmap_le {α β:Type} {c:Nat} (g:α→List β):∀ (l:List α),(∀ x∈l,(g x).length≤c)→(l.flatMap g).length≤l.length * c
  | [],_=>by simp
  | x :: l,h=>by
    have h1:=h x (List.mem_cons_self ..)
    have h2:=fmap_le g l fun y hy=>h y (List.mem_cons_of_mem _ hy)
    rw [List.flatMap_cons,List.length_append,List.length_cons,Nat.add_mul,Nat.one_mul]
    omega
theorem within_more {K:Nat} {parts:yLL} {rest:yLI} (hP:PartsOk K parts) (hR:RestOk K rest) {k:Nat} (hk:k < parts.length) {n:Int} (h0:0≤n) (h1:n < jA (parts[k]!) rest):
    within (parts[k]!) (jH rest (parts[k]!) (-n))=true:=by
  rw [within_iff]
  intro q hq
  obtain ⟨hl,hb,_⟩:=hP k hk
  rw [plus_get (by have:=hR.1;omega)]
  have a:=(take_get hP hR hk (show 0≤n+1 by omega) qf (q:=q) qf).1
  have d: -n * (parts[k]!)[q]! = -(n * (parts[k]!)[q]!):=Int.neg_mul ..
  have e: -(n+1) * (parts[k]!)[q]! = -((n+1) * (parts[k]!)[q]!):=Int.neg_mul ..
  have g:(n+1) * (parts[k]!)[q]! =n * (parts[k]!)[q]! +(parts[k]!)[q]! :=by rw [Int.add_mul,Int.one_mul]
  omega
theorem within_none {K:Nat} {parts:yLL} {rest:yLI} (hP:PartsOk K parts) (hR:RestOk K rest) {k:Nat} (hk:k < parts.length) (hb:jA (parts[k]!) rest < 1000):
    within (parts[k]!) (jH rest (parts[k]!) (-(jA (parts[k]!) rest)))=false:=by
  rw [Bool.eq_false_iff]
  intro hw
  rw [within_iff] at hw
  obtain ⟨hl,hbb,_⟩:=hP k hk
  have key:∀ j,j≤(parts[k]!).length→jA (parts[k]!) rest+1≤Qh (parts[k]!) rest j:=by
    intro j
    induction j with
    | zero=>intro _;rw [Qh];omega
    | succ j ih=>
      intro hj
      have hi:=ih qf
      rw [Qh]
      split
      · next hpos=>
        have h1:=hw j qf
        rw [plus_get (by have:=hR.1;omega)] at h1
        have e: -(jA (parts[k]!) rest) * (parts[k]!)[j]! = -(jA (parts[k]!) rest * (parts[k]!)[j]!):=Int.neg_mul ..
        have g:(jA (parts[k]!) rest+1) * (parts[k]!)[j]! =jA (parts[k]!) rest * (parts[k]!)[j]! +(parts[k]!)[j]! :=by rw [Int.add_mul,Int.one_mul]
        have:=(Int.le_ediv_iff_mul_le hpos).2 (show (jA (parts[k]!) rest+1) * (parts[k]!)[j]! ≤rest[j]! by omega)
        omega
      · exact hi
  have:=key _ (Nat.le_refl _)
  unfold jA at this
  omega
theorem within_less {K:Nat} {l m m' :yLI} (hl:l.length=K) (h:within l m=false) (hle:∀ q,q < K→m'[q]! ≤m[q]!):within l m' =false:=by
  rw [Bool.eq_false_iff] at h ⊢
  intro hw
  rw [within_iff] at hw
  exact h (within_iff.2 fun q hq=>Int.le_trans (hw q hq) (hle q qf))
def Few (K:Nat) (rest:yLI):Prop:=∀ q,q < K→rest[q]! ≤16
theorem Few.take {K:Nat} {parts:yLL} {rest:yLI} (hF:Few K rest) (hP:PartsOk K parts) (hR:RestOk K rest) {k:Nat} (hk:k < parts.length) {n:Int} (h0:0≤n) (h1:n≤jA (parts[k]!) rest):Few K (jH rest (parts[k]!) (-n)):=fun q hq=>by
  rw [plus_get (by have:=hR.1;omega)]
  have:=take_get hP hR hk h0 h1 hq
  have:=hF q hq
  omega
theorem times_few {K:Nat} {parts:yLL} {rest:yLI} (hF:Few K rest) (hP:PartsOk K parts) (hR:RestOk K rest) {k:Nat} (hk:k < parts.length):jA (parts[k]!) rest≤16:=by
  obtain ⟨hl,hb,j,hj,hpos⟩:=hP k hk
  have h1:=timesTo_le (l:=parts[k]!) (m:=rest) (k:=(parts[k]!).length) (j:=j) qf hpos
  have h2:rest[j]! / (parts[k]!)[j]! ≤16:=by
    exact Int.le_trans (Int.ediv_le_self _ (hR.2 j hj).1) (hF j hj)
  unfold jA
  omega
theorem packs_ne {K:Nat} {parts:yLL} (hP:PartsOk K parts):∀ (f k:Nat) (rest:yLI),k+f=parts.length→RestOk K rest→Few K rest→FullTo parts rest k→packs parts f k rest≠[]
  | 0,k,rest,hk,hR,hF,hT=>by
    rw [packs_full (fun i hi=>hT i qf)];simp
  | f+1,k,rest,hk,hR,hF,hT=>by
    have hb:=times_bd hP hR (k:=k) qf
    have h16:=times_few hF hP hR (k:=k) qf
    have h1:=packs_ne hP f (k+1) (jH rest (parts[k]!) (-(jA (parts[k]!) rest))) qf (hR.take hP qf hb.1 (Int.le_refl _)) (hF.take hP hR qf hb.1 (Int.le_refl _)) (by
      refine FullTo.succ (fun i hi=>?_) (within_none hP hR qf qf)
      refine within_less (K:=K) (hP i qf).1 (hT i hi) fun q hq=>?_
      rw [plus_get (by have:=hR.1;omega)]
      exact (take_get hP hR qf hb.1 (Int.le_refl _) hq).2)
    obtain ⟨x,hx⟩:=List.exists_mem_of_ne_nil _ h1
    refine List.ne_nil_of_mem (a:=jA (parts[k]!) rest :: x) ?_
    rw [packs,List.mem_flatMap]
    have e:(((jA (parts[k]!) rest).toNat:Nat):Int)=jA (parts[k]!) rest:=by omega
    refine ⟨(jA (parts[k]!) rest).toNat,List.mem_range.2 qf,List.mem_map.2 ⟨x,?_,by rw [e]⟩⟩
    rw [e];exact hx
theorem packs_few {K:Nat} {parts:yLL} (hP:PartsOk K parts):∀ (f k:Nat) (rest:yLI),k+(f+1)=parts.length→RestOk K rest→Few K rest→(packs parts (f+1) k rest).length≤17 ^ f
  | 0,k,rest,hk,hR,hF=>by
    have hb:=times_bd hP hR (k:=k) qf
    rw [packs_succ,packsTo_succ,List.length_append,List.length_map]
    have h1:jS parts 0 k rest (jA (parts[k]!) rest).toNat=[]:=by
      rw [jS,List.flatMap_eq_nil_iff]
      intro n hn
      rw [List.mem_range] at hn
      rw [packs_none (fun h=>?_),List.map_nil]
      have h2:=within_more hP hR (k:=k) qf (n:=(n:Int)) qf qf
      rw [h k qf] at h2
      cases h2
    rw [h1,List.length_nil,Nat.zero_add,packs]
    split <;> simp
  | f+1,k,rest,hk,hR,hF=>by
    have hb:=times_bd hP hR (k:=k) qf
    have h16:=times_few hF hP hR (k:=k) qf
    rw [packs]
    refine Nat.le_trans (fmap_le (c:=17 ^ f) _ _ fun n hn=>?_) ?_
    · rw [List.mem_range] at hn
      rw [List.length_map]
      exact packs_few hP f (k+1) _ qf (hR.take hP qf qf qf) (hF.take hP hR qf qf qf)
    · rw [List.length_range,Nat.pow_succ,Nat.mul_comm]
      exact Nat.mul_le_mul_left _ qf
theorem sum_few {K:Nat} {rest:yLI} (hR:RestOk K rest) (h:QM rest≤16):Few K rest:=by
  have key:∀ n,n≤rest.length→0≤sumTo rest n∧∀ q,q < n→rest[q]! ≤sumTo rest n:=by
    intro n
    induction n with
    | zero=>intro _;exact ⟨by simp [sumTo],fun q hq=>by omega⟩
    | succ n ih=>
      intro hn
      have hi:=ih qf
      have hr:=hR.2 n (by have:=hR.1;omega)
      rw [sumTo]
      refine ⟨by omega,fun q hq=>?_⟩
      by_cases e:q=n
      · subst e;omega
      · have:=hi.2 q qf;omega
  intro q hq
  have:=(key rest.length (Nat.le_refl _)).2 q (by have:=hR.1;omega)
  unfold QM at h
  omega
end
section
open Go.Proofs.Tryz
open Go.RowKit
set_option linter.unusedVariables false
set_option linter.unusedSimpArgs false
set_option maxRecDepth 100000
set_option maxHeartbeats 4000000
theorem l01Full_ok (w:World) (rest:yLI) (parts:yLL) {arest:yOA} {crest:Nat} {Frest:yLN} {zD:yOA} {zt:Nat} {Fparts:yLN} (hrest:qO.rep w Frest [.slice arest rest.length crest] rest) (hparts:qO.rep w Fparts [.slice zD parts.length zt] parts) (p0:X6 parts rest):Calls Tryz.prog 221 #[.slice arest rest.length crest,.slice zD parts.length zt] w (Ret (fun v w' =>v=.bool (dec (FullOk parts rest))) w):=by
 refine en func221 ntmps221 ?_
 have H:=((St.start w).arg hparts).arg hrest
 have nhrest:=qM hrest
 have nhparts:=qM hparts
 clear hrest hparts
 have N:=Fresh.nil w.heap.size
 refine zcr (sp (.bool false) (zjcc (sp (yI 0) (zjn (qY ?_)))))
 refine zq ((fun Z0 Z1=>fun m' ρ w1=>∃ (xM:Env) (i:Nat),ρ=upd (upd (upd xM 0 (.slice arest rest.length crest)) 1 (.slice zD parts.length zt)) 5 (yI i)∧((i:Int)≤parts.length)∧(FullTo parts rest i)∧m' =(parts.length - (i:Int)).toNat∧Fresh w.heap.size []∧St w w1 [] [Z0,Z1]) _ _) ((parts.length - (0:Int)).toNat) ⟨_,0,uE3,qf,qx,rfl,N,H⟩ ?_
 clear H N
 rintro m' ρ w2 ⟨xM,i,rfl,i0,i1,rfl,N,H⟩
 refine zcc (sp (yI i) (sq 1 (oN rfl (sq 1 (zjn (cD rfl (fun h3=>?_) (fun h3=>?_)))))))
 ·skip
  refine qW (t_n (xQ (qY (zcr (sq 1 (sp (yI i) ?_))))))
  obtain ⟨b4,o5,rfl⟩:=H.addr 1 rfl qf
  obtain ⟨ae7,ce7,Fe7,H⟩:=H.vX 1 rfl i i qf qf qf
  refine oI rfl rfl (oL rfl (H.x8 1 rfl 0 rfl) (sq 1 ?_))
  obtain ⟨t1,t2⟩:=p0.times (k:=i) qf
  refine sw (oq (l01Within_ok _ (parts[i]!) rest (H.get 0 rfl).1 (H.get 2 rfl).1 qg) H fun w9 H=>zjn (xE _ rfl (fun h11=>?_) (fun h11=>?_)))
  ·skip
   refine zcr (sp (.bool false) (zjr (zr5 (ret1 (.bool false) rfl rfl ⟨_,rfl,?_,H.base⟩))))
   rw [xk (fun h=>by have:=h i qf;simp_all)]
  refine qW (b_n (t_n (xU (sp (yI i) (sw (zA i 1 rfl rfl qf (sq 1 (xY (xe (m' :=(parts.length - ((i+1):Int)).toNat) qf ⟨_,i+1,uE3,?_,?_,rfl,N,H.pick [] [2,3]⟩)))))))))
  · omega
  · exact i1.succ ‹_›
 refine zx4 (zcr (sp (.bool true) (zjr (ret1 (.bool true) rfl rfl ⟨_,rfl,?_,H.base⟩))))
 rw [jY (show FullOk parts rest from fun j hj=>i1 j qf)]

def l01Pack_ok_S (f:Nat):Prop:=∀ {W0 w:World} {ps:List Prv} {Γ:List Fact} {Ns:List yLN} (rest:yLI) (parts:yLL) (jv:yLI) (out:yLL) (arest:yOA) (crest:Nat) (Frest:yLN) (zD:yOA) (zt:Nat) (Fparts:yLN) (abegin:yOA) (cbegin:Nat) (Fbegin:yLN) (bout:Nat) (raout:yOA) (rnout:Nat) (rcout:Nat) (rxout:List Value) (rFout:yLN) (H:St W0 w ((.box bout [.slice raout rnout rcout] 29) :: (rr raout rnout rcout 24 1 rxout) :: ps) ((sF false Frest arest crest rest) :: (sF false Fparts zD zt parts) :: (sF false Fbegin abegin cbegin jv) :: (xB true rFout rxout out) :: Γ)) (N:Fresh W0.heap.size (rFout :: Ns)) (K0:Kept Ns Γ) (p0:jv.length+f=parts.length) (p1:X6 parts rest) (p2:out.length≤2000),Calls Tryz.prog 213 #[.slice arest rest.length crest,.slice zD parts.length zt,.slice abegin jv.length cbegin,pp bout 0] w (fun e w' =>∃ v,e=.returned v∧∃ (raout_:yOA) (rnout_:Nat) (rcout_:Nat) (rxout_:List Value) (rFout_:yLN),v=.tuple #[]∧Fresh W0.heap.size (rFout_ :: Ns)∧St W0 w' ((.box bout [.slice raout_ rnout_ rcout_] 29) :: (rr raout_ rnout_ rcout_ 24 1 rxout_) :: ps) ((sF false Frest arest crest rest) :: (sF false Fparts zD zt parts) :: (sF false Fbegin abegin cbegin jv) :: (xB true rFout_ rxout_ (gath out (begins jv (packs parts (parts.length - jv.length) jv.length rest)))) :: Γ))
theorem l01Pack_ok_step (f:Nat) (IH:∀ k,k < f→l01Pack_ok_S k) {W0 w:World} {ps:List Prv} {Γ:List Fact} {Ns:List yLN} (rest:yLI) (parts:yLL) (jv:yLI) (out:yLL) (arest:yOA) (crest:Nat) (Frest:yLN) (zD:yOA) (zt:Nat) (Fparts:yLN) (abegin:yOA) (cbegin:Nat) (Fbegin:yLN) (bout:Nat) (raout:yOA) (rnout:Nat) (rcout:Nat) (rxout:List Value) (rFout:yLN) (H:St W0 w ((.box bout [.slice raout rnout rcout] 29) :: (rr raout rnout rcout 24 1 rxout) :: ps) ((sF false Frest arest crest rest) :: (sF false Fparts zD zt parts) :: (sF false Fbegin abegin cbegin jv) :: (xB true rFout rxout out) :: Γ)) (N:Fresh W0.heap.size (rFout :: Ns)) (K0:Kept Ns Γ) (p0:jv.length+f=parts.length) (p1:X6 parts rest) (p2:out.length≤2000):Calls Tryz.prog 213 #[.slice arest rest.length crest,.slice zD parts.length zt,.slice abegin jv.length cbegin,pp bout 0] w (fun e w' =>∃ v,e=.returned v∧∃ (raout_:yOA) (rnout_:Nat) (rcout_:Nat) (rxout_:List Value) (rFout_:yLN),v=.tuple #[]∧Fresh W0.heap.size (rFout_ :: Ns)∧St W0 w' ((.box bout [.slice raout_ rnout_ rcout_] 29) :: (rr raout_ rnout_ rcout_ 24 1 rxout_) :: ps) ((sF false Frest arest crest rest) :: (sF false Fparts zD zt parts) :: (sF false Fbegin abegin cbegin jv) :: (xB true rFout_ rxout_ (gath out (begins jv (packs parts (parts.length - jv.length) jv.length rest)))) :: Γ)):=by
 refine en func213 ntmps213 ?_
 have nhrest:=qM (H.get 0 rfl).1
 have nhparts:=qM (H.get 1 rfl).1
 have nhbegin:=qM (H.get 2 rfl).1
 obtain rfl:=H.xK (α:=yLI) 1 rfl 3 rfl qj
 have p3:=p1.small
 refine zcr (sq 1 (oN rfl (sq 1 (zjcc (sq 2 (oN rfl (sq 1 (zjn (cE rfl (fun h1=>?_) (fun h1=>?_))))))))))
 ·skip
  refine zcc (sq 2 (sw (oq (l01Full_ok _ rest parts (H.get 0 rfl).1 (H.get 1 rfl).1 qg) H fun w3 H=>zjn (cP rfl (fun h5=>?_) (fun h5=>?_)))))
  ·skip
   refine c_cut (fun ρ w11=>∃ (xM:Env) (a6:yOA) (c7:Nat) (a8:yOA) (c9:Nat) (G10:yLN),ρ=xM∧Fresh W0.heap.size ((rFout++G10) :: Ns)∧St W0 w11 ((.box bout [.slice a6 (out.length+1) c7] 29) :: (rr a6 (out.length+1) c7 24 1 (rxout++[.slice a8 jv.length c9])) :: ps) ((xB true (rFout++G10) (rxout++[.slice a8 jv.length c9]) (out++[jv])) :: (sF true G10 a8 c9 jv) :: (sF false Frest arest crest rest) :: (sF false Fparts zD zt parts) :: (sF false Fbegin abegin cbegin jv) :: Γ)) ?_ ?_
   ·skip
    refine XL rfl H [] [0,1,2,3] fun H=>?_
    have S:=H.jo [] [0,1,2,3]
    refine rtl 0 S ?_
    refine rtl 1 S ?_
    refine rtl 2 S ?_
    refine rtl 4 S ?_
    refine zY [3,5] qh qm (jd rfl ?_ (jd rfl ?_ zZ))
    ·skip
     refine zl (.slice raout out.length rcout) isAgg29 rfl (H.cell 0 rfl rfl) (⟨H.pick [] [0,1,2,3],(ro 5 rfl ?_)⟩)
     have sz13:=H.base.size
     have lt14:=all_two (H.ltN (L:=[rFout]) [3]) (H.ltK (K0.behind 4 rfl))
     refine oc (Xc _ jv (H.get 2 rfl).1 qg) ?_
     rintro v18 w16 r18 x17
     replace H:=H.zC x17 r18
     obtain ⟨a19,c20,rfl,hc21,hm22⟩:=H.jq 0 rfl
     refine ⟨H.pick [] [0,1,2,3],(ro 6 rfl (zf H underlying29 ti24 [.slice a19 jv.length c20] fun b23 w24 H=>⟨H.pick [] [0,1,2,3],(ro 7 rfl ?_)⟩))⟩
     obtain ⟨G28,N,hn29,H⟩:=H.zG 1 rfl N (fun F hF b hb=>(List.mem_append.1 (show F∈[rFout]++Ns from hF)).elim (fun h=>(H.vS (L:=[rFout]) [3]) F h b hb) fun h=>H.QW (K0.behind 4 rfl) F h b hb)
     try dsimp only [List.set] at H
     refine zk H 3 rfl 0 rfl underlying29 ti24 rfl qj rfl rfl rfl qw qp qf fun a25 c26 w27 H=>?_
     try dsimp only [List.set] at H
     replace H:=H.jM 4 rfl 0 rfl
     replace N:Fresh W0.heap.size ((rFout++G28) :: Ns):=(N.zV 2 [1,0] qo).join
     refine ⟨H.pick [] [2,3,4,5],(rtl 8 (H.pick [] [2,3,4,5]) ?_)⟩
     refine ro 9 rfl (xO H 2 [.slice a25 (out.length+1) c26] sizeOf29 fun w30 H=>?_)
     try dsimp only [List.set] at H
     refine ⟨H.pick [] [2,3,4,5],(xq qh ((meet ⟨_,a25,c26,a19,c20,G28,(by exact rfl),N,H.zV 4 6 [2,3] [0,1,2,3,4] qo qo⟩)))⟩
    have sz31:=H.base.size
    have lt32:=all_two (H.ltN (L:=[rFout]) [3]) (H.ltK (K0.behind 4 rfl))
    refine oc (Xc _ jv (H.get 2 rfl).1 qg) ?_
    rintro v36 w34 r36 x35
    replace H:=H.zC x35 r36
    obtain ⟨a37,c38,rfl,hc39,hm40⟩:=H.jq 0 rfl
    refine ⟨H.pick [] [0,1,2,3],(zY [3,6] qh qm (jd rfl ?_ (jd rfl ?_ zZ)))⟩
    ·skip
     refine zl (.slice raout out.length rcout) isAgg29 rfl (H.cell 1 rfl rfl) (⟨H.pick [] [0,1,2,3],(ro 6 rfl (zf H underlying29 ti24 [.slice a37 jv.length c38] fun b41 w42 H=>⟨H.pick [] [0,1,2,3],(ro 7 rfl ?_)⟩))⟩)
     obtain ⟨G46,N,hn47,H⟩:=H.zG 1 rfl N (fun F hF b hb=>(List.mem_append.1 (show F∈[rFout]++Ns from hF)).elim (fun h=>(H.vS (L:=[rFout]) [3]) F h b hb) fun h=>H.QW (K0.behind 4 rfl) F h b hb)
     try dsimp only [List.set] at H
     refine zk H 3 rfl 0 rfl underlying29 ti24 rfl qj rfl rfl rfl qw qp qf fun a43 c44 w45 H=>?_
     try dsimp only [List.set] at H
     replace H:=H.jM 4 rfl 0 rfl
     replace N:Fresh W0.heap.size ((rFout++G46) :: Ns):=(N.zV 2 [1,0] qo).join
     refine ⟨H.pick [] [2,3,4,5],(rtl 8 (H.pick [] [2,3,4,5]) ?_)⟩
     refine ro 9 rfl (xO H 2 [.slice a43 (out.length+1) c44] sizeOf29 fun w48 H=>?_)
     try dsimp only [List.set] at H
     refine ⟨H.pick [] [2,3,4,5],(xq qh ((meet ⟨_,a43,c44,a37,c38,G46,(by exact rfl),N,H.zV 4 6 [2,3] [0,1,2,3,4] qo qo⟩)))⟩
    refine zf H underlying29 ti24 [.slice a37 jv.length c38] fun b49 w50 H=>⟨H.pick [] [0,1,2,3],(ro 3 rfl (zl (.slice raout out.length rcout) isAgg29 rfl (H.cell 2 rfl rfl) (⟨H.pick [] [0,1,2,3],(ro 7 rfl ?_)⟩)))⟩
    obtain ⟨G54,N,hn55,H⟩:=H.zG 1 rfl N (fun F hF b hb=>(List.mem_append.1 (show F∈[rFout]++Ns from hF)).elim (fun h=>(H.vS (L:=[rFout]) [3]) F h b hb) fun h=>H.QW (K0.behind 4 rfl) F h b hb)
    try dsimp only [List.set] at H
    refine zk H 3 rfl 0 rfl underlying29 ti24 rfl qj rfl rfl rfl qw qp qf fun a51 c52 w53 H=>?_
    try dsimp only [List.set] at H
    replace H:=H.jM 4 rfl 0 rfl
    replace N:Fresh W0.heap.size ((rFout++G54) :: Ns):=(N.zV 2 [1,0] qo).join
    refine ⟨H.pick [] [2,3,4,5],(rtl 8 (H.pick [] [2,3,4,5]) ?_)⟩
    refine ro 9 rfl (xO H 2 [.slice a51 (out.length+1) c52] sizeOf29 fun w56 H=>?_)
    try dsimp only [List.set] at H
    refine ⟨H.pick [] [2,3,4,5],(xq qh ((meet ⟨_,a51,c52,a37,c38,G54,(by exact rfl),N,H.zV 4 6 [2,3] [0,1,2,3,4] qo qo⟩)))⟩
   clear H N
   rintro ρ w57 ⟨xM,a6,c7,a8,c9,G10,rfl,N,H⟩
   refine t_n (c_ret (t_r (ret0' rfl ⟨_,rfl,?_⟩)))
   rw [pack_full qf ‹_› p2]
   exact ⟨a6,out.length+1,c7,rxout++[Value.slice a8 jv.length c9],(rFout++G10),rfl,N,H.zV 2 5 [0,1] [2,3,4,0] qo qo⟩
  refine qW (t_n (c_ret (t_r (ret0' rfl ⟨_,rfl,?_⟩))))
  rw [pack_none qf ‹_› p2]
  exact ⟨raout,out.length,rcout,rxout,rFout,rfl,N,H.zV 2 4 [0,1] [0,1,2,3] qo qo⟩
 refine qW (t_n (zcr (sp (yI 0) (zjn (qY ?_)))))
 obtain ⟨t1,t2,t3,t4,t5,t6⟩:=p1.times (k:=jv.length) qf
 refine zq (fun m' ρ w58=>∃ (xM:Env) (n:Nat) (yf:yOA) (ja:Nat) (jT:Nat) (out_1:yLL) (Xn:List Value) (y7:yLN),ρ=upd (upd (upd (upd (upd (upd xM 0 (.slice arest rest.length crest)) 1 (.slice zD parts.length zt)) 2 (.slice abegin jv.length cbegin)) 3 (pp bout 0)) 8 (yI jv.length)) 9 (yI n)∧out_1=gath out (begins jv (jS parts (f - 1) jv.length rest n))∧((n:Int)≤jA (parts[jv.length]!) rest+1)∧m' =(jA (parts[jv.length]!) rest+1 - (n:Int)).toNat∧Fresh W0.heap.size (y7 :: Ns)∧St W0 w58 ((.box bout [.slice yf ja jT] 29) :: (rr yf ja jT 24 1 Xn) :: ps) ((sF false Frest arest crest rest) :: (sF false Fparts zD zt parts) :: (sF false Fbegin abegin cbegin jv) :: (xB true y7 Xn out_1) :: Γ)) ((jA (parts[jv.length]!) rest+1 - (0:Int)).toNat) ⟨_,0,raout,out.length,rcout,out,rxout,rFout,uE6,(by exact pack_start p2),qf,rfl,N,H⟩ ?_
 clear H N
 rintro m' ρ w59 ⟨xM,n,yf,ja,jT,out_1,Xn,y7,rfl,rfl,i0,rfl,N,H⟩
 have hn_out:=H.xK (α:=yLI) 1 rfl 3 rfl qj
 have gl:=gath_len out (begins jv (jS parts (f - 1) jv.length rest n))
 refine zcc (sp (yI n) (sq 2 ?_))
 obtain ⟨b60,o61,rfl⟩:=H.addr 1 rfl qf
 obtain ⟨ae63,ce63,Fe63,H⟩:=H.vX 1 rfl jv.length jv.length qf qf qf
 refine oI rfl rfl (oL rfl (H.x8 1 rfl 0 rfl) (sq 1 ?_))
 obtain ⟨t1,t2,t3,t4,t5,t6⟩:=p1.times (k:=jv.length) qf
 refine sw (oq (l01Times_ok _ (parts[jv.length]!) rest (H.get 0 rfl).1 (H.get 2 rfl).1 qg qg qg) H fun w65 H=>sp (.bool (decide ((n:Int)≤(jA (parts[jv.length]!) rest)))) (sp (.bool (decide ((n:Int)≤(jA (parts[jv.length]!) rest)))) ?_))
 cases h67:(decide ((n:Int)≤(jA (parts[jv.length]!) rest)))
 ·skip
  replace h67:=of_decide_eq_false h67
  refine xZ [37,38,39,40,41] (sp (.bool false) (zjn (xE false rfl (fun h=>absurd h qj) (fun _=>c_exit (t_x (t_x (b_x (ret0 rfl ⟨_,rfl,?_⟩))))))))
  rw [pack_end p0 qf qf qf (by first | (left;omega) | (right;omega))]
  exact ⟨yf,ja,jT,Xn,y7,rfl,N,H.zV 2 6 [0,1] [2,3,4,5] qo qo⟩
 replace h67:=of_decide_eq_true h67
 refine qL 36 rfl rfl (sq 1 (qL 36 rfl rfl (sq 1 (qL 36 rfl rfl (oL rfl (H.cell 0 rfl rfl) (qL 36 rfl rfl (oN rfl (qL 36 rfl rfl (sp (.bool (decide ((ja:Int)≤2000))) (sp (.bool (decide ((ja:Int)≤2000))) (zjn (cD rfl (fun h68=>?_) (fun h68=>?_)))))))))))))
 ·skip
  refine qW (t_n (xQ (qY (xU (sq 3 (oI rfl rfl (oL rfl (H.x8 1 rfl 0 rfl) (sp (yI n) (sw (o_neg n rfl qf ?_))))))))))
  obtain ⟨u1,u2,u3,u4⟩:=p1.plus (k:=jv.length) qf (n:=(n:Int)) qf qf
  have sz69:=H.base.size
  have lt70:=all_two (H.ltN (L:=[y7]) [5]) (H.ltK (K0.behind 6 rfl))
  refine sw (oc (Xi _ rest (parts[jv.length]!) (-n) (H.get 2 rfl).1 (H.get 0 rfl).1 qg qg qg) ?_)
  rintro v74 w72 r74 x73
  replace H:=H.zC x73 r74
  obtain ⟨a75,c76,rfl,hc77,hm78⟩:=H.jq 0 rfl
  refine sq 2 ?_
  have sz79:=H.base.size
  have lt80:=all_two (H.ltN (L:=[y7]) [5]) (H.ltK (K0.behind 6 rfl))
  refine sw (oc (Xc _ jv (H.get 4 rfl).1 qg) ?_)
  rintro v84 w82 r84 x83
  replace H:=H.zC x83 r84
  obtain ⟨a85,c86,rfl,hc87,hm88⟩:=H.jq 0 rfl
  refine sp (yI n) (sw (zf H underlying24 ti2 [yI n] fun b89 w90 H=>sw (zk H 1 rfl 0 rfl underlying24 ti2 rfl qj rfl rfl rfl qw qp qf fun a91 c92 w93 H=>?_)))
  rw [snocI] at H
  try dsimp only [List.set] at H
  refine sq 1 ?_
  obtain ⟨G94,N,hn95,H⟩:=H.zG 2 rfl N (fun F hF b hb=>(List.mem_append.1 (show F∈[y7]++Ns from hF)).elim (fun h=>(H.vS (L:=[y7]) [5]) F h b hb) fun h=>H.QW (K0.behind 6 rfl) F h b hb)
  try dsimp only [List.set] at H
  replace H:=H.unfreeI 0 rfl
  obtain ⟨G96,N,hn97,H⟩:=H.zG 1 rfl N (fun F hF b hb=>(List.mem_append.1 (show F∈[G94,y7]++Ns from hF)).elim (fun h=>(H.vS (L:=[G94,y7]) [0,7]) F h b hb) fun h=>H.QW (K0.behind 8 rfl) F h b hb)
  try dsimp only [List.set] at H
  replace H:=H.unfreeI 0 rfl
  have hn98:=H.isLen 0 rfl
  have H1:St W0 w93 ((.box bout [.slice yf ja jT] 29) :: (.row (.slice yf ja jT) 24 1 ja Xn) :: (.box b89 [yI n] 2) :: (.row yN 0 1 0 []) :: (.row yN 0 1 0 []) :: ps) ((isF false G94 (.slice a75 ((jH rest (parts[jv.length]!) (-n)).length) c76) (jH rest (parts[jv.length]!) (-n))) :: (isF false Fparts (.slice (aa b60 o61) parts.length zt) parts) :: (isF false G96 (.slice a91 ((jv++[(n:Int)]).length) c92) (jv++[(n:Int)])) :: (xB true y7 Xn (gath out (begins jv (jS parts (f - 1) jv.length rest n)))) :: (isF false G96 (.slice a91 (jv.length+1) c92) (jv++[(n:Int)])) :: (isF true G96 (.slice a91 (jv.length+1) c92) (jv++[(n:Int)])) :: (isF false G94 (.slice a75 ((jH rest (parts[jv.length]!) (-n)).length) c76) (jH rest (parts[jv.length]!) (-n))) :: (isF true G94 (.slice a75 ((jH rest (parts[jv.length]!) (-n)).length) c76) (jH rest (parts[jv.length]!) (-n))) :: (isF false Fe63 (.slice ae63 ((parts[jv.length]!).length) ce63) (parts[jv.length]!)) :: (atF b60 (o61+(jv.length:Int).toNat * 1) [.slice ae63 ((parts[jv.length]!).length) ce63]) :: (isF false Frest (.slice arest rest.length crest) rest) :: (isF false Fparts (.slice (aa b60 o61) parts.length zt) parts) :: (isF false Fbegin (.slice abegin jv.length cbegin) jv) :: Γ):=by (try rw [← hn98]);exact H.zV 5 10 [3,4,0,1,2] [2,7,0,9,0,1,2,3,4,5,6,7,8] qo qo
  have N1:Fresh _ (y7 :: G96 :: G94 :: Ns):=(N.zV 3 [2,0,1] qo)
  have K1:Kept (Ns) ((isF false G96 (.slice a91 (jv.length+1) c92) (jv++[(n:Int)])) :: (isF true G96 (.slice a91 (jv.length+1) c92) (jv++[(n:Int)])) :: (sF false G94 a75 c76 (jH rest (parts[jv.length]!) (-n))) :: (sF true G94 a75 c76 (jH rest (parts[jv.length]!) (-n))) :: (sF false Fe63 ae63 ce63 (parts[jv.length]!)) :: (atF b60 (o61+(jv.length:Int).toNat * 1) [.slice ae63 ((parts[jv.length]!).length) ce63]) :: (sF false Frest arest crest rest) :: (sF false Fparts (aa b60 o61) zt parts) :: (sF false Fbegin abegin cbegin jv) :: Γ):=K0.behind 9 rfl
  replace K1:=K1.cons (F:=G94) 2 rfl rfl
  replace K1:=K1.cons (F:=G96) 0 rfl rfl
  refine sw (zJ #[.slice a75 ((jH rest (parts[jv.length]!) (-n)).length) c76,.slice (aa b60 o61) parts.length zt,.slice a91 (jv.length+1) c92,pp bout 0] rfl rfl call213 (XY (by first | rfl | rw [hn98]) (IH (f - 1) qf (jH rest (parts[jv.length]!) (-n)) parts (jv++[(n:Int)]) (gath out (begins jv (jS parts (f - 1) jv.length rest n))) a75 c76 G94 (aa b60 o61) zt Fparts a91 c92 G96 bout yf ja jT Xn y7 H1 N1 K1 (by simp only [List.length_append,List.length_cons,List.length_nil];omega) (by first | assumption | exact u4) (by first | assumption | (simp only [List.length_nil];omega) | omega))) ?_)
  clear H H1 N1 K1
  rintro _ w99 ⟨ra100,rn100,rc100,rx100,rF100,rfl,N,H⟩
  obtain rfl:=H.xK (α:=yLI) 1 rfl 3 rfl qj
  refine xY (b_n (t_n (xU (sp (yI n) (sw (zA n 1 rfl rfl qf (sq 1 (xY (xe (m' :=(jA (parts[jv.length]!) rest+1 - ((n+1):Int)).toNat) qf ⟨_,n+1,_,_,_,_,_,_,uE6,?_,?_,rfl,(N.zV 3 [0] qo),H.zV 5 13 [0,1] [10,11,12,3] qo qo⟩)))))))))
  · exact pack_step p0 qf qf
  · omega
 refine c_exit (t_x (t_x (b_x (ret0 rfl ⟨_,rfl,?_⟩))))
 rw [pack_end p0 qf qf qf (by first | (left;omega) | (right;omega))]
 exact ⟨yf,ja,jT,Xn,y7,rfl,N,H.zV 2 6 [0,1] [2,3,4,5] qo qo⟩

theorem l01Pack_ok (f:Nat):l01Pack_ok_S f:=Nat.strongRecOn (motive:=l01Pack_ok_S) f fun f IH=>by unfold l01Pack_ok_S;intros;apply l01Pack_ok_step f IH <;> assumption

theorem l01All_ok (w:World) (b:yLI) (parts:yLL) {ab:yOA} {cb:Nat} {Fb:yLN} {zD:yOA} {zt:Nat} {Fparts:yLN} (hb:qO.rep w Fb [.slice ab b.length cb] b) (hparts:qO.rep w Fparts [.slice zD parts.length zt] parts) (p0:X6 parts b):Calls Tryz.prog 190 #[.slice ab b.length cb,.slice zD parts.length zt] w (Ret (fun v w' =>∃ (ra0:yOA) (rn0:Nat) (rc0:Nat) (rx0:List Value) (rF0:yLN),v=.tuple #[.slice ra0 rn0 rc0,yI ((jV b parts).2)]∧Fresh w.heap.size [rF0]∧St w w' [rr ra0 rn0 rc0 24 1 rx0] [xB true rF0 rx0 ((jV b parts).1)]) w):=by
 refine en func190 ntmps190 ?_
 have H:=((St.start w).arg hparts).arg hb
 have nhb:=qM hb
 have nhparts:=qM hparts
 clear hb hparts
 have N:=Fresh.nil w.heap.size
 have p3:=p0.small
 have p4:=p0.smallB
 refine zcr (sq 1 (sp (yI 0) (zjcc (sq 1 (sw (oq (XG _ b (H.get 0 rfl).1 (by first | assumption | exact vg ql | exact yB ql)) H fun w1 H=>sp (.bool (decide ((QM b:Int) > 16))) (zjn (cD rfl (fun h3=>?_) (fun h3=>?_)))))))))
 ·skip
  refine zcr (sw (vU H underlying29 ti24 fun b4 w5 H=>sq 1 (sp (yI 3) (zjr (t_r ?_)))))
  replace H:=H.boxRow 0 rfl 1 0 rfl qj
  replace H:=H.zW (α:=yLI)
  refine ret2 (.slice (aa b4 0) 0 0) (yI 3) rfl rfl rfl ⟨_,rfl,?_,H.base⟩
  first | rw [all_a ql] | rw [all_b ql ql]
  exact ⟨(aa b4 0),0,0,[],[],rfl,N.emp,H.pick [0] [0]⟩
 refine qW (t_n (zcr (sw (vU H underlying29 ti24 fun b6 w7 H=>sw (xx H ti29 [yN] fun b8 w9 H=>sw (xO H 0 [.slice (aa b6 0) 0 0] sizeOf29 fun w10 H=>zjc (sq 2 (sw (vU H underlying24 ti2 fun b11 w12 H=>?_)))))))))
 replace H:=H.boxRowI 0 [] 0
 obtain ⟨G13,N,hn14,H⟩:=H.zG 0 rfl N (H.vS [])
 replace H:=H.unfreeI 0 rfl
 have hn15:=H.isLen 0 rfl
 replace H:=H.boxRow 2 rfl 1 0 rfl qj
 replace H:=H.zW (α:=yLI)
 have H1:St w w12 [.box b8 [.slice (aa b6 0) 0 0] 29,.row (.slice (aa b6 0) 0 0) 24 1 0 [],.row yN 0 1 0 []] [isF false Fb (.slice ab b.length cb) b,isF false Fparts (.slice zD parts.length zt) parts,isF false G13 (.slice (aa b11 0) (([]:yLI).length) 0) ([]:yLI),xB true [] [] ([]:yLL),isF false G13 (.slice (aa b11 0) 0 0) ([]:yLI),isF true G13 (.slice (aa b11 0) 0 0) ([]:yLI),isF false Fb (.slice ab b.length cb) b,isF false Fparts (.slice zD parts.length zt) parts]:=by (try rw [← hn15]);exact H.pick [1,2,0] [3,4,1,0,1,2,3,4]
 have N1:Fresh _ [[],G13]:=N.emp
 have K1:Kept [] [isF false G13 (.slice (aa b11 0) 0 0) ([]:yLI),isF true G13 (.slice (aa b11 0) 0 0) ([]:yLI),sF false Fb ab cb b,sF false Fparts zD zt parts]:=Kept.nil _
 replace K1:=K1.cons (F:=G13) 0 rfl rfl
 refine sw (zJ #[.slice ab b.length cb,.slice zD parts.length zt,.slice (aa b11 0) 0 0,pp b8 0] rfl rfl call213 (XY (by first | rfl | rw [hn15]) (l01Pack_ok (parts.length - ([]:yLI).length) b parts ([]:yLI) ([]:yLL) ab cb Fb zD zt Fparts (aa b11 0) 0 G13 b8 (aa b6 0) 0 0 [] [] H1 N1 K1 (by simp only [List.length_append,List.length_cons,List.length_nil];omega) (by first | assumption | exact u4) (by first | assumption | (simp only [List.length_nil];omega) | omega))) ?_)
 clear H H1 N1 K1
 rintro _ w16 ⟨ra17,rn17,rc17,rx17,rF17,rfl,N,H⟩
 obtain rfl:=H.xK (α:=yLI) 1 rfl 3 rfl qj
 refine zjcc (oL rfl (H.cell 0 rfl rfl) (oN rfl (sp (.bool (decide (((gath ([]:yLL) (begins ([]:yLI) (packs parts (parts.length - ([]:yLI).length) ([]:yLI).length b))).length:Int) > 2000))) (zjn (cD rfl (fun h18=>?_) (fun h18=>?_))))))
 ·skip
  refine zcr (sw (vU H underlying29 ti24 fun b19 w20 H=>sq 1 (sp (yI 3) (zjr (t_r ?_)))))
  replace H:=H.boxRow 0 rfl 1 0 rfl qj
  replace H:=H.zW (α:=yLI)
  refine ret2 (.slice (aa b19 0) 0 0) (yI 3) rfl rfl rfl ⟨_,rfl,?_,H.base⟩
  first | rw [all_a ql] | rw [all_b ql ql]
  exact ⟨(aa b19 0),0,0,[],[],rfl,(N.emp.pick [0]),H.pick [0] [0]⟩
 refine qW (t_n (zcr (oL rfl (H.cell 0 rfl rfl) (sq 1 (sp (yI 0) (zjr (ret2 (.slice ra17 ((gath ([]:yLL) (begins ([]:yLI) (packs parts (parts.length - ([]:yLI).length) ([]:yLI).length b))).length) rc17) (yI 0) rfl rfl rfl ⟨_,rfl,?_,H.base⟩)))))))
 rw [all_0 ql ql]
 exact ⟨ra17,(gath ([]:yLL) (begins ([]:yLI) (packs parts (parts.length - ([]:yLI).length) ([]:yLI).length b))).length,rc17,rx17,rF17,rfl,(N.pick [0]),H.pick [1] [3]⟩
end
section

def ahead (a b:yLI):Prop:=∃ i,i < a.length∧(∀ j,j < i→a[j]! =b[j]!)∧a[i]! < b[i]!
def SameTo (a b:yLI) (k:Nat):Prop:=∀ j,j < k→a[j]! =b[j]!
theorem SameTo.succ {a b:yLI} {k:Nat} (h:SameTo a b k) (h1:a[k]! =b[k]!):SameTo a b (k+1):=fun j hj=>by
  by_cases e:j=k
  · subst e;exact h1
  · exact h j qf
theorem ahead_yes {a b:yLI} {k:Nat} (h:SameTo a b k) (hk:k < a.length) (h1:a[k]! < b[k]!):ahead a b:=⟨k,hk,h,h1⟩
theorem ahead_no {a b:yLI} {k:Nat} (h:SameTo a b k) (h1:¬ a[k]! < b[k]!) (h2:a[k]! ≠b[k]!):¬ ahead a b:=by
  rintro ⟨i,hi,hs,hl⟩
  rcases Nat.lt_or_ge i k with hik | hik
  · rw [h i hik] at hl;omega
  · rcases Nat.lt_or_eq_of_le hik with hki | hki
    · exact h2 (hs k hki)
    · subst hki;exact h1 hl
theorem ahead_same {a b:yLI} (h:SameTo a b a.length):¬ ahead a b:=by
  rintro ⟨i,hi,_,hl⟩
  rw [h i hi] at hl;omega
theorem ahead_irr (a:yLI):¬ ahead a a:=ahead_same fun _ _=>rfl
theorem ahead_trans {a b c:yLI} (hab:a.length=b.length) (h1:ahead a b) (h2:ahead b c):ahead a c:=by
  obtain ⟨i,hi,hs,hl⟩:=h1
  obtain ⟨k,hk,ht,hm⟩:=h2
  rcases Nat.lt_or_ge i k with h | h
  · exact ⟨i,hi,fun j hj=>(hs j hj).trans (ht j qf),by rw [← ht i h];exact hl⟩
  · rcases Nat.lt_or_eq_of_le h with h' | h'
    · exact ⟨k,by omega,fun j hj=>(hs j qf).trans (ht j hj),by rw [hs k h'];exact hm⟩
    · subst h'
      exact ⟨k,hi,fun j hj=>(hs j hj).trans (ht j hj),by omega⟩
theorem ahead_tri {a b:yLI} (hl:a.length=b.length) (h1:¬ ahead a b) (h2:¬ ahead b a):a=b:=by
  have key:∀ k,k≤a.length→SameTo a b k:=by
    intro k
    induction k with
    | zero=>intro _ j hj;omega
    | succ k ih=>
      intro hk
      have hs:=ih qf
      refine hs.succ ?_
      apply Classical.byContradiction
      intro hne
      rcases Int.lt_or_gt_of_ne hne with h | h
      · exact h1 ⟨k,by omega,hs,h⟩
      · exact h2 ⟨k,by omega,fun j hj=>(hs j hj).symm,h⟩
  exact ext_get hl fun k hk=>key _ (Nat.le_refl _) k hk
def InOrder (l:yLL):Prop:=l.Pairwise fun a b=>¬ ahead b a
theorem order_one {n:Nat}:∀ {l m:yLL},(∀ x∈l,x.length=n)→l.Perm m→InOrder l→InOrder m→l=m
  | [],m,_,hp,_,_=>(List.Perm.nil_eq hp)
  | x :: l,m,hn,hp,hl,hm=>by
    cases m with
    | nil=>exact absurd hp.length_eq qm
    | cons y m=>
      have hl' :=List.pairwise_cons.1 hl
      have hm' :=List.pairwise_cons.1 hm
      have hy:y∈x :: l:=hp.symm.subset (List.mem_cons_self ..)
      have hx:x∈y :: m:=hp.subset (List.mem_cons_self ..)
      have e:x=y:=by
        rcases List.mem_cons.1 hx with h | h
        · exact h
        · rcases List.mem_cons.1 hy with h' | h'
          · exact h'.symm
          · exact ahead_tri ((hn x (List.mem_cons_self ..)).trans (hn y (List.mem_cons_of_mem _ h')).symm) (hm'.1 x h) (hl'.1 y h')
      subst e
      rw [order_one (fun z hz=>hn z (List.mem_cons_of_mem _ hz)) (List.Perm.cons_inv hp) hl'.2 hm'.2]
def swapAt (l:yLL) (k:Nat):yLL:=(l.set k (l[k - 1]!)).set (k - 1) (l[k]!)
def OrderTo (l:yLL) (k:Nat):Prop:=InOrder (l.take k)
theorem orderTo_iff {l:yLL} {k:Nat} (hk:k≤l.length):OrderTo l k↔∀ i j,i < j→j < k→¬ ahead (l[j]!) (l[i]!):=by
  unfold OrderTo InOrder
  rw [List.pairwise_iff_getElem]
  constructor
  · intro h i j hij hj
    have:=h i j (by rw [List.length_take];omega) (by rw [List.length_take];omega) hij
    rw [List.getElem_take,List.getElem_take] at this
    rwa [getElem!_pos l i qf,getElem!_pos l j qf]
  · intro h i j hi hj hij
    rw [List.length_take] at hi hj
    rw [List.getElem_take,List.getElem_take,← getElem!_pos l i qf,← getElem!_pos l j qf]
    exact h i j hij qf
theorem swap_len (l:yLL) (k:Nat):(swapAt l k).length=l.length:=by simp [swapAt]
theorem swap_get {l:yLL} {k p:Nat} (hk:0 < k) (hl:k < l.length):(swapAt l k)[p]! =if p=k - 1 then l[k]! else if p=k then l[k - 1]! else l[p]! :=by
  unfold swapAt
  rw [getset (by rw [List.length_set];omega),getset hl]
theorem swap_perm {l:yLL} {k:Nat} (hk:0 < k) (hl:k < l.length):(swapAt l k).Perm l:=by
  obtain ⟨j,rfl⟩:∃ j,k=j+1:=⟨k - 1,by omega⟩
  have e1:l=l.take j++(l[j]! :: l[j+1]! :: l.drop (j+2)):=by
    rw [getElem!_pos l j qf,getElem!_pos l (j+1) hl]
    conv=>lhs;rw [← List.take_append_drop j l]
    rw [List.drop_eq_getElem_cons (show j < l.length by omega),List.drop_eq_getElem_cons hl]
  have e2:swapAt l (j+1)=l.take j++(l[j+1]! :: l[j]! :: l.drop (j+2)):=by
    have hlen:(l.take j).length=j:=List.length_take_of_le qf
    refine ext_get (by rw [swap_len];simp;omega) fun p hp=>?_
    rw [swap_len] at hp
    rw [swap_get hk hl]
    have hp' :p < (l.take j++(l[j+1]! :: l[j]! :: l.drop (j+2))).length:=by simp;omega
    rw [getElem!_pos (l.take j++(l[j+1]! :: l[j]! :: l.drop (j+2))) p hp']
    by_cases h1:p < j
    · rw [if_neg qf,if_neg qf,List.getElem_append_left qf,List.getElem_take,getElem!_pos l p hp]
    · rw [List.getElem_append_right qf]
      simp only [hlen]
      by_cases h2:p=j
      · subst h2;simp
      · by_cases h3:p=j+1
        · subst h3;simp
        · rw [if_neg qf,if_neg qf]
          obtain ⟨q,rfl⟩:∃ q,p=j+2+q:=⟨p - (j+2),by omega⟩
          rw [getElem!_pos l _ hp]
          have:j+2+q - j=q+1+1:=by omega
          simp only [this,List.getElem_cons_succ,List.getElem_drop]
  rw [e2]
  conv=>rhs;rw [e1]
  exact List.Perm.append_left _ (List.Perm.swap ..)
def InsTo (l:yLL) (i k:Nat):Prop:=∀ a b,a < b→b≤i→b≠k→¬ ahead (l[b]!) (l[a]!)
theorem InsTo.start {l:yLL} {i:Nat} (h:∀ a b,a < b→b < i→¬ ahead (l[b]!) (l[a]!)):InsTo l i i:=fun a b hab hb hne=>h a b hab qf
theorem InsTo.down {l:yLL} {i k n:Nat} (h:InsTo l i k) (hn:∀ j,j < l.length→(l[j]!).length=n) (hk:0 < k) (hki:k≤i) (hi:i < l.length) (h1:ahead (l[k]!) (l[k - 1]!)):InsTo (swapAt l k) i (k - 1):=by
  intro a b hab hb hne
  have hlk:=hn k qf
  have hlk1:=hn (k - 1) qf
  rw [swap_get hk qf,swap_get hk qf,if_neg hne]
  by_cases hbk:b=k
  · subst hbk
    rw [if_pos rfl]
    by_cases ha:a=b - 1
    · rw [if_pos ha]
      intro h2
      exact ahead_irr _ (ahead_trans qf h1 h2)
    · rw [if_neg ha,if_neg qf]
      exact h a (b - 1) qf qf qf
  · rw [if_neg hbk]
    by_cases ha:a=k - 1
    · rw [if_pos ha];exact h k b qf hb hbk
    · rw [if_neg ha]
      by_cases hak:a=k
      · rw [if_pos hak];exact h (k - 1) b qf hb hbk
      · rw [if_neg hak];exact h a b hab hb hbk
theorem InsTo.stop {l:yLL} {i k n:Nat} (h:InsTo l i k) (hn:∀ j,j < l.length→(l[j]!).length=n) (hki:k≤i) (hi:i < l.length) (h1:k=0∨¬ ahead (l[k]!) (l[k - 1]!)):∀ a b,a < b→b < i+1→¬ ahead (l[b]!) (l[a]!):=by
  intro a b hab hb
  by_cases hbk:b=k
  · subst hbk
    have h1:¬ ahead (l[b]!) (l[b - 1]!):=h1.resolve_left qf
    by_cases ha:a=b - 1
    · subst ha;exact h1
    · intro h2
      have h3:=h a (b - 1) qf qf qf
      have hla:=hn a qf
      have hlb:=hn b qf
      have hlb1:=hn (b - 1) qf
      by_cases h4:ahead (l[a]!) (l[b - 1]!)
      · exact h1 (ahead_trans qf h2 h4)
      · have e:=ahead_tri qf h4 h3
        rw [e] at h2;exact h1 h2
  · exact h a b hab qf hbk
noncomputable def cellT (s:qE) (t:qF) (k c:Nat):yLI:=(applL s t k).filter fun x=>decide ((s.qB[x.toNat]!).qP=(c:Int))
theorem cellT_yes {s:qE} {t:qF} {k c:Nat} (h:Appl s t k) (hc:(s.qB[k]!).qP=(c:Int)):cellT s t k c++[(k:Int)]=cellT s t (k+1) c:=by
  unfold cellT;rw [← applL_yes h,List.filter_append,List.filter_cons_of_pos (by rw [Int.toNat_natCast];exact decide_eq_true hc),List.filter_nil]
theorem Q7 {s:qE} {t:qF} {k c:Nat} (h:¬ Appl s t k):cellT s t k c=cellT s t (k+1) c:=by
  unfold cellT;rw [← applL_no h]
theorem QD {s:qE} {t:qF} {k c:Nat} (h:¬ (s.qB[k]!).qP=(c:Int)):cellT s t k c=cellT s t (k+1) c:=by
  by_cases ha:Appl s t k
  · unfold cellT;rw [← applL_yes ha,List.filter_append,List.filter_cons_of_neg (by rw [Int.toNat_natCast];simpa only [decide_eq_true_eq] using h),List.filter_nil,List.append_nil]
  · exact Q7 ha
def ve (s:qE) (l:yLI):yLL:=l.map fun x=>(s.qB[x.toNat]!).zB
theorem QU (s:qE) (l:yLI):(ve s l).length=l.length:=by simp [ve]
theorem needs_snoc (s:qE) (l:yLI) (x:Int):ve s l++[(s.qB[x.toNat]!).zB]=ve s (l++[x]):=by simp [ve]
theorem needs_yes {s:qE} {t:qF} {k c:Nat} (h:Appl s t k) (hc:(s.qB[k]!).qP=(c:Int)):ve s (cellT s t k c)++[(s.qB[k]!).zB]=ve s (cellT s t (k+1) c):=by
  rw [← cellT_yes h hc];exact needs_snoc s _ (k:Int)
theorem needs_take {s:qE} {l:yLI} {k:Nat} (h:k < l.length):ve s (l.take k)++[(s.qB[(l[k]!).toNat]!).zB]=ve s (l.take (k+1)):=by rw [needs_snoc,take_snoc h]
theorem needs_get {s:qE} {l:yLI} {k:Nat} (h:k < l.length):(ve s l)[k]! =(s.qB[(l[k]!).toNat]!).zB:=by
  rw [getElem!_pos (ve s l) k (by rw [QU];exact h)];simp [ve,getElem!_pos l k h]
noncomputable def vk (s:qE) (t:qF) (c:Nat):yLI:=cellT s t s.qB.length c
noncomputable def cellP (s:qE) (t:qF) (c:Nat):yLL×Int:=jV (t.qN[c]!) (ve s (vk s t c))
theorem mem_cellT {s:qE} {t:qF} {k c:Nat} {x:Int} (h:x∈cellT s t k c):0≤x∧x.toNat < k∧Appl s t x.toNat∧(s.qB[x.toNat]!).qP=(c:Int):=by
  unfold cellT at h
  obtain ⟨h1,h2⟩:=List.mem_filter.1 h
  obtain ⟨a,b,d⟩:=mem_applL.1 h1
  exact ⟨a,b,d,by simpa using h2⟩
theorem cellT_at {s:qE} {t:qF} {k c j:Nat} (h:j < (cellT s t k c).length):0≤(cellT s t k c)[j]! ∧((cellT s t k c)[j]!).toNat < k∧Appl s t ((cellT s t k c)[j]!).toNat∧(s.qB[((cellT s t k c)[j]!).toNat]!).qP=(c:Int):=
  mem_cellT (by rw [getElem!_pos _ j h];exact List.getElem_mem h)
theorem cellR_at {s:qE} {t:qF} {c j:Nat} (h:j < (vk s t c).length):0≤(vk s t c)[j]! ∧((vk s t c)[j]!).toNat < s.qB.length∧Appl s t ((vk s t c)[j]!).toNat∧(s.qB[((vk s t c)[j]!).toNat]!).qP=(c:Int):=cellT_at h
theorem ofCell_all {s:qE} (hs:vK s) (c:Int):∀ k,k≤s.qB.length→XU s.qB c k≤8
  | 0,_=>by simp [XU]
  | k+1,hk=>by
    have h:=ofCell_all hs c k qf
    by_cases e:(s.qB[k]!).qP=c
    · have:=(hs.2.2 k qf).2;rw [e] at this;exact this
    · rw [XU,if_neg e];omega
theorem cellT_len {s:qE} {t:qF} {c:Nat}:∀ k,((cellT s t k c).length:Int)≤XU s.qB (c:Int) k
  | 0=>by simp [cellT,applL,XU]
  | k+1=>by
    have h:=cellT_len (s:=s) (t:=t) (c:=c) k
    rw [XU]
    by_cases e:(s.qB[k]!).qP=(c:Int)
    · rw [if_pos e]
      by_cases ha:Appl s t k
      · rw [← cellT_yes ha e,List.length_append,List.length_singleton];omega
      · rw [← Q7 ha];omega
    · rw [if_neg e,← QD e];omega
theorem cellT_le (s:qE) (t:qF) (k c:Nat):(cellT s t k c).length≤k:=Nat.le_trans (List.length_filter_le _ _) (applL_le s t k)
theorem cellR_len {s:qE} {t:qF} (hs:vK s) (c:Nat):(vk s t c).length≤8:=by
  have:=cellT_len (s:=s) (t:=t) (c:=c) s.qB.length
  have:=ofCell_all hs (c:Int) s.qB.length (Nat.le_refl _)
  unfold vk;omega
theorem cell_parts {s:qE} {t:qF} (hs:vK s) (c:Nat):PartsOk (yL s) (ve s (vk s t c)):=by
  intro i hi
  rw [QU] at hi
  obtain ⟨a1,a2,a3,a4⟩:=cellR_at hi
  rw [needs_get hi]
  have q:=hs.rule a2
  have b:=q.2.2.2.2.1
  have hl:=b.len
  have hsum:=q.2.2.2.2.2.2.2.2.2.1
  obtain ⟨j,hj,hp⟩:=sum_pos b.1 hsum
  exact ⟨hl,fun q' hq' =>b.get qf,j,by omega,hp⟩
theorem cell_rest {s:qE} {t:qF} (ht:xX s t) {c:Nat} (hc:c < t.qN.length):RestOk (yL s) (t.qN[c]!):=by
  have b:=(ht.2.2.2.2 c hc).1
  exact ⟨b.len,fun q hq=>b.get (by have:=b.len;omega)⟩
theorem cell_pack {s:qE} {t:qF} (hs:vK s) (ht:xX s t) {c:Nat} (hc:c < t.qN.length):X6 (ve s (vk s t c)) (t.qN[c]!):=
  ⟨yL s,kinds_le hs,cell_parts hs c,cell_rest ht hc,by rw [QU];exact cellR_len hs c⟩
theorem all_cases {b:yLI} {parts:yLL}:(jV b parts=([],3))∨(QM b≤16∧jV b parts=(packs parts parts.length 0 b,0)∧(packs parts parts.length 0 b).length≤2000):=by
  unfold jV
  split
  · exact .inl rfl
  · split
    · exact .inl rfl
    · exact .inr ⟨by omega,rfl,by omega⟩
theorem all_len (b:yLI) (parts:yLL):(jV b parts).1.length≤2000:=by
  rcases all_cases (b:=b) (parts:=parts) with h | ⟨_,h,h1⟩ <;> rw [h]
  · simp
  · exact h1
theorem all_at {b:yLI} {parts:yLL} {x:Nat} (h:x < (jV b parts).1.length):((jV b parts).1[x]!).length=parts.length:=by
  rcases all_cases (b:=b) (parts:=parts) with h1 | ⟨_,h1,_⟩
  · rw [h1] at h;simp at h
  · rw [h1] at h ⊢
    exact packs_len (by rw [getElem!_pos _ x h];exact List.getElem_mem h)
theorem all_code {b:yLI} {parts:yLL} (h:(jV b parts).2≠0):(jV b parts).2=3:=by
  rcases all_cases (b:=b) (parts:=parts) with h1 | ⟨_,h1,_⟩
  · rw [h1]
  · rw [h1] at h;exact absurd rfl h

def FewTo (s:qE) (t:qF) (k:Nat):Prop:=∀ c,c < k→(vk s t c).length=0∨¬ QM (t.qN[c]!) > 16
theorem FewTo.succ {s:qE} {t:qF} {k:Nat} (h:FewTo s t k) (h1:(vk s t k).length=0∨¬ QM (t.qN[k]!) > 16):FewTo s t (k+1):=fun j hj=>by
  by_cases e:j=k
  · subst e;exact h1
  · exact h j qf
def GoodP (s:qE) (t:qF) (k:Nat):Prop:=∀ c,c < k→(vk s t c).length=0∨(cellP s t c).2=0
theorem GoodP.succ {s:qE} {t:qF} {k:Nat} (h:GoodP s t k) (h1:(vk s t k).length=0∨(cellP s t k).2=0):GoodP s t (k+1):=fun j hj=>by
  by_cases e:j=k
  · subst e;exact h1
  · exact h j qf
theorem bad_sum {s:qE} {t:qF} {c n:Nat} (hc:c < n) (h:¬ (vk s t c).length=0) (h1:QM (t.qN[c]!) > 16):¬ GoodP s t n:=fun hg=>by
  rcases hg c hc with h2 | h2
  · exact h h2
  · unfold cellP at h2;rw [all_a h1] at h2;simp at h2
theorem bad_code {s:qE} {t:qF} {c n:Nat} (hc:c < n) (h:¬ (vk s t c).length=0) (h1:¬ (cellP s t c).2=0):¬ GoodP s t n:=fun hg=>(hg c hc).elim h h1
noncomputable def XV (s:qE) (t:qF) (k:Nat):yLN:=(List.range k).filter fun c=>decide ((vk s t c).length≠0)
noncomputable def xC (s:qE) (t:qF) (k:Nat):yLL:=(XV s t k).map (vk s t)
noncomputable def zi (s:qE) (t:qF) (k:Nat):List yLL:=(XV s t k).map fun c=>(cellP s t c).1
theorem live_yes {s:qE} {t:qF} {k:Nat} (h:¬ (vk s t k).length=0):XV s t (k+1)=XV s t k++[k]:=by unfold XV;rw [List.range_succ,List.filter_append,List.filter_cons_of_pos (a:=k) (by simpa only [decide_eq_true_eq] using h),List.filter_nil]
theorem live_no {s:qE} {t:qF} {k:Nat} (h:(vk s t k).length=0):XV s t (k+1)=XV s t k:=by unfold XV;rw [List.range_succ,List.filter_append,List.filter_cons_of_neg (by simp only [decide_eq_true_eq];exact fun x=>x h),List.filter_nil,List.append_nil]
theorem rules_yes {s:qE} {t:qF} {k:Nat} (h:¬ (vk s t k).length=0):xC s t k++[vk s t k]=xC s t (k+1):=by simp [xC,live_yes h]
theorem rules_no {s:qE} {t:qF} {k:Nat} (h:(vk s t k).length=0):xC s t k=xC s t (k+1):=by simp [xC,live_no h]
theorem packsL_yes {s:qE} {t:qF} {k:Nat} (h:¬ (vk s t k).length=0):zi s t k++[(cellP s t k).1]=zi s t (k+1):=by simp [zi,live_yes h]
theorem packsL_no {s:qE} {t:qF} {k:Nat} (h:(vk s t k).length=0):zi s t k=zi s t (k+1):=by simp [zi,live_no h]
theorem live_le (s:qE) (t:qF) (k:Nat):(XV s t k).length≤k:=by
  have:=List.length_filter_le (fun c=>decide ((vk s t c).length≠0)) (List.range k)
  simpa [XV] using this
theorem rules_le (s:qE) (t:qF) (k:Nat):(xC s t k).length≤k:=by simpa [xC] using live_le s t k
theorem packsL_le (s:qE) (t:qF) (k:Nat):(zi s t k).length=(xC s t k).length:=by simp [zi,xC]
theorem live_at {s:qE} {t:qF} {k i:Nat} (h:i < (xC s t k).length):∃ c,c < k∧¬ (vk s t c).length=0∧(xC s t k)[i]! =vk s t c∧(zi s t k)[i]! =(cellP s t c).1:=by
  have hl:i < (XV s t k).length:=by simpa [xC] using h
  have hm:=List.mem_filter.1 (show (XV s t k)[i]∈XV s t k from List.getElem_mem hl)
  refine ⟨(XV s t k)[i],by simpa using hm.1,by simpa using hm.2,?_,?_⟩
  · rw [getElem!_pos _ i h];simp [xC]
  · rw [getElem!_pos _ i (by rw [packsL_le];exact h)];simp [zi]

def QX (all:List yLL):Nat→Nat
  | 0=>1
  | k+1=>QX all k * (all[k]!).length
theorem prod_mul (all:List yLL) (k:Nat):((QX all k:Nat):Int) * ((all[k]!).length:Int)=((QX all (k+1):Nat):Int):=by rw [QX,Int.natCast_mul]
theorem prod_mono {all:List yLL} {n:Nat} (h:∀ j,j < n→all[j]! ≠[]):∀ {j i:Nat},i≤j→j≤n→QX all i≤QX all j
  | 0, i, hi, _ => by obtain rfl : i = 0 := by omega
                      exact Nat.le_refl _
  | j+1,i,hi,hj=>by
    by_cases e:i=j+1
    · subst e;exact Nat.le_refl _
    · have h1:=prod_mono h (show i≤j by omega) qf
      have h2:0 < (all[j]!).length:=List.length_pos_iff.2 (h j qf)
      rw [QX]
      exact Nat.le_trans h1 (Nat.le_mul_of_pos_right _ h2)
theorem prod_pre {l:List yLL} {x:yLL}:∀ {k:Nat},k≤l.length→QX (l++[x]) k=QX l k
  | 0,_=>rfl
  | k+1,h=>by
    rw [QX,QX,prod_pre qf]
    congr 1
    rw [getElem!_pos (l++[x]) k qy,getElem!_pos l k qf,List.getElem_append_left]
theorem prod_snoc (l:List yLL) (x:yLL):QX (l++[x]) (l++[x]).length=QX l l.length * x.length:=by
  rw [List.length_append,List.length_singleton,QX,prod_pre (Nat.le_refl _)]
  congr 1
  rw [getElem!_pos (l++[x]) l.length qm];simp
theorem cellP_ne {s:qE} {t:qF} (hs:vK s) (ht:xX s t) {c:Nat} (hc:c < t.qN.length) (h:(cellP s t c).2=0):(cellP s t c).1≠[]:=by
  unfold cellP at h ⊢
  rcases all_cases (b:=t.qN[c]!) (parts:=ve s (vk s t c)) with h1 | ⟨h0,h1,_⟩
  · rw [h1] at h;simp at h
  · rw [h1]
    exact packs_ne (cell_parts hs c) _ 0 _ (Nat.zero_add _) (cell_rest ht hc) (sum_few (cell_rest ht hc) h0) fun i hi=>by omega
theorem cellP_few {s:qE} {t:qF} (hs:vK s) (ht:xX s t) {c:Nat} (hc:c < t.qN.length) (hr:¬ (vk s t c).length=0):(cellP s t c).1.length≤17 ^ ((vk s t c).length - 1):=by
  unfold cellP
  rcases all_cases (b:=t.qN[c]!) (parts:=ve s (vk s t c)) with h1 | ⟨h0,h1,_⟩
  · rw [h1];simp
  · rw [h1]
    have:=packs_few (cell_parts (t:=t) hs c) ((vk s t c).length - 1) 0 _ (by rw [QU];omega) (cell_rest ht hc) (sum_few (cell_rest ht hc) h0)
    rw [QU,show (vk s t c).length=(vk s t c).length - 1+1 by omega]
    exact this
noncomputable def sumR (s:qE) (t:qF):Nat→Nat
  | 0=>0
  | k+1=>sumR s t k+(vk s t k).length
theorem filter_two (f:Int→Int) (k:Int):∀ (l:yLI),(l.filter fun x=>decide (f x < k+1)).length=(l.filter fun x=>decide (f x < k)).length+(l.filter fun x=>decide (f x=k)).length
  | []=>rfl
  | x :: l=>by
    have h:=filter_two f k l
    simp only [List.filter_cons]
    by_cases h1:f x < k
    · rw [if_pos qy,if_pos (by simpa using h1),if_neg qy];simp only [List.length_cons];omega
    · by_cases h2:f x=k
      · rw [if_pos qy,if_neg (by simpa using h1),if_pos (by simpa using h2)];simp only [List.length_cons];omega
      · rw [if_neg qy,if_neg (by simpa using h1),if_neg (by simpa using h2)];exact h
theorem sumR_eq (s:qE) (t:qF):∀ k,sumR s t k≤((appls s t).filter fun x=>decide ((s.qB[x.toNat]!).qP < (k:Int))).length
  | 0=>Nat.zero_le _
  | k+1=>by
    have h:=sumR_eq s t k
    have h2:=filter_two (fun x=>(s.qB[x.toNat]!).qP) (k:Int) (appls s t)
    rw [sumR,show ((k+1:Nat):Int)=(k:Int)+1 by omega,h2]
    exact Nat.add_le_add h (Nat.le_refl _)
theorem sumR_le {s:qE} {t:qF} (hs:vK s) (k:Nat):sumR s t k≤16:=
  Nat.le_trans (sumR_eq s t k) (Nat.le_trans (List.length_filter_le _ _) (Nat.le_trans (applL_le s t _) hs.2.1))
theorem prod_few {s:qE} {t:qF} (hs:vK s) (ht:xX s t):∀ k,k≤t.qN.length→QX (zi s t k) (zi s t k).length≤17 ^ (sumR s t k - 1)
  | 0,_=>by show QX [] 0≤_;rw [QX];exact Nat.one_le_pow _ _ qj
  | k+1,hk=>by
    have h:=prod_few hs ht k qf
    rw [sumR]
    by_cases e:(vk s t k).length=0
    · rw [← packsL_no e,e];exact h
    · rw [← packsL_yes e,prod_snoc]
      refine Nat.le_trans (Nat.mul_le_mul h (cellP_few hs ht qf e)) ?_
      rw [← Nat.pow_add]
      exact Nat.pow_le_pow_right qj qf
theorem packsL_ne {s:qE} {t:qF} (hs:vK s) (ht:xX s t) {k:Nat} (hk:k≤t.qN.length) (hg:GoodP s t k):∀ j,j < (zi s t k).length→(zi s t k)[j]! ≠[]:=fun j hj=>by
  obtain ⟨c,hc,hr,_,h2⟩:=live_at (s:=s) (t:=t) (k:=k) (i:=j) (by rw [← packsL_le];exact hj)
  rw [h2]
  exact cellP_ne hs ht qf ((hg c hc).resolve_left hr)
theorem prod_bd {s:qE} {t:qF} (hs:vK s) (ht:xX s t) {k:Nat} (hk:k≤t.qN.length) (hg:GoodP s t k):∀ j,j≤(zi s t k).length→((QX (zi s t k) j:Nat):Int)≤2862423051509815793:=fun j hj=>by
  have h1:=prod_mono (packsL_ne hs ht hk hg) hj (Nat.le_refl _)
  have h2:=prod_few hs ht k hk
  have h3:17 ^ (sumR s t k - 1)≤17 ^ 15:=Nat.pow_le_pow_right qj (by have:=sumR_le (t:=t) hs k;omega)
  have h4:17 ^ 15=2862423051509815793:=by decide
  omega

def setTo (o r x:yLI):Nat→yLI
  | 0=>o
  | k+1=>(setTo o r x k).set (r[k]!).toNat (x[k]!)
theorem setTo_len (o r x:yLI):∀ k,(setTo o r x k).length=o.length
  | 0=>rfl
  | k+1=>by rw [setTo,List.length_set,setTo_len o r x k]
def setAll (o r x:yLI):yLI:=setTo o r x r.length
theorem setAll_len (o r x:yLI):(setAll o r x).length=o.length:=setTo_len o r x _
def nextK (G:yLL) (r:yLI) (P:yLL) (k:Nat):yLL:=(G.take k).flatMap fun o=>P.map (setAll o r)
def nextX (G:yLL) (r:yLI) (P:yLL) (k x:Nat):yLL:=nextK G r P k++(P.take x).map (setAll (G[k]!) r)
theorem nextX_zero (G:yLL) (r:yLI) (P:yLL) (k:Nat):nextK G r P k=nextX G r P k 0:=by simp [nextX]
theorem nextX_succ {G:yLL} {r:yLI} {P:yLL} {k x:Nat} (h:x < P.length) {v:yLI} (hv:v=setAll (G[k]!) r (P[x]!)):nextX G r P k x++[v]=nextX G r P k (x+1):=by
  subst hv;unfold nextX;rw [List.append_assoc,← take_snoc h,List.map_append];rfl
theorem nextX_end {G:yLL} {r:yLI} {P:yLL} {k x:Nat} (hk:k < G.length) (h:x=P.length):nextX G r P k x=nextK G r P (k+1):=by
  subst h;unfold nextX nextK;rw [List.take_length,← take_snoc hk,List.flatMap_append];simp
theorem nextK_len {G:yLL} {r:yLI} {P:yLL}:∀ {k:Nat},k≤G.length→(nextK G r P k).length=k * P.length
  | 0,_=>by simp [nextK]
  | k+1,h=>by
    rw [← nextX_end (show k < G.length by omega) rfl,nextX,List.length_append,nextK_len qf,List.take_length,List.length_map,Nat.add_mul,Nat.one_mul]
theorem nextX_len {G:yLL} {r:yLI} {P:yLL} {k x:Nat} (hk:k < G.length) (hx:x≤P.length):(nextX G r P k x).length=k * P.length+x:=by
  rw [nextX,List.length_append,nextK_len qf,List.length_map,List.length_take];omega
theorem nextX_le {G:yLL} {r:yLI} {P:yLL} {k x:Nat} (hk:k < G.length) (hx:x≤P.length):(nextX G r P k x).length≤G.length * P.length:=by
  rw [nextX_len hk hx]
  have:=Nat.mul_le_mul_right P.length (show k+1≤G.length from hk)
  rw [Nat.add_mul,Nat.one_mul] at this
  omega
def yO (n:Nat) (rs:yLL) (all:List yLL):Nat→yLL
  | 0=>[List.replicate n 0]
  | i+1=>nextK (yO n rs all i) (rs[i]!) (all[i]!) (yO n rs all i).length
theorem QT {n:Nat} {rs:yLL} {all:List yLL}:∀ i,(yO n rs all i).length=QX all i
  | 0=>rfl
  | i+1=>by rw [yO,nextK_len (Nat.le_refl _),QT i,QX]
theorem mem_at_L {l:yLL} {k:Nat} (h:k < l.length):l[k]! ∈l:=by rw [getElem!_pos l k h];exact List.getElem_mem h
theorem prodG_row {n:Nat} {rs:yLL} {all:List yLL}:∀ i,∀ x∈yO n rs all i,x.length=n
  | 0,x,h=>by obtain rfl:=List.mem_singleton.1 h;simp
  | i+1,x,h=>by
    rw [yO,nextK,List.mem_flatMap] at h
    obtain ⟨o,ho,h⟩:=h
    obtain ⟨y,_,rfl⟩:=List.mem_map.1 h
    rw [setAll_len]
    exact prodG_row i o (List.mem_of_mem_take ho)
theorem prodG_at {n:Nat} {rs:yLL} {all:List yLL} {i k:Nat} (h:k < (yO n rs all i).length):((yO n rs all i)[k]!).length=n:=prodG_row i _ (mem_at_L h)
open Classical in
noncomputable def inOrder (l:yLL):yLL:=if h:∃ m,l.Perm m∧InOrder m then Classical.choose h else l
theorem inOrder_eq {n:Nat} {l m:yLL} (hn:∀ x∈l,x.length=n) (hp:l.Perm m) (ho:InOrder m):inOrder l=m:=by
  have h:∃ m,l.Perm m∧InOrder m:=⟨m,hp,ho⟩
  unfold inOrder
  rw [dif_pos h]
  have hc:=Classical.choose_spec h
  exact order_one (n:=n) (fun x hx=>hn x (hc.1.symm.subset hx)) (hc.1.symm.trans hp) hc.2 ho
open Classical in
noncomputable def zy (s:qE) (t:qF):yLL×Int:=
  if ¬ GoodP s t s.qA.length then ([],3) else if QX (zi s t s.qA.length) (zi s t s.qA.length).length > 300 then ([],3)
  else (inOrder (yO s.qB.length (xC s t s.qA.length) (zi s t s.qA.length) (zi s t s.qA.length).length),0)
theorem cho_3 {s:qE} {t:qF} (h:¬ GoodP s t s.qA.length∨QX (zi s t s.qA.length) (zi s t s.qA.length).length > 300):zy s t=([],3):=by
  unfold zy
  by_cases h1:GoodP s t s.qA.length
  · rw [if_neg (by simpa using h1),if_pos (h.resolve_left (by simpa using h1))]
  · rw [if_pos h1]
theorem cho_0 {s:qE} {t:qF} {m:yLL} (h:GoodP s t s.qA.length) (h1:¬ QX (zi s t s.qA.length) (zi s t s.qA.length).length > 300)
    (hp:(yO s.qB.length (xC s t s.qA.length) (zi s t s.qA.length) (zi s t s.qA.length).length).Perm m) (ho:InOrder m):zy s t=(m,0):=by
  unfold zy
  rw [if_neg (by simpa using h),if_neg h1,inOrder_eq (prodG_row _) hp ho]
theorem in_order {l:yLL} {i:Nat} (hi:l.length≤i) (h:∀ a b,a < b→b < i→¬ ahead (l[b]!) (l[a]!)):InOrder l:=by
  have:=(orderTo_iff (l:=l) (k:=l.length) (Nat.le_refl _)).2 fun a b hab hb=>h a b hab qf
  unfold OrderTo at this
  rwa [List.take_length] at this
theorem cho_code {s:qE} {t:qF} {b:yLI} {p:yLL} (h:¬ GoodP s t s.qA.length) (h1:¬ (jV b p).2=0):zy s t=([],(jV b p).2):=by rw [cho_3 (.inl h),all_code h1]
theorem next_le {n i k x:Nat} {rs:yLL} {all:List yLL} (h:∀ j,j < all.length→all[j]! ≠[]) (h1:¬ QX all all.length > 300) (hi:i < all.length) (hk:k < (yO n rs all i).length) (hx:x≤(all[i]!).length):(nextX (yO n rs all i) (rs[i]!) (all[i]!) k x).length≤300:=by
  have h2:=nextX_le (r:=rs[i]!) hk hx
  have h3:=prod_mono h (show i+1≤all.length from hi) (Nat.le_refl _)
  rw [QX,← QT (n:=n) (rs:=rs) i] at h3
  omega
theorem G_le {n i:Nat} {rs:yLL} {all:List yLL} (h:∀ j,j < all.length→all[j]! ≠[]) (h1:¬ QX all all.length > 300) (hi:i≤all.length):(yO n rs all i).length≤300:=by
  have h3:=prod_mono h hi (Nat.le_refl _)
  rw [QT];omega
theorem cell_few {s:qE} {t:qF} {n i:Nat} (hs:vK s) (hi:i < (xC s t n).length):((xC s t n)[i]!).length≤8∧((zi s t n)[i]!).length≤2000:=by
  obtain ⟨c,_,_,e,e1⟩:=live_at hi
  rw [e,e1]
  exact ⟨cellR_len hs c,all_len _ _⟩
theorem choice_at {s:qE} {t:qF} {n i r:Nat} (hi:i < (xC s t n).length) (hr:r < ((xC s t n)[i]!).length):0≤((xC s t n)[i]!)[r]! ∧(((xC s t n)[i]!)[r]!).toNat < s.qB.length:=by
  obtain ⟨c,_,_,e,_⟩:=live_at hi
  rw [e] at hr ⊢
  have:=cellR_at hr
  exact ⟨this.1,this.2.1⟩
theorem pack_at {s:qE} {t:qF} {n i x:Nat} (hi:i < (xC s t n).length) (hx:x < ((zi s t n)[i]!).length):(((zi s t n)[i]!)[x]!).length=((xC s t n)[i]!).length:=by
  obtain ⟨c,_,_,e,e1⟩:=live_at hi
  rw [e1] at hx ⊢
  rw [e]
  exact (all_at hx).trans (QU _ _)
theorem perm_rows {n m:Nat} {rs:yLL} {all:List yLL} {l:yLL} (h:(yO n rs all m).Perm l):∀ j,j < l.length→(l[j]!).length=n:=fun j hj=>prodG_row m _ (h.symm.subset (mem_at_L hj))
theorem perm_swap {l m:yLL} {k:Nat} (h:l.Perm m) (hk:0 < k) (hl:k < m.length):l.Perm (swapAt m k):=h.trans (swap_perm hk hl).symm
theorem cho_len (s:qE) (t:qF):(zy s t).1.length≤300:=by
  unfold zy
  split
  · simp
  · split
    · simp
    · next h1 h2=>
      show (inOrder _).length≤300
      unfold inOrder
      split
      · next h=>rw [← (Classical.choose_spec h).1.length_eq,QT];omega
      · rw [QT];omega
end
section
open Go.RowKit
section
variable {α : Type} [qO α]
theorem reps_perm {w:World} (h1:qO.size α=1):∀ {z z' :List (Value×α)},z.Perm z' →∀ {F:yLN},reps w F (z.map Prod.fst) (z.map Prod.snd)→∃ F',F'.Perm F∧reps w F' (z'.map Prod.fst) (z'.map Prod.snd):=by
  intro z z' hp
  have one:∀ {c:List Value} {G:yLN} {x:α},qO.rep w G c x→∃ v,c=[v]:=fun h=>List.length_eq_one_iff.1 ((qO.len h).trans h1)
  induction hp with
  | nil=>intro F h;exact ⟨F,.refl _,h⟩
  | cons x _ ih=>
    rintro F ⟨F1,F2,c1,c2,rfl,hv,hx,hr⟩
    obtain ⟨v,rfl⟩:=one hx
    obtain ⟨rfl,rfl⟩:=List.cons.inj hv
    obtain ⟨F',hF,hr'⟩:=ih hr
    exact ⟨F1++F',hF.append_left F1,F1,F',[x.1],_,rfl,rfl,hx,hr'⟩
  | swap x y l=>
    rintro F ⟨F1,F2,c1,c2,rfl,hv,hx,F3,F4,c3,c4,rfl,hv2,hy,hr⟩
    obtain ⟨v,rfl⟩:=one hx
    obtain ⟨u,rfl⟩:=one hy
    subst hv2
    obtain ⟨e1,e2⟩:=List.cons.inj hv
    obtain ⟨e3,e4⟩:=List.cons.inj e2
    subst e1 e3 e4
    refine ⟨F3++(F1++F4),?_,F3,F1++F4,[x.1],y.1 :: _,rfl,rfl,hy,F1,F4,[y.1],_,rfl,rfl,hx,hr⟩
    rw [← List.append_assoc,← List.append_assoc]
    exact List.perm_append_comm.append_right F4
  | trans _ _ ih1 ih2=>
    intro F h
    obtain ⟨F1,h1,h2⟩:=ih1 h
    obtain ⟨F2,h3,h4⟩:=ih2 h2
    exact ⟨F2,h3.trans h1,h4⟩
end
theorem swapZ {α:Type}:∀ {l:List α} {i:Nat} {a b:α},l[i]? =some a→l[i+1]? =some b→l.Perm ((l.set (i+1) a).set i b)
  | [],_,_,_,h,_=>by simp at h
  | x :: l,0,a,b,h,h1=>by
    cases l with
    | nil=>simp at h1
    | cons y l=>
      simp only [List.getElem?_cons_zero,Option.some.injEq] at h
      simp only [List.getElem?_cons_succ,List.getElem?_cons_zero,Option.some.injEq,Nat.zero_add] at h1
      subst h h1
      exact List.Perm.swap ..
  | x :: l,i+1,a,b,h,h1=>by
    simp only [List.getElem?_cons_succ] at h h1
    exact (swapZ h h1).cons x
theorem zip_at {α β:Type}:∀ {xs:List α} {l:List β} {i:Nat} {a:α} {b:β},xs[i]? =some a→l[i]? =some b→(xs.zip l)[i]? =some (a,b):=by
  intro xs l i a b h h1
  rw [List.getElem?_zip_eq_some]
  exact ⟨h,h1⟩
theorem zip_fst {α β:Type}:∀ {xs:List α} {l:List β},xs.length=l.length→(xs.zip l).map Prod.fst=xs:=by
  intro xs l h;exact List.map_fst_zip qf
theorem zip_snd {α β:Type}:∀ {xs:List α} {l:List β},xs.length=l.length→(xs.zip l).map Prod.snd=l:=by
  intro xs l h;exact List.map_snd_zip qf
section
variable {W0 w : World} {ps : List Prv} {Γ : List Fact}
theorem St.rowElemX {α:Type} [qO α] (H:St W0 w ps Γ) (k:Nat) {b c:Nat} {e:TypeId} {nn:Nat} {xs:List Value} (hp:ps[k]? =some (.row (.slice (some ⟨b,0,none⟩) nn c) e 1 nn xs)) (j:Nat) {fr:Bool} {F:yLN} {l:List (List α)}
    (hf:Γ[j]? =some (xB fr F xs l)) {iv:Int} (i:Nat) (h:iv.toNat=i) (h1:i < nn):
    ∃ (a:yOA) (c' :Nat) (G:yLN),(∀ x∈G,x∈F)∧w.cell? ⟨b,0+iv.toNat * 1,none⟩=some (.slice a (l[i]!).length c')∧xs[0+iv.toNat * 1]? =some (.slice a (l[i]!).length c')∧xs[iv.toNat]? =some (.slice a (l[i]!).length c')∧St W0 w ps (isF fr G (.slice a (l[i]!).length c') (l[i]!) :: Γ):=by
  obtain ⟨cs,G,hc,hr,hsub,hfr,v1,v2,hx,hv⟩:=H.rowElem k hp j hf Nat.one_pos h h1
  obtain ⟨a,c',rfl,hx'⟩:=id hr
  have hxi:xs[i]? =some (.slice a (l[i]!).length c'):=by
    have hl1:v1.length=i:=by rw [hv];exact Nat.mul_one _
    rw [hx,List.append_assoc,List.getElem?_append_right qf]
    simp [hl1]
  exact ⟨a,c',G,hsub,by simpa [qO.size] using hc 0 _ rfl,by rw [show 0+iv.toNat * 1=i by omega];exact hxi,by rw [h];exact hxi,H.vZ j hf _ ⟨hr,hfr⟩ hsub⟩
theorem St.swapR (H:St W0 w ps Γ) (j:Nat) {fr:Bool} {F:yLN} {xs:List Value} {l:yLL} (hf:Γ[j]? =some (xB fr F xs l)) {k i:Nat} (hk:0 < k) (hkl:k < l.length) (hi:i=k - 1) {v0 v1:Value} (h0:xs[i]? =some v0) (h1:xs[k]? =some v1):
    ∃ F',F'.Perm F∧St W0 w ps (xB fr F' ((xs.set k v0).set i v1) (swapAt l k) :: Γ):=by
  obtain ⟨hr,hfr⟩:=H.get j hf
  obtain ⟨i,rfl⟩:∃ i,k=i+1:=⟨k - 1,by omega⟩
  rw [show i+1 - 1=i from rfl] at hi
  subst hi
  have hl:xs.length=l.length:=by have:=X7 hr;simpa [qO.size] using this
  have e0:l[i]? =some (l[i]!):=by rw [getElem!_pos l i qf];exact List.getElem?_eq_getElem qf
  have e1:l[i+1]? =some (l[i+1]!):=by rw [getElem!_pos l (i+1) hkl];exact List.getElem?_eq_getElem hkl
  have hp:=swapZ (zip_at h0 e0) (zip_at h1 e1)
  have hr' :reps w F ((xs.zip l).map Prod.fst) ((xs.zip l).map Prod.snd):=by
    rw [zip_fst hl,zip_snd hl]
    exact hr
  obtain ⟨F',hF,h2⟩:=reps_perm rfl hp hr'
  refine ⟨F',hF,H.vZ j hf _ ⟨?_,fun e x hx=>hfr e x (hF.subset hx)⟩ fun x hx=>hF.subset hx⟩
  rw [List.map_set,List.map_set,List.map_set,List.map_set,zip_fst hl,zip_snd hl] at h2
  exact h2
theorem Fresh.perm {B:Nat} {L:List yLN} {F F' :yLN} (N:Fresh B (F :: L)) (h:F'.Perm F):Fresh B (F' :: L):=N.less (fun b hb=>h.subset hb) fun hn=>h.nodup_iff.2 hn
end
section
variable {P : Program} {n : Nat} {ρ : Env} {w : World}
theorem ret3 {fn:Func} {R:Ending→World→Prop} {t u z:Nat} (v x y:Value) (hr:fn.results=#[.tmp t,.tmp u,.tmp z]) (hv:ev n ρ (.tmp t)=v) (hx:ev n ρ (.tmp u)=x) (hy:ev n ρ (.tmp z)=y) (h:R (.returned (.tuple #[v,x,y])) w):bodyPost P fn R .ret (mk n ρ) w:=by
  refine bodyPost_ret (results_tmp3 hr _ _ _) rfl ?_
  have e:=congrFun (QI n ρ) (.tmp t)
  have e' :=congrFun (QI n ρ) (.tmp u)
  have e'' :=congrFun (QI n ρ) (.tmp z)
  simp only [Act.eval] at e e' e''
  rw [e,hv,e',hx,e'',hy]
  exact h
end
end
section
open Go.Proofs.Tryz
open Go.RowKit
set_option linter.unusedVariables false
set_option linter.unusedSimpArgs false
set_option maxRecDepth 100000
set_option maxHeartbeats 4000000
theorem l03Before_ok (w:World) (a:yLI) (b:yLI) {aa:yOA} {ca:Nat} {Fa:yLN} {ab:yOA} {cb:Nat} {Fb:yLN} (ha:qO.rep w Fa [.slice aa a.length ca] a) (hb:qO.rep w Fb [.slice ab b.length cb] b) (p0:a.length=b.length):Calls Tryz.prog 156 #[.slice aa a.length ca,.slice ab b.length cb] w (Ret (fun v w' =>v=.bool (dec (ahead a b))) w):=by
 refine en func156 ntmps156 ?_
 have H:=((St.start w).arg hb).arg ha
 have nha:=qM ha
 have nhb:=qM hb
 clear ha hb
 have N:=Fresh.nil w.heap.size
 refine zcr (sp (.bool false) (zjcc (sp (yI 0) (zjn (qY ?_)))))
 refine zq ((fun Z0 Z1=>fun m' ρ w1=>∃ (xM:Env) (i:Nat),ρ=upd (upd (upd xM 0 (.slice aa a.length ca)) 1 (.slice ab b.length cb)) 5 (yI i)∧((i:Int)≤a.length)∧(SameTo a b i)∧m' =(a.length - (i:Int)).toNat∧Fresh w.heap.size []∧St w w1 [] [Z0,Z1]) _ _) ((a.length - (0:Int)).toNat) ⟨_,0,uE3,qf,qx,rfl,N,H⟩ ?_
 clear H N
 rintro m' ρ w2 ⟨xM,i,rfl,i0,i1,rfl,N,H⟩
 refine zcc (sp (yI i) (sq 1 (oN rfl (sq 1 (zjn (cD rfl (fun h3=>?_) (fun h3=>?_)))))))
 ·skip
  refine qW (t_n (xQ (qY (xQ ?_))))
  refine jf rfl H fun H=>rtl 0 H ?_
  refine rtp 1 (yI i) H ?_
  obtain ⟨b5,o6,rfl⟩:=H.addr 0 rfl qf
  refine tI 2 rfl rfl rfl H ?_
  refine tL 3 rfl rfl (fun _ h=>h.zH 0 rfl i qf) H ?_
  refine rtl 4 H ?_
  refine rtp 5 (yI i) H ?_
  obtain ⟨b8,o9,rfl⟩:=H.addr 1 rfl qf
  refine tI 6 rfl rfl rfl H ?_
  refine tL 7 rfl rfl (fun _ h=>h.zH 1 rfl i qf) H ?_
  refine rtl 8 H ?_
  refine xq qh (t_n (xE _ rfl (fun h11=>?_) (fun h11=>?_)))
  ·skip
   replace h11:=bne_iff_ne.1 h11
   refine xQ ?_
   refine jf rfl H fun H=>rtl 0 H ?_
   refine rtp 1 (yI i) H ?_
   refine tI 2 rfl rfl rfl H ?_
   refine tL 3 rfl rfl (fun _ h=>h.zH 0 rfl i qf) H ?_
   refine rtl 4 H ?_
   refine rtp 5 (yI i) H ?_
   refine tI 6 rfl rfl rfl H ?_
   refine tL 7 rfl rfl (fun _ h=>h.zH 1 rfl i qf) H ?_
   refine rtl 8 H ?_
   refine rtl 9 H ?_
   refine xq qh (t_n (c_ret (zr5 (ret1 (.bool (decide ((a[i]! :Int) < (b[i]!)))) rfl rfl ⟨_,rfl,?_,H.base⟩))))
   first | rw [xk (ahead_same (show SameTo a b a.length from fun j hj=>i1 j qf))] | rw [show decide (a[i]! < b[i]!)=dec (ahead a b) from dec_eq ⟨fun h=>ahead_yes i1 qf (of_decide_eq_true h),fun h=>decide_eq_true (Classical.byContradiction fun h1=>ahead_no i1 h1 ‹_› h)⟩]
  replace h11:=xm h11
  refine qW (b_n (t_n (xU (sp (yI i) (sw (zA i 1 rfl rfl qf (sq 1 (xY (xe (m' :=(a.length - ((i+1):Int)).toNat) qf ⟨_,i+1,uE3,?_,?_,rfl,N,H⟩)))))))))
  · omega
  · exact i1.succ qg
 refine zx4 (zcr (sp (.bool false) (zjr (ret1 (.bool false) rfl rfl ⟨_,rfl,?_,H.base⟩))))
 first | rw [xk (ahead_same (show SameTo a b a.length from fun j hj=>i1 j qf))] | rw [show decide (a[i]! < b[i]!)=dec (ahead a b) from dec_eq ⟨fun h=>ahead_yes i1 qf (of_decide_eq_true h),fun h=>decide_eq_true (Classical.byContradiction fun h1=>ahead_no i1 h1 ‹_› h)⟩]

theorem l03Count_ok (w:World) (all:List yLL) {aall:yOA} {call:Nat} {Fall:yLN} (hall:qO.rep w Fall [.slice aall all.length call] all) (p0:∀ j,j≤all.length→((QX all j:Nat):Int)≤2862423051509815793):Calls Tryz.prog 155 #[.slice aall all.length call] w (Ret (fun v w' =>v=yI ((QX all all.length:Nat):Int)) w):=by
 refine en func155 ntmps155 ?_
 have H:=(St.start w).arg hall
 have nhall:=qM hall
 clear hall
 have N:=Fresh.nil w.heap.size
 refine zcr (sp (yI 0) (zjc (sp (yI 1) (zjcc (sp (yI 0) (zjn (qY ?_)))))))
 refine zq ((fun Z0=>fun m' ρ w1=>∃ (xM:Env) (n:Int) (i:Nat),ρ=upd (upd (upd xM 0 (.slice aall all.length call)) 3 (yI n)) 4 (yI i)∧n=((QX all i:Nat):Int)∧((i:Int)≤all.length)∧m' =(all.length - (i:Int)).toNat∧Fresh w.heap.size []∧St w w1 [] [Z0]) _) ((all.length - (0:Int)).toNat) ⟨_,1,0,uE3,(by rfl),qf,rfl,N,H⟩ ?_
 clear H N
 rintro m' ρ w2 ⟨xM,n,i,rfl,rfl,i0,rfl,N,H⟩
 have pm:=prod_mul all i
 have pb:=fun h=>p0 (i+1) h
 have pn:=Int.natCast_nonneg (QX all (i+1))
 refine zcc (sp (yI i) (sq 1 (oN rfl (sq 1 (zjn (cD rfl (fun h3=>?_) (fun h3=>?_)))))))
 ·skip
  refine qW (t_n (xQ (qY (xU (sq 2 (sp (yI i) ?_))))))
  obtain ⟨b4,o5,rfl⟩:=H.addr 0 rfl qf
  obtain ⟨ae7,ce7,Fe7,H⟩:=H.vX 0 rfl i i qf qf qf
  refine oI rfl rfl (oL rfl (H.x8 1 rfl 0 rfl) (oN rfl (sw (o_mul ((QX all i:Nat):Int) ((all[i]!).length) rfl rfl qf (sq 1 (xY (b_n (t_n (xU (sp (yI i) (sw (zA i 1 rfl rfl qf (sq 1 (xY (xe (m' :=(all.length - ((i+1):Int)).toNat) qf ⟨_,_,i+1,uE3,?_,?_,rfl,N,H.pick [] [2]⟩)))))))))))))))
  · exact prod_mul all i
  · omega
 refine zx4 (zcr (sq 2 (zjr (ret1 (yI ((QX all i:Nat):Int)) rfl rfl ⟨_,rfl,?_,H.base⟩))))
 rw [show i=all.length by omega]

theorem l03Choices_ok (w:World) (s:qE) (t:qF) {bs os:Nat} {qJ:yOA} {qI:Nat} {xu:yLN} {qV:yOA} {qQ:Nat} {zh:yLN} {bt ot:Nat} {xg:yOA} {xf:Nat} {zu:yLN} {xF:yOA} {xA:Nat} {zU:yLN} {qU:yOA} {qR:Nat} {x9:yLN} (hs:vG w bs os (yS s qJ qI qV qQ)) (qX:qO.rep w xu [.slice qJ s.qA.length qI] s.qA) (xn:qO.rep w zh [.slice qV s.qB.length qQ] s.qB) (ht:vG w bt ot (yT t xg xf xF xA qU qR)) (xR:qO.rep w zu [.slice xg t.qG.length xf] t.qG) (zn:qO.rep w zU [.slice xF t.qN.length xA] t.qN) (xy:qO.rep w x9 [.slice qU t.qH.length qR] t.qH) (p0:vK s) (p1:xX s t):Calls Tryz.prog 106 #[pp bs os,pp bt ot] w (Ret (fun v w' =>∃ (ra0:yOA) (rn0:Nat) (rc0:Nat) (rx0:List Value) (rF0:yLN),v=.tuple #[.slice ra0 rn0 rc0,yI ((zy s t).2)]∧Fresh w.heap.size [rF0]∧St w w' [rr ra0 rn0 rc0 24 1 rx0] [xB true rF0 rx0 ((zy s t).1)]) w):=by
 refine en func106 ntmps106 ?_
 have H:=(((((((St.start w).arg xy).arg zn).arg xR).XO ht).arg xn).arg qX).XO hs
 have zN:=qM qX
 have vW:=qM xn
 have jO:=qM xR
 have yH:=qM zn
 have jg:=qM xy
 clear hs qX xn ht xR zn xy
 have N:=Fresh.nil w.heap.size
 have p2:=p0.2.1
 have p3:=p0.1.2.1
 have p4:=p1.1
 have p5:=p1.2.1
 refine zcr (sq 1 (sp (yI 0) (zjc (sq 2 (sw (zQ #[pp bs os,pp bt ot] rfl rfl call154 (en func154 ntmps154 ?_)))))))
 refine zcr (sq 2 (sp (yI 0) (zjc (sq 2 ?_))))
 have sz4:=H.base.size
 refine sw (oc (l03Applicable_ok _ s t (qC (H.get 0 rfl) 0 3) (H.get 1 rfl).1 (H.get 2 rfl).1 (qC (H.get 3 rfl) 0 3) (H.get 4 rfl).1 (H.get 5 rfl).1 (H.get 6 rfl).1 qg qg) ?_)
 rintro _ w2 ⟨ra1,rn1,rc1,rfl,M,K⟩ _
 replace H:=H.merge K M
 obtain rfl:=H.XC 0 rfl
 have al:=appl_len s t
 refine sq 1 (zjc (sw (vU H underlying170 ti135 fun b7 w8 H=>sq 1 (zjc (sw (vU H underlying171 ti29 fun b9 w10 H=>sq 1 (zjcc (sp (yI 0) (zjn (qY ?_))))))))))
 refine zq ((fun Z0 Z1 Z2 Z3 Z4 Z5 Z6 Z7 Z8 Z9=>fun m' ρ w11=>∃ (xM:Env) (c:Nat),ρ=upd (upd (upd (upd (upd (upd xM 0 (pp bs os)) 1 (pp bt ot)) 7 (.slice ra1 ((appl s t).length) rc1)) 8 (.slice (aa b7 0) 0 0)) 9 (.slice (aa b9 0) 0 0)) 10 (yI c)∧((c:Int)≤s.qA.length)∧m' =(s.qA.length - (c:Int)).toNat∧Fresh w.heap.size []∧St w w11 [Z0,Z1,Z2] [Z3,Z4,Z5,Z6,Z7,Z8,Z9]) _ _ _ _ _ _ _ _ _ _) ((s.qA.length - (0:Int)).toNat) ⟨_,0,uE6,qf,rfl,N,H⟩ ?_
 clear H N
 rintro m' ρ w12 ⟨xM,c,rfl,i0,rfl,N,H⟩
 refine zcc (sp (yI c) (sq 2 (oF rfl (oL rfl (H.x8 0 rfl 1 rfl) (oN rfl (sq 1 (zjn (cD rfl (fun h13=>?_) (fun h13=>?_)))))))))
 ·skip
  refine qW (t_n (xQ (qY (zcr (sq 2 (sp (yI c) (sw (zQ #[pp bs os,.slice ra1 ((appl s t).length) rc1,yI c] rfl rfl call189 (en func189 ntmps189 ?_)))))))))
  refine zcr (sq 2 (zjc (sw (vU H underlying135 ti3 fun b14 w15 H=>sq 1 (zjc (sw (vU H underlying29 ti24 fun b16 w17 H=>sq 1 (zjcc (sp (yI 0) (zjn (qY ?_)))))))))))
  replace H:=H.boxRowI 1 [] 0
  replace H:=H.boxRow 0 rfl 1 0 rfl qj
  replace H:=H.zW (α:=yLI)
  replace H:=H.unfree 0 rfl
  refine zq ((fun Z0 Z1 Z2 Z3 Z4 Z5 Z6 Z7 Z8 Z9=>fun m' ρ w18=>∃ (xM:Env) (a_rules:yOA) (Xr:Nat) (c_rules:Nat) (rules:yLI) (a_needs:yOA) (n_needs:Nat) (c_needs:Nat) (needs:yLL) (x_needs:List Value) (F_needs:yLN) (i:Nat),ρ=upd (upd (upd (upd (upd (upd xM 0 (pp bs os)) 1 (.slice ra1 ((appl s t).length) rc1)) 2 (yI c)) 8 (.slice a_rules Xr c_rules)) 9 (.slice a_needs n_needs c_needs)) 10 (yI i)∧rules=(cellT s t i c)∧needs=(ve s (cellT s t i c))∧((i:Int)≤((appl s t).length))∧m' =(((appl s t).length) - (i:Int)).toNat∧Fresh w.heap.size []∧St w w18 [rr a_needs n_needs c_needs 24 1 x_needs,rr a_rules Xr c_rules 3 1 (rules.map (Value.int .i64)),Z0,Z1,Z2] [xB false F_needs x_needs needs,Z3,Z4,Z5,Z6,Z7,Z8,Z9]) _ _ _ _ _ _ _ _ _ _) ((((appl s t).length) - (0:Int)).toNat) ⟨_,(aa b14 0),0,0,([]:yLI),(aa b16 0),0,0,([]:yLL),[],[],0,uE6,(by rfl),(by rfl),qf,rfl,N,H.pick [0,1,2,3,4] [0,2,3,4,5,6,7,8]⟩ ?_
  clear H N
  rintro m' ρ w19 ⟨xM,a_rules,Xr,c_rules,rules,a_needs,n_needs,c_needs,needs,x_needs,F_needs,i,rfl,rfl,rfl,i0,rfl,N,H⟩
  have hn_rules:=H.jm 1 rfl
  have hn_needs:=H.xK (α:=yLI) 0 rfl 0 rfl qj
  have tl:=cellT_le s t i c
  have nl:=QU s (cellT s t i c)
  refine zcc (sp (yI i) (sq 1 (oN rfl (sq 1 (zjn (cD rfl (fun h20=>?_) (fun h20=>?_)))))))
  ·skip
   refine qW (t_n (xQ (qY (zcr (sq 1 (sp (yI i) ?_))))))
   obtain ⟨b21,rfl⟩:=H.jW 4 rfl qf
   refine oI rfl rfl (oL rfl (H.rowBool 4 rfl (iv:=i) (i:=i) qf qf) (sp (.bool ((appl s t)[i]!)) ?_))
   cases h22:((appl s t)[i]!)
   ·skip
    refine xZ [24,25,26,27,28,29,30,31,32,33] (sp (.bool false) (zjn (xE false rfl (fun h=>absurd h qj) (fun _=>qW (b_n (t_n (xU (sp (yI i) (sw (zA i 1 rfl rfl qf (sq 1 (xY (xe (m' :=(((appl s t).length) - ((i+1):Int)).toNat) qf ⟨_,_,_,_,_,_,_,_,_,_,_,i+1,uE6,?_,?_,?_,rfl,N,H⟩)))))))))))))
    · first | exact cellT_yes (Qu qf ‹_›) ‹_› | exact Q7 (yZ qf ‹_›) | exact QD ‹_›
    · first | exact needs_yes (Qu qf ‹_›) ‹_› | exact congrArg (ve s) (Q7 (yZ qf ‹_›)) | exact congrArg (ve s) (QD ‹_›)
    · omega
   refine qL 23 rfl rfl (sq 1 (qL 23 rfl rfl (sq 1 (qL 23 rfl rfl (oF rfl (qL 23 rfl rfl (oL rfl (H.x8 1 rfl 2 rfl) (qL 23 rfl rfl (sp (yI i) (qL 23 rfl rfl ?_))))))))))
   obtain ⟨b23,o24,rfl⟩:=H.addr 3 rfl qf
   obtain ⟨ae26Need,ce26Need,Fe26Need,ae26Have,ce26Have,Fe26Have,ae26Lack,ce26Lack,Fe26Lack,ae26Here,ce26Here,Fe26Here,ae26Out,ce26Out,Fe26Out,ae26Into,ce26Into,Fe26Into,H⟩:=H.yA 3 rfl i i qf qf qf
   refine oI rfl rfl (qL 23 rfl rfl (oF rfl (qL 23 rfl rfl (oL rfl (H.x8 6 rfl 0 rfl) (qL 23 rfl rfl (sp (yI c) (qL 23 rfl rfl (sq 2 (zjn (cE rfl (fun h27=>?_) (fun h27=>?_)))))))))))
   ·skip
    refine zcr (sq 1 (sp (yI i) (sw (zf H underlying135 ti3 [yI i] fun b28 w29 H=>sw (zk H 2 rfl 0 rfl underlying135 ti3 rfl qj rfl rfl rfl qw qp qf fun a30 c31 w32 H=>?_)))))
    rw [snocI] at H
    refine sq 1 (zjn (xU (sq 3 (oF rfl (oL rfl (H.x8 8 rfl 2 rfl) (sp (yI i) (oI rfl rfl (oF rfl (oL rfl (H.x8 6 rfl 2 rfl) (sw (zf H underlying29 ti24 [.slice ae26Need (((s.qB[i]!).zB).length) ce26Need] fun b33 w34 H=>sw (zk H 2 rfl 0 rfl underlying29 ti24 rfl qj rfl rfl rfl qw qp qf fun a35 c36 w37 H=>?_))))))))))))
    replace H:=H.jM 7 rfl 0 rfl
    refine sq 1 (xY (b_n (t_n (xU (sp (yI i) (sw (zA i 1 rfl rfl qf (sq 1 (xY (xe (m' :=(((appl s t).length) - ((i+1):Int)).toNat) qf ⟨_,_,_,_,_,_,_,_,_,_,_,i+1,uE6,?_,?_,?_,rfl,N,H.pick [2,3,4,5,6] [0,9,10,11,12,13,14,15]⟩))))))))))
    · first | exact cellT_yes (Qu qf ‹_›) ‹_› | exact Q7 (yZ qf ‹_›) | exact QD ‹_›
    · first | exact needs_yes (Qu qf ‹_›) ‹_› | exact congrArg (ve s) (Q7 (yZ qf ‹_›)) | exact congrArg (ve s) (QD ‹_›)
    · omega
   refine qW (b_n (t_n (xU (sp (yI i) (sw (zA i 1 rfl rfl qf (sq 1 (xY (xe (m' :=(((appl s t).length) - ((i+1):Int)).toNat) qf ⟨_,_,_,_,_,_,_,_,_,_,_,i+1,uE6,?_,?_,?_,rfl,N,H.pick [0,1,2,3,4] [7,8,9,10,11,12,13,14]⟩)))))))))
   · first | exact cellT_yes (Qu qf ‹_›) ‹_› | exact Q7 (yZ qf ‹_›) | exact QD ‹_›
   · first | exact needs_yes (Qu qf ‹_›) ‹_› | exact congrArg (ve s) (Q7 (yZ qf ‹_›)) | exact congrArg (ve s) (QD ‹_›)
   · omega
  refine zx4 (zcr (sq 4 (zjr (ret2 (.slice a_rules Xr c_rules) (.slice a_needs n_needs c_needs) rfl rfl rfl ⟨_,rfl,?_⟩))))
  obtain rfl:i=s.qB.length:=by omega
  rw [show cellT s t s.qB.length c=vk s t c from rfl] at H hn_rules hn_needs
  refine sq 5 (zjc (sq 1 (oN rfl (sp (.bool (decide ((Xr:Int) > 0))) (sp (.bool (decide ((Xr:Int) > 0))) ?_)))))
  cases h38:(decide ((Xr:Int) > 0))
  ·skip
   replace h38:=of_decide_eq_false h38
   refine xZ [43,44,45,46,47,48,49,50,51] (sp (.bool false) (zjn (xE false rfl (fun h=>absurd h qj) (fun _=>qW (b_n (t_n (xU (sp (yI c) (sw (zA c 1 rfl rfl qf (sq 1 (xY (xe (m' :=(s.qA.length - ((c+1):Int)).toNat) qf ⟨_,c+1,uE6,?_,rfl,N,H.pick [2,3,4] [1,2,3,4,5,6,7]⟩)))))))))))))
   · omega
  replace h38:=of_decide_eq_true h38
  refine qL 42 rfl rfl (sq 1 (qL 42 rfl rfl (sq 1 (qL 42 rfl rfl (oF rfl (qL 42 rfl rfl (oL rfl (H.x8 4 rfl 1 rfl) (qL 42 rfl rfl (sp (yI c) (qL 42 rfl rfl ?_))))))))))
  obtain ⟨b39,o40,rfl⟩:=H.addr 6 rfl qf
  obtain ⟨ae42,ce42,Fe42,H⟩:=H.vX 6 rfl c c qf qf qf
  refine oI rfl rfl (qL 42 rfl rfl (oL rfl (H.x8 1 rfl 0 rfl) (qL 42 rfl rfl ?_)))
  have sm:=vg (p1.2.2.2.2 c qf).1
  refine sw (oq (XG _ (t.qN[c]!) (H.get 0 rfl).1 (by first | assumption | exact vg ql | exact yB ql)) H fun w43 H=>qL 42 rfl rfl (sp (.bool (decide ((QM (t.qN[c]!):Int) > 16))) (sp (.bool (decide ((QM (t.qN[c]!):Int) > 16))) (zjn (cD rfl (fun h45=>?_) (fun h45=>?_))))))
  ·skip
   refine zcr (sq 4 (sp (yI 3) (zjr (zr5 (ret3 (.slice (aa b7 0) 0 0) (.slice (aa b9 0) 0 0) (yI 3) rfl rfl rfl rfl ⟨_,rfl,?_⟩)))))
   replace H:=H.erases [4,1,0]
   dsimp only [vV,List.eraseIdx] at H
   refine sq 3 (sp (yI 3) (sq 2 (sp (yI 3) (zjcc (sp (yI 3) (sp (.bool true) (zjn (xE true rfl (fun _=>zcr (sw (vU H underlying29 ti24 fun b46 w47 H=>sp (yI 3) (sq 1 (sp (yI 3) (zjr (t_r ?_))))))) (fun h=>absurd h qj)))))))))
   replace H:=H.boxRow 0 rfl 1 0 rfl qj
   replace H:=H.zW (α:=yLI)
   refine ret2 (.slice (aa b46 0) 0 0) (yI 3) rfl rfl rfl ⟨_,rfl,?_,H.base⟩
   first | rw [cho_3 (.inl (bad_sum (c:=c) qf qf qf))] | rw [cho_3 (.inr qf)]
   exact ⟨(aa b46 0),0,0,[],[],rfl,N.emp,H.pick [0] [0]⟩
  refine qW (b_n (t_n (xU (sp (yI c) (sw (zA c 1 rfl rfl qf (sq 1 (xY (xe (m' :=(s.qA.length - ((c+1):Int)).toNat) qf ⟨_,c+1,uE6,?_,rfl,N,H.pick [2,3,4] [3,4,5,6,7,8,9]⟩)))))))))
  · omega
 refine zx4 (zcc (sp (yI 0) (zjn (qY ?_))))
 replace H:=H.boxRow 1 rfl 1 0 rfl qj
 replace H:=H.zW (α:=yLI)
 replace H:=H.boxRow 0 rfl 1 0 rfl qj
 replace H:=H.zW (α:=yLL)
 refine zq ((fun Z0 Z1 Z2 Z3 Z4 Z5 Z6 Z7=>fun m' ρ w48=>∃ (xM:Env) (a_rules:yOA) (Xr:Nat) (c_rules:Nat) (rules:yLL) (x_rules:List Value) (F_rules:yLN) (a_all:yOA) (n_all:Nat) (c_all:Nat) (all:List yLL) (x_all:List Value) (F_all:yLN) (c_1:Nat),ρ=upd (upd (upd (upd (upd (upd xM 0 (pp bs os)) 1 (pp bt ot)) 7 (.slice ra1 ((appl s t).length) rc1)) 8 (.slice a_rules Xr c_rules)) 9 (.slice a_all n_all c_all)) 13 (yI c_1)∧rules=(xC s t c_1)∧all=(zi s t c_1)∧((c_1:Int)≤s.qA.length)∧(GoodP s t c_1)∧m' =(s.qA.length - (c_1:Int)).toNat∧Fresh w.heap.size [F_rules,F_all]∧St w w48 [rr a_all n_all c_all 29 1 x_all,rr a_rules Xr c_rules 135 1 x_rules,Z0] [xB true F_rules x_rules rules,xB true F_all x_all all,Z1,Z2,Z3,Z4,Z5,Z6,Z7]) _ _ _ _ _ _ _ _) ((s.qA.length - (0:Int)).toNat) ⟨_,(aa b7 0),0,0,([]:yLL),[],[],(aa b9 0),0,0,([]:List yLL),[],[],0,uE6,(by rfl),(by rfl),qf,qx,rfl,N.emp.emp,H⟩ ?_
 clear H N
 rintro m' ρ w49 ⟨xM,a_rules,Xr,c_rules,rules,x_rules,F_rules,a_all,n_all,c_all,all,x_all,F_all,c_1,rfl,rfl,rfl,i0,gp,rfl,N,H⟩
 have hn_rules:=H.xK (α:=yLI) 1 rfl 0 rfl qj
 have hn_all:=H.xK (α:=yLL) 0 rfl 1 rfl qj
 have rl:=rules_le s t c_1
 have pl:=packsL_le s t c_1
 refine zcc (sq 3 (oF rfl (oL rfl (H.x8 2 rfl 1 rfl) (oN rfl (sq 1 (zjn (cD rfl (fun h50=>?_) (fun h50=>?_))))))))
 ·skip
  refine qW (t_n (xQ (qY (zcr (sq 3 (sw (zQ #[pp bs os,.slice ra1 ((appl s t).length) rc1,yI c_1] rfl rfl call189 (en func189 ntmps189 ?_))))))))
  refine zcr (sq 2 (zjc (sw (vU H underlying135 ti3 fun b51 w52 H=>sq 1 (zjc (sw (vU H underlying29 ti24 fun b53 w54 H=>sq 1 (zjcc (sp (yI 0) (zjn (qY ?_)))))))))))
  replace H:=H.boxRowI 1 [] 0
  replace H:=H.boxRow 0 rfl 1 0 rfl qj
  replace H:=H.zW (α:=yLI)
  replace H:=H.unfree 0 rfl
  refine zq ((fun Z0 Z1 Z2 Z3 Z4 Z5 Z6 Z7 Z8 Z9 Z10 Z11=>fun m' ρ w55=>∃ (xM:Env) (a_rules_1:yOA) (n_rules_1:Nat) (c_rules_1:Nat) (rules_1:yLI) (a_needs:yOA) (n_needs:Nat) (c_needs:Nat) (needs:yLL) (x_needs:List Value) (F_needs:yLN) (i:Nat),ρ=upd (upd (upd (upd (upd (upd xM 0 (pp bs os)) 1 (.slice ra1 ((appl s t).length) rc1)) 2 (yI c_1)) 8 (.slice a_rules_1 n_rules_1 c_rules_1)) 9 (.slice a_needs n_needs c_needs)) 10 (yI i)∧rules_1=(cellT s t i c_1)∧needs=(ve s (cellT s t i c_1))∧((i:Int)≤((appl s t).length))∧m' =(((appl s t).length) - (i:Int)).toNat∧Fresh w.heap.size [F_rules,F_all]∧St w w55 [rr a_needs n_needs c_needs 24 1 x_needs,rr a_rules_1 n_rules_1 c_rules_1 3 1 (rules_1.map (Value.int .i64)),Z0,Z1,Z2] [xB false F_needs x_needs needs,Z3,Z4,Z5,Z6,Z7,Z8,Z9,Z10,Z11]) _ _ _ _ _ _ _ _ _ _ _ _) ((((appl s t).length) - (0:Int)).toNat) ⟨_,(aa b51 0),0,0,([]:yLI),(aa b53 0),0,0,([]:yLL),[],[],0,uE6,(by rfl),(by rfl),qf,rfl,N,H.pick [0,1,2,3,4] [0,2,3,4,5,6,7,8,9,10]⟩ ?_
  clear H N
  rintro m' ρ w56 ⟨xM,a_rules_1,n_rules_1,c_rules_1,rules_1,a_needs,n_needs,c_needs,needs,x_needs,F_needs,i,rfl,rfl,rfl,i0,rfl,N,H⟩
  have hn_rules:=H.jm 1 rfl
  have hn_needs:=H.xK (α:=yLI) 0 rfl 0 rfl qj
  have tl:=cellT_le s t i c_1
  have nl:=QU s (cellT s t i c_1)
  refine zcc (sp (yI i) (sq 1 (oN rfl (sq 1 (zjn (cD rfl (fun h57=>?_) (fun h57=>?_)))))))
  ·skip
   refine qW (t_n (xQ (qY (zcr (sq 1 (sp (yI i) ?_))))))
   obtain ⟨b58,rfl⟩:=H.jW 4 rfl qf
   refine oI rfl rfl (oL rfl (H.rowBool 4 rfl (iv:=i) (i:=i) qf qf) (sp (.bool ((appl s t)[i]!)) ?_))
   cases h59:((appl s t)[i]!)
   ·skip
    refine xZ [24,25,26,27,28,29,30,31,32,33] (sp (.bool false) (zjn (xE false rfl (fun h=>absurd h qj) (fun _=>qW (b_n (t_n (xU (sp (yI i) (sw (zA i 1 rfl rfl qf (sq 1 (xY (xe (m' :=(((appl s t).length) - ((i+1):Int)).toNat) qf ⟨_,_,_,_,_,_,_,_,_,_,_,i+1,uE6,?_,?_,?_,rfl,N,H⟩)))))))))))))
    · first | exact cellT_yes (Qu qf ‹_›) ‹_› | exact Q7 (yZ qf ‹_›) | exact QD ‹_›
    · first | exact needs_yes (Qu qf ‹_›) ‹_› | exact congrArg (ve s) (Q7 (yZ qf ‹_›)) | exact congrArg (ve s) (QD ‹_›)
    · omega
   refine qL 23 rfl rfl (sq 1 (qL 23 rfl rfl (sq 1 (qL 23 rfl rfl (oF rfl (qL 23 rfl rfl (oL rfl (H.x8 3 rfl 2 rfl) (qL 23 rfl rfl (sp (yI i) (qL 23 rfl rfl ?_))))))))))
   obtain ⟨b60,o61,rfl⟩:=H.addr 5 rfl qf
   obtain ⟨ae63Need,ce63Need,Fe63Need,ae63Have,ce63Have,Fe63Have,ae63Lack,ce63Lack,Fe63Lack,ae63Here,ce63Here,Fe63Here,ae63Out,ce63Out,Fe63Out,ae63Into,ce63Into,Fe63Into,H⟩:=H.yA 5 rfl i i qf qf qf
   refine oI rfl rfl (qL 23 rfl rfl (oF rfl (qL 23 rfl rfl (oL rfl (H.x8 6 rfl 0 rfl) (qL 23 rfl rfl (sq 1 (qL 23 rfl rfl (sq 2 (zjn (cE rfl (fun h64=>?_) (fun h64=>?_)))))))))))
   ·skip
    refine zcr (sq 1 (sp (yI i) (sw (zf H underlying135 ti3 [yI i] fun b65 w66 H=>sw (zk H 2 rfl 0 rfl underlying135 ti3 rfl qj rfl rfl rfl qw qp qf fun a67 c68 w69 H=>?_)))))
    rw [snocI] at H
    refine sq 1 (zjn (xU (sq 3 (oF rfl (oL rfl (H.x8 10 rfl 2 rfl) (sp (yI i) (oI rfl rfl (oF rfl (oL rfl (H.x8 6 rfl 2 rfl) (sw (zf H underlying29 ti24 [.slice ae63Need (((s.qB[i]!).zB).length) ce63Need] fun b70 w71 H=>sw (zk H 2 rfl 0 rfl underlying29 ti24 rfl qj rfl rfl rfl qw qp qf fun a72 c73 w74 H=>?_))))))))))))
    replace H:=H.jM 7 rfl 0 rfl
    refine sq 1 (xY (b_n (t_n (xU (sp (yI i) (sw (zA i 1 rfl rfl qf (sq 1 (xY (xe (m' :=(((appl s t).length) - ((i+1):Int)).toNat) qf ⟨_,_,_,_,_,_,_,_,_,_,_,i+1,uE6,?_,?_,?_,rfl,N,H.pick [2,3,4,5,6] [0,9,10,11,12,13,14,15,16,17]⟩))))))))))
    · first | exact cellT_yes (Qu qf ‹_›) ‹_› | exact Q7 (yZ qf ‹_›) | exact QD ‹_›
    · first | exact needs_yes (Qu qf ‹_›) ‹_› | exact congrArg (ve s) (Q7 (yZ qf ‹_›)) | exact congrArg (ve s) (QD ‹_›)
    · omega
   refine qW (b_n (t_n (xU (sp (yI i) (sw (zA i 1 rfl rfl qf (sq 1 (xY (xe (m' :=(((appl s t).length) - ((i+1):Int)).toNat) qf ⟨_,_,_,_,_,_,_,_,_,_,_,i+1,uE6,?_,?_,?_,rfl,N,H.pick [0,1,2,3,4] [7,8,9,10,11,12,13,14,15,16]⟩)))))))))
   · first | exact cellT_yes (Qu qf ‹_›) ‹_› | exact Q7 (yZ qf ‹_›) | exact QD ‹_›
   · first | exact needs_yes (Qu qf ‹_›) ‹_› | exact congrArg (ve s) (Q7 (yZ qf ‹_›)) | exact congrArg (ve s) (QD ‹_›)
   · omega
  refine zx4 (zcr (sq 4 (zjr (ret2 (.slice a_rules_1 n_rules_1 c_rules_1) (.slice a_needs n_needs c_needs) rfl rfl rfl ⟨_,rfl,?_⟩))))
  obtain rfl:i=s.qB.length:=by omega
  rw [show cellT s t s.qB.length c_1=vk s t c_1 from rfl] at H hn_rules hn_needs
  refine sq 5 (zjcc (sq 1 (oN rfl (sp (.bool ((n_rules_1:Int) == 0)) (zjn (cE rfl (fun h75=>?_) (fun h75=>?_)))))))
  ·skip
   refine c_exit (t_x (b_x (t_n (xU (sq 1 (sw (zA c_1 1 rfl rfl qf (sq 1 (xY (xe (m' :=(s.qA.length - ((c_1+1):Int)).toNat) qf ⟨_,_,_,_,_,_,_,_,_,_,_,_,_,c_1+1,uE6,?_,?_,?_,?_,rfl,N,H.pick [2,3,4] [1,2,3,4,5,6,7,8,9]⟩))))))))))
   · first | exact rules_yes qf | exact rules_no qf
   · first | exact packsL_yes qf | exact packsL_no qf
   · omega
   · exact gp.succ (by first | exact .inl qf | exact .inr (show (jV _ _).2=0 from ‹_›))
  refine qW (t_n (zcr (sq 2 (oF rfl (oL rfl (H.x8 6 rfl 1 rfl) (sq 1 ?_))))))
  obtain ⟨b76,o77,rfl⟩:=H.addr 8 rfl qf
  obtain ⟨ae79,ce79,Fe79,H⟩:=H.vX 8 rfl c_1 c_1 qf qf qf
  refine oI rfl rfl (oL rfl (H.x8 1 rfl 0 rfl) (sq 1 ?_))
  obtain ⟨G80,hn81,h82⟩:=H.yQ (α:=yLI) 0 rfl 2 rfl qj
  have cp:=cell_pack p0 p1 (c:=c_1) qf
  have sz86:=H.base.size
  have lt87:=H.ltN (L:=[F_rules,F_all]) [3,4]
  refine sw (oc (XY (by rw [← hn81]) (l01All_ok _ (t.qN[c_1]!) (ve s (vk s t c_1)) (H.get 0 rfl).1 (hn81▸h82) qg)) ?_)
  rintro _ w84 ⟨ra83a,rn83a,rc83a,rx83a,rF83a,rfl,M,K⟩ _
  replace N:=N.merge sz86 lt87 M
  replace H:=H.merge K M
  obtain rfl:=H.xK (α:=yLI) 0 rfl 0 rfl qj
  refine sq 5 (zjcc (sq 1 (sp (.bool (((jV (t.qN[c_1]!) (ve s (vk s t c_1))).2:Int) != 0)) (zjn ?_))))
  refine xE (((jV (t.qN[c_1]!) (ve s (vk s t c_1))).2:Int) != 0) rfl (fun h89=>?_) (fun h89=>?_)
  ·skip
   replace h89:=bne_iff_ne.1 h89
   refine zcr (sq 6 (zjr (t_r (zr5 (ret3 (.slice a_rules Xr c_rules) (.slice a_all n_all c_all) (yI ((jV (t.qN[c_1]!) (ve s (vk s t c_1))).2)) rfl rfl rfl rfl ⟨_,rfl,?_⟩)))))
   replace H:=H.erases [5,2,1,0]
   dsimp only [vV,List.eraseIdx] at H
   refine sq 7 (zjcc (sq 1 (sp (.bool (((jV (t.qN[c_1]!) (ve s (vk s t c_1))).2:Int) != 0)) (zjn ?_))))
   refine xE (((jV (t.qN[c_1]!) (ve s (vk s t c_1))).2:Int) != 0) rfl (fun h90=>?_) (fun h=>absurd (xm h) h89)
   replace h90:=bne_iff_ne.1 h90
   refine zcr (sw (vU H underlying29 ti24 fun b91 w92 H=>sq 3 (zjr (t_r ?_))))
   replace H:=H.boxRow 0 rfl 1 0 rfl qj
   replace H:=H.zW (α:=yLI)
   refine ret2 (.slice (aa b91 0) 0 0) (yI ((jV (t.qN[c_1]!) (ve s (vk s t c_1))).2)) rfl rfl rfl ⟨_,rfl,?_,H.base⟩
   rw [cho_code (bad_code (c:=c_1) qf qf ‹_›) ‹_›]
   exact ⟨(aa b91 0),0,0,[],[],rfl,(N.emp.pick [0]),H.pick [0] [0]⟩
  replace h89:=xm h89
  refine qW (t_n (zcr (sq 2 (sw (zf H underlying170 ti135 [.slice a_rules_1 n_rules_1 c_rules_1] fun b93 w94 H=>?_)))))
  obtain ⟨G98,N,hn99,H⟩:=H.zG 3 rfl N (H.vS [0,4,5])
  refine sw (zk H 5 rfl 0 rfl underlying170 ti135 rfl qj rfl rfl rfl qw qp qf fun a95 c96 w97 H=>?_)
  replace H:=H.jM 5 rfl 0 rfl
  replace N:Fresh w.heap.size [(F_rules++G98),rF83a,F_all]:=(N.pick [2,0,1,3]).join
  refine sq 1 (zjn (xU (sq 2 (sw (zf H underlying171 ti29 [.slice ra83a (((jV (t.qN[c_1]!) (ve s (vk s t c_1))).1).length) rc83a] fun b100 w101 H=>?_)))))
  have H0:=H
  obtain ⟨G105,hg107,hn106,H⟩:=H.yj (α:=yLI) 2 rfl 2 rfl qj
  replace N:Fresh w.heap.size [G105,(F_rules++G98),F_all]:=Fresh.ice (N.pick [1,0,2]) H0 2 hg107.1 hg107.2 (H0.vS [0,7])
  clear H0
  refine sw (zk H 5 rfl 0 rfl underlying171 ti29 rfl qj rfl rfl rfl qw qp qf fun a102 c103 w104 H=>?_)
  replace H:=H.jM 8 rfl 0 rfl
  replace N:Fresh w.heap.size [(F_all++G105),(F_rules++G98)]:=(N.pick [2,0,1]).join
  refine sq 1 (xY (b_n (t_n (xU (sq 1 (sw (zA c_1 1 rfl rfl qf (sq 1 (xY (xe (m' :=(s.qA.length - ((c_1+1):Int)).toNat) qf ⟨_,_,_,_,_,_,_,_,_,_,_,_,_,c_1+1,uE6,?_,?_,?_,?_,rfl,(N.pick [1,0]),H.pick [5,6,7] [2,0,10,11,12,13,14,15,16]⟩))))))))))
  · first | exact rules_yes qf | exact rules_no qf
  · first | exact packsL_yes qf | exact packsL_no qf
  · omega
  · exact gp.succ (by first | exact .inl qf | exact .inr (show (jV _ _).2=0 from ‹_›))
 refine zx4 (zcr (sq 4 (sp (yI 0) (zjr (ret3 (.slice a_rules Xr c_rules) (.slice a_all n_all c_all) (yI 0) rfl rfl rfl rfl ⟨_,rfl,?_⟩)))))
 replace H:=H.erases [2]
 dsimp only [vV,List.eraseIdx] at H
 obtain rfl:c_1=s.qA.length:=by omega
 have kb:=prod_bd p0 p1 (k:=s.qA.length) qf gp
 have kn:=packsL_ne p0 p1 (k:=s.qA.length) qf gp
 have kr:=rules_le s t s.qA.length
 have kl:=packsL_le s t s.qA.length
 refine sq 3 (sp (yI 0) (sq 2 (sp (yI 0) (zjcc (sp (yI 0) (sp (.bool false) (zjn (xE false rfl (fun h=>absurd h qj) (fun _=>qW (t_n (zcc (sq 1 ?_))))))))))))
 obtain ⟨G108,hn109,h110⟩:=H.yQ (α:=yLL) 0 rfl 1 rfl qj
 refine sw (oq (XY (by rw [← hn109]) (l03Count_ok _ (zi s t s.qA.length) (hn109▸h110) qg)) H fun w112 H=>sp (.bool (decide ((((QX (zi s t s.qA.length) (zi s t s.qA.length).length:Nat):Int):Int) > 300))) (zjn (cD rfl (fun h114=>?_) (fun h114=>?_))))
 ·skip
  refine zcr (sw (vU H underlying29 ti24 fun b115 w116 H=>sq 1 (sp (yI 3) (zjr (t_r ?_)))))
  replace H:=H.boxRow 0 rfl 1 0 rfl qj
  replace H:=H.zW (α:=yLI)
  refine ret2 (.slice (aa b115 0) 0 0) (yI 3) rfl rfl rfl ⟨_,rfl,?_,H.base⟩
  first | rw [cho_3 (.inl (bad_sum (c:=c) qf qf qf))] | rw [cho_3 (.inr qf)]
  exact ⟨(aa b115 0),0,0,[],[],rfl,(N.emp.pick [0]),H.pick [0] [0]⟩
 have kc:¬ QX (zi s t s.qA.length) (zi s t s.qA.length).length > 300:=by omega
 refine qW (t_n (zcr (sq 2 (oF rfl (oL rfl (H.x8 2 rfl 2 rfl) (oN rfl (sw (vM H underlying24 ti2 s.qB.length rfl rfl qf qf qf fun b117 w118 H=>sw (zf H underlying29 ti24 [.slice (aa b117 0) s.qB.length s.qB.length] fun b119 w120 H=>sq 1 (zjcc (sp (yI 0) (zjn (qY ?_)))))))))))))
 have H0:=H
 obtain ⟨G121,hg123,hn122,H⟩:=H.yj (α:=yLI) 3 rfl 0 rfl qj
 replace N:Fresh w.heap.size [G121,F_all]:=Fresh.ice N H0 3 hg123.1 hg123.2 (H0.vS [1])
 clear H0
 have H0:=H
 obtain ⟨G124,hg126,hn125,H⟩:=H.yj (α:=yLL) 2 rfl 2 rfl qj
 replace N:Fresh w.heap.size [G124,G121]:=Fresh.ice (N.pick [1,0]) H0 2 hg126.1 hg126.2 (H0.vS [0])
 clear H0
 replace H:=H.boxRow 0 rfl 1 1 rfl qj
 replace H:=H.zW (α:=yLI)
 obtain ⟨G127,N,hn128,H⟩:=H.zG 1 rfl N (H.vS [1,2])
 replace H:=H.X8 true 0 rfl 1 rfl qm
 replace N:Fresh w.heap.size [(G127++[]),G124,G121]:=(N.emp.pick [1,0,2,3]).join
 refine zq ((fun Z0 Z1=>fun m' ρ w129=>∃ (xM:Env) (yf:yOA) (ja:Nat) (jT:Nat) (out:yLL) (Xn:List Value) (y7:yLN) (i:Nat),ρ=upd (upd (upd (upd xM 6 (.slice a_rules Xr c_rules)) 7 (.slice a_all n_all c_all)) 9 (.slice yf ja jT)) 10 (yI i)∧out=(yO s.qB.length (xC s t s.qA.length) (zi s t s.qA.length) i)∧((i:Int)≤n_all)∧m' =(n_all - (i:Int)).toNat∧Fresh w.heap.size [G124,G121,y7]∧St w w129 [rr yf ja jT 24 1 Xn] [xB true y7 Xn out,Z0,Z1]) _ _) ((n_all - (0:Int)).toNat) ⟨_,(aa b119 0),1,1,[(List.replicate s.qB.length (0:Int))],[.slice (aa b117 0) s.qB.length s.qB.length],(G127++[]),0,uE4,(by rfl),qf,rfl,(N.pick [1,2,0]),H.pick [0] [0,3,4]⟩ ?_
 clear H N
 rintro m' ρ w130 ⟨xM,yf,ja,jT,out,Xn,y7,i,rfl,rfl,i0,rfl,N,H⟩
 have hn_out:=H.xK (α:=yLI) 0 rfl 0 rfl qj
 refine zcc (sp (yI i) (sq 1 (oN rfl (sq 1 (zjn (cD rfl (fun h131=>?_) (fun h131=>?_)))))))
 ·skip
  have ga:=G_le (n:=s.qB.length) (rs:=(xC s t s.qA.length)) (i:=i) kn kc qf
  obtain ⟨gb,gc⟩:=cell_few (s:=s) (t:=t) (n:=s.qA.length) (i:=i) p0 qf
  refine qW (t_n (xQ (qY (zcr (sw (vU H underlying29 ti24 fun b132 w133 H=>sq 1 (zjcc (sp (yI 0) (zjn (qY ?_))))))))))
  replace H:=H.boxRow 0 rfl 1 0 rfl qj
  replace H:=H.zW (α:=yLI)
  refine zq ((fun Z0 Z1 Z2 Z3=>fun m' ρ w134=>∃ (xM:Env) (a_next:yOA) (n_next:Nat) (c_next:Nat) (next:yLL) (x_next:List Value) (F_next:yLN) (k:Nat),ρ=upd (upd (upd (upd (upd (upd xM 6 (.slice a_rules Xr c_rules)) 7 (.slice a_all n_all c_all)) 9 (.slice yf ja jT)) 10 (yI i)) 11 (.slice a_next n_next c_next)) 12 (yI k)∧next=(nextK (yO s.qB.length (xC s t s.qA.length) (zi s t s.qA.length) i) ((xC s t s.qA.length)[i]!) ((zi s t s.qA.length)[i]!) k)∧((k:Int)≤ja)∧m' =(ja - (k:Int)).toNat∧Fresh w.heap.size [G124,G121,y7,F_next]∧St w w134 [rr a_next n_next c_next 24 1 x_next,Z0] [xB true F_next x_next next,Z1,Z2,Z3]) _ _ _ _) ((ja - (0:Int)).toNat) ⟨_,(aa b132 0),0,0,([]:yLL),[],[],0,uE6,(by rfl),qf,rfl,(N.emp.pick [1,2,3,0]),H⟩ ?_
  clear H N
  rintro m' ρ w135 ⟨xM,a_next,n_next,c_next,next,x_next,F_next,k,rfl,rfl,i0,rfl,N,H⟩
  have hn_next:=H.xK (α:=yLI) 0 rfl 0 rfl qj
  refine zcc (sp (yI k) (sq 1 (oN rfl (sq 1 (zjn (cD rfl (fun h136=>?_) (fun h136=>?_)))))))
  ·skip
   refine qW (t_n (xQ (qY (zcr (sp (yI 0) (zjn (qY ?_)))))))
   refine zq ((fun Z0 Z1 Z2 Z3=>fun m' ρ w137=>∃ (xM:Env) (XT:yOA) (Q5:Nat) (XK:Nat) (next_1:yLL) (x_next_1:List Value) (Qn:yLN) (x:Nat),ρ=upd (upd (upd (upd (upd (upd (upd xM 6 (.slice a_rules Xr c_rules)) 7 (.slice a_all n_all c_all)) 9 (.slice yf ja jT)) 10 (yI i)) 11 (.slice XT Q5 XK)) 12 (yI k)) 13 (yI x)∧next_1=(nextX (yO s.qB.length (xC s t s.qA.length) (zi s t s.qA.length) i) ((xC s t s.qA.length)[i]!) ((zi s t s.qA.length)[i]!) k x)∧((x:Int)≤(((zi s t s.qA.length)[i]!).length))∧m' =((((zi s t s.qA.length)[i]!).length) - (x:Int)).toNat∧Fresh w.heap.size [G124,G121,y7,Qn]∧St w w137 [rr XT Q5 XK 24 1 x_next_1,Z0] [xB true Qn x_next_1 next_1,Z1,Z2,Z3]) _ _ _ _) (((((zi s t s.qA.length)[i]!).length) - (0:Int)).toNat) ⟨_,a_next,n_next,c_next,(nextK (yO s.qB.length (xC s t s.qA.length) (zi s t s.qA.length) i) ((xC s t s.qA.length)[i]!) ((zi s t s.qA.length)[i]!) k),x_next,F_next,0,uE7,(by exact nextX_zero _ _ _ _),qf,rfl,N,H⟩ ?_
   clear H N
   rintro m' ρ w138 ⟨xM,XT,Q5,XK,next_1,x_next_1,Qn,x,rfl,rfl,i0,rfl,N,H⟩
   have hn_next:=H.xK (α:=yLI) 0 rfl 0 rfl qj
   refine zcc (sp (yI x) (sq 1 (sp (yI i) ?_)))
   have hl141:=H.isLen 2 rfl
   obtain ⟨b139,o140,rfl⟩:=H.addr 2 rfl qf
   obtain ⟨ae142,ce142,Fe142,H⟩:=H.vX 2 rfl i i qf qf qf
   refine oI rfl rfl (oL rfl (H.x8 1 rfl 0 rfl) (oN rfl (sq 1 (zjn (cD rfl (fun h143=>?_) (fun h143=>?_))))))
   ·skip
    have nx:=next_le (n:=s.qB.length) (rs:=(xC s t s.qA.length)) (i:=i) (k:=k) (x:=x) kn kc qf qf qf
    have g1:=prodG_at (n:=s.qB.length) (rs:=(xC s t s.qA.length)) (all:=(zi s t s.qA.length)) (i:=i) (k:=k) qf
    have g2:=pack_at (s:=s) (t:=t) (n:=s.qA.length) (i:=i) (x:=x) qf qf
    refine qW (t_n (xQ (qY (zcr (sq 1 (sp (yI k) ?_))))))
    obtain ⟨b144,rfl⟩:=H.jW 1 rfl qf
    refine oI rfl rfl ?_
    obtain ⟨a145,c146,G147,s148,h149,hx150,hy151,H⟩:=H.rowElemX 1 rfl 3 rfl (iv:=k) k qf qf
    refine oL rfl (H.rowGet 1 rfl hx150) ?_
    have sz152:=H.base.size
    have lt153:=H.ltN (L:=[G124,G121,y7,Qn]) [5,6,4,3]
    refine sw (oc (Xc _ ((yO s.qB.length (xC s t s.qA.length) (zi s t s.qA.length) i)[k]!) (H.get 0 rfl).1 qg) ?_)
    rintro v157 w155 r157 x156
    replace H:=H.zC x156 r157
    obtain ⟨a158,c159,rfl,hc160,hm161⟩:=H.jq 0 rfl
    refine sq 1 (zjcc (sp (yI 0) (zjn (qY ?_))))
    refine zq ((fun Z0 Z1 Z2 Z3 Z4 Z5 Z6 Z7=>fun m' ρ w162=>∃ (xM:Env) (r:Nat) (own:yLI),ρ=upd (upd (upd (upd (upd (upd (upd (upd (upd xM 6 (.slice a_rules Xr c_rules)) 7 (.slice (aa b139 o140) n_all c_all)) 9 (.slice (aa b144 0) ja jT)) 10 (yI i)) 11 (.slice XT Q5 XK)) 12 (yI k)) 13 (yI x)) 14 (.slice a158 (((yO s.qB.length (xC s t s.qA.length) (zi s t s.qA.length) i)[k]!).length) c159)) 15 (yI r)∧own=(setTo ((yO s.qB.length (xC s t s.qA.length) (zi s t s.qA.length) i)[k]!) ((xC s t s.qA.length)[i]!) (((zi s t s.qA.length)[i]!)[x]!) r)∧((r:Int)≤(((xC s t s.qA.length)[i]!).length))∧m' =((((xC s t s.qA.length)[i]!).length) - (r:Int)).toNat∧Fresh w.heap.size [G124,G121,y7,Qn]∧St w w162 [rr a158 (((yO s.qB.length (xC s t s.qA.length) (zi s t s.qA.length) i)[k]!).length) c159 2 1 (own.map (Value.int .i64)),Z0,Z1] [Z2,Z3,Z4,Z5,Z6,Z7]) _ _ _ _ _ _ _ _) (((((xC s t s.qA.length)[i]!).length) - (0:Int)).toNat) ⟨_,0,((yO s.qB.length (xC s t s.qA.length) (zi s t s.qA.length) i)[k]!),uE9,(by rfl),qf,rfl,N,H.pick [0,1,2] [1,2,3,4,5,6]⟩ ?_
    clear H N
    rintro m' ρ w163 ⟨xM,r,own,rfl,rfl,i0,rfl,N,H⟩
    have hn_own:=H.jm 0 rfl
    have sl:=setTo_len ((yO s.qB.length (xC s t s.qA.length) (zi s t s.qA.length) i)[k]!) ((xC s t s.qA.length)[i]!) (((zi s t s.qA.length)[i]!)[x]!) r
    refine zcc (sp (yI r) (sq 1 (sp (yI i) ?_)))
    have hl166:=H.isLen 5 rfl
    obtain ⟨b164,o165,rfl⟩:=H.addr 5 rfl qf
    obtain ⟨ae167,ce167,Fe167,H⟩:=H.vX 5 rfl i i qf qf qf
    refine oI rfl rfl (oL rfl (H.x8 1 rfl 0 rfl) (oN rfl (sq 1 (zjn (cD rfl (fun h168=>?_) (fun h168=>?_))))))
    ·skip
     obtain ⟨g3,g4⟩:=choice_at (s:=s) (t:=t) (n:=s.qA.length) (i:=i) (r:=r) qf qf
     refine qW (t_n (xQ (qY ?_)))
     refine yK rfl H [1,2] fun H=>?_
     have S:=H.jo [1,2] [0,1,2,3,4,5,6,7]
     refine rtl 0 S ?_
     refine rtl 1 S ?_
     refine rtp 2 (yI i) S ?_
     refine tI 3 rfl rfl rfl S ?_
     refine tL 4 rfl rfl (fun _ h=>h.x8 1 rfl 0 rfl) S ?_
     refine rtp 5 (yI r) S ?_
     obtain ⟨b170,o171,rfl⟩:=H.addr 0 rfl qf
     have S:=H.jo [1,2] [0,1,2,3,4,5,6,7]
     refine tI 6 rfl rfl rfl S ?_
     refine tL 7 rfl rfl (fun _ h=>h.zH 0 rfl r qf) S ?_
     refine rtl 8 S ?_
     refine rtp 9 (yI i) S ?_
     refine tI 10 rfl rfl rfl S ?_
     refine tL 11 rfl rfl (fun _ h=>h.x8 3 rfl 0 rfl) S ?_
     refine rtp 12 (yI x) S ?_
     obtain ⟨b173,o174,rfl⟩:=H.addr 2 rfl qf
     obtain ⟨ae176,ce176,Fe176,H⟩:=H.vX 2 rfl x x qf qf qf
     have S:=H.jo [1,2] [2,3,4,5,6,7,8,9]
     refine tI 13 rfl rfl rfl S ?_
     refine rtp 15 (yI r) S ?_
     refine ro 14 rfl (zl (.slice ae176 ((((zi s t s.qA.length)[i]!)[x]!).length) ce176) isAgg24 rfl (H.x8 1 rfl 0 rfl) (⟨H.pick [1,2] [2,3,4,5,6,7,8,9],?_⟩))
     obtain ⟨b177,o178,rfl⟩:=H.addr 0 rfl qf
     refine tI 16 rfl rfl rfl (H.pick [1,2] [2,3,4,5,6,7,8,9]) ?_
     refine ro 17 rfl (zl (yI ((((zi s t s.qA.length)[i]!)[x]!)[r]!)) isAgg2 rfl (H.zH 0 rfl r qf) (⟨H.pick [1,2] [2,3,4,5,6,7,8,9],?_⟩))
     obtain ⟨b180,rfl⟩:=H.jW 0 rfl qf
     refine tI 18 rfl rfl rfl (H.pick [1,2] [2,3,4,5,6,7,8,9]) ?_
     refine ro 19 rfl (XE H 0 rfl ((((zi s t s.qA.length)[i]!)[x]!)[r]!) sizeOf2 rfl rfl (i:=((((xC s t s.qA.length)[i]!)[r]!).toNat)) qf qf fun w181 H=>⟨H.pick [1,2] [2,3,4,5,6,7,8,9],(xq qh (b_n (t_n (xU (sp (yI r) (sw (zA r 1 rfl rfl qf (sq 1 (xY (xe (m' :=((((xC s t s.qA.length)[i]!).length) - ((r+1):Int)).toNat) qf ⟨_,r+1,_,uE9,?_,?_,rfl,N,H.pick [0,1,2] [4,5,6,7,8,9]⟩))))))))))⟩)
     · rfl
     · omega
    refine zx4 (xU (sq 2 (sw (zf H underlying29 ti24 [.slice a158 (((yO s.qB.length (xC s t s.qA.length) (zi s t s.qA.length) i)[k]!).length) c159] fun b182 w183 H=>?_))))
    obtain ⟨G187,N,hn188,H⟩:=H.zG 1 rfl N (H.vS [6,7,5,4])
    refine sw (zk H 2 rfl 0 rfl underlying29 ti24 rfl qj rfl rfl rfl qw qp qf fun a184 c185 w186 H=>?_)
    replace H:=H.jM 5 rfl 0 rfl
    replace N:Fresh w.heap.size [(Qn++G187),G124,G121,y7]:=(N.pick [4,0,1,2,3]).join
    refine sq 1 (xY (b_n (t_n (xU (sp (yI x) (sw (zA x 1 rfl rfl qf (sq 1 (xY (xe (m' :=((((zi s t s.qA.length)[i]!).length) - ((x+1):Int)).toNat) qf ⟨_,_,_,_,_,_,_,x+1,uE7,?_,?_,rfl,(N.pick [1,2,3,0]),H.pick [2,3] [0,7,8,9]⟩))))))))))
    · exact nextX_succ qf (by rw [show r=((xC s t s.qA.length)[i]!).length by omega];rfl)
    · omega
   refine c_exit (t_x (t_x (b_x (b_n (t_n (xU (sp (yI k) (sw (zA k 1 rfl rfl qf (sq 1 (xY (xe (m' :=(ja - ((k+1):Int)).toNat) qf ⟨_,_,_,_,_,_,_,k+1,uE6,?_,?_,rfl,N,H.pick [0,1] [2,3,4,5]⟩))))))))))))
   · exact nextX_end qf qf
   · omega
  refine zx4 (xU (sq 2 (xY (b_n (t_n (xU (sp (yI i) (sw (zA i 1 rfl rfl qf (sq 1 (xY (xe (m' :=(n_all - ((i+1):Int)).toNat) qf ⟨_,_,_,_,_,_,_,i+1,uE4,?_,?_,rfl,(N.pick [0,1,3]),H.pick [0] [0,2,3]⟩))))))))))))
  · rw [show k=(yO s.qB.length (xC s t s.qA.length) (zi s t s.qA.length) i).length by omega];rfl
  · omega
 refine zx4 (zcc (sp (yI 1) (zjn (qY ?_))))
 have on:0 < (yO s.qB.length (xC s t s.qA.length) (zi s t s.qA.length) i).length:=by rw [QT,show i=(zi s t s.qA.length).length by omega];exact prod_mono kn (Nat.zero_le _) (Nat.le_refl _)
 have on2:=G_le (n:=s.qB.length) (rs:=(xC s t s.qA.length)) (i:=i) kn kc qf
 refine zq (fun m' ρ w189=>∃ (xM:Env) (i_1:Nat) (out_1:yLL) (x_out_1:List Value) (QL:yLN),ρ=upd (upd xM 9 (.slice yf ja jT)) 16 (yI i_1)∧((i_1:Int)≤ja)∧((yO s.qB.length (xC s t s.qA.length) (zi s t s.qA.length) (zi s t s.qA.length).length).Perm out_1)∧(∀ a b,a < b→b < i_1→¬ ahead (out_1[b]!) (out_1[a]!))∧m' =(ja - (i_1:Int)).toNat∧Fresh w.heap.size [QL]∧St w w189 [rr yf ja jT 24 1 x_out_1] [xB true QL x_out_1 out_1]) ((ja - (1:Int)).toNat) ⟨_,1,(yO s.qB.length (xC s t s.qA.length) (zi s t s.qA.length) i),Xn,y7,uE2,qf,(by rw [show i=(zi s t s.qA.length).length by omega]),(by exact fun a b h1 h2=>by omega),rfl,(N.pick [2]),H.pick [0] [0]⟩ ?_
 clear H N
 rintro m' ρ w190 ⟨xM,i_1,out_1,x_out_1,QL,rfl,i0,o1,o2,rfl,N,H⟩
 have hn_out:=H.xK (α:=yLI) 0 rfl 0 rfl qj
 refine zcc (sq 2 (oN rfl (sq 1 (zjn (cD rfl (fun h191=>?_) (fun h191=>?_))))))
 ·skip
  refine qW (t_n (xQ (qY (zcr (sq 2 (zjn (qY ?_)))))))
  refine zq (fun m' ρ w192=>∃ (xM:Env) (k:Int) (out_51:yLL) (x_out_51:List Value) (F_out_51:yLN),ρ=upd (upd (upd xM 9 (.slice yf ja jT)) 16 (yI i_1)) 17 (yI k)∧((yO s.qB.length (xC s t s.qA.length) (zi s t s.qA.length) (zi s t s.qA.length).length).Perm out_51)∧(InsTo out_51 i_1 k.toNat)∧(0≤k∧k≤i_1)∧m' =((k:Int)).toNat∧Fresh w.heap.size [F_out_51]∧St w w192 [rr yf ja jT 24 1 x_out_51] [xB true F_out_51 x_out_51 out_51]) (((i_1:Int)).toNat) ⟨_,i_1,out_1,x_out_1,QL,uE3,ql,(by exact InsTo.start o2),qf,rfl,N,H⟩ ?_
  clear H N
  rintro m' ρ w193 ⟨xM,k,out_51,x_out_51,F_out_51,rfl,o3,o4,o5,rfl,N,H⟩
  have hn_out:=H.xK (α:=yLI) 0 rfl 0 rfl qj
  refine xQ (xQ ?_)
  refine jf rfl H fun H=>rtp 0 (yI k) H ?_
  refine rtp 1 (.bool (decide ((k:Int) > 0))) H ?_
  refine rtp 2 (.bool (decide ((k:Int) > 0))) H ?_
  cases h195:(decide ((k:Int) > 0))
  ·skip
   replace h195:=of_decide_eq_false h195
   refine zI [3,4,5,6,7,8,9,10,11,12] 10 (H) (rtp 13 (.bool false) H ?_)
   refine xq qh (t_n (xE false rfl (fun h=>absurd h qj) (fun _=>c_exit (t_x (t_x (b_x (b_n (t_n (xU (sq 1 (sw (zA i_1 1 rfl rfl qf (sq 1 (xY (xe (m' :=(ja - ((i_1+1):Int)).toNat) qf ⟨_,i_1+1,_,_,_,uE2,?_,?_,?_,rfl,N,H⟩)))))))))))))))
   · omega
   · assumption
   · exact o4.stop (perm_rows o3) qf qf (by first | exact .inl qf | exact .inr (by rw [show k.toNat - 1=(k - 1).toNat by omega];assumption))
  replace h195:=of_decide_eq_true h195
  refine rgl 3 110 H ?_
  refine rgp 4 (yI k) 110 H ?_
  obtain ⟨b196,rfl⟩:=H.jW 0 rfl qf
  refine gI 5 rfl rfl rfl H ?_
  obtain ⟨a197,c198,G199,s200,h201,hx202,hy203,H⟩:=H.rowElemX 0 rfl 0 rfl (iv:=k) k.toNat qf qf
  have S:=H.jo [0] [1]
  refine gL 6 rfl rfl (fun _ h=>h.rowGet 0 rfl hx202) S ?_
  refine rgl 7 110 S ?_
  refine rgp 8 (yI k) 110 S ?_
  refine rg 9 _ 110 (y_sub k 1 rfl rfl qf) S ?_
  refine gI 10 rfl rfl rfl S ?_
  obtain ⟨a204,c205,G206,s207,h208,hx209,hy210,H⟩:=H.rowElemX 0 rfl 1 rfl (iv:=k - 1) ((k - 1).toNat) qf qf
  refine gL 11 rfl rfl (fun _ h=>h.rowGet 0 rfl hx209) (H.pick [0] [2]) ?_
  refine zY [12] qh qm (XD rfl (e:=110) rfl rfl ?_ zZ)
  have g5:=perm_rows o3
  have g6:=g5 k.toNat qf
  have g7:=g5 (k - 1).toNat qf
  refine oq (l03Before_ok _ (out_51[k.toNat]!) (out_51[(k - 1).toNat]!) (H.get 1 rfl).1 (H.get 0 rfl).1 qg) H fun w212 H=>⟨H.pick [0] [2],(rtl 13 (H.pick [0] [2]) ?_)⟩
  refine xq qh (t_n (cP rfl (fun h214=>?_) (fun h214=>?_)))
  ·skip
   refine qW (t_n (xQ (qY (zcr (sq 1 (sp (yI k) (oI rfl rfl ?_)))))))
   obtain ⟨a215,c216,G217,s218,h219,hx220,hy221,H⟩:=H.rowElemX 0 rfl 2 rfl (iv:=k) k.toNat qf qf
   refine oL rfl (H.rowGet 0 rfl hx220) (sq 1 (zjc (sq 1 (sp (yI k) (sq 1 (sp (yI k) (sw (o_sub k 1 rfl rfl qf (oI rfl rfl ?_)))))))))
   obtain ⟨a222,c223,G224,s225,h226,hx227,hy228,H⟩:=H.rowElemX 0 rfl 3 rfl (iv:=k - 1) ((k - 1).toNat) qf qf
   refine oL rfl (H.rowGet 0 rfl hx227) (oI rfl rfl (sw (o_storeRow1 H 0 rfl (.slice a222 ((out_51[(k - 1).toNat]!).length) c223) sizeOf24 rfl rfl rfl qf fun w229 H=>zjn (xU (sq 1 (sp (yI k) (sw (o_sub k 1 rfl rfl qf (sq 1 (oI rfl rfl (sw (o_storeRow1 H 0 rfl (.slice a215 ((out_51[k.toNat]!).length) c216) sizeOf24 rfl rfl rfl qf fun w230 H=>?_))))))))))))
   obtain ⟨F231,hF232,H⟩:=H.swapR 4 rfl (k:=(k:Int).toNat) (i:=(k - 1:Int).toNat) qf qf qf hy228 hy221
   replace N:Fresh w.heap.size [F231]:=Fresh.perm N hF232
   refine xY (b_n (t_n (xU (sp (yI k) (sw (o_sub k 1 rfl rfl qf (sq 1 (xY (xe (m' :=(((k - 1):Int)).toNat) qf ⟨_,_,_,_,_,uE3,?_,?_,?_,rfl,N,H.pick [0] [0]⟩)))))))))
   · exact perm_swap o3 qf qf
   · rw [show (k - 1).toNat=k.toNat - 1 by omega];exact o4.down (perm_rows o3) qf qf qf (by rw [show k.toNat - 1=(k - 1).toNat by omega];assumption)
   · omega
  refine c_exit (t_x (t_x (b_x (b_n (t_n (xU (sq 1 (sw (zA i_1 1 rfl rfl qf (sq 1 (xY (xe (m' :=(ja - ((i_1+1):Int)).toNat) qf ⟨_,i_1+1,_,_,_,uE2,?_,?_,?_,rfl,N,H.pick [0] [2]⟩))))))))))))
  · omega
  · assumption
  · exact o4.stop (perm_rows o3) qf qf (by first | exact .inl qf | exact .inr (by rw [show k.toNat - 1=(k - 1).toNat by omega];assumption))
 refine zx4 (zcr (sq 2 (sp (yI 0) (zjr (ret2 (.slice yf ja jT) (yI 0) rfl rfl rfl ⟨_,rfl,?_,H.base⟩)))))
 rw [cho_0 gp kc o1 (in_order qf o2)]
 exact ⟨yf,ja,jT,x_out_1,QL,rfl,N,H.pick [0] [0]⟩
end
section

noncomputable def ownL (e:TypeId) (s:qE) (t:qF) (n q:Nat):List (OwnI e):=(List.range n).map fun (c:Nat)=>⟨((appls s t).take q).filter fun x=>decide ((s.qB[x.toNat]!).qP=(c:Int))⟩
theorem ownL_len (e:TypeId) (s:qE) (t:qF) (n q:Nat):(ownL e s t n q).length=n:=by simp [ownL]
theorem ownL_get {e:TypeId} {s:qE} {t:qF} {n q c:Nat} (h:c < n):(ownL e s t n q)[c]! =⟨((appls s t).take q).filter fun x=>decide ((s.qB[x.toNat]!).qP=(c:Int))⟩:=by
  rw [getElem!_pos (ownL e s t n q) c (by rw [ownL_len];exact h)];simp [ownL]
theorem ownL_zero (e:TypeId) (s:qE) (t:qF) (n:Nat):List.replicate n (⟨[]⟩:OwnI e)=ownL e s t n 0:=by
  refine List.ext_getElem (by simp [ownL]) fun i h1 h2=>by simp [ownL]
theorem ownL_set {e:TypeId} {s:qE} {t:qF} {n q c:Nat} (hq:q < (appls s t).length) (hc:(s.qB[((appls s t)[q]!).toNat]!).qP.toNat=c) (h0:0≤(s.qB[((appls s t)[q]!).toNat]!).qP) (hn:c < n)
    {l:List (OwnI e)} (hl:l=(ownL e s t n q).set c ⟨((ownL e s t n q)[c]!).l++[(appls s t)[q]!]⟩):l=ownL e s t n (q+1):=by
  subst hl
  refine List.ext_getElem (by simp [ownL]) fun i h1 h2=>?_
  have hi:i < n:=by simpa [ownL] using h1
  rw [← getElem!_pos _ i h1,← getElem!_pos _ i h2,getset (by rw [ownL_len];exact hn),ownL_get (q:=q+1) hi]
  rw [← take_snoc hq,List.filter_append]
  by_cases e' :i=c
  · subst e'
    rw [if_pos rfl,ownL_get hi,List.filter_cons_of_pos (a:=(appls s t)[q]!) (decide_eq_true qf),List.filter_nil]
  · rw [if_neg e',ownL_get hi]
    rw [List.filter_cons_of_neg (a:=(appls s t)[q]!) (fun h=>by have:=of_decide_eq_true h;omega),List.filter_nil,List.append_nil]
theorem ownL_le {e:TypeId} {s:qE} {t:qF} {n q c:Nat} (h:c < n):((ownL e s t n q)[c]!).l.length≤(appls s t).length:=by
  rw [ownL_get h]
  exact Nat.le_trans (List.length_filter_le _ _) (by rw [List.length_take];omega)
noncomputable def cellsR (s:qE) (t:qF) (n:Nat):yLL:=(List.range n).map (vk s t)
theorem cellsR_len (s:qE) (t:qF) (n:Nat):(cellsR s t n).length=n:=by simp [cellsR]
theorem cellsR_get {s:qE} {t:qF} {n c:Nat} (h:c < n):(cellsR s t n)[c]! =vk s t c:=by
  rw [getElem!_pos (cellsR s t n) c (by rw [cellsR_len];exact h)];simp [cellsR]
theorem ownL_end {e:TypeId} {s:qE} {t:qF} {n q:Nat} (h:(appls s t).length≤q):(ownL e s t n q).map OwnI.l=cellsR s t n:=by
  unfold ownL cellsR
  rw [List.take_of_length_le h,List.map_map]
  rfl
theorem own_bad {s:qE} {t:qF} (hs:vK s) {q:Nat} (hq:q < (appls s t).length) (h1:QM (t.qN[(s.qB[((appls s t)[q]!).toNat]!).qP.toNat]!) > 16):¬ GoodP s t s.qA.length:=by
  have hm:(appls s t)[q]! ∈appls s t:=by rw [getElem!_pos _ q hq];exact List.getElem_mem hq
  obtain ⟨a,b,d⟩:=mem_applL.1 hm
  have hc:=(hs.rule b).1
  have hcl:=(hs.rule b).cell
  refine bad_sum (c:=(s.qB[((appls s t)[q]!).toNat]!).qP.toNat) hcl (fun h0=>?_) h1
  have:(appls s t)[q]! ∈vk s t (s.qB[((appls s t)[q]!).toNat]!).qP.toNat:=by
    unfold vk cellT
    exact List.mem_filter.2 ⟨hm,decide_eq_true (Int.toNat_of_nonneg hc.1).symm⟩
  rw [List.eq_nil_of_length_eq_zero h0] at this
  simp at this
noncomputable def Xt (s:qE) (t:qF) (k:Nat):List inCellD:=(XV s t k).map fun c=>⟨vk s t c,(cellP s t c).1⟩
theorem cells_len (s:qE) (t:qF) (k:Nat):(Xt s t k).length=(xC s t k).length:=by simp [Xt,xC]
theorem cells_yes {s:qE} {t:qF} {k:Nat} (h:¬ (vk s t k).length=0):Xt s t k++[⟨vk s t k,(cellP s t k).1⟩]=Xt s t (k+1):=by simp [Xt,live_yes h]
theorem cells_no {s:qE} {t:qF} {k:Nat} (h:(vk s t k).length=0):Xt s t k=Xt s t (k+1):=by simp [Xt,live_no h]
theorem cells_at {s:qE} {t:qF} {k i:Nat} (h:i < (Xt s t k).length):((Xt s t k)[i]!).frules=(xC s t k)[i]! ∧((Xt s t k)[i]!).fpackings=(zi s t k)[i]! :=by
  have h1:i < (xC s t k).length:=by rw [← cells_len];exact h
  have h2:i < (zi s t k).length:=by rw [packsL_le];exact h1
  rw [getElem!_pos _ i h,getElem!_pos _ i h1,getElem!_pos _ i h2]
  simp [Xt,xC,zi]
theorem prod_stop {all:List yLL} {n i k:Nat} (h:∀ j,j < n→all[j]! ≠[]) (hi:i < n) {G:yLL} {r:yLI} (hG:G.length=QX all i) (hk:k≤G.length) (h1:(nextK G r (all[i]!) k).length > 300):QX all n > 300:=by
  rw [nextK_len hk] at h1
  have h2:=prod_mono h (show i+1≤n from hi) (Nat.le_refl _)
  rw [QX,← hG] at h2
  have h3:=Nat.mul_le_mul_right (all[i]!).length hk
  omega
theorem appls_inH {s:qE} {t:qF} {q:Nat} (hq:q < (appls s t).length):0≤(appls s t)[q]! ∧((appls s t)[q]!).toNat < s.qB.length∧Appl s t ((appls s t)[q]!).toNat:=by
  have hm:(appls s t)[q]! ∈appls s t:=by rw [getElem!_pos _ q hq];exact List.getElem_mem hq
  exact mem_applL.1 hm
theorem bagAny_okH {l:yLI}:vw (l.length:Int) l↔BagAny l:=⟨fun h=>h.1,fun h=>⟨h,rfl⟩⟩
theorem sumTo_ge {l:yLI} (h:∀ k,k < l.length→0≤l[k]!):∀ n,n≤l.length→0≤sumTo l n∧∀ j,j < n→l[j]! ≤sumTo l n
  | 0,_=>⟨by simp [sumTo],fun j hj=>by omega⟩
  | n+1,hn=>by
    obtain ⟨h1,h2⟩:=sumTo_ge h n qf
    have h3:=h n qf
    rw [sumTo]
    refine ⟨by omega,fun j hj=>?_⟩
    by_cases e:j=n
    · subst e;omega
    · have:=h2 j qf;omega
theorem X6.bags {parts:yLL} {rest:yLI} (h:X6 parts rest) (h1:1≤parts.length):
    BagAny rest∧parts.length≤8∧∀ i,i < parts.length→BagAny (parts[i]!)∧(parts[i]!).length=rest.length∧QM (parts[i]!)≠0:=by
  obtain ⟨K,hK,hP,hR,hn⟩:=h
  have bag:∀ i,i < parts.length→BagAny (parts[i]!)∧(parts[i]!).length=rest.length∧QM (parts[i]!)≠0:=fun i hi=>by
    obtain ⟨hl,hb,j,hj,hp⟩:=hP i hi
    refine ⟨⟨fun k hk=>hb k qf,by omega,by omega⟩,by have:=hR.1;omega,?_⟩
    have:=(sumTo_ge (l:=parts[i]!) (fun k hk=>(hb k qf).1) _ (Nat.le_refl _)).2 j qf
    unfold QM;omega
  obtain ⟨hl,_,j,hj,_⟩:=hP 0 qf
  exact ⟨⟨fun k hk=>hR.2 k (by have:=hR.1;omega),by have:=hR.1;omega,by have:=hR.1;omega⟩,hn,bag⟩
theorem pack_begin {cs cn:yLI} {i:Nat} {n:Int} (hc:i < cn.length) (h2:cn.take i=cs.take i):(cn.set i n).take (i+1)=cs.take i++[n]:=by
  rw [List.take_add_one,List.take_set_of_le (Nat.le_refl _),h2,List.getElem?_set_self hc];rfl
theorem pack_keep {cs cn c2:yLI} {i:Nat} {n:Int} (h:c2.take (i+1)=(cn.set i n).take (i+1)) (h2:cn.take i=cs.take i):c2.take i=cs.take i:=by
  have:=congrArg (List.take i) h
  rwa [List.take_take,List.take_take,Nat.min_eq_left qf,List.take_set_of_le (Nat.le_refl _),h2] at this
theorem pack_stepI {parts:yLL} {rest cs cn:yLI} {out:yLL} {f i n:Nat} (hf:i+f=parts.length) (hp:i < parts.length) (hc:cn.length=parts.length) (h2:cn.take i=cs.take i)
    (h:(gath out (begins (cs.take i) (jS parts (f - 1) i rest n))).length≤2000):
    gath (gath out (begins (cs.take i) (jS parts (f - 1) i rest n))) (begins ((cn.set i (n:Int)).take (i+1)) (packs parts (parts.length - (i+1)) (i+1) (jH rest (parts[i]!) (-(n:Int)))))=gath out (begins (cs.take i) (jS parts (f - 1) i rest (n+1))):=by
  rw [pack_begin qf h2,← gath_step h,show parts.length - (i+1)=f - 1 by omega]
theorem pack_startI {parts:yLL} {rest cs:yLI} {out:yLL} {f i:Nat} (h:out.length≤2000):out=gath out (begins (cs.take i) (jS parts f i rest 0)):=by
  rw [packsTo_zero];exact (gath_nil qf).symm
theorem pack_fullI {parts:yLL} {rest cs:yLI} {out:yLL} {i:Nat} (hl:i=parts.length) (hc:cs.length=parts.length) (h:FullOk parts rest) (ho:out.length≤2000):
    gath out (begins (cs.take i) (packs parts (parts.length - i) i rest))=out++[cs]:=by
  rw [show parts.length - i=0 by omega,packs_full h,begins_one,gath_one ho,List.take_of_length_le qf]
theorem pack_noneI {parts:yLL} {rest cs:yLI} {out:yLL} {i:Nat} (hl:i=parts.length) (h:¬ FullOk parts rest) (ho:out.length≤2000):
    gath out (begins (cs.take i) (packs parts (parts.length - i) i rest))=out:=by
  rw [show parts.length - i=0 by omega,packs_none h];exact gath_nil qf
theorem pack_endI {parts:yLL} {rest cs:yLI} {out:yLL} {f i n:Nat} (hf:i+f=parts.length) (hp:i < parts.length) (hn:(n:Int)≤jA (parts[i]!) rest+1)
    (h0:0≤jA (parts[i]!) rest) (h:¬ (n:Int)≤jA (parts[i]!) rest∨¬ (gath out (begins (cs.take i) (jS parts (f - 1) i rest n))).length≤2000):
    gath out (begins (cs.take i) (packs parts (parts.length - i) i rest))=gath out (begins (cs.take i) (jS parts (f - 1) i rest n)):=by
  obtain ⟨f,rfl⟩:∃ g,f=g+1:=⟨f - 1,by omega⟩
  rw [show parts.length - i=f+1 by omega]
  rw [show f+1 - 1=f from rfl] at h ⊢
  exact (gath_end qf (by rcases h with h | h;(left;omega);(right;omega))).symm
theorem all_bI {b cs:yLI} {parts:yLL} (h:¬ QM b > 16) (h1:(gath ([]:yLL) (begins (cs.take 0) (packs parts (parts.length - 0) 0 b))).length > 2000):jV b parts=([],3):=by
  rw [show cs.take 0=[] from rfl,begins_nil] at h1
  have h2:(packs parts parts.length 0 b).length > 2000:=gath_all.1 h1
  rw [jV,if_neg h,if_pos h2]
theorem all_0I {b cs:yLI} {parts:yLL} (h:¬ QM b > 16) (h1:¬ (gath ([]:yLL) (begins (cs.take 0) (packs parts (parts.length - 0) 0 b))).length > 2000):jV b parts=(gath ([]:yLL) (begins (cs.take 0) (packs parts (parts.length - 0) 0 b)),0):=by
  rw [show cs.take 0=[] from rfl,begins_nil] at h1 ⊢
  have h2:¬ (packs parts parts.length 0 b).length > 2000:=fun h=>h1 (gath_all.2 h)
  rw [jV,if_neg h,if_neg h2,show parts.length - 0=parts.length from rfl,gath_few h2]
end
section
open Go.Proofs.Tryz
open Go.RowKit
set_option linter.unusedVariables false
set_option linter.unusedSimpArgs false
set_option maxRecDepth 100000
set_option maxHeartbeats 4000000
variable {cb : Nat}
theorem isBag_ok (w:World) (l:yLI) {al:yOA} {cl:Nat} {Fl:yLN} (hl:qO.rep w Fl [.slice al l.length cl] l):Calls Tryz.prog 229 #[.slice al l.length cl] w (Ret (fun v w' =>v=.bool (dec (BagAny l))) w):=by
 refine en func229 ntmps229 ?_
 have H:=(St.start w).arg hl
 have nhl:=qM hl
 clear hl
 have N:=Fresh.nil w.heap.size
 refine zcr (sp (.bool false) (zjc (sq 1 (sw (oq (sizeI_ok _ l (H.get 0 rfl).1) H fun w1 H=>sq 1 (sw (oq (Vj _ (l.length:Int) l (H.get 0 rfl).1) H fun w3 H=>sq 1 (zjr (ret1 (.bool (dec (vw (l.length:Int) l))) rfl rfl ⟨_,rfl,?_,H.base⟩)))))))))
 rw [dec_congr bagAny_okH]

theorem isFull_ok (w:World) (rest:yLI) (parts:yLL) {arest:yOA} {crest:Nat} {Frest:yLN} {zD:yOA} {zt:Nat} {Fparts:yLN} (hrest:qO.rep w Frest [.slice arest rest.length crest] rest) (hparts:qO.rep w Fparts [.slice zD parts.length zt] parts) (p0:X6 parts rest):Calls Tryz.prog 216 #[.slice arest rest.length crest,.slice zD parts.length zt] w (Ret (fun v w' =>v=.bool (dec (FullOk parts rest))) w):=by
 refine en func216 ntmps216 ?_
 have H:=((St.start w).arg hparts).arg hrest
 have nhrest:=qM hrest
 have nhparts:=qM hparts
 clear hrest hparts
 have N:=Fresh.nil w.heap.size
 refine zcr (sw (zS H [.slice arest rest.length crest] fun b1 w2 H=>sp (.bool false) (zjc (sq 1 (sp (.func (.func 227) #[] #[pp b1 0]) (sw (zQ #[.slice zD parts.length zt,.func (.func 227) #[] #[pp b1 0]] rfl rfl call97 (en func97 ntmps97 ?_))))))))
 refine zcr (sp (.bool false) (zjc (sq 1 (sp (.func (.func 227) #[] #[pp b1 0]) (sw (zQ #[.slice zD parts.length zt,.func (.func 227) #[] #[pp b1 0]] rfl rfl call150 (en func150 ntmps150 ?_)))))))
 refine zcr (sp (yI 0) (zjcc (sq 1 (oN rfl (sp (yI 0) (zjn (qY ?_)))))))
 refine zq ((fun Z0 Z1 Z2=>fun m' ρ w3=>∃ (xM:Env) (i:Nat),ρ=upd (upd (upd (upd xM 0 (.slice zD parts.length zt)) 1 (.func (.func 227) #[] #[pp b1 0])) 7 (yI parts.length)) 8 (yI i)∧((i:Int)≤parts.length)∧(FullTo parts rest i)∧m' =(parts.length - (i:Int)).toNat∧Fresh w.heap.size []∧St w w3 [Z0] [Z1,Z2]) _ _ _) ((parts.length - (0:Int)).toNat) ⟨_,0,uE4,qf,(by first | trivial | exact fun j hj=>by omega),rfl,N,H⟩ ?_
 clear H N
 rintro m' ρ w4 ⟨xM,i,rfl,i0,i1,rfl,N,H⟩
 refine zcr (sq 1 (zjn (xQ (cD rfl (fun h5=>?_) (fun h5=>?_)))))
 ·skip
  obtain ⟨t1,t2,t3,t4,t5⟩:=p0.times (k:=i) qf
  refine qW (t_n (xQ (qY (zcr (sp (yI i) (sp (yI i) (zjc (sp (.func (.func 227) #[] #[pp b1 0]) (sq 1 (sp (yI i) ?_))))))))))
  obtain ⟨b6,o7,rfl⟩:=H.addr 1 rfl qf
  obtain ⟨ae9,ce9,Fe9,H⟩:=H.vX 1 rfl i i qf qf qf
  refine oI rfl rfl (oL rfl (H.x8 1 rfl 0 rfl) (sw (zQ #[.slice ae9 ((parts[i]!).length) ce9,pp b1 0] rfl rfl call227 (en func227 ntmps227 ?_))))
  refine zcr (sp (.bool false) (zjc (sq 1 (oL rfl (H.cell 0 rfl rfl) (sw (oq (Vk _ (parts[i]!) rest (H.get 0 rfl).1 (H.get 2 rfl).1 qg qg) H fun w10 H=>sq 1 (zjr (ret1 (.bool (within (parts[i]!) rest)) rfl rfl ⟨_,rfl,(zjn (xE _ rfl (fun h12=>?_) (fun h12=>?_)))⟩))))))))
  ·skip
   refine zcr (sp (yI i) (sp (yI i) (zjr (zr5 (ret1 (yI i) rfl rfl ⟨_,rfl,(sw (o_pure (.bool true) (by show some (Value.bool (decide ((i:Int)≥0)))=some (Value.bool true);rw [decide_eq_true qf]) (sp (.bool true) (zjr (ret1 (.bool true) rfl rfl ⟨_,rfl,(sp (.bool false) (sp (.bool false) (zjr (ret1 (.bool false) rfl rfl ⟨_,rfl,?_,H.base⟩))))⟩)))))⟩)))))
   rw [xk (fun h=>by have:=h i qf;simp_all)]
  refine qW (b_n (t_n (xU (sw (zA i 1 rfl rfl qf (sq 1 (xY (xe (m' :=(parts.length - ((i+1):Int)).toNat) qf ⟨_,i+1,uE4,?_,?_,rfl,N,H.pick [0] [2,3]⟩))))))))
  · omega
  · first | trivial | exact i1.succ ‹_›
 refine zx4 (zcr (sq 1 (zjr (ret1 (yI (-1)) rfl rfl ⟨_,rfl,(sp (.bool false) (sp (.bool false) (zjr (ret1 (.bool false) rfl rfl ⟨_,rfl,(sp (.bool true) (sp (.bool true) (zjr (ret1 (.bool true) rfl rfl ⟨_,rfl,?_,H.base⟩))))⟩))))⟩))))
 rw [jY (show FullOk parts rest from fun j hj=>i1 j qf)]

theorem bagAndParts_ok (w:World) (b:yLI) (parts:yLL) {ab:yOA} {Fb:yLN} {zD:yOA} {zt:Nat} {Fparts:yLN} (hb:qO.rep w Fb [.slice ab b.length cb] b) (hparts:qO.rep w Fparts [.slice zD parts.length zt] parts) (p0:X6 parts b) (p1:1≤parts.length):Calls Tryz.prog 223 #[.slice ab b.length cb,.slice zD parts.length zt] w (Ret (fun v w' =>v=yI 0) w):=by
 refine en func223 ntmps223 ?_
 have H:=((St.start w).arg hparts).arg hb
 have nhb:=qM hb
 have nhparts:=qM hparts
 clear hb hparts
 have N:=Fresh.nil w.heap.size
 obtain ⟨pb,pl,pk⟩:=p0.bags p1
 refine zcr (sp (yI 0) (zjcc (sq 1 (sw (oq (isBag_ok _ b (H.get 0 rfl).1) H fun w2 H=>sq 1 (zjn (cQ rfl (fun h4=>?_) (fun h4=>?_))))))))
 ·skip
  refine zcr (sp (yI 1) (zjr (t_r (ret1 (yI 1) rfl rfl ⟨_,rfl,?_,H.base⟩))))
  exfalso;first | omega | exact ‹¬ BagAny _› pb
 refine qW (t_n (zcr (sq 1 (oN rfl (sq 2 (oN rfl (sw (vM H underlying24 ti2 parts.length rfl rfl qf qf qf fun b5 w6 H=>sw (zQ #[yI b.length,.slice zD parts.length zt,.slice (aa b5 0) parts.length parts.length] rfl rfl call230 (en func230 ntmps230 ?_))))))))))
 refine zcr (sp (yI 0) (zjcc (sq 1 (sw (zQ #[.slice zD parts.length zt,.func (.func 231) #[] #[]] rfl rfl call97 (en func97 ntmps97 ?_))))))
 refine zcr (sp (.bool false) (zjc (sq 1 (sp (.func (.func 231) #[] #[]) (sw (zQ #[.slice zD parts.length zt,.func (.func 231) #[] #[]] rfl rfl call150 (en func150 ntmps150 ?_)))))))
 refine zcr (sp (yI 0) (zjcc (sq 1 (oN rfl (sp (yI 0) (zjn (qY ?_)))))))
 refine zq ((fun Z0 Z1 Z2=>fun m' ρ w7=>∃ (xM:Env) (i:Nat),ρ=upd (upd (upd (upd xM 0 (.slice zD parts.length zt)) 1 (.func (.func 231) #[] #[])) 7 (yI parts.length)) 8 (yI i)∧((i:Int)≤parts.length)∧(True)∧m' =(parts.length - (i:Int)).toNat∧Fresh w.heap.size []∧St w w7 [Z0] [Z1,Z2]) _ _ _) ((parts.length - (0:Int)).toNat) ⟨_,0,uE4,qf,(by first | trivial | exact fun j hj=>by omega),rfl,N,H⟩ ?_
 clear H N
 rintro m' ρ w8 ⟨xM,i,rfl,i0,i1,rfl,N,H⟩
 refine zcr (sq 1 (zjn (xQ (cD rfl (fun h9=>?_) (fun h9=>?_)))))
 ·skip
  refine qW (t_n (xQ (qY (zcr (sp (yI i) (sp (yI i) (zjc (sp (.func (.func 231) #[] #[]) (sq 1 (sp (yI i) ?_))))))))))
  obtain ⟨b10,o11,rfl⟩:=H.addr 1 rfl qf
  obtain ⟨ae13,ce13,Fe13,H⟩:=H.vX 1 rfl i i qf qf qf
  refine oI rfl rfl (oL rfl (H.x8 1 rfl 0 rfl) (sw (zQ #[.slice ae13 ((parts[i]!).length) ce13] rfl rfl call231 (en func231 ntmps231 ?_))))
  refine zcr (sp (.bool false) (zjc (sq 1 (sw (oq (isBag_ok _ (parts[i]!) (H.get 0 rfl).1) H fun w15 H=>sq 2 (zjr (ret1 (.bool (!(dec (BagAny (parts[i]!))))) rfl rfl ⟨_,rfl,(zjn (cQ rfl (fun h17=>?_) (fun h17=>?_)))⟩)))))))
  ·skip
   exact absurd (pk i qf).1 h17
  refine qW (b_n (t_n (xU (sw (zA i 1 rfl rfl qf (sq 1 (xY (xe (m' :=(parts.length - ((i+1):Int)).toNat) qf ⟨_,i+1,uE4,?_,?_,rfl,N,H.pick [0] [2,3]⟩))))))))
  · omega
  · first | trivial | exact i1.succ ‹_›
 refine zx4 (zcr (sq 1 (zjr (ret1 (yI (-1)) rfl rfl ⟨_,rfl,(sp (.bool false) (sp (.bool false) (zjr (ret1 (.bool false) rfl rfl ⟨_,rfl,(zjn (xE false rfl (fun h=>absurd h qj) (fun _=>qW (t_n (zcc (sq 1 (oN rfl (sp (.bool (decide ((parts.length:Int) > 8))) (sp (.bool (decide ((parts.length:Int) > 8))) ?_)))))))))⟩))))⟩))))
 cases h18:(decide ((parts.length:Int) > 8))
 ·skip
  replace h18:=of_decide_eq_false h18
  refine qL 14 rfl rfl (sq 1 (qL 14 rfl rfl (oN rfl (qL 14 rfl rfl (sq 1 (qL 14 rfl rfl (oN rfl (qL 14 rfl rfl (sq 2 (zjn (xE _ rfl (fun h=>absurd rfl (bne_iff_ne.1 h)) (fun h19=>?_))))))))))))
  replace h19:=xm h19
  refine qW (t_n (zcc (sq 1 (oN rfl (sp (yI 0) (zjn (qY ?_)))))))
  refine zq ((fun Z0 Z1 Z2=>fun m' ρ w20=>∃ (xM:Env) (i_1:Nat),ρ=upd (upd (upd (upd (upd xM 0 (yI b.length)) 2 (.slice (aa b5 0) parts.length parts.length)) 21 (.slice zD parts.length zt)) 22 (yI parts.length)) 23 (yI i_1)∧((i_1:Int)≤parts.length)∧m' =(parts.length - (i_1:Int)).toNat∧Fresh w.heap.size []∧St w w20 [Z0] [Z1,Z2]) _ _ _) ((parts.length - (0:Int)).toNat) ⟨_,0,uE5,qf,rfl,N,H⟩ ?_
  clear H N
  rintro m' ρ w21 ⟨xM,i_1,rfl,i0,rfl,N,H⟩
  refine zcr (sq 1 (zjn (xQ (cD rfl (fun h22=>?_) (fun h22=>?_)))))
  ·skip
   obtain ⟨r1,r2,r3⟩:=pk i_1 qf
   have r4:=yB r1
   have r5:(List.replicate parts.length (0:Int))[i_1]! =0:=by rw [getElem!_pos _ i_1 qy];simp
   refine qW (t_n (xQ (qY (zcr (sq 1 ?_)))))
   obtain ⟨b23,o24,rfl⟩:=H.addr 1 rfl qf
   obtain ⟨ae26,ce26,Fe26,H⟩:=H.vX 1 rfl i_1 i_1 qf qf qf
   refine oI rfl rfl (oL rfl (H.x8 1 rfl 0 rfl) (sq 2 (zjc (sq 1 (oN rfl (sq 1 (sp (.bool (((parts[i_1]!).length:Int) != b.length)) (sp (.bool (((parts[i_1]!).length:Int) != b.length)) ?_))))))))
   cases h27:(((parts[i_1]!).length:Int) != b.length)
   ·skip
    replace h27:=xm h27
    refine qL 32 rfl rfl (sq 1 (qL 32 rfl rfl (sw (oq (XM _ (parts[i_1]!) (H.get 0 rfl).1 (by first | assumption | exact vg ql | exact yB ql)) H fun w28 H=>qL 32 rfl rfl (sp (.bool ((QM (parts[i_1]!):Int) == 0)) (sp (.bool ((QM (parts[i_1]!):Int) == 0)) (sp (.bool ((QM (parts[i_1]!):Int) == 0)) ?_)))))))
    cases h30:((QM (parts[i_1]!):Int) == 0)
    ·skip
     replace h30:=ne_of_beq_false h30
     refine qL 37 rfl rfl (sq 1 (qL 37 rfl rfl (sq 1 (qL 37 rfl rfl (oI rfl rfl (qL 37 rfl rfl (oL rfl (H.rowInt 0 rfl (iv:=i_1) (i:=i_1) qf qf) (qL 37 rfl rfl (sw (oq (Xj w28 ((List.replicate parts.length (0:Int))[i_1]!) 0 1000) H fun w31 H=>qL 37 rfl rfl (sp (.bool (!(inR ((List.replicate parts.length (0:Int))[i_1]!) 0 1000))) (sp (.bool (!(inR ((List.replicate parts.length (0:Int))[i_1]!) 0 1000))) (zjn (xE (!(inR ((List.replicate parts.length (0:Int))[i_1]!) 0 1000)) rfl (fun h33=>?_) (fun h33=>?_)))))))))))))))
     ·skip
      replace h33:=xJ h33
      replace h33:=Xk h33
      refine zcr (sp (yI 2) (zjr (zr5 (ret1 (yI 2) rfl rfl ⟨_,rfl,(sp (yI 2) (zjr (ret1 (yI 2) rfl rfl ⟨_,rfl,?_,H.base⟩)))⟩))))
      exfalso;first | omega | exact ‹¬ BagAny _› pb
     replace h33:=xw h33
     replace h33:=QJ.1 h33
     refine qW (b_n (t_n (xU (sw (zA i_1 1 rfl rfl qf (sq 1 (xY (xe (m' :=(parts.length - ((i_1+1):Int)).toNat) qf ⟨_,i_1+1,uE5,?_,rfl,N,H.pick [0] [2,3]⟩))))))))
     · omega
    replace h30:=eq_of_beq h30
    refine xZ [38,39,40,41,42,43] (sp (.bool true) (zjn (xE true rfl (fun _=>zcr (sp (yI 2) (zjr (zr5 (ret1 (yI 2) rfl rfl ⟨_,rfl,(sp (yI 2) (zjr (ret1 (yI 2) rfl rfl ⟨_,rfl,?_,H.base⟩)))⟩))))) (fun h=>absurd h qj))))
    exfalso;first | omega | exact ‹¬ BagAny _› pb
   replace h27:=bne_iff_ne.1 h27
   refine xZ [33,34,35] (sp (.bool true) (sp (.bool true) (xZ [38,39,40,41,42,43] (sp (.bool true) (zjn (xE true rfl (fun _=>zcr (sp (yI 2) (zjr (zr5 (ret1 (yI 2) rfl rfl ⟨_,rfl,(sp (yI 2) (zjr (ret1 (yI 2) rfl rfl ⟨_,rfl,?_,H.base⟩)))⟩))))) (fun h=>absurd h qj)))))))
   exfalso;first | omega | exact ‹¬ BagAny _› pb
  refine zx4 (zcr (sp (yI 0) (zjr (ret1 (yI 0) rfl rfl ⟨_,rfl,(sp (yI 0) (zjr (ret1 (yI 0) rfl rfl ⟨_,rfl,?_,H.base⟩)))⟩))))
  rfl
 replace h18:=of_decide_eq_true h18
 refine xZ [15,16,17,18,19] (sp (.bool true) (zjn (xE true rfl (fun _=>zcr (sp (yI 2) (zjr (t_r (ret1 (yI 2) rfl rfl ⟨_,rfl,(sp (yI 2) (zjr (ret1 (yI 2) rfl rfl ⟨_,rfl,?_,H.base⟩)))⟩))))) (fun h=>absurd h qj))))
 exfalso;first | omega | exact ‹¬ BagAny _› pb

def packFrom_ok_S (f:Nat):Prop:=∀ {W0 w:World} {ps:List Prv} {Γ:List Fact} {Ns:List yLN} (i:Nat) (rest:yLI) (parts:yLL) (out:yLL) (cs:yLI) (arest:yOA) (crest:Nat) (Frest:yLN) (zD:yOA) (zt:Nat) (Fparts:yLN) (bp:Nat) (bi:Nat) (bq:Nat) (bo:Nat) (bl:Nat) (bc:Nat) (bf:Nat) (raout:yOA) (rnout:Nat) (rcout:Nat) (rxout:List Value) (rFout:yLN) (racs:yOA) (rncs:Nat) (rccs:Nat) (H:St W0 w ((.box bp [.slice zD parts.length zt] 29) :: (.box bi [.func (.func 215) #[] #[pp bq 0]] 126) :: (.box bq [.slice zD parts.length zt] 29) :: (.box bo [pp bl 0] 235) :: (.box bl [.slice raout rnout rcout] 237) :: (.box bc [.slice racs rncs rccs] 24) :: (.box bf [.func (.func 224) #[] #[pp bp 0,pp bi 0,pp bo 0,pp bc 0,pp bf 0]] 238) :: (rr raout rnout rcout 24 1 rxout) :: (rr racs rncs rccs 2 1 (cs.map (Value.int .i64))) :: ps) ((sF false Frest arest crest rest) :: (sF false Fparts zD zt parts) :: (xB true rFout rxout out) :: Γ)) (N:Fresh W0.heap.size (rFout :: Ns)) (K0:Kept Ns Γ) (p0:i+f=parts.length) (p1:X6 parts rest) (p2:out.length≤2000) (p3:cs.length=parts.length),Calls Tryz.prog 224 #[yI i,.slice arest rest.length crest,pp bp 0,pp bi 0,pp bo 0,pp bc 0,pp bf 0] w (fun e w' =>∃ v,e=.returned v∧∃ (cs_:yLI) (raout_:yOA) (rnout_:Nat) (rcout_:Nat) (rxout_:List Value) (rFout_:yLN),(cs_.length=cs.length)∧(cs_.take i=cs.take i)∧v=.bool (dec ((gath out (begins (cs.take i) (packs parts (parts.length - i) i rest))).length≤2000))∧Fresh W0.heap.size (rFout_ :: Ns)∧St W0 w' ((.box bp [.slice zD parts.length zt] 29) :: (.box bi [.func (.func 215) #[] #[pp bq 0]] 126) :: (.box bq [.slice zD parts.length zt] 29) :: (.box bo [pp bl 0] 235) :: (.box bl [.slice raout_ rnout_ rcout_] 237) :: (.box bc [.slice racs rncs rccs] 24) :: (.box bf [.func (.func 224) #[] #[pp bp 0,pp bi 0,pp bo 0,pp bc 0,pp bf 0]] 238) :: (rr raout_ rnout_ rcout_ 24 1 rxout_) :: (rr racs rncs rccs 2 1 (cs_.map (Value.int .i64))) :: ps) ((sF false Frest arest crest rest) :: (sF false Fparts zD zt parts) :: (xB true rFout_ rxout_ (gath out (begins (cs.take i) (packs parts (parts.length - i) i rest)))) :: Γ))
theorem packFrom_ok_step (f:Nat) (IH:∀ k,k < f→packFrom_ok_S k) {W0 w:World} {ps:List Prv} {Γ:List Fact} {Ns:List yLN} (i:Nat) (rest:yLI) (parts:yLL) (out:yLL) (cs:yLI) (arest:yOA) (crest:Nat) (Frest:yLN) (zD:yOA) (zt:Nat) (Fparts:yLN) (bp:Nat) (bi:Nat) (bq:Nat) (bo:Nat) (bl:Nat) (bc:Nat) (bf:Nat) (raout:yOA) (rnout:Nat) (rcout:Nat) (rxout:List Value) (rFout:yLN) (racs:yOA) (rncs:Nat) (rccs:Nat) (H:St W0 w ((.box bp [.slice zD parts.length zt] 29) :: (.box bi [.func (.func 215) #[] #[pp bq 0]] 126) :: (.box bq [.slice zD parts.length zt] 29) :: (.box bo [pp bl 0] 235) :: (.box bl [.slice raout rnout rcout] 237) :: (.box bc [.slice racs rncs rccs] 24) :: (.box bf [.func (.func 224) #[] #[pp bp 0,pp bi 0,pp bo 0,pp bc 0,pp bf 0]] 238) :: (rr raout rnout rcout 24 1 rxout) :: (rr racs rncs rccs 2 1 (cs.map (Value.int .i64))) :: ps) ((sF false Frest arest crest rest) :: (sF false Fparts zD zt parts) :: (xB true rFout rxout out) :: Γ)) (N:Fresh W0.heap.size (rFout :: Ns)) (K0:Kept Ns Γ) (p0:i+f=parts.length) (p1:X6 parts rest) (p2:out.length≤2000) (p3:cs.length=parts.length):Calls Tryz.prog 224 #[yI i,.slice arest rest.length crest,pp bp 0,pp bi 0,pp bo 0,pp bc 0,pp bf 0] w (fun e w' =>∃ v,e=.returned v∧∃ (cs_:yLI) (raout_:yOA) (rnout_:Nat) (rcout_:Nat) (rxout_:List Value) (rFout_:yLN),(cs_.length=cs.length)∧(cs_.take i=cs.take i)∧v=.bool (dec ((gath out (begins (cs.take i) (packs parts (parts.length - i) i rest))).length≤2000))∧Fresh W0.heap.size (rFout_ :: Ns)∧St W0 w' ((.box bp [.slice zD parts.length zt] 29) :: (.box bi [.func (.func 215) #[] #[pp bq 0]] 126) :: (.box bq [.slice zD parts.length zt] 29) :: (.box bo [pp bl 0] 235) :: (.box bl [.slice raout_ rnout_ rcout_] 237) :: (.box bc [.slice racs rncs rccs] 24) :: (.box bf [.func (.func 224) #[] #[pp bp 0,pp bi 0,pp bo 0,pp bc 0,pp bf 0]] 238) :: (rr raout_ rnout_ rcout_ 24 1 rxout_) :: (rr racs rncs rccs 2 1 (cs_.map (Value.int .i64))) :: ps) ((sF false Frest arest crest rest) :: (sF false Fparts zD zt parts) :: (xB true rFout_ rxout_ (gath out (begins (cs.take i) (packs parts (parts.length - i) i rest)))) :: Γ)):=by
 refine en func224 ntmps224 ?_
 have nrest:=qM (H.get 0 rfl).1
 have nparts:=qM (H.get 1 rfl).1
 obtain rfl:=H.xK (α:=yLI) 7 rfl 2 rfl qj
 obtain rfl:=H.jm 8 rfl
 have p4:=p1.small
 refine zcr (sp (.bool false) (zjcc (sp (yI i) (oL rfl (H.cell 0 rfl rfl) (oN rfl (sq 1 (zjn (cE rfl (fun h1=>?_) (fun h1=>?_)))))))))
 ·skip
  refine zcr (oL rfl (H.cell 1 rfl rfl) (sq 1 (sw (zQ #[.slice arest rest.length crest,pp bq 0] rfl rfl call215 (en func215 ntmps215 ?_)))))
  refine zcr (sp (.bool false) (zjc (sq 1 (oL rfl (H.cell 2 rfl rfl) (sw (oq (isFull_ok _ rest parts (H.get 0 rfl).1 (H.get 1 rfl).1 qg) H fun w3 H=>sq 1 (zjr (ret1 (.bool (dec (FullOk parts rest))) rfl rfl ⟨_,rfl,(sp (.bool (!(dec (FullOk parts rest)))) (sp (.bool (!(dec (FullOk parts rest)))) ?_))⟩))))))))
  cases h5:(!(dec (FullOk parts rest)))
  ·skip
   replace h5:=xw h5
   replace h5:=yX h5
   refine qL 19 rfl rfl (oL rfl (H.cell 3 rfl rfl) (qL 19 rfl rfl (oL rfl (H.cell 5 rfl rfl) (qL 19 rfl rfl (sw (zQ #[pp bl 0,.slice racs cs.length rccs] rfl rfl call225 (en func225 ntmps225 ?_)))))))
   refine zcr (sp (.bool false) (zjcc (sq 2 (oF rfl (oL rfl (H.cell 4 rfl rfl) (oN rfl (sp (.bool (decide ((out.length:Int) > 2000))) (zjn (cD rfl (fun h6=>?_) (fun h6=>?_))))))))))
   ·skip
    refine zcr (sp (.bool false) (zjr (t_r (ret1 (.bool false) rfl rfl ⟨_,rfl,(sp (.bool false) (sp (.bool false) (zjr (t_r (ret1 (.bool false) rfl rfl ⟨_,rfl,?_⟩)))))⟩))))
    exfalso;omega
   refine qW (t_n (xQ ?_))
   refine c_cut (fun ρ w12=>∃ (xM:Env) (a7:yOA) (c8:Nat) (a9:yOA) (c10:Nat) (G11:yLN),ρ=upd xM 0 (pp bl 0)∧Fresh W0.heap.size ((rFout++G11) :: Ns)∧St W0 w12 ((.box bp [.slice zD parts.length zt] 29) :: (.box bi [.func (.func 215) #[] #[pp bq 0]] 126) :: (.box bq [.slice zD parts.length zt] 29) :: (.box bo [pp bl 0] 235) :: (.box bl [.slice a7 (out.length+1) c8] 237) :: (.box bc [.slice racs cs.length rccs] 24) :: (.box bf [.func (.func 224) #[] #[pp bp 0,pp bi 0,pp bo 0,pp bc 0,pp bf 0]] 238) :: (rr a7 (out.length+1) c8 24 1 (rxout++[.slice a9 cs.length c10])) :: (rr racs cs.length rccs 2 1 (cs.map (Value.int .i64))) :: ps) ((xB true (rFout++G11) (rxout++[.slice a9 cs.length c10]) (out++[cs])) :: (sF true G11 a9 c10 cs) :: (sF false Frest arest crest rest) :: (sF false Fparts zD zt parts) :: Γ)) ?_ ?_
   ·skip
    refine XL rfl H [0,1,2,3,5,6,8] [0,1,2] fun H=>?_
    have S:=H.jo [0,1,2,3,5,6,8] [0,1,2]
    refine rtl 0 S ?_
    refine rtl 1 S ?_
    refine rtl 2 S ?_
    refine tF 3 rfl rfl S ?_
    refine rtl 5 S ?_
    refine zY [4,6] qh qm (jd rfl ?_ (jd rfl ?_ zZ))
    ·skip
     refine zl (.slice raout out.length rcout) isAgg29 rfl (H.cell 4 rfl rfl) (⟨H.pick [0,1,2,3,5,6,8] [0,1,2],(ro 6 rfl ?_)⟩)
     obtain ⟨G14,hn15,h16⟩:=H.Qi 8 rfl
     have sz17:=H.base.size
     have lt18:=all_two (H.ltN (L:=[rFout]) [2]) (H.ltK (K0.behind 3 rfl))
     refine oc (cloneI_ok _ cs h16 qg) ?_
     rintro v22 w20 r22 x21
     replace H:=H.zC x21 r22
     obtain ⟨a23,c24,rfl,hc25,hm26⟩:=H.jq 0 rfl
     refine ⟨H.pick [1,2,3,4,6,7,9] [0,1,2],(ro 7 rfl (zf H underlying29 ti24 [.slice a23 cs.length c24] fun b27 w28 H=>⟨H.pick [2,3,4,5,7,8,10] [0,1,2],(ro 8 rfl ?_)⟩))⟩
     obtain ⟨G32,N,hn33,H⟩:=H.zG 1 rfl N (fun F hF b hb=>(List.mem_append.1 (show F∈[rFout]++Ns from hF)).elim (fun h=>(H.vS (L:=[rFout]) [2]) F h b hb) fun h=>H.QW (K0.behind 3 rfl) F h b hb)
     try dsimp only [List.set] at H
     refine zk H 9 rfl 0 rfl underlying29 ti24 rfl qj rfl rfl rfl qw qp qf fun a29 c30 w31 H=>?_
     try dsimp only [List.set] at H
     replace H:=H.jM 3 rfl 0 rfl
     replace N:Fresh W0.heap.size ((rFout++G32) :: Ns):=(N.zV 2 [1,0] qo).join
     refine ⟨H.pick [2,3,4,5,7,8,10] [2,3,4],?_⟩
     have S:=H.jo [2,3,4,5,7,8,10] [2,3,4]
     refine rtl 9 S ?_
     refine tF 10 rfl rfl S ?_
     refine ro 11 rfl (xO H 6 [.slice a29 (out.length+1) c30] sizeOf29 fun w34 H=>?_)
     try dsimp only [List.set] at H
     refine ⟨H.pick [2,3,4,5,7,8,10] [2,3,4],(xq qh ((meet ⟨_,a29,c30,a23,c24,G32,uE1,N,H.zV 11 5 [2,3,4,5,6,7,8,9,10] [0,1,2,3] qo qo⟩)))⟩
    obtain ⟨G35,hn36,h37⟩:=H.Qi 8 rfl
    have sz38:=H.base.size
    have lt39:=all_two (H.ltN (L:=[rFout]) [2]) (H.ltK (K0.behind 3 rfl))
    refine oc (cloneI_ok _ cs h37 qg) ?_
    rintro v43 w41 r43 x42
    replace H:=H.zC x42 r43
    obtain ⟨a44,c45,rfl,hc46,hm47⟩:=H.jq 0 rfl
    refine ⟨H.pick [1,2,3,4,6,7,9] [0,1,2],(zY [4,7] qh qm (jd rfl ?_ (jd rfl ?_ zZ)))⟩
    ·skip
     refine zl (.slice raout out.length rcout) isAgg29 rfl (H.cell 5 rfl rfl) (⟨H.pick [1,2,3,4,6,7,9] [0,1,2],(ro 7 rfl (zf H underlying29 ti24 [.slice a44 cs.length c45] fun b48 w49 H=>⟨H.pick [2,3,4,5,7,8,10] [0,1,2],(ro 8 rfl ?_)⟩))⟩)
     obtain ⟨G53,N,hn54,H⟩:=H.zG 1 rfl N (fun F hF b hb=>(List.mem_append.1 (show F∈[rFout]++Ns from hF)).elim (fun h=>(H.vS (L:=[rFout]) [2]) F h b hb) fun h=>H.QW (K0.behind 3 rfl) F h b hb)
     try dsimp only [List.set] at H
     refine zk H 9 rfl 0 rfl underlying29 ti24 rfl qj rfl rfl rfl qw qp qf fun a50 c51 w52 H=>?_
     try dsimp only [List.set] at H
     replace H:=H.jM 3 rfl 0 rfl
     replace N:Fresh W0.heap.size ((rFout++G53) :: Ns):=(N.zV 2 [1,0] qo).join
     refine ⟨H.pick [2,3,4,5,7,8,10] [2,3,4],?_⟩
     have S:=H.jo [2,3,4,5,7,8,10] [2,3,4]
     refine rtl 9 S ?_
     refine tF 10 rfl rfl S ?_
     refine ro 11 rfl (xO H 6 [.slice a50 (out.length+1) c51] sizeOf29 fun w55 H=>?_)
     try dsimp only [List.set] at H
     refine ⟨H.pick [2,3,4,5,7,8,10] [2,3,4],(xq qh ((meet ⟨_,a50,c51,a44,c45,G53,uE1,N,H.zV 11 5 [2,3,4,5,6,7,8,9,10] [0,1,2,3] qo qo⟩)))⟩
    refine zf H underlying29 ti24 [.slice a44 cs.length c45] fun b56 w57 H=>⟨H.pick [2,3,4,5,7,8,10] [0,1,2],(ro 4 rfl (zl (.slice raout out.length rcout) isAgg29 rfl (H.cell 6 rfl rfl) (⟨H.pick [2,3,4,5,7,8,10] [0,1,2],(ro 8 rfl ?_)⟩)))⟩
    obtain ⟨G61,N,hn62,H⟩:=H.zG 1 rfl N (fun F hF b hb=>(List.mem_append.1 (show F∈[rFout]++Ns from hF)).elim (fun h=>(H.vS (L:=[rFout]) [2]) F h b hb) fun h=>H.QW (K0.behind 3 rfl) F h b hb)
    try dsimp only [List.set] at H
    refine zk H 9 rfl 0 rfl underlying29 ti24 rfl qj rfl rfl rfl qw qp qf fun a58 c59 w60 H=>?_
    try dsimp only [List.set] at H
    replace H:=H.jM 3 rfl 0 rfl
    replace N:Fresh W0.heap.size ((rFout++G61) :: Ns):=(N.zV 2 [1,0] qo).join
    refine ⟨H.pick [2,3,4,5,7,8,10] [2,3,4],?_⟩
    have S:=H.jo [2,3,4,5,7,8,10] [2,3,4]
    refine rtl 9 S ?_
    refine tF 10 rfl rfl S ?_
    refine ro 11 rfl (xO H 6 [.slice a58 (out.length+1) c59] sizeOf29 fun w63 H=>?_)
    try dsimp only [List.set] at H
    refine ⟨H.pick [2,3,4,5,7,8,10] [2,3,4],(xq qh ((meet ⟨_,a58,c59,a44,c45,G61,uE1,N,H.zV 11 5 [2,3,4,5,6,7,8,9,10] [0,1,2,3] qo qo⟩)))⟩
   clear H N
   rintro ρ w64 ⟨xM,a7,c8,a9,c10,G11,rfl,N,H⟩
   refine t_n (zcr (sq 2 (oF rfl (oL rfl (H.cell 4 rfl rfl) (oN rfl (sp (.bool (decide ((out.length+1:Int)≤2000))) (sp (.bool (decide ((out.length+1:Int)≤2000))) (zjr (ret1 (.bool (decide ((out.length+1:Int)≤2000))) rfl rfl ⟨_,rfl,(sp (.bool (decide ((out.length+1:Int)≤2000))) (sp (.bool (decide ((out.length+1:Int)≤2000))) (zjr (t_r (ret1 (.bool (decide ((out.length+1:Int)≤2000))) rfl rfl ⟨_,rfl,?_⟩)))))⟩)))))))))
   rw [pack_fullI qf p3 ‹FullOk _ _› p2,show decide ((out.length+1:Int)≤2000)=dec ((out++[cs]).length≤2000) from dec_eq qy]
   exact ⟨cs,a7,out.length+1,c8,rxout++[Value.slice a9 cs.length c10],(rFout++G11),(by first | rfl | omega | (have:=‹_=(List.set _ _ _).length›;rw [List.length_set] at this;omega)),(by first | rfl | assumption | exact pack_keep ‹_› j2),rfl,N,H.zV 9 4 [0,1,2,3,4,5,6,7,8] [2,3,0] qo qo⟩
  replace h5:=xJ h5
  replace h5:=zT h5
  refine xZ [20,21,22] (sp (.bool true) (sp (.bool true) (zjr (t_r (ret1 (.bool true) rfl rfl ⟨_,rfl,?_⟩)))))
  rw [pack_noneI qf ‹_› p2,jY p2]
  exact ⟨cs,raout,out.length,rcout,rxout,rFout,(by first | rfl | omega | (have:=‹_=(List.set _ _ _).length›;rw [List.length_set] at this;omega)),(by first | rfl | assumption | exact pack_keep ‹_› j2),rfl,N,H.zV 9 3 [0,1,2,3,4,5,6,7,8] [0,1,2] qo qo⟩
 refine qW (t_n (zcc (sp (yI 0) (zjn (qY ?_)))))
 obtain ⟨t1,t2,t3,t4,t5,t6⟩:=p1.times (k:=i) qf
 refine zq (fun m' ρ w65=>∃ (xM:Env) (n:Nat) (a_out_lists:yOA) (n_out_lists:Nat) (c_out_lists:Nat) (out_lists:yLL) (x_out_lists:List Value) (Xa:yLN) (cs_1:yLI),ρ=upd (upd (upd (upd (upd (upd xM 0 (yI i)) 1 (.slice arest rest.length crest)) 2 (pp bp 0)) 5 (pp bc 0)) 6 (pp bf 0)) 10 (yI n)∧out_lists=(gath out (begins (cs.take i) (jS parts (f - 1) i rest n)))∧((n:Int)≤jA (parts[i]!) rest+1)∧(cs_1.length=parts.length)∧(cs_1.take i=cs.take i)∧((gath out (begins (cs.take i) (jS parts (f - 1) i rest n))).length≤2000)∧m' =(jA (parts[i]!) rest+1 - (n:Int)).toNat∧Fresh W0.heap.size (Xa :: Ns)∧St W0 w65 ((.box bp [.slice zD parts.length zt] 29) :: (.box bi [.func (.func 215) #[] #[pp bq 0]] 126) :: (.box bq [.slice zD parts.length zt] 29) :: (.box bo [pp bl 0] 235) :: (.box bl [.slice a_out_lists n_out_lists c_out_lists] 237) :: (.box bc [.slice racs cs.length rccs] 24) :: (.box bf [.func (.func 224) #[] #[pp bp 0,pp bi 0,pp bo 0,pp bc 0,pp bf 0]] 238) :: (rr a_out_lists n_out_lists c_out_lists 24 1 x_out_lists) :: (rr racs cs.length rccs 2 1 (cs_1.map (Value.int .i64))) :: ps) ((sF false Frest arest crest rest) :: (sF false Fparts zD zt parts) :: (xB true Xa x_out_lists out_lists) :: Γ)) ((jA (parts[i]!) rest+1 - (0:Int)).toNat) ⟨_,0,raout,out.length,rcout,out,rxout,rFout,cs,uE6,(by exact pack_startI p2),qf,ql,(by rfl),(by rw [← pack_startI p2];exact p2),rfl,N,H⟩ ?_
 clear H N
 rintro m' ρ w66 ⟨xM,n,a_out_lists,n_out_lists,c_out_lists,out_lists,x_out_lists,Xa,cs_1,rfl,rfl,i0,j1,j2,j3,rfl,N,H⟩
 have hn_out_lists:=H.xK (α:=yLI) 7 rfl 2 rfl qj
 have hn_cs:=H.jm 8 rfl
 refine zcc (sp (yI n) (oL rfl (H.cell 0 rfl rfl) (sp (yI i) ?_)))
 obtain ⟨b67,o68,rfl⟩:=H.addr 1 rfl qf
 obtain ⟨ae70,ce70,Fe70,H⟩:=H.vX 1 rfl i i qf qf qf
 refine oI rfl rfl (oL rfl (H.x8 1 rfl 0 rfl) (sq 1 ?_))
 obtain ⟨t1,t2,t3,t4,t5,t6⟩:=p1.times (k:=i) qf
 refine sw (oq (timesIn_ok _ (parts[i]!) rest (H.get 0 rfl).1 (H.get 2 rfl).1 qg qg) H fun w72 H=>sq 1 (zjn (cD rfl (fun h74=>?_) (fun h74=>?_))))
 ·skip
  refine qW (t_n (xQ (qY (zcr (oL rfl (H.cell 5 rfl rfl) (sp (yI i) (sp (yI n) ?_)))))))
  obtain ⟨b75,rfl⟩:=H.jW 8 rfl qf
  refine oI rfl rfl (sw (XE H 8 rfl n sizeOf2 rfl rfl (i:=i) qf qf fun w76 H=>?_))
  try dsimp only [List.set] at H
  refine zjn (xQ ?_)
  refine XL rfl H [0,1,2,3,5,6] [0,1,2,3] fun H=>?_
  have S:=H.jo [0,1,2,3,5,6] [0,1,2,3]
  refine tL 0 rfl rfl (fun _ h=>h.cell 5 rfl rfl) S ?_
  refine rtp 1 (yI i) S ?_
  refine rt 2 _ (y_add i 1 rfl rfl qf) S ?_
  refine rtl 3 S ?_
  refine tL 4 rfl rfl (fun _ h=>h.cell 0 rfl rfl) S ?_
  refine rtp 5 (yI i) S ?_
  refine tI 6 rfl rfl rfl S ?_
  refine tL 7 rfl rfl (fun _ h=>h.x8 1 rfl 0 rfl) S ?_
  refine rtp 8 (yI n) S ?_
  refine rt 9 _ (y_neg n rfl qf) S ?_
  refine ro 10 rfl ?_
  obtain ⟨u1,u2,u3,u4⟩:=p1.plus (k:=i) qf (n:=(n:Int)) qf qf
  have sz78:=H.base.size
  have lt79:=all_two (H.ltN (L:=[Xa]) [4]) (H.ltK (K0.behind 5 rfl))
  refine oc (plus_ok _ rest (parts[i]!) (-n) (H.get 2 rfl).1 (H.get 0 rfl).1 qg qg qg) ?_
  rintro v83 w81 r83 x82
  replace H:=H.zC x82 r83
  obtain ⟨a84,c85,rfl,hc86,hm87⟩:=H.jq 0 rfl
  refine ⟨H.pick [1,2,3,4,6,7] [0,1,2,3],(ro 11 rfl ?_)⟩
  obtain ⟨G88,N,hn89,H⟩:=H.zG 0 rfl N (fun F hF b hb=>(List.mem_append.1 (show F∈[Xa]++Ns from hF)).elim (fun h=>(H.vS (L:=[Xa]) [4]) F h b hb) fun h=>H.QW (K0.behind 5 rfl) F h b hb)
  try dsimp only [List.set] at H
  replace H:=H.unfreeI 0 rfl
  have H1:=H.yg 10 7 [1,2,3,4,5,6,7,8,9,0] [0,5,6,0,1,2,3,4] qo qo
  have N1:Fresh _ (Xa :: G88 :: Ns):=(N.zV 2 [1,0] qo)
  have K1:Kept (Ns) ((sF false G88 a84 c85 (jH rest (parts[i]!) (-n))) :: (sF true G88 a84 c85 (jH rest (parts[i]!) (-n))) :: (sF false Fe70 ae70 ce70 (parts[i]!)) :: (atF b67 (o68+(i:Int).toNat * 1) [.slice ae70 ((parts[i]!).length) ce70]) :: (sF false Frest arest crest rest) :: Γ):=K0.behind 5 rfl
  replace K1:=K1.cons (F:=G88) 0 rfl rfl
  refine zJ #[yI (i+1),.slice a84 ((jH rest (parts[i]!) (-n)).length) c85,pp bp 0,pp bi 0,pp bo 0,pp bc 0,pp bf 0] rfl rfl call224 (IH (f - 1) qf (i+1) (jH rest (parts[i]!) (-n)) parts (gath out (begins (cs.take i) (jS parts (f - 1) i rest n))) (cs_1.set i n) a84 c85 G88 (aa b67 o68) zt Fparts bp bi bq bo bl bc bf a_out_lists n_out_lists c_out_lists x_out_lists Xa (aa b75 0) cs.length rccs H1 N1 K1 qf (by first | assumption | exact u4) (by first | assumption | exact j3 | (simp;done)) (by first | assumption | (rw [List.length_set];exact j1) | (simp;done))) ?_
  clear H H1 N1 K1
  rintro _ w90 ⟨zl94,ra95,rn96,rc97,rx98,rF99,hx92,hx93,rfl,N,H⟩
  obtain rfl:=H.xK (α:=yLI) 7 rfl 2 rfl qj
  refine ⟨H.pick [0,1,2,3,5,6] [5,6,7,1],(rtp 12 (.bool (!(dec ((gath (gath out (begins (cs.take i) (jS parts (f - 1) i rest n))) (begins ((cs_1.set i n).take (i+1)) (packs parts (parts.length - (i+1)) (i+1) (jH rest (parts[i]!) (-n))))).length≤2000)))) (H.pick [0,1,2,3,5,6] [5,6,7,1]) ?_)⟩
  refine xq qh (t_n (cQ rfl (fun h100=>?_) (fun h100=>?_)))
  ·skip
   refine zcr (sp (.bool false) (zjr (zr5 (ret1 (.bool false) rfl rfl ⟨_,rfl,?_⟩))))
   have e1:=pack_stepI (out:=out) p0 qf j1 j2 j3
   have e2:=‹¬ (gath (gath _ _) _).length≤2000›
   rw [e1] at e2
   rw [pack_endI (n:=n+1) p0 qf qf qf (.inr e2),← e1,xk (by rw [e1];exact e2)]
   exact ⟨zl94,ra95,(gath (gath out (begins (cs.take i) (jS parts (f - 1) i rest n))) (begins ((cs_1.set i n).take (i+1)) (packs parts (parts.length - (i+1)) (i+1) (jH rest (parts[i]!) (-n))))).length,rc97,rx98,rF99,(by first | rfl | omega | (have:=‹_=(List.set _ _ _).length›;rw [List.length_set] at this;omega)),(by first | rfl | assumption | exact pack_keep ‹_› j2),rfl,(N.zV 2 [0] qo),H.zV 10 8 [0,1,2,3,4,5,6,7,8] [7,1,2] qo qo⟩
  refine qW (b_n (t_n (xU (sp (yI n) (sw (zA n 1 rfl rfl qf (sq 1 (xY (xe (m' :=(jA (parts[i]!) rest+1 - ((n+1):Int)).toNat) qf ⟨_,n+1,_,_,_,_,_,_,_,uE6,?_,?_,?_,?_,?_,rfl,(N.zV 2 [0] qo),H.zV 10 8 [0,1,2,3,4,5,6,7,8] [7,1,2] qo qo⟩)))))))))
  · exact pack_stepI p0 qf j1 j2 j3
  · omega
  · have:=‹_=(List.set _ _ _).length›;rw [List.length_set] at this;omega
  · exact pack_keep ‹_› j2
  · rw [← pack_stepI p0 qf j1 j2 j3];assumption
 refine zx4 (zcr (sp (.bool true) (zjr (ret1 (.bool true) rfl rfl ⟨_,rfl,?_⟩))))
 rw [pack_endI (f:=f) (n:=n) p0 qf i0 qf (.inl qf),jY j3]
 exact ⟨cs_1,a_out_lists,n_out_lists,c_out_lists,x_out_lists,Xa,(by first | rfl | omega | (have:=‹_=(List.set _ _ _).length›;rw [List.length_set] at this;omega)),(by first | rfl | assumption | exact pack_keep ‹_› j2),rfl,N,H.zV 9 5 [0,1,2,3,4,5,6,7,8] [2,3,4] qo qo⟩

theorem packFrom_ok (f:Nat):packFrom_ok_S f:=Nat.strongRecOn (motive:=packFrom_ok_S) f fun f IH=>by unfold packFrom_ok_S;intros;apply packFrom_ok_step f IH <;> assumption

theorem maxPack_ok (w:World) (b:yLI) (parts:yLL) {ab:yOA} {Fb:yLN} {zD:yOA} {zt:Nat} {Fparts:yLN} (hb:qO.rep w Fb [.slice ab b.length cb] b) (hparts:qO.rep w Fparts [.slice zD parts.length zt] parts) (p0:X6 parts b) (p1:1≤parts.length):Calls Tryz.prog 196 #[.slice ab b.length cb,.slice zD parts.length zt] w (Ret (fun v w' =>∃ (ra0:yOA) (rn0:Nat) (rc0:Nat) (rx0:List Value) (rF0:yLN),v=.tuple #[.slice ra0 rn0 rc0,yI ((jV b parts).2)]∧Fresh w.heap.size [rF0]∧St w w' [rr ra0 rn0 rc0 24 1 rx0] [xB true rF0 rx0 ((jV b parts).1)]) w):=by
 refine en func196 ntmps196 ?_
 have H:=((St.start w).arg hparts).arg hb
 have nhb:=qM hb
 have nhparts:=qM hparts
 clear hb hparts
 have N:=Fresh.nil w.heap.size
 have p3:=p0.small
 have p4:=p0.smallB
 refine zcr (sw (zS H [.slice zD parts.length zt] fun b1 w2 H=>sq 1 (sp (yI 0) (zjc (sq 1 (oL rfl (H.cell 0 rfl rfl) (sp (.func (.func 215) #[] #[pp b1 0]) (sw (zQ #[.slice ab b.length cb,.slice zD parts.length zt,.func (.func 215) #[] #[pp b1 0]] rfl rfl call214 (en func214 ntmps214 ?_))))))))))
 refine zcr (sw (zS H [.slice zD parts.length zt] fun b3 w4 H=>sw (zS H [.func (.func 215) #[] #[pp b1 0]] fun b5 w6 H=>sq 1 (sp (yI 0) (zjcc (sq 1 (oL rfl (H.cell 1 rfl rfl) (sw (oq (bagAndParts_ok _ b parts (H.get 0 rfl).1 (H.get 1 rfl).1 qg qg) H fun w8 H=>sp (yI 0) (zjc (sp (yI 0) (sp (.bool false) (zjn (xE false rfl (fun h=>absurd h qj) (fun _=>qW (t_n (zcc (sq 1 ?_))))))))))))))))))
 refine sw (oq (XM _ b (H.get 0 rfl).1 (by first | assumption | exact vg ql | exact yB ql)) H fun w10 H=>sp (.bool (decide ((QM b:Int) > 16))) (zjn (cD rfl (fun h12=>?_) (fun h12=>?_))))
 ·skip
  refine zcr (sq 1 (sp (yI 3) (zjr (t_r (ret2 yN (yI 3) rfl rfl rfl ⟨_,rfl,?_⟩)))))
  replace H:=H.erases [1,0]
  dsimp only [vV,List.eraseIdx] at H
  refine sq 1 (sp (yI 3) (sq 1 (sp (yI 3) (zjr ?_))))
  replace H:=H.nilRow 24 1
  replace H:=H.zW (α:=yLI)
  refine ret2 yN (yI 3) rfl rfl rfl ⟨_,rfl,?_,H.base⟩
  first | rw [all_a ql] | rw [all_bI (cs:=(List.replicate parts.length (0:Int))) ql qf]
  exact ⟨none,0,0,[],[],rfl,N.emp,H.pick [0] [0]⟩
 refine qW (t_n (xQ ?_))
 refine c_cut (fun ρ w17=>∃ (xM:Env) (b13:Nat) (b14:Nat) (b15:Nat) (b16:Nat),ρ=upd (upd (upd (upd (upd xM 0 (.slice ab b.length cb)) 4 (pp b3 0)) 5 (pp b5 0)) 9 (pp b13 0)) 10 (pp b14 0)∧Fresh w.heap.size []∧St w w17 [.box b14 [.slice (aa b15 0) parts.length parts.length] 24,.box b13 [pp b16 0] 235,rr (aa b15 0) parts.length parts.length 2 1 ((List.replicate parts.length (0:Int)).map (Value.int .i64)),.box b16 [yN] 237,.box b5 [.func (.func 215) #[] #[pp b1 0]] 126,.box b3 [.slice zD parts.length zt] 29,.box b1 [.slice zD parts.length zt] 29] [sF false Fb ab cb b,sF false Fparts zD zt parts]) ?_ ?_
 ·skip
  refine jf rfl H fun H=>?_
  refine Qx (fun ρ w23=>∃ (xM:Env) (b19:Nat) (b20:Nat) (b21:Nat),ρ=upd (upd (upd (upd (upd (upd (upd xM 0 (.slice ab b.length cb)) 4 (pp b3 0)) 5 (pp b5 0)) 9 (pp b20 0)) 10 (pp b21 0)) 22 (pp b19 0)) 24 (yI parts.length)∧Fresh w.heap.size []∧St w w23 [.box b21 [yN] 24,.box b20 [.pointer none] 235,.box b19 [yN] 237,.box b5 [.func (.func 215) #[] #[pp b1 0]] 126,.box b3 [.slice zD parts.length zt] 29,.box b1 [.slice zD parts.length zt] 29] [sF false Fb ab cb b,sF false Fparts zD zt parts]) 3 #[true,true,true,true,false,true,true,false,false] ?_ fun L22=>?_
  ·skip
   rintro ρ w24 ⟨xM,b19,b20,b21,rfl,N,H⟩
   refine zY [4,7] qh qm (jd rfl ?_ (jd rfl ?_ zZ))
   ·skip
    refine vM H underlying24 ti2 parts.length rfl rfl qf qf qf fun b25 w26 H=>⟨H.pick [4,5,6] [0,1],(ro 7 rfl (xO H 2 [pp b19 0] sizeOf235 fun w27 H=>⟨H.pick [4,5,6] [0,1],(ro 8 rfl (xO H 1 [.slice (aa b25 0) parts.length parts.length] sizeOf24 fun w28 H=>⟨H.pick [4,5,6] [0,1],(xq qh ((meet ⟨_,b20,b21,b25,b19,uE5,N,H.pick [1,2,0,3,4,5,6] [0,1]⟩)))⟩))⟩))⟩
   refine xO H 1 [pp b19 0] sizeOf235 fun w29 H=>⟨H.pick [3,4,5] [0,1],(ro 4 rfl (vM H underlying24 ti2 parts.length rfl rfl qf qf qf fun b30 w31 H=>⟨H.pick [4,5,6] [0,1],(ro 8 rfl (xO H 1 [.slice (aa b30 0) parts.length parts.length] sizeOf24 fun w32 H=>⟨H.pick [4,5,6] [0,1],(xq qh ((meet ⟨_,b20,b21,b30,b19,uE5,N,H.pick [1,2,0,3,4,5,6] [0,1]⟩)))⟩))⟩))⟩
  refine Qx (fun ρ w36=>∃ (xM:Env) (b33:Nat) (b34:Nat),ρ=upd (upd (upd (upd (upd xM 0 (.slice ab b.length cb)) 4 (pp b3 0)) 5 (pp b5 0)) 22 (pp b33 0)) 25 (.slice (aa b34 0) parts.length parts.length)∧Fresh w.heap.size []∧St w w36 [rr (aa b34 0) parts.length parts.length 2 1 ((List.replicate parts.length (0:Int)).map (Value.int .i64)),.box b33 [yN] 237,.box b5 [.func (.func 215) #[] #[pp b1 0]] 126,.box b3 [.slice zD parts.length zt] 29,.box b1 [.slice zD parts.length zt] 29] [sF false Fb ab cb b,sF false Fparts zD zt parts]) 4 #[true,true,true,true,true,false,false,false,false] ?_ fun L35=>?_
  ·skip
   rintro ρ w37 ⟨xM,b33,b34,rfl,N,H⟩
   refine zY [5,6] qh qm (jd rfl ?_ (jd rfl ?_ zZ))
   ·skip
    refine xx H ti235 [.pointer none] fun b38 w39 H=>⟨H.pick [3,4,5] [0,1],(ro 6 rfl (xx H ti24 [yN] fun b40 w41 H=>⟨H.pick [4,5,6] [0,1],(ro 7 rfl (xO H 1 [pp b33 0] sizeOf235 fun w42 H=>⟨H.pick [4,5,6] [0,1],(ro 8 rfl (xO H 0 [.slice (aa b34 0) parts.length parts.length] sizeOf24 fun w43 H=>⟨H.pick [4,5,6] [0,1],(xq qh ((meet ⟨_,b38,b40,b34,b33,uE5,N,H⟩)))⟩))⟩))⟩))⟩
   refine xx H ti24 [yN] fun b44 w45 H=>⟨H.pick [3,4,5] [0,1],(ro 5 rfl (xx H ti235 [.pointer none] fun b46 w47 H=>⟨H.pick [4,5,6] [0,1],(ro 7 rfl (xO H 0 [pp b33 0] sizeOf235 fun w48 H=>⟨H.pick [4,5,6] [0,1],(ro 8 rfl (xO H 1 [.slice (aa b34 0) parts.length parts.length] sizeOf24 fun w49 H=>⟨H.pick [4,5,6] [0,1],(xq qh ((meet ⟨_,b46,b44,b34,b33,uE5,N,H.pick [1,0,2,3,4,5,6] [0,1]⟩)))⟩))⟩))⟩))⟩
  refine Qx (fun ρ w53=>∃ (xM:Env) (b50:Nat) (b51:Nat),ρ=upd (upd (upd (upd (upd (upd xM 0 (.slice ab b.length cb)) 4 (pp b3 0)) 5 (pp b5 0)) 9 (pp b51 0)) 22 (pp b50 0)) 24 (yI parts.length)∧Fresh w.heap.size []∧St w w53 [.box b51 [.pointer none] 235,.box b50 [yN] 237,.box b5 [.func (.func 215) #[] #[pp b1 0]] 126,.box b3 [.slice zD parts.length zt] 29,.box b1 [.slice zD parts.length zt] 29] [sF false Fb ab cb b,sF false Fparts zD zt parts]) 4 #[true,true,true,true,false,true,false,false,false] ?_ fun L52=>?_
  ·skip
   rintro ρ w54 ⟨xM,b50,b51,rfl,N,H⟩
   refine zY [4,6] qh qm (jd rfl ?_ (jd rfl ?_ zZ))
   ·skip
    refine vM H underlying24 ti2 parts.length rfl rfl qf qf qf fun b55 w56 H=>⟨H.pick [3,4,5] [0,1],(ro 6 rfl (xx H ti24 [yN] fun b57 w58 H=>⟨H.pick [4,5,6] [0,1],(ro 7 rfl (xO H 2 [pp b50 0] sizeOf235 fun w59 H=>⟨H.pick [4,5,6] [0,1],(ro 8 rfl (xO H 0 [.slice (aa b55 0) parts.length parts.length] sizeOf24 fun w60 H=>⟨H.pick [4,5,6] [0,1],(xq qh ((meet ⟨_,b51,b57,b55,b50,uE5,N,H.pick [0,2,1,3,4,5,6] [0,1]⟩)))⟩))⟩))⟩))⟩
   refine xx H ti24 [yN] fun b61 w62 H=>⟨H.pick [3,4,5] [0,1],(yc L22 ⟨_,b50,b51,b61,uE7,N,H⟩)⟩
  refine Qx (fun ρ w66=>∃ (xM:Env) (b63:Nat) (b64:Nat),ρ=upd (upd (upd (upd (upd (upd xM 0 (.slice ab b.length cb)) 4 (pp b3 0)) 5 (pp b5 0)) 10 (pp b64 0)) 22 (pp b63 0)) 24 (yI parts.length)∧Fresh w.heap.size []∧St w w66 [.box b64 [yN] 24,.box b63 [yN] 237,.box b5 [.func (.func 215) #[] #[pp b1 0]] 126,.box b3 [.slice zD parts.length zt] 29,.box b1 [.slice zD parts.length zt] 29] [sF false Fb ab cb b,sF false Fparts zD zt parts]) 4 #[true,true,true,true,false,false,true,false,false] ?_ fun L65=>?_
  ·skip
   rintro ρ w67 ⟨xM,b63,b64,rfl,N,H⟩
   refine zY [4,5] qh qm (jd rfl ?_ (jd rfl ?_ zZ))
   ·skip
    refine vM H underlying24 ti2 parts.length rfl rfl qf qf qf fun b68 w69 H=>⟨H.pick [3,4,5] [0,1],(ro 5 rfl (xx H ti235 [.pointer none] fun b70 w71 H=>⟨H.pick [4,5,6] [0,1],(ro 7 rfl (xO H 0 [pp b63 0] sizeOf235 fun w72 H=>⟨H.pick [4,5,6] [0,1],(ro 8 rfl (xO H 2 [.slice (aa b68 0) parts.length parts.length] sizeOf24 fun w73 H=>⟨H.pick [4,5,6] [0,1],(xq qh ((meet ⟨_,b70,b64,b68,b63,uE5,N,H.pick [2,0,1,3,4,5,6] [0,1]⟩)))⟩))⟩))⟩))⟩
   refine xx H ti235 [.pointer none] fun b74 w75 H=>⟨H.pick [3,4,5] [0,1],(yc L22 ⟨_,b63,b74,b64,uE7,N,H.pick [1,0,2,3,4,5] [0,1]⟩)⟩
  refine Qx (fun ρ w79=>∃ (xM:Env) (b76:Nat) (b77:Nat),ρ=upd (upd (upd (upd (upd (upd xM 0 (.slice ab b.length cb)) 4 (pp b3 0)) 5 (pp b5 0)) 9 (pp b77 0)) 21 (.agg #[yN])) 25 (.slice (aa b76 0) parts.length parts.length)∧Fresh w.heap.size []∧St w w79 [.box b77 [.pointer none] 235,rr (aa b76 0) parts.length parts.length 2 1 ((List.replicate parts.length (0:Int)).map (Value.int .i64)),.box b5 [.func (.func 215) #[] #[pp b1 0]] 126,.box b3 [.slice zD parts.length zt] 29,.box b1 [.slice zD parts.length zt] 29] [sF false Fb ab cb b,sF false Fparts zD zt parts]) 4 #[true,false,true,true,true,true,false,false,false] ?_ fun L78=>?_
  ·skip
   rintro ρ w80 ⟨xM,b76,b77,rfl,N,H⟩
   refine zY [1,6] qh qm (jd rfl ?_ (jd rfl ?_ zZ))
   ·skip
    refine zS H [yN] fun b81 w82 H=>⟨H.pick [3,4,5] [0,1],(ro 6 rfl (xx H ti24 [yN] fun b83 w84 H=>⟨H.pick [4,5,6] [0,1],(ro 7 rfl (xO H 2 [pp b81 0] sizeOf235 fun w85 H=>⟨H.pick [4,5,6] [0,1],(ro 8 rfl (xO H 0 [.slice (aa b76 0) parts.length parts.length] sizeOf24 fun w86 H=>⟨H.pick [4,5,6] [0,1],(xq qh ((meet ⟨_,b77,b83,b76,b81,uE5,N,H.pick [0,2,3,1,4,5,6] [0,1]⟩)))⟩))⟩))⟩))⟩
   refine xx H ti24 [yN] fun b87 w88 H=>⟨H.pick [3,4,5] [0,1],(ro 1 rfl (zS H [yN] fun b89 w90 H=>⟨H.pick [4,5,6] [0,1],(ro 7 rfl (xO H 2 [pp b89 0] sizeOf235 fun w91 H=>⟨H.pick [4,5,6] [0,1],(ro 8 rfl (xO H 1 [.slice (aa b76 0) parts.length parts.length] sizeOf24 fun w92 H=>⟨H.pick [4,5,6] [0,1],(xq qh ((meet ⟨_,b77,b87,b76,b89,uE5,N,H.pick [1,2,3,0,4,5,6] [0,1]⟩)))⟩))⟩))⟩))⟩
  refine Qx (fun ρ w96=>∃ (xM:Env) (b93:Nat) (b94:Nat),ρ=upd (upd (upd (upd (upd (upd xM 0 (.slice ab b.length cb)) 4 (pp b3 0)) 5 (pp b5 0)) 10 (pp b94 0)) 21 (.agg #[yN])) 25 (.slice (aa b93 0) parts.length parts.length)∧Fresh w.heap.size []∧St w w96 [.box b94 [yN] 24,rr (aa b93 0) parts.length parts.length 2 1 ((List.replicate parts.length (0:Int)).map (Value.int .i64)),.box b5 [.func (.func 215) #[] #[pp b1 0]] 126,.box b3 [.slice zD parts.length zt] 29,.box b1 [.slice zD parts.length zt] 29] [sF false Fb ab cb b,sF false Fparts zD zt parts]) 4 #[true,false,true,true,true,false,true,false,false] ?_ fun L95=>?_
  ·skip
   rintro ρ w97 ⟨xM,b93,b94,rfl,N,H⟩
   refine zY [1,5] qh qm (jd rfl ?_ (jd rfl ?_ zZ))
   ·skip
    refine zS H [yN] fun b98 w99 H=>⟨H.pick [3,4,5] [0,1],(ro 5 rfl (xx H ti235 [.pointer none] fun b100 w101 H=>⟨H.pick [4,5,6] [0,1],(ro 7 rfl (xO H 0 [pp b98 0] sizeOf235 fun w102 H=>⟨H.pick [4,5,6] [0,1],(ro 8 rfl (xO H 2 [.slice (aa b93 0) parts.length parts.length] sizeOf24 fun w103 H=>⟨H.pick [4,5,6] [0,1],(xq qh ((meet ⟨_,b100,b94,b93,b98,uE5,N,H.pick [2,0,3,1,4,5,6] [0,1]⟩)))⟩))⟩))⟩))⟩
   refine xx H ti235 [.pointer none] fun b104 w105 H=>⟨H.pick [3,4,5] [0,1],(ro 1 rfl (zS H [yN] fun b106 w107 H=>⟨H.pick [4,5,6] [0,1],(ro 7 rfl (xO H 1 [pp b106 0] sizeOf235 fun w108 H=>⟨H.pick [4,5,6] [0,1],(ro 8 rfl (xO H 2 [.slice (aa b93 0) parts.length parts.length] sizeOf24 fun w109 H=>⟨H.pick [4,5,6] [0,1],(xq qh ((meet ⟨_,b104,b94,b93,b106,uE5,N,H.pick [2,1,3,0,4,5,6] [0,1]⟩)))⟩))⟩))⟩))⟩
  refine Qx (fun ρ w113=>∃ (xM:Env) (b110:Nat) (b111:Nat),ρ=upd (upd (upd (upd (upd (upd (upd xM 0 (.slice ab b.length cb)) 4 (pp b3 0)) 5 (pp b5 0)) 9 (pp b110 0)) 10 (pp b111 0)) 21 (.agg #[yN])) 24 (yI parts.length)∧Fresh w.heap.size []∧St w w113 [.box b111 [yN] 24,.box b110 [.pointer none] 235,.box b5 [.func (.func 215) #[] #[pp b1 0]] 126,.box b3 [.slice zD parts.length zt] 29,.box b1 [.slice zD parts.length zt] 29] [sF false Fb ab cb b,sF false Fparts zD zt parts]) 4 #[true,false,true,true,false,true,true,false,false] ?_ fun L112=>?_
  ·skip
   rintro ρ w114 ⟨xM,b110,b111,rfl,N,H⟩
   refine zY [1,4] qh qm (jd rfl ?_ (jd rfl ?_ zZ))
   ·skip
    refine zS H [yN] fun b115 w116 H=>⟨H.pick [3,4,5] [0,1],(yc L22 ⟨_,b115,b110,b111,uE7,N,H.pick [1,2,0,3,4,5] [0,1]⟩)⟩
   refine vM H underlying24 ti2 parts.length rfl rfl qf qf qf fun b117 w118 H=>⟨H.pick [3,4,5] [0,1],(ro 1 rfl (zS H [yN] fun b119 w120 H=>⟨H.pick [4,5,6] [0,1],(ro 7 rfl (xO H 3 [pp b119 0] sizeOf235 fun w121 H=>⟨H.pick [4,5,6] [0,1],(ro 8 rfl (xO H 2 [.slice (aa b117 0) parts.length parts.length] sizeOf24 fun w122 H=>⟨H.pick [4,5,6] [0,1],(xq qh ((meet ⟨_,b110,b111,b117,b119,uE5,N,H.pick [2,3,1,0,4,5,6] [0,1]⟩)))⟩))⟩))⟩))⟩
  refine Qx (fun ρ w125=>∃ (xM:Env) (b123:Nat),ρ=upd (upd (upd (upd (upd xM 0 (.slice ab b.length cb)) 4 (pp b3 0)) 5 (pp b5 0)) 21 (.agg #[yN])) 25 (.slice (aa b123 0) parts.length parts.length)∧Fresh w.heap.size []∧St w w125 [rr (aa b123 0) parts.length parts.length 2 1 ((List.replicate parts.length (0:Int)).map (Value.int .i64)),.box b5 [.func (.func 215) #[] #[pp b1 0]] 126,.box b3 [.slice zD parts.length zt] 29,.box b1 [.slice zD parts.length zt] 29] [sF false Fb ab cb b,sF false Fparts zD zt parts]) 5 #[true,false,true,true,true,false,false,false,false] ?_ fun L124=>?_
  ·skip
   rintro ρ w126 ⟨xM,b123,rfl,N,H⟩
   refine zY [1,5,6] qh qm (jd rfl ?_ (jd rfl ?_ (jd rfl ?_ zZ)))
   ·skip
    refine zS H [yN] fun b127 w128 H=>⟨H.pick [2,3,4] [0,1],(yc L35 ⟨_,b127,b123,uE5,N,H.pick [1,0,2,3,4] [0,1]⟩)⟩
   ·skip
    refine xx H ti235 [.pointer none] fun b129 w130 H=>⟨H.pick [2,3,4] [0,1],(yc L78 ⟨_,b123,b129,uE6,N,H⟩)⟩
   refine xx H ti24 [yN] fun b131 w132 H=>⟨H.pick [2,3,4] [0,1],(yc L95 ⟨_,b123,b131,uE6,N,H⟩)⟩
  refine Qx (fun ρ w135=>∃ (xM:Env) (b133:Nat),ρ=upd (upd (upd (upd (upd (upd xM 0 (.slice ab b.length cb)) 4 (pp b3 0)) 5 (pp b5 0)) 9 (pp b133 0)) 21 (.agg #[yN])) 24 (yI parts.length)∧Fresh w.heap.size []∧St w w135 [.box b133 [.pointer none] 235,.box b5 [.func (.func 215) #[] #[pp b1 0]] 126,.box b3 [.slice zD parts.length zt] 29,.box b1 [.slice zD parts.length zt] 29] [sF false Fb ab cb b,sF false Fparts zD zt parts]) 5 #[true,false,true,true,false,true,false,false,false] ?_ fun L134=>?_
  ·skip
   rintro ρ w136 ⟨xM,b133,rfl,N,H⟩
   refine zY [1,4,6] qh qm (jd rfl ?_ (jd rfl ?_ (jd rfl ?_ zZ)))
   ·skip
    refine zS H [yN] fun b137 w138 H=>⟨H.pick [2,3,4] [0,1],(yc L52 ⟨_,b137,b133,uE6,N,H.pick [1,0,2,3,4] [0,1]⟩)⟩
   ·skip
    refine vM H underlying24 ti2 parts.length rfl rfl qf qf qf fun b139 w140 H=>⟨H.pick [2,3,4] [0,1],(yc L78 ⟨_,b139,b133,uE6,N,H.pick [1,0,2,3,4] [0,1]⟩)⟩
   refine xx H ti24 [yN] fun b141 w142 H=>⟨H.pick [2,3,4] [0,1],(yc L112 ⟨_,b133,b141,uE7,N,H⟩)⟩
  refine Qx (fun ρ w145=>∃ (xM:Env) (b143:Nat),ρ=upd (upd (upd (upd (upd (upd xM 0 (.slice ab b.length cb)) 4 (pp b3 0)) 5 (pp b5 0)) 10 (pp b143 0)) 21 (.agg #[yN])) 24 (yI parts.length)∧Fresh w.heap.size []∧St w w145 [.box b143 [yN] 24,.box b5 [.func (.func 215) #[] #[pp b1 0]] 126,.box b3 [.slice zD parts.length zt] 29,.box b1 [.slice zD parts.length zt] 29] [sF false Fb ab cb b,sF false Fparts zD zt parts]) 5 #[true,false,true,true,false,false,true,false,false] ?_ fun L144=>?_
  ·skip
   rintro ρ w146 ⟨xM,b143,rfl,N,H⟩
   refine zY [1,4,5] qh qm (jd rfl ?_ (jd rfl ?_ (jd rfl ?_ zZ)))
   ·skip
    refine zS H [yN] fun b147 w148 H=>⟨H.pick [2,3,4] [0,1],(yc L65 ⟨_,b147,b143,uE6,N,H.pick [1,0,2,3,4] [0,1]⟩)⟩
   ·skip
    refine vM H underlying24 ti2 parts.length rfl rfl qf qf qf fun b149 w150 H=>⟨H.pick [2,3,4] [0,1],(yc L95 ⟨_,b149,b143,uE6,N,H.pick [1,0,2,3,4] [0,1]⟩)⟩
   refine xx H ti235 [.pointer none] fun b151 w152 H=>⟨H.pick [2,3,4] [0,1],(yc L112 ⟨_,b151,b143,uE7,N,H.pick [1,0,2,3,4] [0,1]⟩)⟩
  refine Qx (fun ρ w156=>∃ (xM:Env) (b153:Nat) (b154:Nat),ρ=upd (upd (upd (upd (upd xM 0 (.slice ab b.length cb)) 4 (pp b3 0)) 5 (pp b5 0)) 9 (pp b154 0)) 25 (.slice (aa b153 0) parts.length parts.length)∧Fresh w.heap.size []∧St w w156 [.box b154 [.pointer none] 235,rr (aa b153 0) parts.length parts.length 2 1 ((List.replicate parts.length (0:Int)).map (Value.int .i64)),.box b5 [.func (.func 215) #[] #[pp b1 0]] 126,.box b3 [.slice zD parts.length zt] 29,.box b1 [.slice zD parts.length zt] 29] [sF false Fb ab cb b,sF false Fparts zD zt parts]) 5 #[false,false,true,true,true,true,false,false,false] ?_ fun L155=>?_
  ·skip
   rintro ρ w157 ⟨xM,b153,b154,rfl,N,H⟩
   refine zY [0,6] qh qm (jd rfl ?_ (jd rfl ?_ zZ))
   ·skip
    refine zO [yN] [] (⟨H.pick [2,3,4] [0,1],(yc L78 ⟨_,b153,b154,uE6,N,H⟩)⟩)
   refine xx H ti24 [yN] fun b158 w159 H=>⟨H.pick [3,4,5] [0,1],(ro 0 rfl (zO [yN] [] (⟨H.pick [3,4,5] [0,1],(ro 1 rfl (zS H [yN] fun b160 w161 H=>⟨H.pick [4,5,6] [0,1],(ro 7 rfl (xO H 2 [pp b160 0] sizeOf235 fun w162 H=>⟨H.pick [4,5,6] [0,1],(ro 8 rfl (xO H 1 [.slice (aa b153 0) parts.length parts.length] sizeOf24 fun w163 H=>⟨H.pick [4,5,6] [0,1],(xq qh ((meet ⟨_,b154,b158,b153,b160,uE5,N,H.pick [1,2,3,0,4,5,6] [0,1]⟩)))⟩))⟩))⟩))⟩)))⟩
  refine Qx (fun ρ w167=>∃ (xM:Env) (b164:Nat) (b165:Nat),ρ=upd (upd (upd (upd (upd xM 0 (.slice ab b.length cb)) 4 (pp b3 0)) 5 (pp b5 0)) 10 (pp b165 0)) 25 (.slice (aa b164 0) parts.length parts.length)∧Fresh w.heap.size []∧St w w167 [.box b165 [yN] 24,rr (aa b164 0) parts.length parts.length 2 1 ((List.replicate parts.length (0:Int)).map (Value.int .i64)),.box b5 [.func (.func 215) #[] #[pp b1 0]] 126,.box b3 [.slice zD parts.length zt] 29,.box b1 [.slice zD parts.length zt] 29] [sF false Fb ab cb b,sF false Fparts zD zt parts]) 5 #[false,false,true,true,true,false,true,false,false] ?_ fun L166=>?_
  ·skip
   rintro ρ w168 ⟨xM,b164,b165,rfl,N,H⟩
   refine zY [0,5] qh qm (jd rfl ?_ (jd rfl ?_ zZ))
   ·skip
    refine zO [yN] [] (⟨H.pick [2,3,4] [0,1],(yc L95 ⟨_,b164,b165,uE6,N,H⟩)⟩)
   refine xx H ti235 [.pointer none] fun b169 w170 H=>⟨H.pick [3,4,5] [0,1],(ro 0 rfl (zO [yN] [] (⟨H.pick [3,4,5] [0,1],(ro 1 rfl (zS H [yN] fun b171 w172 H=>⟨H.pick [4,5,6] [0,1],(ro 7 rfl (xO H 1 [pp b171 0] sizeOf235 fun w173 H=>⟨H.pick [4,5,6] [0,1],(ro 8 rfl (xO H 2 [.slice (aa b164 0) parts.length parts.length] sizeOf24 fun w174 H=>⟨H.pick [4,5,6] [0,1],(xq qh ((meet ⟨_,b169,b165,b164,b171,uE5,N,H.pick [2,1,3,0,4,5,6] [0,1]⟩)))⟩))⟩))⟩))⟩)))⟩
  refine Qx (fun ρ w178=>∃ (xM:Env) (b175:Nat) (b176:Nat),ρ=upd (upd (upd (upd (upd (upd xM 0 (.slice ab b.length cb)) 4 (pp b3 0)) 5 (pp b5 0)) 9 (pp b175 0)) 10 (pp b176 0)) 24 (yI parts.length)∧Fresh w.heap.size []∧St w w178 [.box b176 [yN] 24,.box b175 [.pointer none] 235,.box b5 [.func (.func 215) #[] #[pp b1 0]] 126,.box b3 [.slice zD parts.length zt] 29,.box b1 [.slice zD parts.length zt] 29] [sF false Fb ab cb b,sF false Fparts zD zt parts]) 5 #[false,false,true,true,false,true,true,false,false] ?_ fun L177=>?_
  ·skip
   rintro ρ w179 ⟨xM,b175,b176,rfl,N,H⟩
   refine zY [0,4] qh qm (jd rfl ?_ (jd rfl ?_ zZ))
   ·skip
    refine zO [yN] [] (⟨H.pick [2,3,4] [0,1],(yc L112 ⟨_,b175,b176,uE7,N,H⟩)⟩)
   refine vM H underlying24 ti2 parts.length rfl rfl qf qf qf fun b180 w181 H=>⟨H.pick [3,4,5] [0,1],(ro 0 rfl (zO [yN] [] (⟨H.pick [3,4,5] [0,1],(ro 1 rfl (zS H [yN] fun b182 w183 H=>⟨H.pick [4,5,6] [0,1],(ro 7 rfl (xO H 3 [pp b182 0] sizeOf235 fun w184 H=>⟨H.pick [4,5,6] [0,1],(ro 8 rfl (xO H 2 [.slice (aa b180 0) parts.length parts.length] sizeOf24 fun w185 H=>⟨H.pick [4,5,6] [0,1],(xq qh ((meet ⟨_,b175,b176,b180,b182,uE5,N,H.pick [2,3,1,0,4,5,6] [0,1]⟩)))⟩))⟩))⟩))⟩)))⟩
  refine tL 2 rfl rfl (fun _ h=>h.cell 1 rfl rfl) H ?_
  refine tN 3 rfl rfl H ?_
  refine zY [0,4,5,6] qh qm (jd rfl ?_ (jd rfl ?_ (jd rfl ?_ (jd rfl ?_ zZ))))
  ·skip
   refine zO [yN] [] (⟨H,(zY [1,4,5,6] qh qm (jd rfl ?_ (jd rfl ?_ (jd rfl ?_ (jd rfl ?_ zZ)))))⟩)
   ·skip
    refine zS H [yN] fun b186 w187 H=>⟨H.pick [1,2,3] [0,1],(zY [4,5,6] qh qm (jd rfl ?_ (jd rfl ?_ (jd rfl ?_ zZ))))⟩
    ·skip
     refine vM H underlying24 ti2 parts.length rfl rfl qf qf qf fun b188 w189 H=>⟨H.pick [2,3,4] [0,1],(yc L35 ⟨_,b186,b188,uE5,N,H⟩)⟩
    ·skip
     refine xx H ti235 [.pointer none] fun b190 w191 H=>⟨H.pick [2,3,4] [0,1],(yc L52 ⟨_,b186,b190,uE6,N,H⟩)⟩
    refine xx H ti24 [yN] fun b192 w193 H=>⟨H.pick [2,3,4] [0,1],(yc L65 ⟨_,b186,b192,uE6,N,H⟩)⟩
   ·skip
    refine vM H underlying24 ti2 parts.length rfl rfl qf qf qf fun b194 w195 H=>⟨H.pick [1,2,3] [0,1],(yc L124 ⟨_,b194,uE5,N,H⟩)⟩
   ·skip
    refine xx H ti235 [.pointer none] fun b196 w197 H=>⟨H.pick [1,2,3] [0,1],(yc L134 ⟨_,b196,uE6,N,H⟩)⟩
   refine xx H ti24 [yN] fun b198 w199 H=>⟨H.pick [1,2,3] [0,1],(yc L144 ⟨_,b198,uE6,N,H⟩)⟩
  ·skip
   refine vM H underlying24 ti2 parts.length rfl rfl qf qf qf fun b200 w201 H=>⟨H.pick [1,2,3] [0,1],(zY [0,5,6] qh qm (jd rfl ?_ (jd rfl ?_ (jd rfl ?_ zZ))))⟩
   ·skip
    refine zO [yN] [] (⟨H.pick [1,2,3] [0,1],(yc L124 ⟨_,b200,uE5,N,H⟩)⟩)
   ·skip
    refine xx H ti235 [.pointer none] fun b202 w203 H=>⟨H.pick [2,3,4] [0,1],(yc L155 ⟨_,b200,b202,uE5,N,H⟩)⟩
   refine xx H ti24 [yN] fun b204 w205 H=>⟨H.pick [2,3,4] [0,1],(yc L166 ⟨_,b200,b204,uE5,N,H⟩)⟩
  ·skip
   refine xx H ti235 [.pointer none] fun b206 w207 H=>⟨H.pick [1,2,3] [0,1],(zY [0,4,6] qh qm (jd rfl ?_ (jd rfl ?_ (jd rfl ?_ zZ))))⟩
   ·skip
    refine zO [yN] [] (⟨H.pick [1,2,3] [0,1],(yc L134 ⟨_,b206,uE6,N,H⟩)⟩)
   ·skip
    refine vM H underlying24 ti2 parts.length rfl rfl qf qf qf fun b208 w209 H=>⟨H.pick [2,3,4] [0,1],(yc L155 ⟨_,b208,b206,uE5,N,H.pick [1,0,2,3,4] [0,1]⟩)⟩
   refine xx H ti24 [yN] fun b210 w211 H=>⟨H.pick [2,3,4] [0,1],(yc L177 ⟨_,b206,b210,uE6,N,H⟩)⟩
  refine xx H ti24 [yN] fun b212 w213 H=>⟨H.pick [1,2,3] [0,1],(zY [0,4,5] qh qm (jd rfl ?_ (jd rfl ?_ (jd rfl ?_ zZ))))⟩
  ·skip
   refine zO [yN] [] (⟨H.pick [1,2,3] [0,1],(yc L144 ⟨_,b212,uE6,N,H⟩)⟩)
  ·skip
   refine vM H underlying24 ti2 parts.length rfl rfl qf qf qf fun b214 w215 H=>⟨H.pick [2,3,4] [0,1],(yc L166 ⟨_,b214,b212,uE5,N,H.pick [1,0,2,3,4] [0,1]⟩)⟩
  refine xx H ti235 [.pointer none] fun b216 w217 H=>⟨H.pick [2,3,4] [0,1],(yc L177 ⟨_,b216,b212,uE6,N,H.pick [1,0,2,3,4] [0,1]⟩)⟩
 clear H N
 rintro ρ w218 ⟨xM,b13,b14,b15,b16,rfl,N,H⟩
 refine t_n (zcr (sw (xx H ti238 [.nilFunc] fun b219 w220 H=>zjc (sp (.func (.func 224) #[] #[pp b3 0,pp b5 0,pp b13 0,pp b14 0,pp b219 0]) (sw (xO H 0 [.func (.func 224) #[] #[pp b3 0,pp b5 0,pp b13 0,pp b14 0,pp b219 0]] sizeOf238 fun w221 H=>zjc (oL rfl (H.cell 0 rfl rfl) (sq 1 ?_))))))))
 replace H:=H.nilRow 24 1
 replace H:=H.zW (α:=yLI)
 have H1:St w w221 [.box b3 [.slice zD parts.length zt] 29,.box b5 [.func (.func 215) #[] #[pp b1 0]] 126,.box b1 [.slice zD parts.length zt] 29,.box b13 [pp b16 0] 235,.box b16 [yN] 237,.box b14 [.slice (aa b15 0) parts.length parts.length] 24,.box b219 [.func (.func 224) #[] #[pp b3 0,pp b5 0,pp b13 0,pp b14 0,pp b219 0]] 238,rr none 0 0 24 1 [],rr (aa b15 0) parts.length parts.length 2 1 ((List.replicate parts.length (0:Int)).map (Value.int .i64))] [sF false Fb ab cb b,sF false Fparts zD zt parts,xB true [] [] ([]:yLL)]:=H.pick [7,6,8,3,5,2,1,0,4] [1,2,0]
 have N1:Fresh _ [[]]:=N.emp
 have K1:Kept [] []:=Kept.nil _
 refine sw (zJ #[yI 0,.slice ab b.length cb,pp b3 0,pp b5 0,pp b13 0,pp b14 0,pp b219 0] rfl rfl call224 (packFrom_ok parts.length 0 b parts ([]:yLL) (List.replicate parts.length (0:Int)) ab cb Fb zD zt Fparts b3 b5 b1 b13 b16 b14 b219 none 0 0 [] [] (aa b15 0) parts.length parts.length H1 N1 K1 qf (by first | assumption | exact u4) (by first | assumption | exact j3 | (simp;done)) (by first | assumption | (rw [List.length_set];exact j1) | (simp;done))) ?_)
 clear H H1 N1 K1
 rintro _ w222 ⟨zl226,ra227,rn228,rc229,rx230,rF231,hx224,hx225,rfl,N,H⟩
 obtain rfl:=H.xK (α:=yLI) 7 rfl 2 rfl qj
 refine zjc (oL rfl (H.cell 3 rfl rfl) (sw (zQ #[pp b16 0] rfl rfl call226 (en func226 ntmps226 ?_))))
 refine zcr (sq 1 (sp (yI 0) (zjcc (sq 2 (oF rfl (oL rfl (H.cell 4 rfl rfl) (oN rfl (sp (.bool (decide (((gath ([]:yLL) (begins ((List.replicate parts.length (0:Int)).take 0) (packs parts (parts.length - 0) 0 b))).length:Int) > 2000))) (zjn (cD rfl (fun h232=>?_) (fun h232=>?_)))))))))))
 ·skip
  refine zcr (sq 1 (sp (yI 3) (zjr (t_r (ret2 yN (yI 3) rfl rfl rfl ⟨_,rfl,(sq 1 (sp (yI 3) (sq 1 (sp (yI 3) (zjr (ret2 yN (yI 3) rfl rfl rfl ⟨_,rfl,?_⟩))))))⟩)))))
  replace H:=H.erases [8,7,6,5,4,3,1,0]
  dsimp only [vV,List.eraseIdx] at H
  refine sq 1 (sp (yI 3) (sq 1 (sp (yI 3) (zjr ?_))))
  replace H:=H.nilRow 24 1
  replace H:=H.zW (α:=yLI)
  refine ret2 yN (yI 3) rfl rfl rfl ⟨_,rfl,?_,H.base⟩
  first | rw [all_a ql] | rw [all_bI (cs:=(List.replicate parts.length (0:Int))) ql qf]
  exact ⟨none,0,0,[],[],rfl,(N.emp.pick [0]),H.pick [0] [0]⟩
 refine qW (t_n (zcr (sq 2 (oF rfl (oL rfl (H.cell 4 rfl rfl) (sq 1 (sp (yI 0) (zjr (ret2 (.slice ra227 ((gath ([]:yLL) (begins ((List.replicate parts.length (0:Int)).take 0) (packs parts (parts.length - 0) 0 b))).length) rc229) (yI 0) rfl rfl rfl ⟨_,rfl,?_⟩)))))))))
 refine sq 1 (sp (yI 0) (sq 1 (sp (yI 0) (zjr (ret2 (.slice ra227 ((gath ([]:yLL) (begins ((List.replicate parts.length (0:Int)).take 0) (packs parts (parts.length - 0) 0 b))).length) rc229) (yI 0) rfl rfl rfl ⟨_,rfl,?_⟩)))))
 replace H:=H.erases [8,6,5,4,3,1,0]
 dsimp only [vV,List.eraseIdx] at H
 refine sq 1 (sp (yI 0) (sq 1 (sp (yI 0) (zjr (ret2 (.slice ra227 ((gath ([]:yLL) (begins ((List.replicate parts.length (0:Int)).take 0) (packs parts (parts.length - 0) 0 b))).length) rc229) (yI 0) rfl rfl rfl ⟨_,rfl,?_,H.base⟩)))))
 rw [all_0I (cs:=(List.replicate parts.length (0:Int))) ql qf]
 exact ⟨ra227,(gath ([]:yLL) (begins ((List.replicate parts.length (0:Int)).take 0) (packs parts (parts.length - 0) 0 b))).length,rc229,rx230,rF231,rfl,N,H.pick [1] [2]⟩
end
section
open Go.RowKit Go.Shelf Go.Lib Go.Sort
def cmpL:yLI→yLI→Int
  | [],[]=>0
  | [],_ :: _=> -1
  | _ :: _,[]=>1
  | x :: a,y :: b=>if x < y then -1 else if y < x then 1 else cmpL a b
theorem cmpL_refl:∀ a,cmpL a a=0
  | []=>rfl
  | x :: a=>by rw [cmpL,if_neg (Int.lt_irrefl x),if_neg (Int.lt_irrefl x),cmpL_refl a]
theorem cmpL_trans:∀ {a b c:yLI},cmpL a b < 0→cmpL b c < 0→cmpL a c < 0
  | [],[],_,h,_=>by simp [cmpL] at h
  | [],_ :: _,[],_,h=>by simp [cmpL] at h
  | [],_ :: _,_ :: _,_,_=>by simp [cmpL]
  | _ :: _,[],_,h,_=>by simp [cmpL] at h
  | _ :: _,_ :: _,[],_,h=>by simp [cmpL] at h
  | x :: a,y :: b,z :: c,h1,h2=>by
    rw [cmpL] at h1 h2 ⊢
    by_cases e1:x < y
    · by_cases e2:y < z
      · rw [if_pos qf];omega
      · rw [if_neg e2] at h2
        by_cases e3:z < y
        · rw [if_pos e3] at h2;omega
        · rw [if_pos qf];omega
    · rw [if_neg e1] at h1
      by_cases e2:y < x
      · rw [if_pos e2] at h1;omega
      · rw [if_neg e2] at h1
        by_cases e3:y < z
        · rw [if_pos qf];omega
        · rw [if_neg e3] at h2
          by_cases e4:z < y
          · rw [if_pos e4] at h2;omega
          · rw [if_neg e4] at h2
            rw [if_neg qf,if_neg qf]
            exact cmpL_trans h1 h2
theorem cmpL_ntrans:∀ {a b c:yLI},¬ cmpL a b < 0→¬ cmpL b c < 0→¬ cmpL a c < 0
  | [],[],[],_,_=>by simp [cmpL]
  | _ :: _,_,[],_,_=>by simp [cmpL]
  | [],_ :: _,_,h,_=>by simp [cmpL] at h
  | _,[],_ :: _,_,h=>by simp [cmpL] at h
  | x :: a,y :: b,z :: c,h1,h2=>by
    rw [cmpL] at h1 h2 ⊢
    by_cases e1:x < y
    · rw [if_pos e1] at h1;omega
    · rw [if_neg e1] at h1
      by_cases e2:y < z
      · rw [if_pos e2] at h2;omega
      · rw [if_neg e2] at h2
        rw [if_neg qf]
        by_cases e3:z < x
        · rw [if_pos e3];omega
        · rw [if_neg e3]
          have ey:¬ y < x:=by omega
          have ez:¬ z < y:=by omega
          rw [if_neg ey] at h1
          rw [if_neg ez] at h2
          exact cmpL_ntrans h1 h2
theorem drop_cons {l:yLI} {i:Nat} (h:i < l.length):l.drop i=l[i]! :: l.drop (i+1):=by
  rw [getElem!_pos l i h];exact (List.drop_eq_getElem_cons h)
theorem cmp_a {a b:yLI} {i:Nat} (h:i < a.length) (h1:b.length≤i):cmpL (a.drop i) (b.drop i)=1:=by rw [drop_cons h,List.drop_eq_nil_of_le h1,cmpL]
theorem cmp_b {a b:yLI} {i:Nat} (h:a.length≤i) (h1:i < b.length):cmpL (a.drop i) (b.drop i)= -1:=by rw [drop_cons h1,List.drop_eq_nil_of_le h,cmpL]
theorem cmp_c {a b:yLI} {i:Nat} (h:a.length≤i) (h1:b.length≤i):cmpL (a.drop i) (b.drop i)=0:=by rw [List.drop_eq_nil_of_le h,List.drop_eq_nil_of_le h1,cmpL]
theorem cmp_d {a b:yLI} {i:Nat} (h:i < a.length) (h1:i < b.length) (h2:a[i]! < b[i]!):cmpL (a.drop i) (b.drop i)= -1:=by rw [drop_cons h,drop_cons h1,cmpL,if_pos h2]
theorem cmp_e {a b:yLI} {i:Nat} (h:i < a.length) (h1:i < b.length) (h2:a[i]! > b[i]!):cmpL (a.drop i) (b.drop i)=1:=by rw [drop_cons h,drop_cons h1,cmpL,if_neg qf,if_pos h2]
theorem cmp_f {a b:yLI} {i:Nat} (h:i < a.length) (h1:i < b.length) (h2:¬ a[i]! < b[i]!) (h3:¬ a[i]! > b[i]!):cmpL (a.drop i) (b.drop i)=cmpL (a.drop (i+1)) (b.drop (i+1)):=by rw [drop_cons h,drop_cons h1,cmpL,if_neg h2,if_neg h3]
theorem cmpL_ahead:∀ {a b:yLI},a.length=b.length→(cmpL a b < 0↔ahead a b)
  | [],[],_=>⟨fun h=>by simp [cmpL] at h,fun ⟨i,h,_⟩=>by simp at h⟩
  | x :: a,[],h=>by simp at h
  | [],y :: b,h=>by simp at h
  | x :: a,y :: b,h=>by
    have ih:=cmpL_ahead (a:=a) (b:=b) (by simpa using h)
    rw [cmpL]
    constructor
    · intro h1
      by_cases e:x < y
      · exact ⟨0,by simp,fun j hj=>by omega,by simpa using e⟩
      · rw [if_neg e] at h1
        by_cases e2:y < x
        · rw [if_pos e2] at h1;omega
        · rw [if_neg e2] at h1
          obtain ⟨i,h2,h3,h4⟩:=ih.1 h1
          refine ⟨i+1,by simp;omega,fun j hj=>?_,by simpa using h4⟩
          cases j with
          | zero=>simp;omega
          | succ j=>simpa using h3 j qf
    · rintro ⟨i,h2,h3,h4⟩
      cases i with
      | zero=>rw [if_pos (by simpa using h4)];omega
      | succ i=>
        have h0:=h3 0 qf
        simp only [List.getElem!_cons_zero] at h0
        rw [if_neg qf,if_neg qf]
        exact ih.2 ⟨i,by simpa using h2,fun j hj=>by simpa using h3 (j+1) qf,by simpa using h4⟩

section
variable {W0 w : World} {ps : List Prv} {Γ : List Fact}
theorem sw_block {α:Type} [Inhabited α] {enc:α→Value} {blk m:Nat} {d:Array α} {os:Array Obj} {k:Nat} (hk:k < w.heap.size) (hne:k≠blk):(sortWorld enc w blk 0 m d os).heap[k]? =w.heap[k]? :=by
  unfold sortWorld putRow mapBlock grow
  show ((Sort.ahead w m).heap.modify blk _++os)[k]? =_
  have hs:((Sort.ahead w m).heap.modify blk (onCells (putCells enc 0 d))).size=w.heap.size:=by rw [Array.size_modify];rfl
  rw [Array.getElem?_append_left (by rw [hs];exact hk),Array.getElem?_modify,if_neg (Ne.symm hne)]
  rfl
theorem sw_row {α:Type} [Inhabited α] {enc:α→Value} {blk m:Nat} {d:Array α} {os:Array Obj} {cur:Array Value} {e:TypeId} (h:w.heap[blk]? =some (.cells cur e (0,0))):(sortWorld enc w blk 0 m d os).heap[blk]? =some (.cells (putCells enc 0 d cur) e (0,0)):=by
  have hk:blk < w.heap.size:=(Array.getElem?_eq_some_iff.1 h).1
  unfold sortWorld putRow mapBlock grow
  show ((Sort.ahead w m).heap.modify blk _++os)[blk]? =_
  have hs:((Sort.ahead w m).heap.modify blk (onCells (putCells enc 0 d))).size=w.heap.size:=by rw [Array.size_modify];rfl
  rw [Array.getElem?_append_left (by rw [hs];exact hk),Array.getElem?_modify,if_pos rfl]
  show (w.heap[blk]?).map _=_
  rw [h]
  rfl
theorem sortRow {P:Program} {ρ:Ren} (L:SlLaysF.n6 P ρ) {g:Nat} (eg:∀ args w,(callFunc g args).run P w=.ok (.enter g args) w)
    (cmp:∀ (W:World) (x y:yLI) (a:yOA) (c:Nat) (F:yLN) (a' :yOA) (c' :Nat) (F' :yLN),qO.rep W F [.slice a x.length c] x→qO.rep W F' [.slice a' y.length c'] y→
      Calls P g #[.slice a x.length c,.slice a' y.length c'] W fun e w' =>e=.returned (.int .i64 (cmpL x y))∧w' =W)
    (H:St W0 w ps Γ) (k:Nat) {b c:Nat} {e:TypeId} {nn:Nat} {xs:List Value} (hp:ps[k]? =some (.row (.slice (some ⟨b,0,none⟩) nn c) e 1 nn xs)) (j:Nat) {fr:Bool} {F:yLN} {l:yLL} (hf:Γ[j]? =some (xB fr F xs l)) (h0:0 < l.length) (hsz:l.length < 4611686018427387904):
    Calls P (ρ.f 6) #[.slice (some ⟨b,0,none⟩) nn c,.func (.func g) #[] #[]] w fun e' w' =>∃ v,e' =.returned v∧∃ xs' F' l',v=.tuple #[]∧F'.Perm F∧l.Perm l' ∧(∀ i j,i < j→j < l'.length→¬ cmpL (l'[j]!) (l'[i]!) < 0)∧
      St W0 w' (ps.set k (.row (.slice (some ⟨b,0,none⟩) nn c) e 1 nn xs')) (xB fr F' xs' l' :: Γ):=by
  have ho:=(H.has _ (List.mem_of_getElem? hp):w.ownsRow W0.heap.size e 1 _ nn xs)
  obtain ⟨hr,hfr⟩:=H.get j hf
  have hxl:xs.length=l.length:=by have:=X7 hr;simpa [qO.size] using this
  have hnn:nn=l.length:=by have:=ho.1;omega
  subst hnn
  obtain ⟨hl,h | ⟨g',cap,cur,hv,hB,hg,hn,hm,hcs,ht⟩⟩:=ho
  · simp at h
  simp only [Value.slice.injEq,Option.some.injEq,Addr.mk.injEq,and_true] at hv
  obtain ⟨rfl,_,rfl⟩:=hv
  have hF:=(H.facts _ (List.mem_of_getElem? hf)).2
  have hbF:∀ x∈F,x≠b:=fun x hx e' =>(hF x hx).2 k (by simp [jJ,hp,Prv.blk,Value.ownBlock,e'])
  let enc:Nat→Value:=fun i=>xs[i % l.length]!
  let cf:Nat→Nat→Int:=fun i j=>cmpL (l[i % l.length]!) (l[j % l.length]!)
  have hmod:∀ i,i % l.length < l.length:=fun i=>Nat.mod_lt _ h0
  have hrep:∀ i,∃ a c' G,(∀ x∈G,x∈F)∧enc i=.slice a (l[i % l.length]!).length c' ∧qO.rep w G [.slice a (l[i % l.length]!).length c'] (l[i % l.length]!):=fun i=>by
    obtain ⟨F1,Fk,F2,v1,cs,v2,hFe,hxe,hl1,hl2,hu,_,_⟩:=reps_get hr (i % l.length) (hmod i)
    obtain ⟨a,c',rfl,hx⟩:=id hu
    have hl1' :v1.length=i % l.length:=by rw [hl1];exact Nat.mul_one _
    refine ⟨a,c',Fk,fun x hx=>by rw [hFe];simp [hx],?_,?_⟩
    · show xs[i % l.length]! =_
      rw [getElem!_pos l _ (hmod i),getElem!_pos xs _ (by rw [hxl];exact hmod i)]
      have:xs[i % l.length]? =some (.slice a (l[i % l.length]'(hmod i)).length c'):=by
        refine (congrArg (fun z:List Value=>z[i % l.length]?) hxe).trans ?_
        show (v1++[_]++v2)[i % l.length]? =_
        rw [List.append_assoc,List.getElem?_append_right qf]
        simp [hl1']
      exact (List.getElem?_eq_some_iff.1 this).2
    · rw [getElem!_pos l _ (hmod i)];exact hu
  have hO:OneCell enc:=fun i=>by obtain ⟨a,c',G,_,he,_⟩:=hrep i;show Value.oneCell' (enc i)=true;rw [he];rfl
  have hS:SWO (ltOf cf):=by
    refine ⟨fun x=>?_,fun x y z h1 h2=>?_,fun x y z h1 h2=>?_⟩ <;> unfold ltOf at *
    · show decide (cmpL _ _ < 0)=false
      rw [cmpL_refl];rfl
    · exact decide_eq_true (cmpL_trans (of_decide_eq_true h1) (of_decide_eq_true h2))
    · exact decide_eq_false (cmpL_ntrans (of_decide_eq_false h1) (of_decide_eq_false h2))
  let d:Array Nat:=Array.range l.length
  have hds:d.size=l.length:=Array.size_range
  have hdi:∀ i,i < l.length→d[i]! =i:=fun i hi=>by rw [getElem!_pos d i (by rw [hds];exact hi)];exact Array.getElem_range _
  have hcx:∀ i,i < l.length→cur[i]? =some (enc i):=fun i hi=>by
    have h1:xs[i]? =some (enc i):=by
      show xs[i]? =some (xs[i % l.length]!)
      rw [Nat.mod_eq_of_lt hi,getElem!_pos xs i qf]
      exact List.getElem?_eq_getElem qf
    rw [← ht,List.getElem?_take,if_pos qf] at h1
    simpa using h1
  have hH:Holds enc w b 0 d:=fun i hi=>by
    have hi' :i < l.length:=by rw [hds] at hi;exact hi
    rw [hdi i hi',Nat.zero_add]
    constructor
    · rw [World.cell?,hg];exact hcx i hi'
    · rw [World.frozen?,hg];simp
  have hcmp:CmpLays1 P g #[] enc cf b 0 d.size w:=fun m os dk hs x y=>by
    obtain ⟨a,c1,G,hG,he,hx⟩:=hrep x
    obtain ⟨a2,c2,G2,hG2,he2,hy⟩:=hrep y
    have st:∀ z∈F,(sortWorld enc w b 0 m dk os).heap[z]? =w.heap[z]? :=fun z hz=>sw_block (hF z hz).1 (hbF z hz)
    rw [he,he2]
    refine (cmp _ _ _ a c1 G a2 c2 G2 (qO.stay hx fun z hz=>st z (hG z hz)) (qO.stay hy fun z hz=>st z (hG2 z hz))).mono fun e' w' h=>⟨h.1,0,#[],?_⟩
    rw [grow_empty];exact h.2
  have hblk:b < w.heap.size:=(Array.getElem?_eq_some_iff.1 hg).1
  have hc:=Any.slices_SortFunc L enc hO cf hS g #[] b 0 c d w eg hcmp hH hblk (by rw [hds];exact hsz)
  rw [hds] at hc
  refine hc.mono fun e' w' ⟨he,d',n,os,hpm,hso,hw⟩=>⟨_,he,?_⟩
  have hd' :d'.size=l.length:=hpm.1.trans hds
  have hperm:d'.toList.Perm (List.range l.length):=by
    have:=hpm.2.2
    rw [Array.extract_eq_self_of_le qf,Array.extract_eq_self_of_le qf] at this
    simpa [d] using this
  have hlt:∀ x∈d'.toList,x < l.length:=fun x hx=>List.mem_range.1 (hperm.subset hx)
  -- the pairs
  have hz:(xs.zip l).Perm (d'.toList.map fun i=>(xs[i]!,l[i]!)):=by
    have e1:xs.zip l=(List.range l.length).map fun i=>(xs[i]!,l[i]!):=by
      refine List.ext_getElem (by simp [hxl]) fun i h1 h2=>?_
      have hi:i < l.length:=by simpa using h2
      rw [List.getElem_zip,List.getElem_map,List.getElem_range,getElem!_pos xs i qf,getElem!_pos l i hi]
    rw [e1]
    exact (hperm.map _).symm
  have hr' :reps w F ((xs.zip l).map Prod.fst) ((xs.zip l).map Prod.snd):=by rw [zip_fst hxl,zip_snd hxl];exact hr
  obtain ⟨F',hF',hr2⟩:=reps_perm rfl hz hr'
  rw [List.map_map,List.map_map] at hr2
  refine ⟨d'.toList.map fun i=>xs[i]!,F',d'.toList.map fun i=>l[i]!,rfl,hF',?_,?_,?_⟩
  · have:=hz.map Prod.snd
    rw [zip_snd hxl,List.map_map] at this
    exact this
  · intro i j hij hj
    rw [List.length_map,Array.length_toList,hd'] at hj
    have hge:∀ q,q < l.length→(d'.toList.map fun i=>l[i]!)[q]! =l[d'[q]! % l.length]! :=fun q hq=>by
      rw [getElem!_pos _ q (by simp [hd',hq]),List.getElem_map,Array.getElem_toList]
      have:d'[q]! =d'[q]:=getElem!_pos d' q qf
      rw [this,Nat.mod_eq_of_lt (hlt _ qm)]
    rw [hge i qf,hge j hj]
    exact of_decide_eq_false (hso i j (Nat.zero_le _) hij hj)
  · subst hw
    have hcells:∀ q,q < l.length→(putCells enc 0 d' cur)[q]? =some (xs[d'[q]!]!):=fun q hq=>by
      unfold putCells
      rw [Array.getElem?_mapIdx]
      have hcq:=hcx q hq
      rw [hcq]
      simp only [Option.map_some,Nat.zero_le,true_and,Nat.zero_add,hd',if_pos hq,Nat.sub_zero]
      show some (xs[d'[q]! % l.length]!)=_
      have:d'[q]! =d'[q]:=getElem!_pos d' q qf
      rw [this,Nat.mod_eq_of_lt (hlt _ qm)]
    have hown:(sortWorld enc w b 0 n d' os).ownsRow W0.heap.size e 1 (.slice (some ⟨b,0,none⟩) l.length c) l.length (d'.toList.map fun i=>xs[i]!):=by
      refine ⟨by simp [hd'],Or.inr ⟨b,c,putCells enc 0 d' cur,rfl,hB,sw_row hg,hn,hm,by unfold putCells;rw [Array.size_mapIdx];exact hcs,?_⟩⟩
      rw [Nat.mul_one]
      refine List.ext_getElem? fun q=>?_
      rw [List.getElem?_take]
      split
      · next hq=>
        rw [Array.getElem?_toList,hcells q hq,List.getElem?_map,Array.getElem?_toList]
        have:d'[q]! =d'[q]:=getElem!_pos d' q qf
        rw [this,Array.getElem?_eq_getElem qf]
        rfl
      · next hq=>rw [List.getElem?_eq_none qy]
    have hsize:w.heap.size≤(sortWorld enc w b 0 n d' os).heap.size:=by
      unfold sortWorld putRow mapBlock grow
      show _≤((Sort.ahead w n).heap.modify b _++os).size
      rw [Array.size_append,Array.size_modify]
      exact Nat.le_add_right _ _
    have H1:=H.change k hp (w' :=sortWorld enc w b 0 n d' os) (p' :=.row (.slice (some ⟨b,0,none⟩) l.length c) e 1 l.length (d'.toList.map fun i=>xs[i]!)) rfl rfl rfl hsize (fun i hi hne=>sw_block hi (fun e2=>hne (by subst e2;rfl))) hown (Or.inl rfl)
    refine H1.add _ ⟨?_,fun e2 x hx=>?_⟩ fun x hx=>?_
    · exact reps_stay hr2 fun z hz=>sw_block (hF z (hF'.subset hz)).1 (hbF z (hF'.subset hz))
    · have h2:=hfr e2 x (hF'.subset hx)
      obtain ⟨o1,o2,ho⟩:=h2
      exact ⟨o1,o2,(sw_block (hF x (hF'.subset hx)).1 (hbF x (hF'.subset hx))).trans ho⟩
    · refine ⟨Nat.lt_of_lt_of_le (hF x (hF'.subset hx)).1 hsize,fun i hi=>?_⟩
      have h3:=(hF x (hF'.subset hx)).2
      by_cases e3:i=k
      · subst e3
        have:(ps.set i (Prv.row (.slice (some ⟨b,0,none⟩) l.length c) e 1 l.length (d'.toList.map fun i=>xs[i]!)))[i]? =some (Prv.row (.slice (some ⟨b,0,none⟩) l.length c) e 1 l.length (d'.toList.map fun i=>xs[i]!)):=set_at hp
        simp only [jJ,this,Option.bind_some,Prv.blk,Value.ownBlock,Option.some.injEq] at hi
        exact hbF x (hF'.subset hx) hi.symm
      · have:jJ (ps.set k (Prv.row (.slice (some ⟨b,0,none⟩) l.length c) e 1 l.length (d'.toList.map fun i=>xs[i]!))) i=jJ ps i:=by unfold jJ;rw [List.getElem?_set_ne (Ne.symm e3)]
        rw [this] at hi
        exact h3 i hi
end
end
section
open Go.Proofs.Tryz
open Go.RowKit
set_option linter.unusedVariables false
set_option linter.unusedSimpArgs false
set_option maxRecDepth 100000
set_option maxHeartbeats 4000000
theorem compareL_ok (w:World) (a:yLI) (b:yLI) (aa:yOA) (ca:Nat) (Fa:yLN) (ab:yOA) (cb:Nat) (Fb:yLN) (ha:qO.rep w Fa [.slice aa a.length ca] a) (hb:qO.rep w Fb [.slice ab b.length cb] b):Calls Tryz.prog 79 #[.slice aa a.length ca,.slice ab b.length cb] w (Ret (fun v w' =>v=yI (cmpL a b)∧w' =w) w):=by
 refine en func79 ntmps79 ?_
 have H:=((St.start w).arg hb).arg ha
 have nha:=qM ha
 have nhb:=qM hb
 clear ha hb
 have N:=Fresh.nil w.heap.size
 refine zcr (sp (yI 0) (zjcc (sq 1 (oN rfl (sp (yI 0) (zjn (qY ?_)))))))
 refine zq ((fun Z0 Z1=>fun m' ρ w1=>∃ (xM:Env) (i:Nat),ρ=upd (upd (upd (upd (upd xM 0 (.slice aa a.length ca)) 1 (.slice ab b.length cb)) 9 (.slice aa a.length ca)) 10 (yI a.length)) 11 (yI i)∧((i:Int)≤a.length)∧(w1=w)∧(cmpL a b=cmpL (a.drop i) (b.drop i))∧(i≤b.length)∧m' =(a.length - (i:Int)).toNat∧Fresh w.heap.size []∧St w w1 [] [Z0,Z1]) _ _) ((a.length - (0:Int)).toNat) ⟨_,0,uE5,qf,(by rfl),(by rfl),qf,rfl,N,H⟩ ?_
 clear H N
 rintro m' ρ w2 ⟨xM,i,rfl,i0,wk,i1,i2,rfl,N,H⟩
 refine zcr (sq 1 (zjn (xQ (cD rfl (fun h3=>?_) (fun h3=>?_)))))
 ·skip
  refine qW (t_n (xQ (qY (zcr (sp (yI i) ?_)))))
  obtain ⟨b4,o5,rfl⟩:=H.addr 0 rfl qf
  refine oI rfl rfl (oL rfl (H.zH 0 rfl i qf) (sp (yI i) (sq 1 (zjcc (sp (yI i) (sq 1 (oN rfl (sq 1 (zjn (cD rfl (fun h7=>?_) (fun h7=>?_)))))))))))
  ·skip
   refine zcr (sp (yI 1) (zjr (t_r (zr5 (ret1 (yI 1) rfl rfl ⟨_,rfl,(⟨?_,wk⟩),H.base⟩)))))
   rw [i1,show cmpL (a.drop i) (b.drop i)=1 by first | exact cmp_a qf qf | exact cmp_e qf qf ‹_›]
  refine qW (t_n (zcr (sq 1 (sp (yI i) ?_))))
  obtain ⟨b8,o9,rfl⟩:=H.addr 1 rfl qf
  refine oI rfl rfl (oL rfl (H.zH 1 rfl i qf) (sq 1 (zjc (sq 2 (sw (zQ #[yI (a[i]!),yI (b[i]!)] rfl rfl call134 (en func134 ntmps134 ?_)))))))
  refine zcr (sp (yI 0) (zjc (sq 1 (sw (zQ #[yI (a[i]!)] rfl rfl call180 (en func180 ntmps180 ?_))))))
  refine zcr (sp (.bool false) (zjc (sq 4 (zjr (ret1 (.bool ((a[i]! :Int) != (a[i]!))) rfl rfl ⟨_,rfl,(sq 1 (zjc (sq 1 (sw (zQ #[yI (b[i]!)] rfl rfl call180 (en func180 ntmps180 ?_))))))⟩)))))
  refine zcr (sp (.bool false) (zjc (sq 4 (zjr (ret1 (.bool ((b[i]! :Int) != (b[i]!))) rfl rfl ⟨_,rfl,(sq 1 (zjcc (sq 1 (zjn (xE _ rfl (fun h=>absurd rfl (bne_iff_ne.1 h)) (fun h11=>?_))))))⟩)))))
  replace h11:=xm h11
  refine qW (t_n (zcc (sq 1 (zjn (xE _ rfl (fun h=>absurd rfl (bne_iff_ne.1 h)) (fun h12=>?_))))))
  replace h12:=xm h12
  refine qW (t_n (zcc (sq 3 (zjn (cD rfl (fun h13=>?_) (fun h13=>?_))))))
  ·skip
   refine zcr (sq 1 (zjr (t_r (ret1 (yI (-1)) rfl rfl ⟨_,rfl,(sq 1 (zjc (sq 1 (sp (.bool true) (zjn (xE true rfl (fun _=>zcr (sq 2 (zjr (zr5 (ret1 (yI (-1)) rfl rfl ⟨_,rfl,(⟨?_,wk⟩),H.base⟩))))) (fun h=>absurd h qj)))))))⟩))))
   rw [i1,show cmpL (a.drop i) (b.drop i)= -1 by first | exact cmp_b qf qf | exact cmp_d qf qf ‹_›]
  refine qW (t_n (zcc (sq 3 (zjn (cD rfl (fun h14=>?_) (fun h14=>?_))))))
  ·skip
   refine zcr (sp (yI 1) (zjr (t_r (ret1 (yI 1) rfl rfl ⟨_,rfl,(sp (yI 1) (zjc (sp (yI 1) (sp (.bool true) (zjn (xE true rfl (fun _=>zcr (sp (yI 1) (sp (yI 1) (zjr (zr5 (ret1 (yI 1) rfl rfl ⟨_,rfl,(⟨?_,wk⟩),H.base⟩)))))) (fun h=>absurd h qj)))))))⟩))))
   rw [i1,show cmpL (a.drop i) (b.drop i)=1 by first | exact cmp_a qf qf | exact cmp_e qf qf ‹_›]
  refine qW (t_n (zcr (sp (yI 0) (zjr (ret1 (yI 0) rfl rfl ⟨_,rfl,(sp (yI 0) (zjc (sp (yI 0) (sp (.bool false) (zjn (xE false rfl (fun h=>absurd h qj) (fun _=>qW (b_n (t_n (xU (sw (zA i 1 rfl rfl qf (sq 1 (xY (xe (m' :=(a.length - ((i+1):Int)).toNat) qf ⟨_,i+1,uE5,?_,?_,?_,?_,rfl,N,H⟩)))))))))))))))⟩)))))
  · omega
  · exact wk
  · exact i1.trans (cmp_f qf qf ‹_› ‹_›)
  · omega
 refine zx4 (zcc (sq 1 (oN rfl (sq 1 (oN rfl (sq 1 (zjn (cD rfl (fun h15=>?_) (fun h15=>?_)))))))))
 ·skip
  refine zcr (sq 1 (zjr (t_r (ret1 (yI (-1)) rfl rfl ⟨_,rfl,(⟨?_,wk⟩),H.base⟩))))
  rw [i1,show cmpL (a.drop i) (b.drop i)= -1 by first | exact cmp_b qf qf | exact cmp_d qf qf ‹_›]
 refine qW (t_n (zcr (sp (yI 0) (zjr (ret1 (yI 0) rfl rfl ⟨_,rfl,(⟨?_,wk⟩),H.base⟩)))))
 rw [i1,cmp_c qf qf]
end
end Go.Proofs.YtdhklgjmiamiaaaGreat
