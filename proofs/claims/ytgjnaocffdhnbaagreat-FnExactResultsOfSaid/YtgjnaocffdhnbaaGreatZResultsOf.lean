/- Walks, printed by program (wip/tools/gv.py): what each function comes to, for all arguments. -/
import Derived.Test.YtgjnaocffdhnbaaGreatA7
namespace Go.Proofs.YtgjnaocffdhnbaaGreat
set_option linter.unusedVariables false
set_option linter.unusedSimpArgs false
open Go.Proofs.YtgjnaocffdhnbaaGreat.Tot (tot)
open Go.Proofs.YtgjnaocffdhnbaaGreat.Mark (cnt mrk mkd mkd_mark cnt_mark)
open Go.RowKit
set_option linter.unusedVariables false
set_option linter.unusedSimpArgs false
set_option maxRecDepth 100000
set_option maxHeartbeats 4000000


open Go.ChangeShapes Go.WideShapes Go.ChangeAt Go.Joins
namespace ResultsOf
theorem own:ownKnob Tryz.prog.godebug=none:=by kernel_rfl

theorem reads_190:Reads Tryz.prog 190 IntoD:=by
  intro H enc w spare held fuel cs x h
  obtain ⟨F0,y0,v0,g0,r0⟩:=yA Tryz.underlying190 h 0 0 rfl rfl (X4 Tryz.underlying2) rfl qh
  obtain ⟨F1,y1,v1,g1,r1⟩:=yA Tryz.underlying190 h 1 1 rfl rfl (QN Tryz.underlying22 qh qj (X4 Tryz.underlying2)) rfl qh
  obtain ⟨xs,n,_,_,hl,_,_⟩:=DataW.trod_struct Tryz.underlying190 h
  have hl0:cs.length=2:=hl.trans qh
  clear h hl
  obtain ⟨c0,cs0,rfl,hl1⟩:=jZ hl0
  obtain ⟨c1,cs1,rfl,hl2⟩:=jZ hl1
  obtain rfl:=List.eq_nil_of_length_eq_zero hl2
  obtain rfl:c0=v0:=by simpa using g0
  obtain rfl:c1=v1:=by simpa using g1
  obtain ⟨rfl,e0⟩:=r0
  obtain rfl:=(List.cons.inj e0).1
  exact ⟨_,⟨y0,y1⟩,_,_,rfl,rfl,r1⟩

theorem reads_111:Reads Tryz.prog 111 Xg:=by
  intro H enc w spare held fuel cs x h
  obtain ⟨F0,y0,v0,g0,r0⟩:=yA Tryz.underlying111 h 0 0 rfl rfl (X4 Tryz.underlying2) rfl qh
  obtain ⟨F1,y1,v1,g1,r1⟩:=yA Tryz.underlying111 h 1 1 rfl rfl (X4 Tryz.underlying2) rfl qh
  obtain ⟨F2,y2,v2,g2,r2⟩:=yA Tryz.underlying111 h 2 2 rfl rfl (QN Tryz.underlying22 qh qj (X4 Tryz.underlying2)) rfl qh
  obtain ⟨F3,y3,v3,g3,r3⟩:=yA Tryz.underlying111 h 3 3 rfl rfl (QN Tryz.underlying22 qh qj (X4 Tryz.underlying2)) rfl qh
  obtain ⟨F4,y4,v4,g4,r4⟩:=yA Tryz.underlying111 h 4 4 rfl rfl (QN Tryz.underlying22 qh qj (X4 Tryz.underlying2)) rfl qh
  obtain ⟨F5,y5,v5,g5,r5⟩:=yA Tryz.underlying111 h 5 5 rfl rfl (QN Tryz.underlying22 qh qj (X4 Tryz.underlying2)) rfl qh
  obtain ⟨F6,y6,v6,g6,r6⟩:=yA Tryz.underlying111 h 6 6 rfl rfl (QN Tryz.underlying22 qh qj (X4 Tryz.underlying2)) rfl qh
  obtain ⟨F7,y7,v7,g7,r7⟩:=yA Tryz.underlying111 h 7 7 rfl rfl (QN Tryz.underlying109 qh qj reads_190) rfl qh
  obtain ⟨F8,y8,v8,g8,r8⟩:=yA Tryz.underlying111 h 8 8 rfl rfl (reads_bool Tryz.underlying4) rfl qh
  obtain ⟨xs,n,_,_,hl,_,_⟩:=DataW.trod_struct Tryz.underlying111 h
  have hl0:cs.length=9:=hl.trans qh
  clear h hl
  obtain ⟨c0,cs0,rfl,hl1⟩:=jZ hl0
  obtain ⟨c1,cs1,rfl,hl2⟩:=jZ hl1
  obtain ⟨c2,cs2,rfl,hl3⟩:=jZ hl2
  obtain ⟨c3,cs3,rfl,hl4⟩:=jZ hl3
  obtain ⟨c4,cs4,rfl,hl5⟩:=jZ hl4
  obtain ⟨c5,cs5,rfl,hl6⟩:=jZ hl5
  obtain ⟨c6,cs6,rfl,hl7⟩:=jZ hl6
  obtain ⟨c7,cs7,rfl,hl8⟩:=jZ hl7
  obtain ⟨c8,cs8,rfl,hl9⟩:=jZ hl8
  obtain rfl:=List.eq_nil_of_length_eq_zero hl9
  obtain rfl:c0=v0:=by simpa using g0
  obtain rfl:c1=v1:=by simpa using g1
  obtain rfl:c2=v2:=by simpa using g2
  obtain rfl:c3=v3:=by simpa using g3
  obtain rfl:c4=v4:=by simpa using g4
  obtain rfl:c5=v5:=by simpa using g5
  obtain rfl:c6=v6:=by simpa using g6
  obtain rfl:c7=v7:=by simpa using g7
  obtain rfl:c8=v8:=by simpa using g8
  obtain ⟨rfl,e0⟩:=r0
  obtain rfl:=(List.cons.inj e0).1
  obtain ⟨rfl,e1⟩:=r1
  obtain rfl:=(List.cons.inj e1).1
  obtain ⟨rfl,e8⟩:=r8
  obtain rfl:=(List.cons.inj e8).1
  exact ⟨_,⟨y0,y1,y2,y3,y4,y5,y6,y7,y8⟩,_,_,_,_,_,_,_,_,_,_,_,_,rfl,rfl,r2,r3,r4,r5,r6,r7⟩

theorem reads_25:Reads Tryz.prog 25 qI:=by
  intro H enc w spare held fuel cs x h
  obtain ⟨F0,y0,v0,g0,r0⟩:=yA Tryz.underlying25 h 0 0 rfl rfl (X4 Tryz.underlying2) rfl qh
  obtain ⟨F1,y1,v1,g1,r1⟩:=yA Tryz.underlying25 h 1 1 rfl rfl (QN Tryz.underlying22 qh qj (X4 Tryz.underlying2)) rfl qh
  obtain ⟨F2,y2,v2,g2,r2⟩:=yA Tryz.underlying25 h 2 2 rfl rfl (QN Tryz.underlying23 qh qj reads_111) rfl qh
  obtain ⟨xs,n,_,_,hl,_,_⟩:=DataW.trod_struct Tryz.underlying25 h
  have hl0:cs.length=3:=hl.trans qh
  clear h hl
  obtain ⟨c0,cs0,rfl,hl1⟩:=jZ hl0
  obtain ⟨c1,cs1,rfl,hl2⟩:=jZ hl1
  obtain ⟨c2,cs2,rfl,hl3⟩:=jZ hl2
  obtain rfl:=List.eq_nil_of_length_eq_zero hl3
  obtain rfl:c0=v0:=by simpa using g0
  obtain rfl:c1=v1:=by simpa using g1
  obtain rfl:c2=v2:=by simpa using g2
  obtain ⟨rfl,e0⟩:=r0
  obtain rfl:=(List.cons.inj e0).1
  exact ⟨_,⟨y0,y1,y2⟩,_,_,_,_,rfl,rfl,r1,r2⟩

theorem reads_29:Reads Tryz.prog 29 qH:=by
  intro H enc w spare held fuel cs x h
  obtain ⟨F0,y0,v0,g0,r0⟩:=yA Tryz.underlying29 h 0 0 rfl rfl (QN Tryz.underlying26 qh qj (reads_bool Tryz.underlying4)) rfl qh
  obtain ⟨F1,y1,v1,g1,r1⟩:=yA Tryz.underlying29 h 1 1 rfl rfl (QN Tryz.underlying27 qh qj (QN Tryz.underlying22 qh qj (X4 Tryz.underlying2))) rfl qh
  obtain ⟨F2,y2,v2,g2,r2⟩:=yA Tryz.underlying29 h 2 2 rfl rfl (QN Tryz.underlying22 qh qj (X4 Tryz.underlying2)) rfl qh
  obtain ⟨xs,n,_,_,hl,_,_⟩:=DataW.trod_struct Tryz.underlying29 h
  have hl0:cs.length=3:=hl.trans qh
  clear h hl
  obtain ⟨c0,cs0,rfl,hl1⟩:=jZ hl0
  obtain ⟨c1,cs1,rfl,hl2⟩:=jZ hl1
  obtain ⟨c2,cs2,rfl,hl3⟩:=jZ hl2
  obtain rfl:=List.eq_nil_of_length_eq_zero hl3
  obtain rfl:c0=v0:=by simpa using g0
  obtain rfl:c1=v1:=by simpa using g1
  obtain rfl:c2=v2:=by simpa using g2
  exact ⟨_,⟨y0,y1,y2⟩,_,_,_,_,_,_,rfl,rfl,r0,r1,r2⟩

theorem contract (H:Type) (enc:TypeId×Value→H) (W:World) (base:Nat) (args:Array Value) (ds gs:List (DataW H)) (before:List MemPlace)
    (hval:∀ (j:Nat) t v,Tryz.f13.params[j]? =some t→args[j]? =some v→Value.okWide Tryz.prog W .any base t v)
    (hW:DataW.Whole enc Tryz.prog Tryz.f13.params.toList Rows.fnExactResultsOfSpec.vars false W args.toList ds gs before):
    Calls Tryz.prog 13 args W fun e W' =>∃ v,e=.returned v∧Rows.fnExactResultsOfSpec.post enc Tryz.prog Tryz.f13 false true false false W args v W' :=by
  have hW' :=hW
  obtain ⟨p,q,hA0,hV,rfl,hfz,hnd⟩:=hW
  have hA:DataW.TrodAll enc Tryz.prog W 0 (fun _=>true) true Tryz.f13.params.toList args.toList ds p:=hA0
  rw [Tryz.params13] at hA hval
  obtain ⟨us,rfl⟩:∃ us:List Value,args=us.toArray:=⟨args.toList,by simp⟩
  obtain ⟨v0,us0,d0,ds0,p0,q0,e0,rfl,rfl,h0,hA⟩:=trodAll_cons hA
  obtain ⟨v1,us1,d1,ds1,p1,q1,e1,rfl,rfl,h1,hA⟩:=trodAll_cons hA
  obtain ⟨v2,us2,d2,ds2,p2,q2,e2,rfl,rfl,h2,hA⟩:=trodAll_cons hA
  obtain ⟨e3,rfl,rfl⟩:=trodAll_nil hA
  subst e3
  replace e0:us=v0 :: us0:=by simpa using e0
  subst e2
  subst e1
  subst e0
  obtain ⟨cs0,G0,x0,rfl,r0⟩:=arg_struct Tryz.underlying25 reads_25 (hval 0 25 v0 rfl rfl) h0
  obtain ⟨v0Parents,v0Rules,F0Parents,F0Rules,rfl,rfl,h0Parents,h0Rules⟩:=r0
  obtain ⟨a0Parents,c0Parents,rfl,k0Parents⟩:=slice_is h0Parents
  obtain ⟨a0Rules,c0Rules,rfl,k0Rules⟩:=slice_is h0Rules
  obtain ⟨cs1,G1,x1,rfl,r1⟩:=arg_struct Tryz.underlying29 reads_29 (hval 1 29 v1 rfl rfl) h1
  obtain ⟨v1Alive,v1Bags,v1Around,F1Alive,F1Bags,F1Around,rfl,rfl,h1Alive,h1Bags,h1Around⟩:=r1
  obtain ⟨a1Alive,c1Alive,rfl,k1Alive⟩:=slice_is h1Alive
  obtain ⟨a1Bags,c1Bags,rfl,k1Bags⟩:=slice_is h1Bags
  obtain ⟨a1Around,c1Around,rfl,k1Around⟩:=slice_is h1Around
  obtain ⟨x2,rfl,lo2,hi2⟩:=arg_int Tryz.underlying2 (hval 2 2 v2 rfl rfl) h2
  refine (law_ResultsOf W x0 x1 x2 a0Parents c0Parents F0Parents a0Rules c0Rules F0Rules a1Alive c1Alive F1Alive a1Bags c1Bags F1Bags a1Around c1Around F1Around k0Parents k0Rules k1Alive k1Bags k1Around).mono fun e W' ⟨v,he,hv,hb⟩=>?_
  subst he hv
  exact ⟨_,rfl,post_law hW' rfl rfl (tb:=4) qh Tryz.underlying4 qh (by intro t ht;rw [Tryz.params13] at ht;simp at ht;rcases ht with rfl | rfl | rfl <;> exact ⟨by kernel_rfl,of_decide_eq_true qh⟩) hb⟩

theorem lifted (os:Os) (started:os.Started) (H:Type) (enc:TypeId×Value→H):
    ReturnsInHanded {} Tryz.checked os 13 .any (Rows.fnExactResultsOfSpec.pre6 enc Tryz.prog Tryz.f13 Rows.fnExactResultsOfRow.domain false) (Rows.fnExactResultsOfSpec.post enc Tryz.prog Tryz.f13 false true false false):=by
  refine returnsInHanded_of_change (C:=Tryz.checked) own started qh Tryz.func13
    (ChangeSpec.witness6 (enc:=enc) (C:=Tryz.checked) false ⟨#[],#[.agg #[.int .i64 0,Sv none 0 0,Sv none 0 0],.agg #[Sv none 0 0,Sv none 0 0,Sv none 0 0],.int .i64 0],[]⟩ 8 qh qh qh qh) ?_
  intro W base args ds gs before hval hW _ _
  exact contract H enc W base args ds gs before hval hW

theorem closed:joinedFacts Tryz.checked.prog 13 Tryz.f13 Rows.fnExactResultsOfSpec Rows.fnExactResultsOfRow=true:=by
  simp only [joinedFacts,Bool.and_eq_true]
  repeat' refine And.intro ?_ ?_
  all_goals (as_aux_lemma=>kernel_rfl)
theorem holds:Rows.FnExactResultsOfSaid:=
  OpenClaim.holds_of_wide 13 Tryz.f13 rfl rfl rfl rfl rfl rfl rfl ⟨rfl,rfl,rfl,rfl,rfl⟩ rfl rfl rfl rfl rfl qh Tryz.func13 closed
    (of_decide_eq_true qh) (by unfold Func.isWrapper;rw [if_neg (of_decide_eq_false qh)];exact ⟨rfl,rfl⟩)
    (fun os started H enc _=>lifted os started H enc)
end ResultsOf


end Go.Proofs.YtgjnaocffdhnbaaGreat
