/- Walks, printed by program (wip/tools/gv.py): what each function comes to, for all arguments. -/
import Derived.Test.YtjfmcaiombkobaaGreatA7
namespace Go.Proofs.YtjfmcaiombkobaaGreat
open Go.Proofs.Tryz
set_option linter.unusedVariables false
set_option linter.unusedSimpArgs false
set_option maxRecDepth 100000
set_option maxHeartbeats 4000000
open Go.RowKit
open Go.Proofs.YtjfmcaiombkobaaGreat.Tot (tot)
open Go.Proofs.YtjfmcaiombkobaaGreat.Mark (cnt mrk mkd mkd_mark cnt_mark)
open Go.ChangeShapes Go.WideShapes Go.ChangeAt Go.Joins
namespace CellValues
theorem own:ownKnob Tryz.prog.godebug=none:=by kernel_rfl
theorem reads_179:Reads Tryz.prog 179 Q8:=by
 intro H enc w spare held fuel cs x h
 obtain ⟨F0,y0,v0,g0,r0⟩:=field_reads underlying179 h 0 0 rfl rfl (reads_int underlying2) rfl qh
 obtain ⟨F1,y1,v1,g1,r1⟩:=field_reads underlying179 h 1 1 rfl rfl (reads_int underlying2) rfl qh
 obtain ⟨F2,y2,v2,g2,r2⟩:=field_reads underlying179 h 2 2 rfl rfl (reads_int underlying2) rfl qh
 obtain ⟨F3,y3,v3,g3,r3⟩:=field_reads underlying179 h 3 3 rfl rfl (reads_int underlying2) rfl qh
 obtain ⟨xs,n,_,_,hl,_,_⟩:=DataW.trod_struct underlying179 h
 have hl0:cs.length=4:=hl.trans qh
 clear h hl
 obtain ⟨c0,cs0,rfl,hl1⟩:=XZ hl0
 obtain ⟨c1,cs1,rfl,hl2⟩:=XZ hl1
 obtain ⟨c2,cs2,rfl,hl3⟩:=XZ hl2
 obtain ⟨c3,cs3,rfl,hl4⟩:=XZ hl3
 obtain rfl:=List.eq_nil_of_length_eq_zero hl4
 obtain rfl:c0=v0:=by simpa using g0
 obtain rfl:c1=v1:=by simpa using g1
 obtain rfl:c2=v2:=by simpa using g2
 obtain rfl:c3=v3:=by simpa using g3
 obtain ⟨rfl,e0⟩:=r0
 obtain rfl:=(List.cons.inj e0).1
 obtain ⟨rfl,e1⟩:=r1
 obtain rfl:=(List.cons.inj e1).1
 obtain ⟨rfl,e2⟩:=r2
 obtain rfl:=(List.cons.inj e2).1
 obtain ⟨rfl,e3⟩:=r3
 obtain rfl:=(List.cons.inj e3).1
 exact ⟨_,⟨y0,y1,y2,y3⟩,rfl,rfl⟩
theorem reads_71:Reads Tryz.prog 71 zF:=by
 intro H enc w spare held fuel cs x h
 obtain ⟨F0,y0,v0,g0,r0⟩:=field_reads underlying71 h 0 0 rfl rfl (reads_int underlying2) rfl qh
 obtain ⟨F1,y1,v1,g1,r1⟩:=field_reads underlying71 h 1 1 rfl rfl (reads_slice underlying69 qh qj reads_179) rfl qh
 obtain ⟨xs,n,_,_,hl,_,_⟩:=DataW.trod_struct underlying71 h
 have hl0:cs.length=2:=hl.trans qh
 clear h hl
 obtain ⟨c0,cs0,rfl,hl1⟩:=XZ hl0
 obtain ⟨c1,cs1,rfl,hl2⟩:=XZ hl1
 obtain rfl:=List.eq_nil_of_length_eq_zero hl2
 obtain rfl:c0=v0:=by simpa using g0
 obtain rfl:c1=v1:=by simpa using g1
 obtain ⟨rfl,e0⟩:=r0
 obtain rfl:=(List.cons.inj e0).1
 exact ⟨_,⟨y0,y1⟩,_,_,rfl,rfl,r1⟩
theorem contract (H:Type) (enc:TypeId×Value->H) (W:World) (base:Nat) (args:Array Value) (ds gs:List (DataW H)) (before:List MemPlace)
 (hval:∀ (j:Nat) t v,Tryz.f5.params[j]? =some t->args[j]? =some v->Value.okWide Tryz.prog W .any base t v)
 (hW:DataW.Whole enc Tryz.prog Tryz.f5.params.toList Rows.fnExactCellValuesSpec.vars false W args.toList ds gs before):
 Calls Tryz.prog 5 args W fun e W' =>∃ v,e=.returned v/\Rows.fnExactCellValuesSpec.post enc Tryz.prog Tryz.f5 false true false false W args v W' :=by
 have hW' :=hW
 obtain ⟨p,q,hA0,hV,rfl,hfz,hnd⟩:=hW
 have hA:DataW.TrodAll enc Tryz.prog W 0 (fun _=>true) true Tryz.f5.params.toList args.toList ds p:=hA0
 rw [Tryz.params5] at hA hval
 obtain ⟨us,rfl⟩:∃ us:List Value,args=us.toArray:=⟨args.toList,by simp⟩
 obtain ⟨v0,us0,d0,ds0,p0,q0,e0,rfl,rfl,h0,hA⟩:=trodAll_cons hA
 obtain ⟨v1,us1,d1,ds1,p1,q1,e1,rfl,rfl,h1,hA⟩:=trodAll_cons hA
 obtain ⟨v2,us2,d2,ds2,p2,q2,e2,rfl,rfl,h2,hA⟩:=trodAll_cons hA
 obtain ⟨e3,rfl,rfl⟩:=trodAll_nil hA
 subst e3
 replace e0:us=v0::us0:=by simpa using e0
 subst e2
 subst e1
 subst e0
 obtain ⟨cs0,G0,x0,rfl,r0⟩:=arg_struct underlying71 reads_71 (hval 0 71 v0 rfl rfl) h0
 obtain ⟨v0Orders,F0Orders,rfl,rfl,h0Orders⟩:=r0
 obtain ⟨a0Orders,c0Orders,rfl,k0Orders⟩:=slice_is h0Orders
 obtain ⟨x1,rfl,lo1,hi1⟩:=arg_int underlying2 (hval 1 2 v1 rfl rfl) h1
 obtain ⟨a2,c2,F2,x2,rfl,r2⟩:=arg_slice underlying27 (reads_slice underlying27 qh qj (reads_int underlying2)) (hval 2 27 v2 rfl rfl) h2
 refine (law_CellValues W x0 x1 x2 a0Orders c0Orders _ a2 c2 F2 k0Orders r2).mono fun e W' ⟨v,he,hv,hb⟩=>?_
 subst he hv
 exact ⟨_,rfl,post_law hW' rfl rfl (tb:=4) qh underlying4 qh (by intro t ht;rw [Tryz.params5] at ht;simp at ht;rcases ht with rfl | rfl | rfl <;> exact ⟨by kernel_rfl,of_decide_eq_true qh⟩) hb⟩
theorem lifted (os:Os) (started:os.Started) (H:Type) (enc:TypeId×Value->H):
 ReturnsInHanded {} Tryz.checked os 5 .any (Rows.fnExactCellValuesSpec.pre6 enc Tryz.prog Tryz.f5 Rows.fnExactCellValuesRow.domain false) (Rows.fnExactCellValuesSpec.post enc Tryz.prog Tryz.f5 false true false false):=by
 refine returnsInHanded_of_change (C:=Tryz.checked) own started qh Tryz.func5
  (ChangeSpec.witness6 (enc:=enc) (C:=Tryz.checked) false ⟨#[],#[.agg #[.int .i64 0,Sv none 0 0],.int .i64 0,Sv none 0 0],[]⟩ 8 qh qh qh qh) ?_
 intro W base args ds gs before hval hW _ _
 exact contract H enc W base args ds gs before hval hW
theorem closed:joinedFacts Tryz.checked.prog 5 Tryz.f5 Rows.fnExactCellValuesSpec Rows.fnExactCellValuesRow=true:=by
 simp only [joinedFacts,Bool.and_eq_true]
 repeat' refine And.intro ?_ ?_
 all_goals (as_aux_lemma=>kernel_rfl)
theorem holds:Rows.FnExactCellValuesSaid:=
 OpenClaim.holds_of_wide 5 Tryz.f5 rfl rfl rfl rfl rfl rfl rfl ⟨rfl,rfl,rfl,rfl,rfl⟩ rfl rfl rfl rfl rfl qh Tryz.func5 closed
  (of_decide_eq_true qh) (by unfold Func.isWrapper;rw [if_neg (of_decide_eq_false qh)];exact ⟨rfl,rfl⟩)
  (fun os started H enc _=>lifted os started H enc)
end CellValues
end Go.Proofs.YtjfmcaiombkobaaGreat
