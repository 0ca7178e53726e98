/- Walks, printed by program (wip/tools/gv.py): what each function comes to, for all arguments. -/
import Derived.Test.YtkgdkfkgnodheaaGreatA5
namespace Go.Proofs.YtkgdkfkgnodheaaGreat
set_option linter.unusedVariables false
set_option linter.unusedSimpArgs false
open Go.Proofs.YtkgdkfkgnodheaaGreat.Tot (tot)
open Go.Proofs.YtkgdkfkgnodheaaGreat.Mark (cnt mrk mkd mkd_mark cnt_mark)
open Go.RowKit
set_option linter.unusedVariables false
set_option linter.unusedSimpArgs false
set_option maxRecDepth 100000
set_option maxHeartbeats 4000000


open Go.ChangeShapes Go.WideShapes Go.ChangeAt Go.Joins
namespace PassResults
theorem own:ownKnob Tryz.prog.godebug=none:=by kernel_rfl

theorem reads_85:Reads Tryz.prog 85 xM:=by
  intro H enc w spare held fuel cs x h
  obtain ⟨F0,y0,v0,g0,r0⟩:=Qe Tryz.underlying85 h 0 0 rfl rfl (reads_int Tryz.underlying2) rfl qi
  obtain ⟨F1,y1,v1,g1,r1⟩:=Qe Tryz.underlying85 h 1 1 rfl rfl (Qq Tryz.underlying22 qi qj (reads_int Tryz.underlying2)) rfl qi
  obtain ⟨F2,y2,v2,g2,r2⟩:=Qe Tryz.underlying85 h 2 2 rfl rfl (Qq Tryz.underlying22 qi qj (reads_int Tryz.underlying2)) rfl qi
  obtain ⟨xs,n,_,_,hl,_,_⟩:=DataW.trod_struct Tryz.underlying85 h
  have hl0:cs.length=3:=hl.trans qi
  clear h hl
  obtain ⟨c0,cs0,rfl,hl1⟩:=yP hl0
  obtain ⟨c1,cs1,rfl,hl2⟩:=yP hl1
  obtain ⟨c2,cs2,rfl,hl3⟩:=yP hl2
  obtain rfl:=List.eq_nil_of_length_eq_zero hl3
  obtain rfl:c0=v0:=by simpa using g0
  obtain rfl:c1=v1:=by simpa using g1
  obtain rfl:c2=v2:=by simpa using g2
  obtain ⟨rfl,e0⟩:=r0
  obtain rfl:=(List.cons.inj e0).1
  exact ⟨_,⟨y0,y1,y2⟩,_,_,_,_,rfl,rfl,r1,r2⟩

theorem reads_26:Reads Tryz.prog 26 qW:=by
  intro H enc w spare held fuel cs x h
  obtain ⟨F0,y0,v0,g0,r0⟩:=Qe Tryz.underlying26 h 0 0 rfl rfl (reads_int Tryz.underlying2) rfl qi
  obtain ⟨F1,y1,v1,g1,r1⟩:=Qe Tryz.underlying26 h 1 1 rfl rfl (Qq Tryz.underlying22 qi qj (reads_int Tryz.underlying2)) rfl qi
  obtain ⟨F2,y2,v2,g2,r2⟩:=Qe Tryz.underlying26 h 2 2 rfl rfl (Qq Tryz.underlying23 qi qj (reads_bool Tryz.underlying4)) rfl qi
  obtain ⟨F3,y3,v3,g3,r3⟩:=Qe Tryz.underlying26 h 3 3 rfl rfl (Qq Tryz.underlying24 qi qj reads_85) rfl qi
  obtain ⟨xs,n,_,_,hl,_,_⟩:=DataW.trod_struct Tryz.underlying26 h
  have hl0:cs.length=4:=hl.trans qi
  clear h hl
  obtain ⟨c0,cs0,rfl,hl1⟩:=yP hl0
  obtain ⟨c1,cs1,rfl,hl2⟩:=yP hl1
  obtain ⟨c2,cs2,rfl,hl3⟩:=yP hl2
  obtain ⟨c3,cs3,rfl,hl4⟩:=yP hl3
  obtain rfl:=List.eq_nil_of_length_eq_zero hl4
  obtain rfl:c0=v0:=by simpa using g0
  obtain rfl:c1=v1:=by simpa using g1
  obtain rfl:c2=v2:=by simpa using g2
  obtain rfl:c3=v3:=by simpa using g3
  obtain ⟨rfl,e0⟩:=r0
  obtain rfl:=(List.cons.inj e0).1
  exact ⟨_,⟨y0,y1,y2,y3⟩,_,_,_,_,_,_,rfl,rfl,r1,r2,r3⟩

theorem reads_29:Reads Tryz.prog 29 qZ:=by
  intro H enc w spare held fuel cs x h
  obtain ⟨F0,y0,v0,g0,r0⟩:=Qe Tryz.underlying29 h 0 0 rfl rfl (Qq Tryz.underlying27 qi qj (Qq Tryz.underlying22 qi qj (reads_int Tryz.underlying2))) rfl qi
  obtain ⟨F1,y1,v1,g1,r1⟩:=Qe Tryz.underlying29 h 1 1 rfl rfl (Qq Tryz.underlying22 qi qj (reads_int Tryz.underlying2)) rfl qi
  obtain ⟨xs,n,_,_,hl,_,_⟩:=DataW.trod_struct Tryz.underlying29 h
  have hl0:cs.length=2:=hl.trans qi
  clear h hl
  obtain ⟨c0,cs0,rfl,hl1⟩:=yP hl0
  obtain ⟨c1,cs1,rfl,hl2⟩:=yP hl1
  obtain rfl:=List.eq_nil_of_length_eq_zero hl2
  obtain rfl:c0=v0:=by simpa using g0
  obtain rfl:c1=v1:=by simpa using g1
  exact ⟨_,⟨y0,y1⟩,_,_,_,_,rfl,rfl,r0,r1⟩

theorem contract (H:Type) (enc:TypeId×Value→H) (W:World) (base:Nat) (args:Array Value) (ds gs:List (DataW H)) (before:List MemPlace)
    (hval:∀ (j:Nat) t v,Tryz.f4.params[j]? =some t→args[j]? =some v→Value.okWide Tryz.prog W .any base t v)
    (hW:DataW.Whole enc Tryz.prog Tryz.f4.params.toList Rows.fnExactPassResultsSpec.vars false W args.toList ds gs before):
    Calls Tryz.prog 4 args W fun e W' =>∃ v,e=.returned v∧Rows.fnExactPassResultsSpec.post enc Tryz.prog Tryz.f4 false true false false W args v W' :=by
  have hW' :=hW
  obtain ⟨p,q,hA0,hV,rfl,hfz,hnd⟩:=hW
  have hA:DataW.TrodAll enc Tryz.prog W 0 (fun _=>true) true Tryz.f4.params.toList args.toList ds p:=hA0
  rw [Tryz.params4] at hA hval
  obtain ⟨us,rfl⟩:∃ us:List Value,args=us.toArray:=⟨args.toList,by simp⟩
  obtain ⟨v0,us0,d0,ds0,p0,q0,e0,rfl,rfl,h0,hA⟩:=trodAll_cons hA
  obtain ⟨v1,us1,d1,ds1,p1,q1,e1,rfl,rfl,h1,hA⟩:=trodAll_cons hA
  obtain ⟨v2,us2,d2,ds2,p2,q2,e2,rfl,rfl,h2,hA⟩:=trodAll_cons hA
  obtain ⟨v3,us3,d3,ds3,p3,q3,e3,rfl,rfl,h3,hA⟩:=trodAll_cons hA
  obtain ⟨e4,rfl,rfl⟩:=trodAll_nil hA
  subst e4
  replace e0:us=v0 :: us0:=by simpa using e0
  subst e3
  subst e2
  subst e1
  subst e0
  obtain ⟨cs0,G0,x0,rfl,r0⟩:=arg_struct Tryz.underlying26 reads_26 (hval 0 26 v0 rfl rfl) h0
  obtain ⟨v0Parents,v0Free,v0Rules,F0Parents,F0Free,F0Rules,rfl,rfl,h0Parents,h0Free,h0Rules⟩:=r0
  obtain ⟨a0Parents,c0Parents,rfl,k0Parents⟩:=slice_is h0Parents
  obtain ⟨a0Free,c0Free,rfl,k0Free⟩:=slice_is h0Free
  obtain ⟨a0Rules,c0Rules,rfl,k0Rules⟩:=slice_is h0Rules
  obtain ⟨cs1,G1,x1,rfl,r1⟩:=arg_struct Tryz.underlying29 reads_29 (hval 1 29 v1 rfl rfl) h1
  obtain ⟨v1Cells,v1Around,F1Cells,F1Around,rfl,rfl,h1Cells,h1Around⟩:=r1
  obtain ⟨a1Cells,c1Cells,rfl,k1Cells⟩:=slice_is h1Cells
  obtain ⟨a1Around,c1Around,rfl,k1Around⟩:=slice_is h1Around
  obtain ⟨x2,rfl,lo2,hi2⟩:=arg_int Tryz.underlying2 (hval 2 2 v2 rfl rfl) h2
  obtain ⟨x3,rfl,lo3,hi3⟩:=arg_int Tryz.underlying2 (hval 3 2 v3 rfl rfl) h3
  refine (law_PassResults W x0 x1 x2 x3 a0Parents c0Parents F0Parents a0Free c0Free F0Free a0Rules c0Rules F0Rules a1Cells c1Cells F1Cells a1Around c1Around F1Around k0Parents k0Free k0Rules k1Cells k1Around).mono fun e W' ⟨v,he,hv,hb⟩=>?_
  subst he hv
  exact ⟨_,rfl,post_law hW' rfl rfl (tb:=4) qi Tryz.underlying4 qi (by intro t ht;rw [Tryz.params4] at ht;simp at ht;rcases ht with rfl | rfl | rfl | rfl <;> exact ⟨by kernel_rfl,of_decide_eq_true qi⟩) hb⟩

theorem lifted (os:Os) (started:os.Started) (H:Type) (enc:TypeId×Value→H):
    ReturnsInHanded {} Tryz.checked os 4 .any (Rows.fnExactPassResultsSpec.pre6 enc Tryz.prog Tryz.f4 Rows.fnExactPassResultsRow.domain false) (Rows.fnExactPassResultsSpec.post enc Tryz.prog Tryz.f4 false true false false):=by
  refine returnsInHanded_of_change (C:=Tryz.checked) own started qi Tryz.func4
    (ChangeSpec.witness6 (enc:=enc) (C:=Tryz.checked) false ⟨#[],#[.agg #[.int .i64 0,.slice none 0 0,.slice none 0 0,.slice none 0 0],.agg #[.slice none 0 0,.slice none 0 0],.int .i64 0,.int .i64 0],[]⟩ 8 qi qi qi qi) ?_
  intro W base args ds gs before hval hW _ _
  exact contract H enc W base args ds gs before hval hW

theorem closed:joinedFacts Tryz.checked.prog 4 Tryz.f4 Rows.fnExactPassResultsSpec Rows.fnExactPassResultsRow=true:=by
  simp only [joinedFacts,Bool.and_eq_true]
  repeat' refine And.intro ?_ ?_
  all_goals (as_aux_lemma=>kernel_rfl)
theorem holds:Rows.FnExactPassResultsSaid:=
  OpenClaim.holds_of_wide 4 Tryz.f4 rfl rfl rfl rfl rfl rfl rfl ⟨rfl,rfl,rfl,rfl,rfl⟩ rfl rfl rfl rfl rfl qi Tryz.func4 closed
    (of_decide_eq_true qi) (by unfold Func.isWrapper;rw [if_neg (of_decide_eq_false qi)];exact ⟨rfl,rfl⟩)
    (fun os started H enc _=>lifted os started H enc)
end PassResults


end Go.Proofs.YtkgdkfkgnodheaaGreat
