/- Walks, printed by program (wip/tools/gv.py): what each function comes to, for all arguments. -/
import Derived.Test.YtghikkinnchndaaGreatA8
namespace Go.Proofs.YtghikkinnchndaaGreat
open Go.Proofs.Tryz
set_option linter.unusedVariables false
set_option linter.unusedSimpArgs false
set_option maxRecDepth 100000
set_option maxHeartbeats 4000000
open Go.RowKit
open Go.Proofs.YtghikkinnchndaaGreat.Tot (tot)
open Go.Proofs.YtghikkinnchndaaGreat.Mark (dc mrk mkd mkd_mark cnt_mark)
open Go.ChangeShapes Go.WideShapes Go.ChangeAt Go.Joins
namespace Tissue
theorem own:ownKnob Tryz.prog.godebug=none:=by kernel_rfl
theorem contract(H:Type)(enc:TypeId×Value->H)(W:World)(base:Nat)(args:Array Value)(ds gs:List (DataW H))(uP:List MemPlace)
 (Ol:∀(j:Nat) t v,Tryz.f5.params[j]? =some t->args[j]? =some v->Value.okWide Tryz.prog W .any base t v)
 (hW:DataW.Whole enc Tryz.prog Tryz.f5.params.toList Rows.fnTissueSpec.vars false W args.toList ds gs uP):
 Calls Tryz.prog 5 args W fun e W'=>∃v,e=.returned v/\Rows.fnTissueSpec.post enc Tryz.prog Tryz.f5 false true false false W args v W':=by
 have hW':=hW
 obtain⟨p,q,hA0,hV,rfl,hfz,OD⟩:=hW
 have hA:DataW.TrodAll enc Tryz.prog W 0 (fun _=>true) true Tryz.f5.params.toList args.toList ds p:=hA0
 rw[Tryz.params5] at hA Ol
 obtain⟨us,rfl⟩:∃us:List Value,args=us.toArray:=⟨args.toList,by simp⟩
 obtain⟨v0,us0,d0,ds0,p0,q0,e0,rfl,rfl,h0,hA⟩:=trodAll_cons hA
 obtain⟨v1,us1,d1,ds1,p1,q1,e1,rfl,rfl,h1,hA⟩:=trodAll_cons hA
 obtain⟨e2,rfl,rfl⟩:=trodAll_nil hA
 subst e2
 replace e0:us=v0::us0:=by simpa using e0
 subst e1
 subst e0
 obtain⟨a0,c0,F0,x0,rfl,r0⟩:=arg_slice underlying22 (reads_slice underlying22 qh qj<|reads_byte underlying5) (Ol 0 22 v0 rfl rfl) h0
 obtain⟨a1,c1,F1,x1,rfl,r1⟩:=arg_slice underlying22 (reads_slice underlying22 qh qj<|reads_byte underlying5) (Ol 1 22 v1 rfl rfl) h1
 refine(law_FnTissue W x0 x1 a0 c0 F0 a1 c1 F1 r0 r1).mono fun e W' ⟨v,he,hv,hb⟩=>?_
 subst he hv
 exact⟨_,rfl,post_law hW' rfl rfl (tb:=4) qh underlying4 qh (by intro t ht;rw[Tryz.params5] at ht;simp at ht;rcases ht with rfl|rfl <;> exact⟨by kernel_rfl,of_decide_eq_true qh⟩) hb⟩
theorem lifted(os:Os)(BQ:os.Started)(H:Type)(enc:TypeId×Value->H):
 ReturnsInHanded {} Tryz.checked os 5 .any (Rows.fnTissueSpec.pre6 enc Tryz.prog Tryz.f5 Rows.fnTissueRow.domain false) (Rows.fnTissueSpec.post enc Tryz.prog Tryz.f5 false true false false):=by
 refine returnsInHanded_of_change (C:=Tryz.checked) own BQ qh Tryz.func5
  (ChangeSpec.witness6 (enc:=enc) (C:=Tryz.checked) false ⟨#[],#[Sv none 0 0,Sv none 0 0],[]⟩ 8 qh qh qh qh) ?_
 intro W base args ds gs uP Ol hW _ _
 exact contract H enc W base args ds gs uP Ol hW
theorem closed:joinedFacts Tryz.checked.prog 5 Tryz.f5 Rows.fnTissueSpec Rows.fnTissueRow=true:=by
 simp only[joinedFacts,Bool.and_eq_true]
 repeat' refine And.intro ?_ ?_
 all_goals (as_aux_lemma=>kernel_rfl)
theorem holds:Rows.FnTissueSaid:=
 OpenClaim.holds_of_wide 5 Tryz.f5 J J J J J J J ⟨rfl,rfl,rfl,rfl,rfl⟩ rfl J J J J qh Tryz.func5 closed
  (of_decide_eq_true qh) (by unfold Func.isWrapper;rw[if_neg<|of_decide_eq_false qh];exact⟨rfl,rfl⟩)
  (fun os BQ H enc _=>lifted os BQ H enc)
end Tissue
end Go.Proofs.YtghikkinnchndaaGreat
