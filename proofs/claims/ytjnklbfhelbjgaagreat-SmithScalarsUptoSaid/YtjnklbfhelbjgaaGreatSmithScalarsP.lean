/- SmithScalarsP. -/
import Derived.Test.YtjnklbfhelbjgaaGreatSc29
import Derived.Test.YtjnklbfhelbjgaaGreatSc30
import Derived.WalkKit
import Derived.ProofKit
import Derived.OpenShut
import Derived.JoinedCond
import Derived.Test.YtjnklbfhelbjgaaGreatSc00
set_option maxRecDepth 100000
set_option maxHeartbeats 32000000
set_option linter.all false
namespace Go.Proofs.YtjnklbfhelbjgaaGreat.smithScalars
open Go.ChangeShapes Go.WideShapes Go.ChangeAt Go.RowKit
theorem contract (H:Type)(enc:TypeId × Value->H)(W:World)(base:Nat)(args:Array Value)(ds gs:List (DataW H))(before:List MemPlace)
  (hval:∀ (j:Nat) t v,Tryz.f5.params[j]?=some t->args[j]?=some v->Value.okWide Tryz.prog W .any base t v)
  (hW:DataW.Whole enc Tryz.prog Tryz.f5.params.toList Rows.smithScalarsSpec.vars false W args.toList ds gs before) (hk:Rows.uptoSmall H (ds ++ gs)=true) :
  Calls Tryz.prog 5 args W fun e W'=>∃ v,e=.returned v/\Rows.smithScalarsSpec.post enc Tryz.prog Tryz.f5 false true false false W args v W':=by
 have hW':=hW
 obtain ⟨p,q,hA0,hV,rfl,hfz,hnd⟩:=hW
 have hA:DataW.TrodAll enc Tryz.prog W 0 (fun _=>true) true Tryz.f5.params.toList args.toList ds p:=hA0
 rw [Tryz.params5] at hA hval
 obtain ⟨v0,vs0,d0,ds0,p0,q0,hargs,rfl,rfl,h0,r0⟩:=trodAll_cons hA
 obtain ⟨v1,vs1,d1,ds1,p1,q1,rfl,rfl,rfl,h1,r1⟩:=trodAll_cons r0
 obtain ⟨rfl,rfl,rfl⟩:=trodAll_nil r1
 obtain rfl:args=#[v0,v1]:=by cases args;simp_all
 obtain ⟨rfl,rfl⟩:=trodVars_none hV
 obtain ⟨A0,n0,c0,PP0,rfl,R0,B0,E0,S0⟩:=open_Tab2 (hval 0 45 v0 rfl rfl) h0
 have J0:Rows.uptoBulk d0<=1048576:=bulk_le hk (by simp)
 obtain ⟨s1,A1,n1,c1,z1,s1',A1',n1',c1',z1',rfl,R1,R1',B1,S1⟩:=open_Rat (hval 1 47 v1 rfl rfl) h1
 have hs:=of_decide_eq_true (p:=Rows.uptoBulkAll _<=1048576) hk
 simp only [List.append_nil,Rows.uptoBulkAll] at hs
 clear hA0
 refine (walk_SmithScalars (R0.wide J0 J0 J0) (nT B0 J0) E0 R1 R1' (by omega)).mono fun e W' ⟨he,hb⟩=>?_
 subst he
 exact ⟨_,rfl,post_of_below (pv:=[]) hW' (fun _ _ _=>(trodAll_cons_mk (shut_bool Tryz.underlying4 _) trodAll_mk0)) (fun sp hsp=>(trodAll_cons_mk (S0 W' sp hb (fun p hp=>hsp p (by simp [hp]))) (trodAll_cons_mk (S1 W' sp hb (fun p hp=>hsp p (by simp [hp]))) trodAll_mk0))) (fun _ _=>rfl) (by simp) hb (ok_one (by kernel_rfl) rfl (okWide_bool_mk Tryz.underlying4 _))⟩
theorem lifted (os:Os)(started:os.Started)(H:Type)(enc:TypeId × Value->H)(F:Stop.Interp) :
  ReturnsInHanded {} Tryz.checked os 5 .any ((Rows.OpenSpec.upto Rows.smithScalarsSpec).pre6 enc Tryz.prog Tryz.f5 Rows.smithScalarsUptoRow.domain false) (((Rows.OpenSpec.upto Rows.smithScalarsSpec).at F).post enc Tryz.prog Tryz.f5 false true false false):=by
 refine returnsInHanded_of_cond (C:=Tryz.checked) (s:=Rows.OpenSpec.upto Rows.smithScalarsSpec) (k:=Rows.uptoSmall) rfl own started (by kernel_rfl) Tryz.func5
  (OpenSpec.witness (enc:=enc) (C:=Tryz.checked) (s:=Rows.OpenSpec.upto Rows.smithScalarsSpec) (k:=Rows.uptoSmall) rfl false ⟨#[],#[Value.slice none 0 0,.agg #[.bool false,.slice none 0 0,.bool false,.slice none 0 0]],[]⟩ 8 (by kernel_rfl) (by kernel_rfl) (by kernel_rfl)
   (x:=([.nil,.agg [.agg [.lit (.bool false),.nil],.agg [.lit (.bool false),.nil]]],[],[])) (by kernel_rfl) rfl (by kernel_rfl)) ?_
 intro W base args ds gs before hval hW _ hk _
 exact contract H enc W base args ds gs before hval hW hk
theorem over:Rows.smithScalarsUptoRow.holds Tryz.pinned (Rows.OpenSpec.upto Rows.smithScalarsSpec) :=
 OpenClaim.holds_of_cond 5 Tryz.f5 rfl rfl rfl rfl rfl rfl rfl ⟨rfl,rfl,rfl,rfl,rfl⟩ rfl rfl rfl rfl rfl (by kernel_rfl) Tryz.func5 (by kernel_rfl)
  (of_decide_eq_true (by kernel_rfl)) (by unfold Func.isWrapper;first | (rw [if_pos (by decide +kernel)];kernel_rfl) | (rw [if_neg (by decide +kernel)];exact ⟨rfl,rfl⟩))
  (fun os started H enc _ F=>lifted os started H enc F)
theorem holds:Rows.SmithScalarsUptoSaid:=over
#print axioms holds
end Go.Proofs.YtjnklbfhelbjgaaGreat.smithScalars
