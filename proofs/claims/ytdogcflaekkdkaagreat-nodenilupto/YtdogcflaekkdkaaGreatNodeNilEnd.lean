/- NodeNil: a nil node refuses every call and has nothing: for every call of bulk at most 1048576 the law returns true,and the call reads as before. -/
import Derived.Test.YtdogcflaekkdkaaGreatJ9
import Derived.Test.YtdogcflaekkdkaaGreatJ21
set_option linter.unusedVariables false
set_option linter.unusedSimpArgs false
namespace Go.Proofs.YtdogcflaekkdkaaGreat.nodeNil
open Go.ChangeShapes Go.WideShapes Go.ChangeAt Go.RowKit Go.Vm Go.Proofs.YtdogcflaekkdkaaGreat.Br
set_option linter.unusedVariables false
set_option maxRecDepth 100000
theorem contract (H:Type) (enc:TypeId×Value→H) (W:World) (base:Nat) (args:Array Value) (ds gs:List (DataW H)) (before:List MemPlace)
  (hval:∀ (j:Nat) t v,Tryz.f5.params[j]? = some t→args[j]? = some v→Value.okWide Tryz.prog W .any base t v)
  (hW:DataW.Whole enc Tryz.prog Tryz.f5.params.toList Rows.nodeNilSpec.vars false W args.toList ds gs before) (hk:Rows.uptoSmall H (ds++gs)=true) :
  Calls Tryz.prog F.zlq args W fun e W'=>∃ v,e = .returned v∧Rows.nodeNilSpec.post enc Tryz.prog Tryz.f5 false true false false W args v W':=by
 refine zK8 (s:=Rows.nodeNilSpec) (fn:=Tryz.f5) (fun H ds h=>by match ds,h with|[d0],_=>exact⟨rfl,rfl,rfl⟩) rfl rfl (by kernel_rfl) H enc W args ds gs before hW ?_
 obtain⟨p,q,hA,hV, -, -, -⟩:=hW
 obtain⟨rfl,rfl⟩:=trodVars_none hV
 have hb:=zK9 hk
 rw[Tryz.params5] at hA hval
 obtain⟨v0,vs0,d0,ds0,p0,q0,hargs0,rfl,rfl,⟨n0,h0⟩,r0⟩:=trodAll_cons hA
 obtain⟨rfl,rfl,rfl⟩:=trodAll_nil r0
 obtain rfl:args = #[v0]:=by cases args;simp_all
 obtain⟨-, x,hx⟩:=zGY H enc W _ _ _ _ h0 (hb _ (by simp))
 have hv0:=hval 0 _ v0 rfl rfl
 have hv:=zDz Tryz.underlying61 hv0
 rw[hx] at hv
 subst hv
 exact zJR _ _ _ _ _ _
set_option maxRecDepth 100000 in
theorem lifted (os:Os) (started:os.Started) (H:Type) (enc:TypeId×Value→H) (F:Stop.Interp) :
  ReturnsInHanded {} Tryz.checked os 5 .any ((Rows.OpenSpec.upto Rows.nodeNilSpec).pre6 enc Tryz.prog Tryz.f5 Rows.nodeNilUptoRow.domain false) (((Rows.OpenSpec.upto Rows.nodeNilSpec).at F).post enc Tryz.prog Tryz.f5 false true false false):=by
 refine returnsInHanded_of_cond (C:=Tryz.checked) (s:=Rows.OpenSpec.upto Rows.nodeNilSpec) (k:=Rows.uptoSmall) rfl own started (by kernel_rfl) Tryz.func5
  (OpenSpec.witness (enc:=enc) (C:=Tryz.checked) (s:=Rows.OpenSpec.upto Rows.nodeNilSpec) (k:=Rows.uptoSmall) rfl false ⟨#[], #[.agg #[.int .i64 0,.int .i64 0,.int .i64 0,.slice none 0 0]],[]⟩ 12 (by kernel_rfl) (by kernel_rfl) (by kernel_rfl)
   (x:=([.agg [.lit (.int .i64 0),.lit (.int .i64 0),.lit (.int .i64 0),.nil]],[],[])) (by kernel_rfl) rfl (by kernel_rfl)) ?_
 intro W base args ds gs before hval hW _ hk _
 exact contract H enc W base args ds gs before hval hW hk
noncomputable abbrev Q:Program:=Tryz.pinned.checked.prog
abbrev C:OpenClaim:=Rows.nodeNilUptoRow
theorem k2:laidOutB Q=true:=by kernel_rfl
theorem k3:mapsRowed Q=true:=by kernel_rfl
theorem k10:(C.inPlace == Q.inPlace 5)=true:=by kernel_rfl
theorem k11:(C.unfollowed == Q.unfollowed 5)=true:=by kernel_rfl
theorem k12:(C.recurses == Q.recurses 5)=true:=by kernel_rfl
theorem k13:(C.named == Q.varsNamed 5)=true:=by kernel_rfl
theorem k22:(C.plainKeys == Q.plainKeys)=true:=by kernel_rfl
theorem zLR:Q.stopsHeard=true:=by kernel_rfl
theorem k24:Q.mayEnter=true:=by kernel_rfl
theorem zLS:(C.lifted == Q.liftsFinal)=true:=by kernel_rfl
theorem zLT:(Q.make == some C.make)=true:=by kernel_rfl
theorem zKZ:joinedFacts Q 5 Tryz.f5 (Rows.OpenSpec.upto Rows.nodeNilSpec).bare C=true:=by
 simp only[joinedFacts,Bool.and_eq_true]
 exact⟨⟨⟨⟨⟨⟨⟨⟨⟨⟨⟨⟨⟨⟨⟨⟨⟨⟨⟨⟨⟨⟨⟨⟨⟨⟨⟨⟨⟨⟨⟨(by kernel_rfl),k2⟩,k3⟩,(by kernel_rfl)⟩,(by kernel_rfl)⟩,(by kernel_rfl)⟩,(by kernel_rfl)⟩,(by kernel_rfl)⟩,(by kernel_rfl)⟩,k10⟩,k11⟩,k12⟩,k13⟩,(by kernel_rfl)⟩,(by kernel_rfl)⟩,(by kernel_rfl)⟩,(by kernel_rfl)⟩,(by kernel_rfl)⟩,(by kernel_rfl)⟩,(by kernel_rfl)⟩,(by kernel_rfl)⟩,(by kernel_rfl)⟩,k22⟩,(by kernel_rfl)⟩,zLR⟩,k24⟩,zLS⟩,zLT⟩,(by kernel_rfl)⟩,(by kernel_rfl)⟩,(by kernel_rfl)⟩,(by kernel_rfl)⟩
theorem over:Rows.nodeNilUptoRow.holds Tryz.pinned (Rows.OpenSpec.upto Rows.nodeNilSpec):=
 OpenClaim.holds_of_cond 5 Tryz.f5 rfl rfl rfl rfl rfl rfl rfl ⟨rfl,rfl,rfl,rfl,rfl⟩ rfl rfl rfl rfl rfl (by kernel_rfl) Tryz.func5 zKZ
  (Zd0 (by kernel_rfl)) (by unfold Func.isWrapper;first|(rw[if_pos (by decide +kernel)];kernel_rfl)|(rw[if_neg (by decide +kernel)];exact⟨rfl,rfl⟩))
  (fun os started H enc _ F=>lifted os started H enc F)
theorem proved:Rows.NodeNilUptoSaid:=
 over
end Go.Proofs.YtdogcflaekkdkaaGreat.nodeNil
