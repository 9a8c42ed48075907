/- Part of this proof;laid by program. -/
import Derived.Test.YtpnhjkiligohnaaGreatDoorJ37
import Derived.Test.YtpnhjkiligohnaaGreatDoorJ38
set_option linter.unusedVariables false
set_option linter.unusedSimpArgs false
namespace Go.Proofs.YtpnhjkiligohnaaGreatDoor.scriptEncodes
open Go.ChangeShapes Go.WideShapes Go.ChangeAt Go.RowKit Go.Vm Go.Proofs.YtpnhjkiligohnaaGreatDoor.Br
set_option linter.unusedVariables false
set_option maxRecDepth 100000
theorem contract (H:Type) (enc:TypeId×Value→H) (W:World) (base:Nat) (args:Array Value) (ds gs:List (DataW H)) (before:List MemPlace)
  (hval:∀ (j:Nat) t v,Tryz.f4.params[j]? = some t→args[j]? = some v→Value.okWide Tryz.prog W .any base t v)
  (hW:DataW.Whole enc Tryz.prog Tryz.f4.params.toList Rows.scriptEncodesSpec.vars false W args.toList ds gs before) (hk:Rows.uptoSmall H (ds++gs)=true) (hL:laidMetH Tryz.prog Rows.scriptEncodesUptoRow.laid W) :
  Calls Tryz.prog F.zgU args W fun e W'=>∃ v,e = .returned v∧Rows.scriptEncodesSpec.post enc Tryz.prog Tryz.f4 false true false false W args v W':=by
 refine zRf (s:=Rows.scriptEncodesSpec) (fn:=Tryz.f4) (fun H ds h=>by match ds,h with|[d0],_=>exact⟨rfl,rfl,rfl⟩) rfl rfl (by kernel_rfl) H enc W args ds gs before hW ?_;obtain⟨p,q,hA,hV, -, -, -⟩:=hW;obtain⟨rfl,rfl⟩:=trodVars_none hV;have hb:=zRg hk
 rw[Tryz.params4] at hA hval;obtain⟨v0,vs0,d0,ds0,p0,q0,hargs0,rfl,rfl,⟨n0,h0⟩,r0⟩:=trodAll_cons hA;obtain⟨rfl,rfl,rfl⟩:=trodAll_nil r0;obtain rfl:args = #[v0]:=by cases args;simp_all
 obtain⟨-, S,⟨ql,nl,cl,qs,ns,c3,hcs,hlk,hnl,hst,hns⟩,hR⟩:=zEI H enc W _ _ _ _ h0 (hb _ (by simp));have hv0:=hval 0 _ v0 rfl rfl
 have hv:=zCM Tryz.underlying30 hv0;rw[hcs] at hv;subst hv;exact zJb (fun h=>zEJ ((zJM hL).le h)) ⟨ql,nl,cl,qs,ns,c3,rfl,hlk,hnl,hst,hns⟩ hR
theorem laid_met (os:Os):laidMet Tryz.prog Rows.scriptEncodesUptoRow.laid ((zni os).forCall (fun _ _=>0) ⟨#[], #[.agg #[.int .i64 0,.slice none 0 0,.int .i64 0,.int .i64 0,.int .i64 0,.int .i64 0,.int .i64 0,.int .i64 0,.int .i64 0,.int .i64 0,.int .i64 0,.int .i64 0,.slice none 0 0]],[]⟩).memory:=
 laidMet_of_run' 8 (by kernel_rfl) (by kernel_rfl)
theorem reads (os:Os) {H:Type} (enc:TypeId×Value→H):∃ places,DataW.whole enc Tryz.prog ((zni os).forCall (fun _ _=>0) ⟨#[], #[.agg #[.int .i64 0,.slice none 0 0,.int .i64 0,.int .i64 0,.int .i64 0,.int .i64 0,.int .i64 0,.int .i64 0,.int .i64 0,.int .i64 0,.int .i64 0,.int .i64 0,.slice none 0 0]],[]⟩).memory Tryz.f4.params.toList Rows.scriptEncodesSpec.vars false (#[.agg #[.int .i64 0,.slice none 0 0,.int .i64 0,.int .i64 0,.int .i64 0,.int .i64 0,.int .i64 0,.int .i64 0,.int .i64 0,.int .i64 0,.int .i64 0,.int .i64 0,.slice none 0 0]]:Array Value).toList 8=some ([.agg [.lit (.int .i64 0),.nil,.agg [.agg [.lit (.int .i64 0),.lit (.int .i64 0),.lit (.int .i64 0)],.lit (.int .i64 0),.lit (.int .i64 0),.lit (.int .i64 0),.lit (.int .i64 0),.lit (.int .i64 0),.lit (.int .i64 0),.lit (.int .i64 0)],.nil]],[],places):=
 ⟨[],by kernel_rfl⟩
set_option maxRecDepth 100000 in
theorem lifted (os:Os) (started:os.Started) (H:Type) (enc:TypeId×Value→H) (F:Stop.Interp) :
  ReturnsInHanded {} Tryz.checked os 4 .any ((Rows.OpenSpec.upto Rows.scriptEncodesSpec).preRow enc Tryz.prog Tryz.f4 Rows.scriptEncodesUptoRow.domain false Rows.scriptEncodesUptoRow.laid) (((Rows.OpenSpec.upto Rows.scriptEncodesSpec).at F).post enc Tryz.prog Tryz.f4 false true false false):=by
 obtain⟨places,hx⟩:=reads os enc
 refine returnsInHanded_of_row (C:=Tryz.checked) (s:=Rows.OpenSpec.upto Rows.scriptEncodesSpec) own started (by kernel_rfl) Tryz.func4
  (witness_row_at (enc:=enc) (C:=Tryz.checked) false (zni os) #[.agg #[.int .i64 0,.slice none 0 0,.int .i64 0,.int .i64 0,.int .i64 0,.int .i64 0,.int .i64 0,.int .i64 0,.int .i64 0,.int .i64 0,.int .i64 0,.int .i64 0,.slice none 0 0]] rfl (by kernel_rfl) (by kernel_rfl) (by kernel_rfl)
   (OpenSpec.preRow_of_cond 8 hx (by kernel_rfl) (fun k hk=>by cases hk;kernel_rfl) (by kernel_rfl) (laid_met os))) ?_
 intro W base args ds gs before hval hW _ hcond _ hL _ _;exact contract H enc W base args ds gs before hval hW (hcond _ rfl) hL
noncomputable abbrev Q:Program:=Tryz.pinned.checked.prog
abbrev C:OpenClaim:=Rows.scriptEncodesUptoRow
theorem k2:laidOutB Q=true:=by kernel_rfl
theorem k3:mapsRowed Q=true:=by kernel_rfl
theorem k10:(C.inPlace == Q.inPlace 4)=true:=by kernel_rfl
theorem k11:(C.unfollowed == Q.unfollowed 4)=true:=by kernel_rfl
theorem k12:(C.recurses == Q.recurses 4)=true:=by kernel_rfl
theorem k13:(C.named == Q.varsNamed 4)=true:=by kernel_rfl
theorem k22:(C.plainKeys == Q.plainKeys)=true:=by kernel_rfl
theorem k23b:Q.stopsHeard=true:=by kernel_rfl
theorem k24:Q.mayEnter=true:=by kernel_rfl
theorem k24b:(C.lifted == Q.liftsFinal)=true:=by kernel_rfl
theorem k24c:(Q.make == some C.make)=true:=by kernel_rfl
theorem closed:joinedFacts Q 4 Tryz.f4 (Rows.OpenSpec.upto Rows.scriptEncodesSpec).bare C=true:=by
 simp only[joinedFacts,Bool.and_eq_true];exact⟨⟨⟨⟨⟨⟨⟨⟨⟨⟨⟨⟨⟨⟨⟨⟨⟨⟨⟨⟨⟨⟨⟨⟨⟨⟨⟨⟨⟨⟨⟨(by kernel_rfl),k2⟩,k3⟩,(by kernel_rfl)⟩,(by kernel_rfl)⟩,(by kernel_rfl)⟩,(by kernel_rfl)⟩,(by kernel_rfl)⟩,(by kernel_rfl)⟩,k10⟩,k11⟩,k12⟩,k13⟩,(by kernel_rfl)⟩,(by kernel_rfl)⟩,(by kernel_rfl)⟩,(by kernel_rfl)⟩,(by kernel_rfl)⟩,(by kernel_rfl)⟩,(by kernel_rfl)⟩,(by kernel_rfl)⟩,(by kernel_rfl)⟩,k22⟩,(by kernel_rfl)⟩,k23b⟩,k24⟩,k24b⟩,k24c⟩,(by kernel_rfl)⟩,(by kernel_rfl)⟩,(by kernel_rfl)⟩,(by kernel_rfl)⟩
theorem over:Rows.ScriptEncodesUptoSaid:=
 OpenClaim.holds_of_cond 4 Tryz.f4 rfl rfl rfl rfl rfl rfl rfl ⟨rfl,rfl,rfl,rfl,rfl⟩ rfl rfl rfl rfl rfl (by kernel_rfl) Tryz.func4 closed
  (Zd0 (by kernel_rfl)) (by unfold Func.isWrapper;first|(rw[if_pos (by decide +kernel)];kernel_rfl)|(rw[if_neg (by decide +kernel)];exact⟨rfl,rfl⟩))
  (fun os started H enc _ F=>by rw[OpenClaim.pre_eq_preRow];exact lifted os started H enc F)
theorem plain (f:FuncId) (fn:Func) (hf:Tryz.pinned.checked.prog.funcNamed "portage/portagelaw23.ScriptEncodes" = some f) (hfn:Tryz.pinned.checked.prog.funcs[f]? = some fn) :
  false=Tryz.pinned.checked.prog.looks []∧∀ (j:Nat) t,fn.params[j]? = some t→Tryz.pinned.checked.prog.wantsStandIn t=false:=by
 obtain rfl:f=4:=Option.some.inj ((show Tryz.prog.funcNamed "portage/portagelaw23.ScriptEncodes" = some 4 by kernel_rfl).symm.trans hf) |>.symm
 obtain rfl:fn=Tryz.f4:=(Option.some.inj (Tryz.func4.symm.trans hfn)).symm;refine⟨by kernel_rfl,fun j t ht=>?_⟩;rw[Tryz.params4] at ht;have hm:=Array.mem_of_getElem? ht
 simp only[List.mem_toArray,List.mem_cons,List.not_mem_nil,or_false] at hm;subst hm;show Tryz.prog.wantsStandIn _=false;kernel_rfl
theorem cw:Rows.scriptEncodesUptoRow.wfByText (Rows.OpenSpec.upto Rows.scriptEncodesSpec)=true:=by kernel_rfl
theorem cm:Tryz.pinned.checked.prog.mainIs=some (Rows.scriptEncodesUptoCard.stood.harness.1,Rows.scriptEncodesUptoCard.stood.harness.2.toList):=by kernel_rfl
theorem cg:false=Rows.scriptEncodesUptoRow.goesBy Tryz.pinned.checked.prog:=by kernel_rfl
theorem proved:Rows.ScriptEncodesUptoCardSaid:=
 Claim7.holds_tied_plain_at .later [] [.data,.data,.data] true Rows.scriptEncodesUptoCard.stood.harness false over (fun _ h=>by cases h) cw (fun _ h=>by cases h) scriptEncodesUpto_row_tie rfl ⟨rfl,rfl⟩ cm rfl plain cg
end Go.Proofs.YtpnhjkiligohnaaGreatDoor.scriptEncodes
