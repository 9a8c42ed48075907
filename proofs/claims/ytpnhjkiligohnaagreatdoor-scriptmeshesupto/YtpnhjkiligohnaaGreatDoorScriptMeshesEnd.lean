/- ScriptMeshes: the script of any bytes,but its steps,has a mesh with its nodes,all up: for every call of bulk at most 1048576 the law returns true,and the call reads as before (the card ties the three tables of the library that Itoa's text names). -/
import Derived.Test.YtpnhjkiligohnaaGreatDoorJ38
import Derived.Test.YtpnhjkiligohnaaGreatDoorJ34
import Derived.Test.YtpnhjkiligohnaaGreatDoorJ35
set_option linter.unusedVariables false
set_option linter.unusedSimpArgs false
namespace Go.Proofs.YtpnhjkiligohnaaGreatDoor
open Go Go.Vm
attribute [local irreducible] Brn Ob Grow CallsM inR zay zav Mem.row Mem.cells Mem.setCells Mem.upd Go.Vm.Own zaU zbF zbE zaV New SrcOk zah NewSl Mem.textAt Mem.mapAt Mem.iterAt zak kfind Wr NewEls Elems
set_option maxRecDepth 10000
variable {M M':Mem}
def zFZ (D:zFU):StI:=⟨(D.held:Nat),(D.bytes:Nat),(D.gaps:Nat),(D.disk:Nat),(D.seg:Nat),(D.win:Nat),(D.timer:Nat),(D.tries:Nat),(D.wait:Nat),(D.delay:Nat)⟩
theorem zpW (P:List UInt8) (v:Nat) {m:Nat} (h:0<m):zp P v m<m:=Nat.mod_lt _ h
theorem zJV (P:List UInt8):znm (zFZ (zmY P)):=by
 have h1:=fun v=>zpW P v (m:=256) (by decide)
 have h2:=fun v=>zpW P v (m:=63) (by decide)
 have h3:=fun v=>zpW P v (m:=8) (by decide)
 have h4:=fun v=>zpW P v (m:=4) (by decide)
 unfold zmY zFZ
 constructor<;>dsimp only<;>constructor<;>first
  | omega
  | (have:=h1 (2+2*zp P 1 16);omega)
  | (have:=h1 (2+2*zp P 1 16+1);omega)
  | (have:=h1 (2+2*zp P 1 16+2);omega)
  | (have:=h1 (2+2*zp P 1 16+3);omega)
  | (have:=h1 (2+2*zp P 1 16+4);omega)
  | (have:=h2 (2+2*zp P 1 16+5);omega)
  | (have:=h3 (2+2*zp P 1 16+6);omega)
  | (have:=h4 (2+2*zp P 1 16+7);omega)
  | (have:=h3 (2+2*zp P 1 16+8);omega)
  | (have:=h4 (2+2*zp P 1 16+9);omega)
theorem zL9 (P:List UInt8):LinksOk (zmY P).nodes (zmY P).links:=by
 have h1:=zpW P 0 (m:=64) (by decide);exact LinksOk.of (n:=1+zp P 0 64) (by omega) _
set_option maxRecDepth 100000
theorem zJW {D:zFU} (hS:znm (zFZ D)) (hL:LinksOk D.nodes D.links) {ql:Option Addr} {cl:Nat} (hrow:SrcOk M 2 ql D.links.length (D.links.flatMap zd4)) :
  CallsM Tryz.prog F.zcr [.agg #[.int .i64 (D.nodes:Nat),.slice ql D.links.length cl,.int .i64 (D.held:Nat),.int .i64 (D.bytes:Nat),.int .i64 (D.gaps:Nat),.int .i64 (D.disk:Nat),.int .i64 (D.seg:Nat),.int .i64 (D.win:Nat),.int .i64 (D.timer:Nat),.int .i64 (D.tries:Nat),.int .i64 (D.wait:Nat),.int .i64 (D.delay:Nat),.slice none 0 0]] M fun v M'=>
   ∃ p b,∃ xs:List Nat,∃ lk dv mb,v = .tuple #[ptr p,.int .i64 0]∧M.le M'∧M'.has p T.zad (zdK (zFZ D) lk dv (.slice (some ⟨b,0,none⟩) D.nodes D.nodes) mb)∧M'.has b T.zt (xs.map zam)∧xs.length=D.nodes∧∀ (j x:Nat),xs[j]? = some x→∃ P,UpB P x∧P.le M':=by
 refine zyp (by simp) ?_;refine zR ?_;refine(zJT hS hL hrow).mono ?_;rintro v M1 ⟨p,b,xs,lk,dv,mb,rfl,hle,hp,hb,hl,hx⟩;refine zR ?_;(conv=>whnf)
 refine ztL [24] (fun (j:Nat)=>[(24,.int .i64 (j:Nat))]) (fun j=>j=0) (fun j=>0) 0 rfl zS ?_;rintro j rfl;refine zR ?_;(conv=>whnf)
 exact⟨p,b,xs,lk,dv,mb,rfl,hle,hp,hb,hl,hx⟩
theorem zF0 (aw:∀ {M1:Mem},M.le M1→CallsM Tryz.prog F.ziB [] M1 fun v M2=>v = .bool true∧M1.le M2) {a:Option Addr} {n c:Nat} {P:List UInt8} (hs:SrcOk M 1 a n (P.map z7)) (hn:n≤1048576) :
  CallsM Tryz.prog F.zeT [.slice a n c] M fun v M'=>v = .bool true∧M.le M':=by
 have hS:=zJV P;have hL:=zL9 P
 have hdec:=zNs (c:=c) hs hn;generalize zmY P=D at *;refine zpq (by simp) ?_;refine zR ?_;refine hdec.mono ?_;rintro u M1 ⟨hle1,ql,cl,qs,cs,rfl,hLk, -⟩;refine zR ?_;refine(zJW hS hL hLk.src).mono ?_;rintro v M2 ⟨p,b,xs,lk,dv,mb,rfl,hle2,hp,hb,hl,hx⟩;refine zR ?_;refine(zB9 hp).mono ?_;rintro v _ ⟨rfl,rfl⟩;refine zR ?_;refine brn_f (by simp) ?_;refine zR ?_;refine(zHy hp).mono ?_;rintro v _ ⟨rfl,rfl⟩;refine zR ?_;refine(zJU hp).mono ?_;rintro v _ ⟨rfl,rfl⟩;refine zR ?_;have hnum:=hL.num
 (conv=>whnf)
 refine zaL (σ:=Nat×Mem) [6] (fun y=>[(6,.int .i64 (y.1:Nat))]) (fun _=>[BE.live T.zgM ([.int .i64 (D.nodes:Nat),.slice ql D.links.length cl,.int .i64 (D.held:Nat),.int .i64 (D.bytes:Nat),.int .i64 (D.gaps:Nat),.int .i64 (D.disk:Nat),.int .i64 (D.seg:Nat),.int .i64 (D.win:Nat),.int .i64 (D.timer:Nat),.int .i64 (D.tries:Nat),.int .i64 (D.wait:Nat),.int .i64 (D.delay:Nat),Value.slice none 0 0].map SC.v)]) (fun y=>y.2)
  (fun|⟨i,Mc⟩=>i≤D.nodes∧M2.le Mc) (fun y=>D.nodes - y.1) ⟨0,M2⟩ ⟨by omega,Mem.le_refl _⟩ zS ?_
 rintro ⟨i,Mc⟩ ⟨hi,hlec⟩;(conv=>whnf);refine brn (fun g=>?_) (fun g=>?_)
 ·have g':i<D.nodes:=by have:=Zd0 g;dsimp only at this;omega
  obtain⟨P',hu,hP'⟩:=hx i _ (List.getElem?_eq_getElem (by omega));refine zR ?_;refine(zHz (hp.le hlec) (hb.le hlec) hl g').mono ?_;rintro v _ ⟨rfl,rfl⟩;refine zR ?_;refine(zHA (hp.le hlec) (hb.le hlec) hl g' (List.getElem?_eq_getElem (by omega)) hu (Mem.le_trans hP' hlec)).mono ?_;rintro v M3 ⟨⟨me,rfl⟩,hle3⟩;refine zR ?_;refine obr (zm (by first|omega|(dsimp only;omega))) ?_;(conv=>whnf)
  exact⟨⟨i+1,M3⟩,⟨by omega,Mem.le_trans hlec hle3⟩,by dsimp only;omega,zS⟩
 ·have hleM:=Mem.le_trans hle1 (Mem.le_trans hle2 hlec);refine zR ?_;refine(zzq hL (hLk.src.le (Mem.le_trans hle2 hlec))).mono ?_;rintro v _ ⟨rfl,rfl⟩;refine zR ?_;refine(aw hleM).mono ?_;rintro v M4 ⟨rfl,hle4⟩;refine zR ?_;(conv=>whnf)
  exact⟨rfl,Mem.le_trans hleM hle4⟩
end Go.Proofs.YtpnhjkiligohnaaGreatDoor
namespace Go.Proofs.YtpnhjkiligohnaaGreatDoor.scriptMeshes
open Go.ChangeShapes Go.WideShapes Go.ChangeAt Go.RowKit Go.Vm Go.Proofs.YtpnhjkiligohnaaGreatDoor.Br
set_option linter.unusedVariables false
set_option maxRecDepth 100000
theorem contract (H:Type) (enc:TypeId×Value→H) (W:World) (base:Nat) (args:Array Value) (ds gs:List (DataW H)) (before:List MemPlace)
  (hval:∀ (j:Nat) t v,Tryz.f6.params[j]? = some t→args[j]? = some v→Value.okWide Tryz.prog W .any base t v)
  (hW:DataW.Whole enc Tryz.prog Tryz.f6.params.toList Rows.scriptMeshesSpec.vars false W args.toList ds gs before) (hk:Rows.uptoSmall H (ds++gs)=true) (hL:laidMetH Tryz.prog Rows.scriptMeshesUptoRow.laid W) :
  Calls Tryz.prog F.zeT args W fun e W'=>∃ v,e = .returned v∧Rows.scriptMeshesSpec.post enc Tryz.prog Tryz.f6 false true false false W args v W':=by
 refine zOn (s:=Rows.scriptMeshesSpec) (fn:=Tryz.f6) (fun H ds h=>by match ds,h with|[d0],_=>exact⟨rfl,rfl,rfl⟩) rfl rfl (by kernel_rfl) H enc W args ds gs before hW ?_;obtain⟨p,q,hA,hV, -, -, -⟩:=hW;obtain⟨rfl,rfl⟩:=trodVars_none hV;have hb:=zOo hk
 rw[Tryz.params6] at hA hval;obtain⟨v0,vs0,d0,ds0,p0,q0,hargs0,rfl,rfl,⟨n0,h0⟩,r0⟩:=trodAll_cons hA;obtain⟨rfl,rfl,rfl⟩:=trodAll_nil r0;obtain rfl:args = #[v0]:=by cases args;simp_all
 obtain⟨-, S,sa,sn,sc,hscs,hs,hsn,hsc⟩:=zJG H enc W _ _ _ _ h0 (hb _ (by simp));have hv0:=hval 0 _ v0 rfl rfl
 obtain rfl:=zJD Tryz.underlying22 rfl hv0 hscs;exact zF0 (fun h=>zHq ((zL1 hL).le h)) hs hsn
theorem zJX (os:Os):laidMet Tryz.prog Rows.scriptMeshesUptoRow.laid ((ztA os).forCall (fun _ _=>0) ⟨#[], #[.slice none 0 0],[]⟩).memory:=
 laidMet_of_run' 8 (by kernel_rfl) (by kernel_rfl)
theorem reads (os:Os) {H:Type} (enc:TypeId×Value→H):∃ places,DataW.whole enc Tryz.prog ((ztA os).forCall (fun _ _=>0) ⟨#[], #[.slice none 0 0],[]⟩).memory Tryz.f6.params.toList Rows.scriptMeshesSpec.vars false (#[.slice none 0 0]:Array Value).toList 8=some ([.nil],[],places):=
 ⟨[],by kernel_rfl⟩
set_option maxRecDepth 100000 in
theorem lifted (os:Os) (started:os.Started) (H:Type) (enc:TypeId×Value→H) (F:Stop.Interp) :
  ReturnsInHanded {} Tryz.checked os 6 .any ((Rows.OpenSpec.upto Rows.scriptMeshesSpec).preRow enc Tryz.prog Tryz.f6 Rows.scriptMeshesUptoRow.domain false Rows.scriptMeshesUptoRow.laid) (((Rows.OpenSpec.upto Rows.scriptMeshesSpec).at F).post enc Tryz.prog Tryz.f6 false true false false):=by
 obtain⟨places,hx⟩:=reads os enc
 refine returnsInHanded_of_row (C:=Tryz.checked) (s:=Rows.OpenSpec.upto Rows.scriptMeshesSpec) own started (by kernel_rfl) Tryz.func6
  (witness_row_at (enc:=enc) (C:=Tryz.checked) false (ztA os) #[.slice none 0 0] rfl (by kernel_rfl) (by kernel_rfl) (by kernel_rfl)
   (OpenSpec.preRow_of_cond 8 hx (by kernel_rfl) (fun k hk=>by cases hk;kernel_rfl) (by kernel_rfl) (zJX os))) ?_
 intro W base args ds gs before hval hW _ hcond _ hL _ _;exact contract H enc W base args ds gs before hval hW (hcond _ rfl) hL
noncomputable abbrev Q:Program:=Tryz.pinned.checked.prog
abbrev C:OpenClaim:=Rows.scriptMeshesUptoRow
theorem k2:laidOutB Q=true:=by kernel_rfl
theorem k3:mapsRowed Q=true:=by kernel_rfl
theorem k10:(C.inPlace == Q.inPlace 6)=true:=by kernel_rfl
theorem k11:(C.unfollowed == Q.unfollowed 6)=true:=by kernel_rfl
theorem k12:(C.recurses == Q.recurses 6)=true:=by kernel_rfl
theorem k13:(C.named == Q.varsNamed 6)=true:=by kernel_rfl
theorem k22:(C.plainKeys == Q.plainKeys)=true:=by kernel_rfl
theorem zO0:Q.stopsHeard=true:=by kernel_rfl
theorem k24:Q.mayEnter=true:=by kernel_rfl
theorem zO1:(C.lifted == Q.liftsFinal)=true:=by kernel_rfl
theorem zO2:(Q.make == some C.make)=true:=by kernel_rfl
theorem zNP:joinedFacts Q 6 Tryz.f6 (Rows.OpenSpec.upto Rows.scriptMeshesSpec).bare C=true:=by
 simp only[joinedFacts,Bool.and_eq_true];exact⟨⟨⟨⟨⟨⟨⟨⟨⟨⟨⟨⟨⟨⟨⟨⟨⟨⟨⟨⟨⟨⟨⟨⟨⟨⟨⟨⟨⟨⟨⟨(by kernel_rfl),k2⟩,k3⟩,(by kernel_rfl)⟩,(by kernel_rfl)⟩,(by kernel_rfl)⟩,(by kernel_rfl)⟩,(by kernel_rfl)⟩,(by kernel_rfl)⟩,k10⟩,k11⟩,k12⟩,k13⟩,(by kernel_rfl)⟩,(by kernel_rfl)⟩,(by kernel_rfl)⟩,(by kernel_rfl)⟩,(by kernel_rfl)⟩,(by kernel_rfl)⟩,(by kernel_rfl)⟩,(by kernel_rfl)⟩,(by kernel_rfl)⟩,k22⟩,(by kernel_rfl)⟩,zO0⟩,k24⟩,zO1⟩,zO2⟩,(by kernel_rfl)⟩,(by kernel_rfl)⟩,(by kernel_rfl)⟩,(by kernel_rfl)⟩
theorem over:Rows.ScriptMeshesUptoSaid:=
 OpenClaim.holds_of_cond 6 Tryz.f6 rfl rfl rfl rfl rfl rfl rfl ⟨rfl,rfl,rfl,rfl,rfl⟩ rfl rfl rfl rfl rfl (by kernel_rfl) Tryz.func6 zNP
  (Zd0 (by kernel_rfl)) (by unfold Func.isWrapper;first|(rw[if_pos (by decide +kernel)];kernel_rfl)|(rw[if_neg (by decide +kernel)];exact⟨rfl,rfl⟩))
  (fun os started H enc _ F=>by rw[OpenClaim.pre_eq_preRow];exact lifted os started H enc F)
theorem plain (f:FuncId) (fn:Func) (hf:Tryz.pinned.checked.prog.funcNamed "portage/portagelaw23.ScriptMeshes" = some f) (hfn:Tryz.pinned.checked.prog.funcs[f]? = some fn) :
  false=Tryz.pinned.checked.prog.looks []∧∀ (j:Nat) t,fn.params[j]? = some t→Tryz.pinned.checked.prog.wantsStandIn t=false:=by
 obtain rfl:f=6:=Option.some.inj ((show Tryz.prog.funcNamed "portage/portagelaw23.ScriptMeshes" = some 6 by kernel_rfl).symm.trans hf) |>.symm
 obtain rfl:fn=Tryz.f6:=(Option.some.inj (Tryz.func6.symm.trans hfn)).symm;refine⟨by kernel_rfl,fun j t ht=>?_⟩;rw[Tryz.params6] at ht;have hm:=Array.mem_of_getElem? ht
 simp only[List.mem_toArray,List.mem_cons,List.not_mem_nil,or_false] at hm;subst hm;show Tryz.prog.wantsStandIn _=false;kernel_rfl
theorem cw:Rows.scriptMeshesUptoRow.wfByText (Rows.OpenSpec.upto Rows.scriptMeshesSpec)=true:=by kernel_rfl
theorem cm:Tryz.pinned.checked.prog.mainIs=some (Rows.scriptMeshesUptoCard.stood.harness.1,Rows.scriptMeshesUptoCard.stood.harness.2.toList):=by kernel_rfl
theorem cg:false=Rows.scriptMeshesUptoRow.goesBy Tryz.pinned.checked.prog:=by kernel_rfl
theorem proved:Rows.ScriptMeshesUptoCardSaid:=
 Claim7.holds_tied_plain_at .later [] [.data,.data,.data] true Rows.scriptMeshesUptoCard.stood.harness false over (fun _ h=>by cases h) cw (fun _ h=>by cases h) scriptMeshesUpto_row_tie rfl ⟨rfl,rfl⟩ cm rfl plain cg
end Go.Proofs.YtpnhjkiligohnaaGreatDoor.scriptMeshes
