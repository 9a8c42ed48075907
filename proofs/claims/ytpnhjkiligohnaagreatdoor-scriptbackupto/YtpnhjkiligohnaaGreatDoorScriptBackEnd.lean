/- ScriptBack: a right script's bytes are of that script,and what was decoded of any bytes is right: for every call of bulk at most 1048576 the law returns true,and the call reads as before (the card ties the three tables of the library that Itoa's text names). -/
import Derived.Test.YtpnhjkiligohnaaGreatDoorCards
import Derived.Test.YtpnhjkiligohnaaGreatDoorTie
import Derived.Test.YtpnhjkiligohnaaGreatDoorJ32
import Derived.Test.YtpnhjkiligohnaaGreatDoorJ30
import Derived.Deep.DeepHandedRow
import Derived.SevenTiedAt
import Derived.Stop.LaidErr
import Derived.Lib.LaidTab
import Derived.Test.YtpnhjkiligohnaaGreatDoorJ31
import Derived.Test.YtpnhjkiligohnaaGreatDoorJ37
set_option linter.unusedVariables false
set_option linter.unusedSimpArgs false
namespace Go.Proofs.YtpnhjkiligohnaaGreatDoor
open Go Go.Vm
set_option maxRecDepth 100000
theorem zTx:Tryz.prog.globalNamed "internal/strconv.uint64pow10" = some 0:=by kernel_rfl
theorem zP0:(Tryz.prog.globals[0]?).map (·.type)=some T.zrn:=by kernel_rfl
theorem zUg:Tryz.prog.underlying T.zrn=some (.array 20 T.zzQ):=by kernel_rfl
theorem zTy:Tryz.prog.underlying T.zzQ=some (.int .u64):=by kernel_rfl
theorem zTz:Tryz.prog.cellsOf T.zzQ=1:=by kernel_rfl
theorem zTA:Tryz.prog.cellsOf T.zrn=20:=by kernel_rfl
theorem zL8:(Rows.laid_internal_strconv_uint64pow10:DataW Unit)=Lib.tabData .u64 Lib.pow10Tab:=by kernel_rfl
theorem zR7 {W:World} (h:laidMet Tryz.prog [("math/bits.deBruijn32tab", Rows.laid_math_bits_deBruijn32tab),("math/bits.deBruijn64tab", Rows.laid_math_bits_deBruijn64tab),("internal/strconv.uint64pow10", Rows.laid_internal_strconv_uint64pow10)] W):TabM Tryz.prog (zo W):=by
 have h2:=laidMet.tail (laidMet.tail h);rw[zL8] at h2;have h3:=Lib.tabIs_of_head (rest:=[]) zTx zP0 zUg zTy zTz zTA h2
 intro w hw;unfold Lib.TabIs World.var? at h3 ⊢;rw[zTx] at h3 ⊢;simp only[Option.bind_some] at h3 ⊢;cases hg:W.heap[0]? with
 | none=>rw[hg] at h3;cases h3
 | some o=>
  have:w.heap[0]? = some o:=hw 0 o hg;rw[this];rw[hg] at h3;exact h3
def zH6 (cs:Array Value):Obj→Obj
 | .cells _ t frozen => .cells cs t frozen
 | o=>o
noncomputable def zxh (os:Os):World:=
 { World.holding Tryz.prog os ⟨#[], #[],[]⟩ with heap:=(((World.holding Tryz.prog os ⟨#[], #[],[]⟩).heap.modify 0 (zH6 (Lib.pow10Tab.map fun n=>Value.int .u64 n).toArray)).modify 1 (zH6 #[.int .u8 0,.int .u8 1,.int .u8 28,.int .u8 2,.int .u8 29,.int .u8 14,.int .u8 24,.int .u8 3,.int .u8 30,.int .u8 22,.int .u8 20,.int .u8 15,.int .u8 25,.int .u8 17,.int .u8 4,.int .u8 8,.int .u8 31,.int .u8 27,.int .u8 13,.int .u8 23,.int .u8 21,.int .u8 19,.int .u8 16,.int .u8 7,.int .u8 26,.int .u8 12,.int .u8 18,.int .u8 6,.int .u8 11,.int .u8 5,.int .u8 10,.int .u8 9])).modify 2 (zH6 #[.int .u8 0,.int .u8 1,.int .u8 56,.int .u8 2,.int .u8 57,.int .u8 49,.int .u8 28,.int .u8 3,.int .u8 61,.int .u8 58,.int .u8 42,.int .u8 50,.int .u8 38,.int .u8 29,.int .u8 17,.int .u8 4,.int .u8 62,.int .u8 47,.int .u8 59,.int .u8 36,.int .u8 45,.int .u8 43,.int .u8 51,.int .u8 22,.int .u8 53,.int .u8 39,.int .u8 33,.int .u8 30,.int .u8 24,.int .u8 18,.int .u8 12,.int .u8 5,.int .u8 63,.int .u8 55,.int .u8 48,.int .u8 27,.int .u8 60,.int .u8 41,.int .u8 37,.int .u8 16,.int .u8 46,.int .u8 35,.int .u8 44,.int .u8 21,.int .u8 52,.int .u8 32,.int .u8 23,.int .u8 11,.int .u8 54,.int .u8 26,.int .u8 40,.int .u8 15,.int .u8 34,.int .u8 20,.int .u8 31,.int .u8 10,.int .u8 25,.int .u8 14,.int .u8 19,.int .u8 9,.int .u8 13,.int .u8 8,.int .u8 7,.int .u8 6]) }
end Go.Proofs.YtpnhjkiligohnaaGreatDoor
namespace Go.Proofs.YtpnhjkiligohnaaGreatDoor
open Go Go.Vm
attribute [local irreducible] Brn Ob Grow CallsM inR zbd za9 Mem.row Mem.cells Mem.setCells Mem.upd Go.Vm.Own zbN zcZ zcB zbV New SrcOk zat NewSl Mem.textAt Mem.mapAt Mem.iterAt za8 kfind Wr NewEls Elems
set_option maxRecDepth 10000
open Rn Rn.Q
variable {M M' M0:Mem}
set_option maxRecDepth 100000
theorem zUF {σ:List E} {k o d n:Nat} {v:Value} (h:CR σ (.g k o d n) v):∃ q c,v = .slice q n c:=by
 simp only[CR,C.val,Option.bind_eq_some_iff] at h;obtain⟨e, -, h⟩:=h;split at h
 ·split at h
  ·rename_i hz;cases h;exact⟨none,0,by rw[hz.1]⟩
  ·cases h
 ·split at h
  ·cases h;exact⟨_,_,rfl⟩
  ·cases h
theorem zR8 {σ:List E} (hz:Zs M0 σ zLY M) {v:Value} (hv:CR σ (.g 9663 0 0 2) v):∃ b c q1 c1 q2 c2,v = .slice (some ⟨b,0,none⟩) 2 c ∧
  M.row b 0 9=some [.int .i64 0,.int .i64 0,.int .i64 0,.int .i64 1,.int .i64 1,.int .i64 1,.int .i64 0,.slice q1 0 c1,.bool false] ∧
  M.row b 9 9=some [.int .i64 1,.int .i64 1,.int .i64 0,.int .i64 1,.int .i64 1,.int .i64 1,.int .i64 0,.slice q2 1 c2,.bool true]∧CR σ (.g 9662 0 0 1) (.slice q2 1 c2):=by
 obtain⟨A,hA,h0,hd,hr⟩:=hz;obtain⟨e,he,vs,hvs,ho⟩:=hr.has 9663 (.gr 94 9 [i 0,i 0,i 0,i 1,i 1,i 1,i 0,.l 9659 0 0 0,.t false,i 1,i 1,i 0,i 1,i 1,i 1,i 0,.g 9662 0 0 1,.t true]) (by kernel_rfl)
 match vs,hvs with
 | [v0,v1,v2,v3,v4,v5,v6,v7,v8,w0,w1,w2,w3,w4,w5,w6,w7,w8],hvs=>
  obtain⟨a0,a1,a2,a3,a4,a5,a6,a7,a8,b0,b1,b2,b3,b4,b5,b6,b7,b8,_⟩:=hvs;have c0:some (Value.int .i64 0)=some v0:=a0
  have c1:some (Value.int .i64 0)=some v1:=a1;have c2:some (Value.int .i64 0)=some v2:=a2
  have c3:some (Value.int .i64 1)=some v3:=a3;have c4:some (Value.int .i64 1)=some v4:=a4
  have c5:some (Value.int .i64 1)=some v5:=a5;have c6:some (Value.int .i64 0)=some v6:=a6
  have c8:some (Value.bool false)=some v8:=a8;have d0:some (Value.int .i64 1)=some w0:=b0
  have d1:some (Value.int .i64 1)=some w1:=b1;have d2:some (Value.int .i64 0)=some w2:=b2
  have d3:some (Value.int .i64 1)=some w3:=b3;have d4:some (Value.int .i64 1)=some w4:=b4
  have d5:some (Value.int .i64 1)=some w5:=b5;have d6:some (Value.int .i64 0)=some w6:=b6
  have d8:some (Value.bool true)=some w8:=b8;cases c0;cases c1;cases c2;cases c3;cases c4;cases c5;cases c6;cases c8;cases d0;cases d1;cases d2;cases d3;cases d4;cases d5;cases d6;cases d8;simp only[CR,C.val,Option.map_eq_some_iff] at a7;obtain⟨e7, -, rfl⟩:=a7;obtain⟨q2,cc2,rfl⟩:=zUF b7;rcases ho with ⟨_,h2,_⟩|⟨hn,hc,hl⟩
  ·cases h2
  have hrow:∀ k,k≤9→M.row e.addr k 9=some ((([Value.int .i64 0,.int .i64 0,.int .i64 0,.int .i64 1,.int .i64 1,.int .i64 1,.int .i64 0,.slice (some ⟨e7.addr,0,none⟩) 0 0,.bool false,.int .i64 1,.int .i64 1,.int .i64 0,.int .i64 1,.int .i64 1,.int .i64 1,.int .i64 0,.slice q2 1 cc2,.bool true]++e.sp).drop k).take 9):=fun k hk=>
   Mem.row_obj (hA _ _ hc) (by simp only[List.length_append,List.length_cons,List.length_nil];omega)
  simp only[CR,C.val,he,Option.bind_some,hn] at hv;split at hv
  ·cases hv
  ·split at hv
   ·cases hv;exact⟨_,_,_,_,_,_,rfl,hrow 0 (by decide),hrow 9 (by decide),b7⟩
   ·cases hv
@[reducible] def outS:Nat→ByteArray|0 => .empty|1=>ByteArray.empty++(zL0++⟨#[10]⟩)|_=>ByteArray.empty++(zL0++⟨#[10]⟩)++(zPM++⟨#[10]⟩)
theorem zR9 (hT:TabM Tryz.prog M0) {q:Option Addr} {c:Nat} (h:NewSl M0 T.zM 1 q 19 c (runB.map fun n=>Value.int .u8 n) M) :
  CallsM Tryz.prog F.znI [.slice q 19 c] M fun v M'=>v = .string (outS 2)∧M0.le M':=by
 obtain⟨e,hz,hcr⟩:=Zs.row h (by decide) (l:=[u 1,u 0,u 20,u 100,u 20,u 200,u 100,u 3,u 2,u 2,u 2,u 0,u 0,u 0,u 1,u 1,u 120,u 11,u 20]) ⟨rfl,rfl,rfl,rfl,rfl,rfl,rfl,rfl,rfl,rfl,rfl,rfl,rfl,rfl,rfl,rfl,rfl,rfl,rfl,trivial⟩;refine zEY (by simp) ?_;refine zR ?_;refine(zxA zBa zJt hz rfl (by kernel_rfl) (show All2 (WR [e]) zOt [.slice q 19 c] from ⟨hcr,trivial⟩)).mono ?_;rintro u M1 ⟨τ,hl1,⟨vs,hv,rfl⟩,hz1⟩
 match vs,hv with
 | [v0,v1,v2,v3,v4,v5,v6,v7,v8,v9,v10,v11,v12],hv=>
  refine zR ?_;refine(zxA zTq zTp hz1 hl1 (by kernel_rfl) (show All2 (WR _) [.ag [i 2,.g 4 0 0 1,i 20,i 800,i 20,i 51456,i 116,i 4,i 3,i 3,i 3,i 0,.g 7 0 0 2]] [.agg #[v0,v1,v2,v3,v4,v5,v6,v7,v8,v9,v10,v11,v12]] from ⟨⟨_,hv,rfl⟩,trivial⟩)).mono ?_;rintro u M2 ⟨τ2,hl2,⟨us,hu,rfl⟩,hz2⟩
  match us,hu with
  | [w0,w1],⟨hw0,hw1,_⟩=>
   obtain⟨em,hem,rfl⟩:=zTn hw0;have e1:some (Value.int .i64 0)=some w1:=hw1
   cases e1;refine zR ?_;refine(zxA zBa zHS hz2 hl2 (by kernel_rfl) (show All2 (WR _) _ [.pointer (some ⟨em.addr,0,none⟩)] from ⟨zTo hem,trivial⟩)).mono ?_;rintro u M3 ⟨τ3,hl3,hu3,hz3⟩;replace hz3:Zs M0 _ zLY M3:=hz3.sub (by kernel_rfl);obtain⟨b,cc,q1,c1,q2,c2,rfl,hr1,hr2,hd2⟩:=zR8 hz3 hu3;have hTM:=hT.le hz3.base
   refine zR ?_;(conv=>whnf)
   refine zcD (σ:=Nat×Mem) [25,5] (fun y=>[(25,.int .i64 y.1),(5,.c (.v (.string (outS y.1))))]) (fun _=>[]) (fun y=>y.2)
    (fun|⟨j,Mc⟩=>j≤2∧M0.le Mc∧(j≤1→Mc=M3)) (fun y=>2 - y.1) ⟨0,M3⟩ ⟨by omega,hz3.base,fun _=>rfl⟩ zS ?_
   rintro ⟨j,Mc⟩ ⟨hj,hle,hm⟩
   match j,hj,hm with
   | 0,_,hm=>
    cases hm (by omega);refine zR ?_;(conv=>whnf);refine ob (by dsimp only;omega) ?_;(conv=>whnf);refine on hr1 ?_;refine zR ?_;refine(zPN hTM q1 0 c1).mono ?_;rintro v _ ⟨rfl,rfl⟩;refine zR ?_;(conv=>whnf);refine ob (show (outS 0).size+(zL0++⟨#[10]⟩:ByteArray).size≤9223372036854775807 by decide) ?_;(conv=>whnf);refine obr (zs (by dsimp only;omega)) ?_;(conv=>whnf)
    exact⟨⟨1,M3⟩,⟨by omega,hle,fun _=>rfl⟩,by dsimp only;omega,zS⟩
   | 1,_,hm=>
    cases hm (by omega);refine zR ?_;(conv=>whnf);refine ob (by dsimp only;omega) ?_;(conv=>whnf);refine on hr2 ?_;refine zR ?_;refine(zPO hTM q2 1 c2 (Q:=fun M'=>M0.le M') ((zxA zTq zTr hz3 hl3 (by kernel_rfl) (show All2 (WR _) [.c (.g 9662 0 0 1)] [.slice q2 1 c2] from ⟨hd2,trivial⟩)).mono ?_)).mono ?_
    ·rintro u M5 ⟨τ5, -, hu5,hz5⟩;have e5:some (Value.string (zaf [55,56]))=some u:=hu5
     cases e5;exact⟨rfl,hz5.base⟩
    rintro v M5 ⟨rfl,hle5⟩;refine zR ?_;(conv=>whnf);refine ob (show (outS 1).size+(zPM++⟨#[10]⟩:ByteArray).size≤9223372036854775807 by decide) ?_;(conv=>whnf);refine obr (zs (by dsimp only;omega)) ?_;(conv=>whnf)
    exact⟨⟨2,M5⟩,⟨by omega,hle5,fun h=>by omega⟩,by dsimp only;omega,zS⟩
   | 2,_,_=>
    refine zR ?_;(conv=>whnf)
    exact⟨rfl,hle⟩
theorem zNN (hT:TabM Tryz.prog M):CallsM Tryz.prog F.zcv [] M fun v M2=>v = .bool true∧M.le M2:=by
 refine zC7 (by simp) ?_;refine zR ?_;refine start_ok.mono ?_;rintro u M1 ⟨q,c,rfl,h1⟩;refine zR ?_;(conv=>whnf)
 refine appK M _ h1 (by decide) (by decide) (by simp[Value.oneCell']) (fun q2 c2 M2 h2 hk2=>?_);refine zR ?_;(conv=>whnf)
 refine(zR9 (M0:=M) hT (q:=q2) (c:=c2) h2).mono ?_;rintro u M3 ⟨rfl,h3⟩;refine zR ?_;(conv=>whnf)
 exact⟨by kernel_rfl,h3⟩
end Go.Proofs.YtpnhjkiligohnaaGreatDoor
namespace Go.Proofs.YtpnhjkiligohnaaGreatDoor.scriptBack
open Go.ChangeShapes Go.WideShapes Go.ChangeAt Go.RowKit Go.Vm Go.Proofs.YtpnhjkiligohnaaGreatDoor.Br
set_option linter.unusedVariables false
set_option maxRecDepth 100000
theorem contract (H:Type) (enc:TypeId×Value→H) (W:World) (base:Nat) (args:Array Value) (ds gs:List (DataW H)) (before:List MemPlace)
  (hval:∀ (j:Nat) t v,Tryz.f5.params[j]? = some t→args[j]? = some v→Value.okWide Tryz.prog W .any base t v)
  (hW:DataW.Whole enc Tryz.prog Tryz.f5.params.toList Rows.scriptBackSpec.vars false W args.toList ds gs before) (hk:Rows.uptoSmall H (ds++gs)=true) (hL:laidMetH Tryz.prog Rows.scriptBackUptoRow.laid W) :
  Calls Tryz.prog F.zj6 args W fun e W'=>∃ v,e = .returned v∧Rows.scriptBackSpec.post enc Tryz.prog Tryz.f5 false true false false W args v W':=by
 refine zUc (s:=Rows.scriptBackSpec) (fn:=Tryz.f5) (fun H ds h=>by match ds,h with|[d0,d1],_=>exact⟨rfl,rfl,rfl⟩) rfl rfl (by kernel_rfl) H enc W args ds gs before hW ?_;obtain⟨p,q,hA,hV, -, -, -⟩:=hW;obtain⟨rfl,rfl⟩:=trodVars_none hV;have hb:=zUd hk
 rw[Tryz.params5] at hA hval;obtain⟨v0,vs0,d0,ds0,p0,q0,hargs0,rfl,rfl,⟨n0,h0⟩,r0⟩:=trodAll_cons hA;obtain⟨v1,vs1,d1,ds1,p1,q1,hargs1,rfl,rfl,⟨n1,h1⟩,r1⟩:=trodAll_cons r0;obtain⟨rfl,rfl,rfl⟩:=trodAll_nil r1;subst hargs1;obtain rfl:args = #[v0,v1]:=by cases args;simp_all
 obtain⟨-, S,⟨ql,nl,cl,qs,ns,c3,hcs,hlk,hnl,hst,hns⟩,hR⟩:=zNM H enc W _ _ _ _ h0 (hb _ (by simp));have hv0:=hval 0 _ v0 rfl rfl
 have hv:=zL1 Tryz.underlying30 hv0;rw[hcs] at hv;subst hv;obtain⟨-, P,sa,sn,sc,hscs,hs,hsn,hsc⟩:=zH3 H enc W _ _ _ _ h1 (hb _ (by simp));have hv1:=hval 1 _ v1 rfl rfl
 obtain rfl:=zPQ Tryz.underlying22 rfl hv1 hscs;exact zPW (fun h=>zNN ((zR7 hL).le h)) ⟨ql,nl,cl,qs,ns,c3,rfl,hlk,hnl,hst,hns⟩ hR hs hsn
theorem zP1 (os:Os):laidMet Tryz.prog Rows.scriptBackUptoRow.laid ((zxh os).forCall (fun _ _=>0) ⟨#[], #[.agg #[.int .i64 0,.slice none 0 0,.int .i64 0,.int .i64 0,.int .i64 0,.int .i64 0,.int .i64 0,.int .i64 0,.int .i64 0,.int .i64 0,.int .i64 0,.int .i64 0,.slice none 0 0],.slice none 0 0],[]⟩).memory:=
 laidMet_of_run' 8 (by kernel_rfl) (by kernel_rfl)
theorem reads (os:Os) {H:Type} (enc:TypeId×Value→H):∃ places,DataW.whole enc Tryz.prog ((zxh os).forCall (fun _ _=>0) ⟨#[], #[.agg #[.int .i64 0,.slice none 0 0,.int .i64 0,.int .i64 0,.int .i64 0,.int .i64 0,.int .i64 0,.int .i64 0,.int .i64 0,.int .i64 0,.int .i64 0,.int .i64 0,.slice none 0 0],.slice none 0 0],[]⟩).memory Tryz.f5.params.toList Rows.scriptBackSpec.vars false (#[.agg #[.int .i64 0,.slice none 0 0,.int .i64 0,.int .i64 0,.int .i64 0,.int .i64 0,.int .i64 0,.int .i64 0,.int .i64 0,.int .i64 0,.int .i64 0,.int .i64 0,.slice none 0 0],.slice none 0 0]:Array Value).toList 8=some ([.agg [.lit (.int .i64 0),.nil,.agg [.agg [.lit (.int .i64 0),.lit (.int .i64 0),.lit (.int .i64 0)],.lit (.int .i64 0),.lit (.int .i64 0),.lit (.int .i64 0),.lit (.int .i64 0),.lit (.int .i64 0),.lit (.int .i64 0),.lit (.int .i64 0)],.nil],.nil],[],places):=
 ⟨[],by kernel_rfl⟩
set_option maxRecDepth 100000 in
theorem lifted (os:Os) (started:os.Started) (H:Type) (enc:TypeId×Value→H) (F:Stop.Interp) :
  ReturnsInHanded {} Tryz.checked os 5 .any ((Rows.OpenSpec.upto Rows.scriptBackSpec).preRow enc Tryz.prog Tryz.f5 Rows.scriptBackUptoRow.domain false Rows.scriptBackUptoRow.laid) (((Rows.OpenSpec.upto Rows.scriptBackSpec).at F).post enc Tryz.prog Tryz.f5 false true false false):=by
 obtain⟨places,hx⟩:=reads os enc
 refine returnsInHanded_of_row (C:=Tryz.checked) (s:=Rows.OpenSpec.upto Rows.scriptBackSpec) own started (by kernel_rfl) Tryz.func5
  (witness_row_at (enc:=enc) (C:=Tryz.checked) false (zxh os) #[.agg #[.int .i64 0,.slice none 0 0,.int .i64 0,.int .i64 0,.int .i64 0,.int .i64 0,.int .i64 0,.int .i64 0,.int .i64 0,.int .i64 0,.int .i64 0,.int .i64 0,.slice none 0 0],.slice none 0 0] rfl (by kernel_rfl) (by kernel_rfl) (by kernel_rfl)
   (OpenSpec.preRow_of_cond 8 hx (by kernel_rfl) (fun k hk=>by cases hk;kernel_rfl) (by kernel_rfl) (zP1 os))) ?_
 intro W base args ds gs before hval hW _ hcond _ hL _ _;exact contract H enc W base args ds gs before hval hW (hcond _ rfl) hL
noncomputable abbrev Q:Program:=Tryz.pinned.checked.prog
abbrev C:OpenClaim:=Rows.scriptBackUptoRow
theorem k2:laidOutB Q=true:=by kernel_rfl
theorem k3:mapsRowed Q=true:=by kernel_rfl
theorem k10:(C.inPlace == Q.inPlace 5)=true:=by kernel_rfl
theorem k11:(C.unfollowed == Q.unfollowed 5)=true:=by kernel_rfl
theorem k12:(C.recurses == Q.recurses 5)=true:=by kernel_rfl
theorem k13:(C.named == Q.varsNamed 5)=true:=by kernel_rfl
theorem k22:(C.plainKeys == Q.plainKeys)=true:=by kernel_rfl
theorem zUG:Q.stopsHeard=true:=by kernel_rfl
theorem k24:Q.mayEnter=true:=by kernel_rfl
theorem zUH:(C.lifted == Q.liftsFinal)=true:=by kernel_rfl
theorem zUI:(Q.make == some C.make)=true:=by kernel_rfl
theorem zTC:joinedFacts Q 5 Tryz.f5 (Rows.OpenSpec.upto Rows.scriptBackSpec).bare C=true:=by
 simp only[joinedFacts,Bool.and_eq_true];exact⟨⟨⟨⟨⟨⟨⟨⟨⟨⟨⟨⟨⟨⟨⟨⟨⟨⟨⟨⟨⟨⟨⟨⟨⟨⟨⟨⟨⟨⟨⟨(by kernel_rfl),k2⟩,k3⟩,(by kernel_rfl)⟩,(by kernel_rfl)⟩,(by kernel_rfl)⟩,(by kernel_rfl)⟩,(by kernel_rfl)⟩,(by kernel_rfl)⟩,k10⟩,k11⟩,k12⟩,k13⟩,(by kernel_rfl)⟩,(by kernel_rfl)⟩,(by kernel_rfl)⟩,(by kernel_rfl)⟩,(by kernel_rfl)⟩,(by kernel_rfl)⟩,(by kernel_rfl)⟩,(by kernel_rfl)⟩,(by kernel_rfl)⟩,k22⟩,(by kernel_rfl)⟩,zUG⟩,k24⟩,zUH⟩,zUI⟩,(by kernel_rfl)⟩,(by kernel_rfl)⟩,(by kernel_rfl)⟩,(by kernel_rfl)⟩
theorem over:Rows.ScriptBackUptoSaid:=
 OpenClaim.holds_of_cond 5 Tryz.f5 rfl rfl rfl rfl rfl rfl rfl ⟨rfl,rfl,rfl,rfl,rfl⟩ rfl rfl rfl rfl rfl (by kernel_rfl) Tryz.func5 zTC
  (Zd0 (by kernel_rfl)) (by unfold Func.isWrapper;first|(rw[if_pos (by decide +kernel)];kernel_rfl)|(rw[if_neg (by decide +kernel)];exact⟨rfl,rfl⟩))
  (fun os started H enc _ F=>by rw[OpenClaim.pre_eq_preRow];exact lifted os started H enc F)
theorem plain (f:FuncId) (fn:Func) (hf:Tryz.pinned.checked.prog.funcNamed "portage/portagelaw23.ScriptBack" = some f) (hfn:Tryz.pinned.checked.prog.funcs[f]? = some fn) :
  false=Tryz.pinned.checked.prog.looks []∧∀ (j:Nat) t,fn.params[j]? = some t→Tryz.pinned.checked.prog.wantsStandIn t=false:=by
 obtain rfl:f=5:=Option.some.inj ((show Tryz.prog.funcNamed "portage/portagelaw23.ScriptBack" = some 5 by kernel_rfl).symm.trans hf) |>.symm
 obtain rfl:fn=Tryz.f5:=(Option.some.inj (Tryz.func5.symm.trans hfn)).symm;refine⟨by kernel_rfl,fun j t ht=>?_⟩;rw[Tryz.params5] at ht;have hm:=Array.mem_of_getElem? ht
 simp only[List.mem_toArray,List.mem_cons,List.not_mem_nil,or_false] at hm;rcases hm with rfl|rfl<;>(show Tryz.prog.wantsStandIn _=false;kernel_rfl)
theorem cw:Rows.scriptBackUptoRow.wfByText (Rows.OpenSpec.upto Rows.scriptBackSpec)=true:=by kernel_rfl
theorem cm:Tryz.pinned.checked.prog.mainIs=some (Rows.scriptBackUptoCard.stood.harness.1,Rows.scriptBackUptoCard.stood.harness.2.toList):=by kernel_rfl
theorem cg:false=Rows.scriptBackUptoRow.goesBy Tryz.pinned.checked.prog:=by kernel_rfl
theorem proved:Rows.ScriptBackUptoCardSaid:=
 Claim7.holds_tied_plain_at .later [] [.data,.data,.data] true Rows.scriptBackUptoCard.stood.harness false over (fun _ h=>by cases h) cw (fun _ h=>by cases h) scriptBackUpto_row_tie rfl ⟨rfl,rfl⟩ cm rfl plain cg
end Go.Proofs.YtpnhjkiligohnaaGreatDoor.scriptBack
