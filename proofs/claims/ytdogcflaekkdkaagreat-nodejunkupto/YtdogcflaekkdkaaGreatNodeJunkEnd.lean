/- NodeJunk: bytes of which no good frame comes,from anywhere,change nothing of a node but what its decoder counts: for every call of bulk at most 1048576 the law returns true,and the call reads as before. -/
import Derived.Test.YtdogcflaekkdkaaGreatJ23
import Derived.Test.YtdogcflaekkdkaaGreatJ24
import Derived.Test.YtdogcflaekkdkaaGreatJ10
set_option linter.unusedVariables false
set_option linter.unusedSimpArgs false
namespace Go.Proofs.YtdogcflaekkdkaaGreat
open Go Go.Vm
attribute [local irreducible] Brn Ob Grow CallsM inR zc4 zcB Mem.row Mem.cells Mem.setCells Mem.upd Go.Vm.Own zfl zkD zi2 zhp New SrcOk zaa NewSl Mem.textAt Mem.mapAt Mem.iterAt zcA kfind Wr zkr Elems
set_option maxRecDepth 10000
open Rn
variable {M M' M0:Mem}
theorem zz9 {σ:List E} {k o d n:Nat} {v:Value} (h:CR σ (.g k o d n) v):∃ q c,v = .slice q n c:=by
 simp only[CR,C.val,Option.bind_eq_some_iff] at h
 obtain⟨e, -, h⟩:=h
 split at h
 ·split at h
  ·rename_i hz
   cases h
   exact⟨none,0,by rw[hz.1]⟩
  ·cases h
 ·split at h
  ·cases h;exact⟨_,_,rfl⟩
  ·cases h
theorem zDs {σ:List E} {x y:Int} {k1 k2 n1 n2:Nat} {u:Value} (h:OVR σ (.ag [.n .i64 x,.n .i64 y,.g k1 0 0 n1,.g k2 0 0 n2,.nl]) u) :
  ∃ q1 c1 q2 c2,u = .agg #[.int .i64 x,.int .i64 y,.slice q1 n1 c1,.slice q2 n2 c2,.slice none 0 0]∧All2 (CR σ) [.n .i64 x,.n .i64 y,.g k1 0 0 n1,.g k2 0 0 n2,.nl] [.int .i64 x,.int .i64 y,.slice q1 n1 c1,.slice q2 n2 c2,.slice none 0 0]:=by
 obtain⟨vs,h,rfl⟩:=h
 match vs,h with
 | [v0,v1,v2,v3,v4],h=>
  obtain⟨h0,h1,h2,h3,h4,_⟩:=h
  have e0:some (Value.int .i64 x)=some v0:=h0
  have e1:some (Value.int .i64 y)=some v1:=h1
  have e4:some (Value.slice none 0 0)=some v4:=h4
  cases e0;cases e1;cases e4
  obtain⟨q1,c1,rfl⟩:=zz9 h2
  obtain⟨q2,c2,rfl⟩:=zz9 h3
  exact⟨q1,c1,q2,c2,rfl,rfl,rfl,h2,h3,rfl,trivial⟩
set_option maxRecDepth 100000 in
theorem zLs {a:Option Addr} {n c:Nat} {p:List UInt8} {f:Int} (hp:SrcOk M 1 a n (p.map zy)) (hn:n≤1048576) :
  CallsM Tryz.prog F.zlb [.slice a n c,.int .i64 f] M fun v M'=>v = .bool true∧M.le M':=by
 refine zu4 (by simp) ?_
 refine zR ?_
 refine plain_ok.mono ?_
 rintro v _ ⟨rfl,rfl⟩
 refine zR ?_
 refine(zzq zdM zMS (Zs.nil M) rfl (by kernel_rfl) (show All2 (WR []) zOl [.agg #[.int .i64 50,.int .i64 2000,.int .i64 50,.int .i64 100000,.int .i64 200,.int .i64 4,.int .i64 3,.int .i64 3,.int .i64 3,.int .i64 0]] from ⟨⟨[.int .i64 50,.int .i64 2000,.int .i64 50,.int .i64 100000,.int .i64 200,.int .i64 4,.int .i64 3,.int .i64 3,.int .i64 3,.int .i64 0],⟨rfl,rfl,rfl,rfl,rfl,rfl,rfl,rfl,rfl,rfl,trivial⟩,rfl⟩,trivial⟩)).mono ?_
 rintro u M1 ⟨σ,hl1,⟨vs,hv,rfl⟩,hz1⟩
 rw[List.nil_append] at hl1 hv hz1
 match vs,hv with
 | [va,vb,vt],⟨h1,h2,h3,_⟩=>
  obtain⟨ea,ha,rfl⟩:=zyh h1
  obtain⟨eb,hb,rfl⟩:=zyh h2
  have e3:some (Value.bool true)=some vt:=h3
  cases e3
  have hNa:Na σ ea.addr:=⟨ea,ha,rfl⟩
  refine zR ?_
  refine(zzq zPn zOn hz1 hl1 (by kernel_rfl) (show All2 (WR σ) [.c (.p 70 0),.c (.p 170 0),.c (.n .i64 6)] [ptr ea.addr,ptr eb.addr,.int .i64 6] from ⟨zCL ha,zCL hb,rfl,trivial⟩)).mono ?_
  rintro u M2 ⟨τ,hl2,hu,hz2⟩
  cases zEQ hu
  (conv=>whnf);refine new (fun b hb=>?_)
  replace hb:M2 b=none:=hb
  (conv=>whnf)
  refine on Mem.textAt_setCells ?_
  have hz3:=hz2.ro (E0:=T.zE) (l:=[.n .u8 120]) (vs:=[.int .u8 120]) hb ⟨rfl,trivial⟩
  obtain⟨σ3,hσ3⟩:∃ σ3,σ3=(σ++τ)++[(⟨b,0,false,[]⟩:E)]:=⟨_,rfl⟩
  have hl3:σ3.length=2979:=by rw[hσ3,List.length_append,hl2];rfl
  have hat3:σ3[2978]? = some ⟨b,0,false,[]⟩:=by
   rw[hσ3,List.getElem?_append_right (by rw[hl2];exact Nat.le_refl _),hl2];rfl
  have hN3:Na σ3 ea.addr:=by rw[hσ3];exact(hNa.app τ).app _
  rw[hl2,←hσ3] at hz3
  have hj3:Js M ea.addr 2979 (jsk30.put 2978 (some (.ro T.zE [.n .u8 120]))) σ3 (M2.upd b (.cells #[.int .u8 120] T.zE (1,2))):=⟨hl3,hN3,hz3⟩
  obtain⟨M3,hM3⟩:∃ M3,M3=M2.upd b (.cells #[.int .u8 120] T.zE (1,2)):=⟨_,rfl⟩
  rw[←hM3] at hj3
  have hMM:(M2.setCells b T.zE [.int .u8 120]).upd b (.cells #[.int .u8 120] T.zE (1,2))=M3:=by rw[hM3];unfold Mem.setCells;exact Mem.upd_upd ..
  (conv=>whnf)
  erw [hMM]
  refine(za2 zdM zKn hj3 rfl (by kernel_rfl) (show All2 (WR σ3) [.c (.p 70 0),.c (.n .i64 1),.c (.l 2978 0 1 1)] [ptr ea.addr,.int .i64 1,.slice (some ⟨b,0,none⟩) 1 1] from ⟨hN3.wr,rfl,by simp[WR,CR,C.val,hat3],trivial⟩)).mono ?_
  rintro u M4 ⟨τ4,hu4,hj4⟩
  obtain⟨us, -, rfl⟩:=hu4
  refine zR ?_
  refine(za2 zdM zKo hj4 rfl (by kernel_rfl) (show All2 (WR _) [.c (.p 70 0),.c (.n .i64 1)] [ptr ea.addr,.int .i64 1] from ⟨hj4.2.1.wr,rfl,trivial⟩)).mono ?_
  rintro u M5 ⟨τ5,hu5,hj5⟩
  obtain⟨q5,c5,rfl⟩:=zz9 hu5
  refine zR ?_
  refine(zIM (hp.le hj5.2.2.base) hn).mono ?_
  rintro v M6 ⟨hle6,hh,a2,n2,c2,t0,t1,t2,t3,t4,ax,nx,cx,rfl,hnx⟩
  have hj6:Js M _ _ _ _ M6:=⟨hj5.1,hj5.2.1,hj5.2.2.le hle6⟩
  (conv=>whnf);refine brn (fun g=>?_) (fun g=>?_)
  ·
   refine zR ?_
   refine awake_ok.mono ?_
   rintro v M7 ⟨rfl,hle7⟩
   refine zR ?_
   exact⟨rfl,Mem.le_trans hj6.2.2.base hle7⟩
  have g':=Zd1 g
  (conv=>whnf);refine brn (fun g2=>?_) (fun g2=>?_)
  ·
   refine zR ?_
   refine awake_ok.mono ?_
   rintro v M7 ⟨rfl,hle7⟩
   refine zR ?_
   exact⟨rfl,Mem.le_trans hj6.2.2.base hle7⟩
  have g2':=Zd1 g2
  obtain⟨s,hs⟩:∃ s,zdR false [] p=some s:=Option.ne_none_iff_exists'.1 (hnx.1 (by omega))
  refine zR ?_
  refine(za2 zdM zKp hj6 rfl (by kernel_rfl) (show All2 (WR _) [.c (.p 70 0)] [ptr ea.addr] from ⟨hj6.2.1.wr,trivial⟩)).mono ?_
  rintro u M7 ⟨τ7,hu7,hj7⟩
  obtain⟨q1,c1,q2,c2',rfl,ha7⟩:=zDs hu7
  refine zR ?_
  refine(zM5 (n:=0) hj7 hp (by omega) hs).mono ?_
  rintro v M8 ⟨rfl,τ8,hj8⟩
  have ha8:=ha7.imp fun _ _ h=>C.val_mono τ8 h
  by_cases hf:f=1
  ·subst hf
   rw[if_pos rfl]
   refine zX ?_
   refine⟨M,hj8.2.2.base,?_⟩
   refine zR ?_
   (conv=>whnf)
   refine(za2 zdM zDo hj8 rfl (by kernel_rfl) (show All2 (WR _) [.c (.p 70 0)] [ptr ea.addr] from ⟨hj8.2.1.wr,trivial⟩)).mono ?_
   rintro u M9 ⟨τ9,hu9,hj9⟩
   obtain⟨q3,c3,q4,c4,rfl,ha9⟩:=zDs hu9
   refine zT (hj9.2.2.base) ?_
   (conv=>whnf)
   refine(za2 zdM zDp hj9 rfl (by kernel_rfl) (show All2 (WR _) [.ag [.n .i64 (.ofNat 0),.n .i64 (.ofNat 1),.g 3121 0 0 1,.g 3119 0 0 1,.nl],.ag [.n .i64 (.ofNat 0),.n .i64 (.ofNat 1),.g 3102 0 0 1,.g 3100 0 0 1,.nl]] [.agg #[.int .i64 (.ofNat 0),.int .i64 (.ofNat 1),.slice q3 1 c3,.slice q4 1 c4,.slice none 0 0],.agg #[.int .i64 (.ofNat 0),.int .i64 (.ofNat 1),.slice q1 1 c1,.slice q2 1 c2',.slice none 0 0]] from ⟨⟨_,ha9,rfl⟩,⟨_,ha8.imp fun _ _ h=>C.val_mono τ9 h,rfl⟩,trivial⟩)).mono ?_
   rintro u M10 ⟨τ10,hu10,hj10⟩
   have e10:some (Value.bool true)=some u:=hu10
   cases e10
   refine zT (hj10.2.2.base) ?_
   refine zR ?_
   (conv=>whnf)
   refine(za2 zdM zDq hj10 rfl (by kernel_rfl) (show All2 (WR _) [.c (.p 70 0),.c (.n .i64 1)] [ptr ea.addr,.int .i64 1] from ⟨hj10.2.1.wr,rfl,trivial⟩)).mono ?_
   rintro u M11 ⟨τ11,hu11,hj11⟩
   have e11:some (Value.slice none 0 0)=some u:=hu11
   cases e11
   refine zT (hj11.2.2.base) ?_
   refine zR ?_
   (conv=>whnf)
   refine(za2 zdM zDr hj11 rfl (by kernel_rfl) (show All2 (WR _) [.c (.p 70 0)] [ptr ea.addr] from ⟨hj11.2.1.wr,trivial⟩)).mono ?_
   rintro u M12 ⟨τ12,hu12,hj12⟩
   have e12:some (Value.slice none 0 0)=some u:=hu12
   cases e12
   refine zT (hj12.2.2.base) ?_
   refine zR ?_
   (conv=>whnf)
   refine(za2 zGM zI1 hj12 rfl (by kernel_rfl) (show All2 (WR _) [.c (.p 70 0),.c (.n .i64 1)] [ptr ea.addr,.int .i64 1] from ⟨hj12.2.1.wr,rfl,trivial⟩)).mono ?_
   rintro u M13 ⟨τ13,hu13,hj13⟩
   have e13:some (Value.bool true)=some u:=hu13
   cases e13
   refine zT (hj13.2.2.base) ?_
   refine zR ?_
   (conv=>whnf)
   refine(za2 zGM zI2 hj13 rfl (by kernel_rfl) (show All2 (WR _) [.c (.p 70 0)] [ptr ea.addr] from ⟨hj13.2.1.wr,trivial⟩)).mono ?_
   rintro u M14 ⟨τ14,hu14,hj14⟩
   have e14:some (Value.int .i64 0)=some u:=hu14
   cases e14
   refine zT (hj14.2.2.base) ?_
   refine zR ?_
   (conv=>whnf)
   refine awake_ok.mono ?_
   rintro v M15 ⟨rfl,hle15⟩
   have hle:=Mem.le_trans hj14.2.2.base hle15
   refine zT (hle) ?_
   refine zR ?_
   exact⟨rfl,hle⟩
  ·rw[if_neg hf]
   (conv=>whnf);refine brn_t (by simp[hf]) ?_
   refine zX ?_
   refine⟨M,hj8.2.2.base,?_⟩
   refine zR ?_
   (conv=>whnf)
   refine(za2 zdM zDo hj8 rfl (by kernel_rfl) (show All2 (WR _) [.c (.p 70 0)] [ptr ea.addr] from ⟨hj8.2.1.wr,trivial⟩)).mono ?_
   rintro u M9 ⟨τ9,hu9,hj9⟩
   obtain⟨q3,c3,q4,c4,rfl,ha9⟩:=zDs hu9
   refine zT (hj9.2.2.base) ?_
   (conv=>whnf)
   refine(za2 zdM zDp hj9 rfl (by kernel_rfl) (show All2 (WR _) [.ag [.n .i64 (.ofNat 0),.n .i64 (.ofNat 1),.g 3121 0 0 1,.g 3119 0 0 1,.nl],.ag [.n .i64 (.ofNat 0),.n .i64 (.ofNat 1),.g 3102 0 0 1,.g 3100 0 0 1,.nl]] [.agg #[.int .i64 (.ofNat 0),.int .i64 (.ofNat 1),.slice q3 1 c3,.slice q4 1 c4,.slice none 0 0],.agg #[.int .i64 (.ofNat 0),.int .i64 (.ofNat 1),.slice q1 1 c1,.slice q2 1 c2',.slice none 0 0]] from ⟨⟨_,ha9,rfl⟩,⟨_,ha8.imp fun _ _ h=>C.val_mono τ9 h,rfl⟩,trivial⟩)).mono ?_
   rintro u M10 ⟨τ10,hu10,hj10⟩
   have e10:some (Value.bool true)=some u:=hu10
   cases e10
   refine zT (hj10.2.2.base) ?_
   refine zR ?_
   (conv=>whnf)
   refine(za2 zdM zDq hj10 rfl (by kernel_rfl) (show All2 (WR _) [.c (.p 70 0),.c (.n .i64 1)] [ptr ea.addr,.int .i64 1] from ⟨hj10.2.1.wr,rfl,trivial⟩)).mono ?_
   rintro u M11 ⟨τ11,hu11,hj11⟩
   have e11:some (Value.slice none 0 0)=some u:=hu11
   cases e11
   refine zT (hj11.2.2.base) ?_
   refine zR ?_
   (conv=>whnf)
   refine(za2 zdM zDr hj11 rfl (by kernel_rfl) (show All2 (WR _) [.c (.p 70 0)] [ptr ea.addr] from ⟨hj11.2.1.wr,trivial⟩)).mono ?_
   rintro u M12 ⟨τ12,hu12,hj12⟩
   have e12:some (Value.slice none 0 0)=some u:=hu12
   cases e12
   refine zT (hj12.2.2.base) ?_
   refine zR ?_
   (conv=>whnf)
   refine(za2 zGM zI1 hj12 rfl (by kernel_rfl) (show All2 (WR _) [.c (.p 70 0),.c (.n .i64 1)] [ptr ea.addr,.int .i64 1] from ⟨hj12.2.1.wr,rfl,trivial⟩)).mono ?_
   rintro u M13 ⟨τ13,hu13,hj13⟩
   have e13:some (Value.bool true)=some u:=hu13
   cases e13
   refine zT (hj13.2.2.base) ?_
   refine zR ?_
   (conv=>whnf)
   refine(za2 zGM zI2 hj13 rfl (by kernel_rfl) (show All2 (WR _) [.c (.p 70 0)] [ptr ea.addr] from ⟨hj13.2.1.wr,trivial⟩)).mono ?_
   rintro u M14 ⟨τ14,hu14,hj14⟩
   have e14:some (Value.int .i64 0)=some u:=hu14
   cases e14
   refine zT (hj14.2.2.base) ?_
   refine zR ?_
   (conv=>whnf)
   refine awake_ok.mono ?_
   rintro v M15 ⟨rfl,hle15⟩
   have hle:=Mem.le_trans hj14.2.2.base hle15
   refine zT (hle) ?_
   refine zR ?_
   exact⟨rfl,hle⟩
end Go.Proofs.YtdogcflaekkdkaaGreat
namespace Go.Proofs.YtdogcflaekkdkaaGreat.nodeJunk
open Go.ChangeShapes Go.WideShapes Go.ChangeAt Go.RowKit Go.Vm Go.Proofs.YtdogcflaekkdkaaGreat.Br
set_option linter.unusedVariables false
set_option maxRecDepth 100000
theorem contract (H:Type) (enc:TypeId×Value→H) (W:World) (base:Nat) (args:Array Value) (ds gs:List (DataW H)) (before:List MemPlace)
  (hval:∀ (j:Nat) t v,Tryz.f4.params[j]? = some t→args[j]? = some v→Value.okWide Tryz.prog W .any base t v)
  (hW:DataW.Whole enc Tryz.prog Tryz.f4.params.toList Rows.nodeJunkSpec.vars false W args.toList ds gs before) (hk:Rows.uptoSmall H (ds++gs)=true) :
  Calls Tryz.prog F.zlb args W fun e W'=>∃ v,e = .returned v∧Rows.nodeJunkSpec.post enc Tryz.prog Tryz.f4 false true false false W args v W':=by
 refine zOz (s:=Rows.nodeJunkSpec) (fn:=Tryz.f4) (fun H ds h=>by match ds,h with|[d0,d1],_=>exact⟨rfl,rfl,rfl⟩) rfl rfl (by kernel_rfl) H enc W args ds gs before hW ?_
 obtain⟨p,q,hA,hV, -, -, -⟩:=hW
 obtain⟨rfl,rfl⟩:=trodVars_none hV
 have hb:=zOA hk
 rw[Tryz.params4] at hA hval
 obtain⟨v0,vs0,d0,ds0,p0,q0,hargs0,rfl,rfl,⟨n0,h0⟩,r0⟩:=trodAll_cons hA
 obtain⟨v1,vs1,d1,ds1,p1,q1,hargs1,rfl,rfl,⟨n1,h1⟩,r1⟩:=trodAll_cons r0
 obtain⟨rfl,rfl,rfl⟩:=trodAll_nil r1
 subst hargs1
 obtain rfl:args = #[v0,v1]:=by cases args;simp_all
 obtain⟨-, l,a,n,c,hcs,hs,hn,hc⟩:=zJk H enc W _ _ _ _ h0 (hb _ (by simp))
 have hv0:=hval 0 _ v0 rfl rfl
 obtain rfl:=zCh Tryz.underlying30 rfl hv0 hcs
 obtain⟨-, k,hk,hkk⟩:=zNK H enc W _ _ _ _ h1 (hb _ (by simp))
 have hv1:=hval 1 _ v1 rfl rfl
 obtain rfl:=zCh (t:=T.int) (d := .int .i64) (by kernel_rfl) rfl hv1 hk
 exact zLs hs (by omega)
set_option maxRecDepth 100000 in
theorem lifted (os:Os) (started:os.Started) (H:Type) (enc:TypeId×Value→H) (F:Stop.Interp) :
  ReturnsInHanded {} Tryz.checked os 4 .any ((Rows.OpenSpec.upto Rows.nodeJunkSpec).pre6 enc Tryz.prog Tryz.f4 Rows.nodeJunkUptoRow.domain false) (((Rows.OpenSpec.upto Rows.nodeJunkSpec).at F).post enc Tryz.prog Tryz.f4 false true false false):=by
 refine returnsInHanded_of_cond (C:=Tryz.checked) (s:=Rows.OpenSpec.upto Rows.nodeJunkSpec) (k:=Rows.uptoSmall) rfl own started (by kernel_rfl) Tryz.func4
  (OpenSpec.witness (enc:=enc) (C:=Tryz.checked) (s:=Rows.OpenSpec.upto Rows.nodeJunkSpec) (k:=Rows.uptoSmall) rfl false ⟨#[], #[.slice none 0 0,.int .i64 0],[]⟩ 12 (by kernel_rfl) (by kernel_rfl) (by kernel_rfl)
   (x:=([.nil,.lit (.int .i64 0)],[],[])) (by kernel_rfl) rfl (by kernel_rfl)) ?_
 intro W base args ds gs before hval hW _ hk _
 exact contract H enc W base args ds gs before hval hW hk
noncomputable abbrev Q:Program:=Tryz.pinned.checked.prog
abbrev C:OpenClaim:=Rows.nodeJunkUptoRow
theorem k2:laidOutB Q=true:=by kernel_rfl
theorem k3:mapsRowed Q=true:=by kernel_rfl
theorem k10:(C.inPlace == Q.inPlace 4)=true:=by kernel_rfl
theorem k11:(C.unfollowed == Q.unfollowed 4)=true:=by kernel_rfl
theorem k12:(C.recurses == Q.recurses 4)=true:=by kernel_rfl
theorem k13:(C.named == Q.varsNamed 4)=true:=by kernel_rfl
theorem k22:(C.plainKeys == Q.plainKeys)=true:=by kernel_rfl
theorem zPo:Q.stopsHeard=true:=by kernel_rfl
theorem k24:Q.mayEnter=true:=by kernel_rfl
theorem zPp:(C.lifted == Q.liftsFinal)=true:=by kernel_rfl
theorem zPq:(Q.make == some C.make)=true:=by kernel_rfl
theorem zOp:joinedFacts Q 4 Tryz.f4 (Rows.OpenSpec.upto Rows.nodeJunkSpec).bare C=true:=by
 simp only[joinedFacts,Bool.and_eq_true]
 exact⟨⟨⟨⟨⟨⟨⟨⟨⟨⟨⟨⟨⟨⟨⟨⟨⟨⟨⟨⟨⟨⟨⟨⟨⟨⟨⟨⟨⟨⟨⟨(by kernel_rfl),k2⟩,k3⟩,(by kernel_rfl)⟩,(by kernel_rfl)⟩,(by kernel_rfl)⟩,(by kernel_rfl)⟩,(by kernel_rfl)⟩,(by kernel_rfl)⟩,k10⟩,k11⟩,k12⟩,k13⟩,(by kernel_rfl)⟩,(by kernel_rfl)⟩,(by kernel_rfl)⟩,(by kernel_rfl)⟩,(by kernel_rfl)⟩,(by kernel_rfl)⟩,(by kernel_rfl)⟩,(by kernel_rfl)⟩,(by kernel_rfl)⟩,k22⟩,(by kernel_rfl)⟩,zPo⟩,k24⟩,zPp⟩,zPq⟩,(by kernel_rfl)⟩,(by kernel_rfl)⟩,(by kernel_rfl)⟩,(by kernel_rfl)⟩
theorem over:Rows.nodeJunkUptoRow.holds Tryz.pinned (Rows.OpenSpec.upto Rows.nodeJunkSpec):=
 OpenClaim.holds_of_cond 4 Tryz.f4 rfl rfl rfl rfl rfl rfl rfl ⟨rfl,rfl,rfl,rfl,rfl⟩ rfl rfl rfl rfl rfl (by kernel_rfl) Tryz.func4 zOp
  (Zd0 (by kernel_rfl)) (by unfold Func.isWrapper;first|(rw[if_pos (by decide +kernel)];kernel_rfl)|(rw[if_neg (by decide +kernel)];exact⟨rfl,rfl⟩))
  (fun os started H enc _ F=>lifted os started H enc F)
theorem proved:Rows.NodeJunkUptoSaid:=
 over
end Go.Proofs.YtdogcflaekkdkaaGreat.nodeJunk
