/- Part of this proof;laid by program. -/
import Derived.Test.YtpnhjkiligohnaaGreatDoorJ34
import Derived.Test.YtpnhjkiligohnaaGreatDoorJ32
set_option linter.unusedVariables false
set_option linter.unusedSimpArgs false
namespace Go.Proofs.YtpnhjkiligohnaaGreatDoor
open Go Go.Vm
attribute [local irreducible] Brn Ob Grow CallsM inR zbw zbt Mem.row Mem.cells Mem.setCells Mem.upd Go.Vm.Own zb1 zeh zdA zcx New SrcOk zaq NewSl Mem.textAt Mem.mapAt Mem.iterAt zbs kfind Wr NewEls Elems
set_option maxRecDepth 10000
section
variable {M B B0:Mem}
def modL:List Nat:=[256,256,256,256,256,63,8,4,8,4]
@[reducible] def iV (k:Nat):Value := .int .i64 (k:Nat)
def nsP (P:List UInt8) (v i:Nat):List Nat:=(List.range i).map fun j=>zl P (v+j) (modL.getD j 1)
theorem zOC (P:List UInt8) (v i:Nat):nsP P v (i+1)=nsP P v i++[zl P (v+i) (modL.getD i 1)]:=by unfold nsP;rw[List.range_succ,List.map_append];rfl
@[reducible] def zSb (P:List UInt8) (w:Nat):List Value:=[iV (zl P w 256),iV (8*zl P (w+1) 256),iV (zl P (w+2) 256),iV (256+256*zl P (w+3) 256),iV (16+zl P (w+4) 256),iV (1+zl P (w+5) 63),iV (1+zl P (w+6) 8),iV (1+zl P (w+7) 4),iV (1+zl P (w+8) 8),iV (zl P (w+9) 4)]
theorem zHe {a:Option Addr} {n c:Nat} {P:List UInt8} (hs:SrcOk M 1 a n (P.map zF)) (hn:n≤1048576) (v:Nat) :
  CallsM Tryz.prog F.zg4 [zkd a n c v] M fun u M'=>u = .tuple #[zkd a n c (v+10),.agg (zSb P v).toArray]∧M.le M':=by
 refine zxe (by simp) ?_;(conv=>whnf);refine new (fun bm hbm=>?_);replace hbm:M bm=none:=hbm;obtain⟨M1,hM1⟩:∃ M1,M1=M.setCells bm T.int (modL.map iV):=⟨_,rfl⟩
 have hm1:NewSl M T.int 1 (some ⟨bm,0,none⟩) 10 10 (modL.map iV) M1:=hM1▸NewSl.lit hbm _ _ _ _ rfl;(conv=>whnf)
 erw [←hM1];(conv=>whnf);refine new (fun bq hbq=>?_);replace hbq:M1 bq=none:=hbq;obtain⟨M2,hM2⟩:∃ M2,M2=M1.setCells bq T.int []:=⟨_,rfl⟩
 have h0:NewSl M1 T.int 1 (some ⟨bq,0,none⟩) 0 0 ((nsP P v 0).map iV) M2:=hM2▸NewSl.lit hbq _ _ _ [] rfl;(conv=>whnf)
 erw [←hM2]
 refine zbG (σ:=Nat×Mem×Option Addr×Nat) [6,5] (fun y=>[(6,.int .i64 y.1),(5,.slice y.2.2.1 y.1 y.2.2.2)]) (fun y=>[BE.live T.zaw [SC.v (.slice a n c),SC.v (.int .i64 (min (v+y.1) n:Nat))],BE.live T.zaw [SC.v S.sn,SC.v (S.i 0)],BE.live T.zsJ [SC.v (S.i 0),SC.v (S.i 0),SC.v (S.i 0),SC.v (S.i 0),SC.v (S.i 0),SC.v (S.i 0),SC.v (S.i 0),SC.v (S.i 0),SC.v (S.i 0),SC.v (S.i 0)],BE.gone bm,BE.gone bq]) (fun y=>y.2.1)
  (fun|⟨i,Mc,q,cq⟩=>i≤10∧NewSl M1 T.int 1 q i cq ((nsP P v i).map iV) Mc) (fun y=>10 - y.1) ⟨0,M2,some ⟨bq,0,none⟩,0⟩ ⟨by omega,h0⟩ zS ?_
 rintro ⟨i,Mc,q,cq⟩ ⟨hi,hQ⟩;(conv=>whnf);refine brn (fun g=>?_) (fun g=>?_)
 ·have g':i<10:=by have:=Zd0 g;dsimp only at this;omega
  obtain⟨hlm,b3,o3,ha3,hr3⟩:=(hm1.src.le hQ.le).at g';cases ha3;have hmm:0<modL[i]∧modL[i]≤256:=(show ∀ x∈modL,0<x∧x≤256 by decide) _ (List.getElem_mem hlm)
  have hget:modL.getD i 1=modL[i]:=by rw[List.getD_eq_getElem?_getD,List.getElem?_eq_getElem hlm];rfl
  have hsc:=hs.le (Mem.le_trans hm1.le hQ.le);have hns:=zOC P v i
  rw[hget] at hns;obtain⟨mi,hmi⟩:∃ mi,mi=modL[i]:=⟨_,rfl⟩
  rw[←hmi] at hmm hr3 hns;(conv=>whnf);refine ob (by first|omega|(dsimp only;omega)) ?_;(conv=>whnf);refine on hr3 ?_;(conv=>whnf)
  refine⟨?_,?_⟩
  ·(conv=>whnf);refine(zag hsc hn (v+i) hmm.1 (by omega)).mono ?_;rintro u Md ⟨rfl,rfl⟩;refine zR ?_;(conv=>whnf)
   refine appK _ _ hQ (by dsimp only;omega) (by unfold maxLen;dsimp only;omega) (by intro u hu;simp at hu;subst hu;rfl) (fun q6 c6 M6 h6 hk6=>?_);rw[show (nsP P v i).map iV++[Value.int .i64 ((zl P (v+i) mi:Nat):Int)]=(nsP P v (i+1)).map iV by rw[hns,List.map_append];rfl] at h6;(conv=>whnf);refine ob (zs (by first|omega|(dsimp only;omega))) ?_;(conv=>whnf)
   exact⟨⟨i+1,M6,q6,c6⟩,⟨by omega,h6⟩,by dsimp only;omega,zS⟩
  ·refine zR ?_;refine(zag hsc hn (v+i) hmm.1 (by omega)).mono ?_;rintro u Md ⟨rfl,rfl⟩;refine zR ?_;(conv=>whnf)
   refine appK _ _ hQ (by dsimp only;omega) (by unfold maxLen;dsimp only;omega) (by intro u hu;simp at hu;subst hu;rfl) (fun q6 c6 M6 h6 hk6=>?_);rw[show (nsP P v i).map iV++[Value.int .i64 ((zl P (v+i) mi:Nat):Int)]=(nsP P v (i+1)).map iV by rw[hns,List.map_append];rfl] at h6;(conv=>whnf);refine ob (zs (by first|omega|(dsimp only;omega))) ?_;(conv=>whnf)
   exact⟨⟨i+1,M6,q6,c6⟩,⟨by omega,h6⟩,by dsimp only;omega,zS⟩
 ·have g':i=10:=by have:=Zd1 g;dsimp only at this;omega
  subst g';obtain⟨_,b9,o9,hq9,rr0⟩:=hQ.src.at (i:=0) (by decide);subst hq9;obtain⟨_,bb,oo,hq9,rr1⟩:=hQ.src.at (i:=1) (by decide);cases hq9;obtain⟨_,bb,oo,hq9,rr2⟩:=hQ.src.at (i:=2) (by decide);cases hq9;obtain⟨_,bb,oo,hq9,rr3⟩:=hQ.src.at (i:=3) (by decide);cases hq9;obtain⟨_,bb,oo,hq9,rr4⟩:=hQ.src.at (i:=4) (by decide);cases hq9;obtain⟨_,bb,oo,hq9,rr5⟩:=hQ.src.at (i:=5) (by decide);cases hq9;obtain⟨_,bb,oo,hq9,rr6⟩:=hQ.src.at (i:=6) (by decide);cases hq9;obtain⟨_,bb,oo,hq9,rr7⟩:=hQ.src.at (i:=7) (by decide);cases hq9;obtain⟨_,bb,oo,hq9,rr8⟩:=hQ.src.at (i:=8) (by decide);cases hq9;obtain⟨_,bb,oo,hq9,rr9⟩:=hQ.src.at (i:=9) (by decide);cases hq9;replace rr0:Mc.row b9 (o9+0*1) 1=some [iV (zl P (v) 256)]:=rr0;have rb0:=zO (P:=P) (v:=v) (m:=256) (by decide)
  replace rr1:Mc.row b9 (o9+1*1) 1=some [iV (zl P (v+1) 256)]:=rr1;have rb1:=zO (P:=P) (v:=v+1) (m:=256) (by decide)
  replace rr2:Mc.row b9 (o9+2*1) 1=some [iV (zl P (v+2) 256)]:=rr2;have rb2:=zO (P:=P) (v:=v+2) (m:=256) (by decide)
  replace rr3:Mc.row b9 (o9+3*1) 1=some [iV (zl P (v+3) 256)]:=rr3;have rb3:=zO (P:=P) (v:=v+3) (m:=256) (by decide)
  replace rr4:Mc.row b9 (o9+4*1) 1=some [iV (zl P (v+4) 256)]:=rr4;have rb4:=zO (P:=P) (v:=v+4) (m:=256) (by decide)
  replace rr5:Mc.row b9 (o9+5*1) 1=some [iV (zl P (v+5) 63)]:=rr5;have rb5:=zO (P:=P) (v:=v+5) (m:=63) (by decide)
  replace rr6:Mc.row b9 (o9+6*1) 1=some [iV (zl P (v+6) 8)]:=rr6;have rb6:=zO (P:=P) (v:=v+6) (m:=8) (by decide)
  replace rr7:Mc.row b9 (o9+7*1) 1=some [iV (zl P (v+7) 4)]:=rr7;have rb7:=zO (P:=P) (v:=v+7) (m:=4) (by decide)
  replace rr8:Mc.row b9 (o9+8*1) 1=some [iV (zl P (v+8) 8)]:=rr8;have rb8:=zO (P:=P) (v:=v+8) (m:=8) (by decide)
  replace rr9:Mc.row b9 (o9+9*1) 1=some [iV (zl P (v+9) 4)]:=rr9;have rb9:=zO (P:=P) (v:=v+9) (m:=4) (by decide)
  (conv=>whnf);refine ob (by dsimp only;omega) ?_;(conv=>whnf);refine on rr0 ?_;(conv=>whnf);refine ob (by dsimp only;omega) ?_;(conv=>whnf);refine on rr1 ?_;(conv=>whnf);refine ob (zs (by first|omega|(dsimp only;omega))) ?_;(conv=>whnf);refine ob (by dsimp only;omega) ?_;(conv=>whnf);refine on rr2 ?_;refine zR ?_;(conv=>whnf)
  refine⟨[1,2],Mc,Mem.le_refl _,fun d=>?_⟩;(conv=>whnf);refine ob (by dsimp only;omega) ?_;(conv=>whnf);refine on rr3 ?_;(conv=>whnf);refine ob (zs (by first|omega|(dsimp only;omega))) ?_;(conv=>whnf);refine ob (zs (by first|omega|(dsimp only;omega))) ?_;(conv=>whnf);refine ob (by dsimp only;omega) ?_;(conv=>whnf);refine on rr4 ?_;(conv=>whnf);refine ob (zs (by first|omega|(dsimp only;omega))) ?_;(conv=>whnf);refine ob (by dsimp only;omega) ?_;(conv=>whnf);refine on rr5 ?_;(conv=>whnf);refine ob (zs (by first|omega|(dsimp only;omega))) ?_;(conv=>whnf);refine ob (by dsimp only;omega) ?_;(conv=>whnf);refine on rr6 ?_;(conv=>whnf);refine ob (zs (by first|omega|(dsimp only;omega))) ?_;(conv=>whnf);refine ob (by dsimp only;omega) ?_;(conv=>whnf);refine on rr7 ?_;(conv=>whnf);refine ob (zs (by first|omega|(dsimp only;omega))) ?_;(conv=>whnf);refine ob (by dsimp only;omega) ?_;(conv=>whnf);refine on rr8 ?_;(conv=>whnf);refine ob (zs (by first|omega|(dsimp only;omega))) ?_;(conv=>whnf);refine ob (by dsimp only;omega) ?_;(conv=>whnf);refine on rr9 ?_;(conv=>whnf)
  refine zU ?_;(conv=>whnf)
  refine⟨?_,Mem.le_trans hm1.le hQ.le⟩;simp[zSb,iV]
end
section
variable {M B B0:Mem}
set_option maxRecDepth 100000 in
theorem zQE {a:Option Addr} {n c:Nat} {P:List UInt8} (hs:SrcOk M 1 a n (P.map zF)) (hn:n≤1048576) :
  CallsM Tryz.prog F.zkj [.slice a n c] M fun u M'=>M.le M'∧∃ ql cl qs cs,u = .agg (zwy (ziq P) ql cl qs cs).toArray∧NewSl M T.zan 2 ql (ziq P).links.length cl ((ziq P).links.flatMap zio) M'∧NewEls M T.zB 5 qs (ziq P).steps.length cs (StpN M M') (ziq P).steps M':=by
 have hl:=hs.maplen;have h0:=zag (c:=c) hs hn 0 (m:=64) (by decide) (by decide)
 rw[show zkd a n c 0 = .agg #[.slice a n c,.int .i64 0] by simp[zkd]] at h0;refine zAX (by simp) ?_;(conv=>whnf)
 refine h0.mono ?_;rintro u M1 ⟨rfl,e1⟩;replace e1:=e1.symm;subst e1;have hr2:=zO (P:=P) (v:=0) (m:=64) (by decide)
 have hr4:=zO (P:=P) (v:=1) (m:=16) (by decide);obtain⟨nodes,hnodes⟩:∃ nodes,nodes=1+zl P 0 64:=⟨_,rfl⟩
 (conv=>whnf);refine ob (zs (by first|omega|(dsimp only;omega))) ?_;rw[show (1:Int)+((zl P 0 64:Nat):Int)=((nodes:Nat):Int) by omega];refine zR ?_;refine(zK3 (c:=c) hs hn nodes (by omega) (by omega)).mono ?_;rintro u M2 ⟨qo,co,rfl,hO⟩;refine zR ?_;refine(zHe (c:=c) (hs.le hO.le) hn (2+2*zl P 1 16)).mono ?_;rintro u M3 ⟨rfl,hle3⟩;refine zR ?_;obtain⟨w,hw⟩:∃ w,w=2+2*zl P 1 16:=⟨_,rfl⟩
 refine(zMv (co:=co) (hO.src.le hle3) (by omega) (n:=nodes) (by omega)).mono ?_;rintro u M5 ⟨ql,cl,rfl,hL⟩;have hM5:M.le M5:=Mem.le_trans hO.le (Mem.le_trans hle3 hL.le)
 have hL':=hL.mono (Mem.le_trans hO.le hle3);obtain⟨L,hL0⟩:∃ L,L=znW nodes (zkc P nodes (zl P 1 16)):=⟨_,rfl⟩
 rw[←hL0] at hL';erw [←hL0];rw[←hw];obtain⟨w0,hw0⟩:∃ w0,w0=w+10:=⟨_,rfl⟩
 rw[←hw0];refine zR ?_;(conv=>whnf)
 refine zbG (σ:=Nat×Mem×Option Addr×Nat) [] (fun y=>[]) (fun y=>[BE.live T.zed [SC.v (S.i 0),SC.v S.sn,SC.v (S.i 0),SC.v (S.i 0),SC.v (S.i 0),SC.v (S.i 0),SC.v (S.i 0),SC.v (S.i 0),SC.v (S.i 0),SC.v (S.i 0),SC.v (S.i 0),SC.v (S.i 0),SC.v S.sn],BE.live T.zaw [SC.v (.slice a n c),SC.v (.int .i64 (min (0+1) n:Nat))],BE.live T.zed [SC.v (.int .i64 nodes),SC.v (.slice ql L.length cl),SC.v (iV (zl P w 256)),SC.v (iV (8*zl P (w+1) 256)),SC.v (iV (zl P (w+2) 256)),SC.v (iV (256+256*zl P (w+3) 256)),SC.v (iV (16+zl P (w+4) 256)),SC.v (iV (1+zl P (w+5) 63)),SC.v (iV (1+zl P (w+6) 8)),SC.v (iV (1+zl P (w+7) 4)),SC.v (iV (1+zl P (w+8) 8)),SC.v (iV (zl P (w+9) 4)),SC.v (.slice y.2.2.1 y.1 y.2.2.2)],BE.live T.zaw [SC.v (.slice a n c),SC.v (.int .i64 (min w n:Nat))],BE.live T.zaw [SC.v (.slice a n c),SC.v (.int .i64 (min (zbg P nodes y.1 w0) n:Nat))],BE.live T.zsJ [SC.v (iV (zl P w 256)),SC.v (iV (8*zl P (w+1) 256)),SC.v (iV (zl P (w+2) 256)),SC.v (iV (256+256*zl P (w+3) 256)),SC.v (iV (16+zl P (w+4) 256)),SC.v (iV (1+zl P (w+5) 63)),SC.v (iV (1+zl P (w+6) 8)),SC.v (iV (1+zl P (w+7) 4)),SC.v (iV (1+zl P (w+8) 8)),SC.v (iV (zl P (w+9) 4))]]) (fun y=>y.2.1)
  (fun|⟨j,Mc,q,cq⟩=>j≤256∧NewEls M5 T.zB 5 q j cq (StpN M5 Mc) (zbN P nodes w0 j) Mc∧∀ i,i<j→zbg P nodes i w0<P.length) (fun y=>256 - y.1) ⟨0,M5,none,0⟩ ⟨by omega,NewEls.nil _ _ _ _,by omega⟩ zS ?_
 rintro ⟨j,Mc,q,cq⟩ ⟨hj,hE,hlt⟩;have hsc:=hs.le (Mem.le_trans hM5 hE.le)
 (conv=>whnf);refine brn (fun g=>?_) (fun g=>?_)
 ·have g':=Zd0 g;dsimp only at g';have hv:zbg P nodes j w0<P.length:=by omega
  (conv=>whnf);refine brn (fun f=>?_) (fun f=>?_)
  ·have f':j<256:=by have:=Zd0 f;dsimp only at this;omega
   refine zR ?_;refine(zOA (c:=c) hsc hn (zbg P nodes j w0) nodes (by omega) (by omega)).mono ?_;rintro u M7 ⟨qd,cd,rfl,hd⟩;have hE7:NewEls M5 T.zB 5 q j cq (StpN M5 M7) (zbN P nodes w0 j) M7:=(hE.up hd.le).imp fun cs x _ hx=>hx.keep (Mem.keep_of_le (S:=fun _=>False) hd.le) fun b ds hb e=>e
   have hx:StpN M5 M7 (zim (zaK P nodes (zbg P nodes j w0)).1 qd cd) (zaK P nodes (zbg P nodes j w0)).1:=⟨qd,cd,rfl,hd.src,fun r hr=>⟨zqC hE.le (hd.block hr).1,(hd.block hr).2⟩⟩
   refine zR ?_;(conv=>whnf)
   refine zRd M5 hE7 _ hx rfl (by dsimp only;omega) (by dsimp only;simp[maxLen];omega) (by simp[Value.oneCell']) fun q8 c8 M8 hE8 hk8=>?_
   have hE9:NewEls M5 T.zB 5 q8 (j+1) c8 (StpN M5 M8) (zbN P nodes w0 (j+1)) M8:=by
    rw[zyR];refine hE8.imp fun cs x _ hx=>hx.keep hk8 fun b ds hb=>?_
    rintro ⟨p,hp,e⟩;obtain⟨_,cs,hc⟩:=hE7.block hp;rw[e] at hc;exact absurd (hc.inj hb).1 (by decide)
   refine zR ?_;(conv=>whnf)
   refine⟨⟨j+1,M8,q8,c8⟩,⟨by omega,hE9,fun i hi=>?_⟩,by dsimp only;omega,zS⟩;by_cases hij:i=j
   ·rw[hij];exact hv
   ·exact hlt i (by omega)
  ·have f':j=256:=by have:=Zd1 f;dsimp only at this;omega
   have hst:zbN P nodes w0 j=zfI P nodes 256 w0:=(zpj P nodes j 256 w0 hj hlt (.inl f')).symm
   have hdec:ziq P=⟨nodes,L,zl P w 256,8*zl P (w+1) 256,zl P (w+2) 256,256+256*zl P (w+3) 256,16+zl P (w+4) 256,1+zl P (w+5) 63,1+zl P (w+6) 8,1+zl P (w+7) 4,1+zl P (w+8) 8,zl P (w+9) 4,zbN P nodes w0 j⟩:=by
    rw[hst];subst hnodes hL0 hw0 hw;rfl
   rw[hdec];(conv=>whnf)
   refine⟨Mem.le_trans hM5 hE.le,ql,cl,q,cq,?_,hL'.up hE.le,?_⟩
   ·simp[zwy,iV,zfJ]
   ·dsimp only;rw[zfJ];exact(hE.mono hM5).imp fun cs x _ ⟨q',c',h1,h2,h3⟩=>⟨q',c',h1,h2,fun r hr=>⟨zqC hM5 (h3 r hr).1,(h3 r hr).2⟩⟩
 ·have g':=Zd1 g;dsimp only at g';have hst:zbN P nodes w0 j=zfI P nodes 256 w0:=(zpj P nodes j 256 w0 hj hlt (.inr (by omega))).symm
  have hdec:ziq P=⟨nodes,L,zl P w 256,8*zl P (w+1) 256,zl P (w+2) 256,256+256*zl P (w+3) 256,16+zl P (w+4) 256,1+zl P (w+5) 63,1+zl P (w+6) 8,1+zl P (w+7) 4,1+zl P (w+8) 8,zl P (w+9) 4,zbN P nodes w0 j⟩:=by
   rw[hst];subst hnodes hL0 hw0 hw;rfl
  rw[hdec];(conv=>whnf)
  refine⟨Mem.le_trans hM5 hE.le,ql,cl,q,cq,?_,hL'.up hE.le,?_⟩
  ·simp[zwy,iV,zfJ]
  ·dsimp only;rw[zfJ];exact(hE.mono hM5).imp fun cs x _ ⟨q',c',h1,h2,h3⟩=>⟨q',c',h1,h2,fun r hr=>⟨zqC hM5 (h3 r hr).1,(h3 r hr).2⟩⟩
end
end Go.Proofs.YtpnhjkiligohnaaGreatDoor
namespace Go.Proofs.YtpnhjkiligohnaaGreatDoor
section
structure StpI where
 kind:Int
 node:Int
 to:Int
 n:Int
 data:List UInt8
theorem StpI.ext' {x y:StpI} (h1:x.kind=y.kind) (h2:x.node=y.node) (h3:x.to=y.to) (h4:x.n=y.n) (h5:x.data=y.data):x=y:=by
 cases x;cases y;simp_all
def StpR.toI (x:StpR):StpI:=⟨x.kind,x.node,x.to,x.n,x.data⟩
def zdr (n:Int):List (Int×Nat×Nat):=if n=0 then [] else [(-1,1,1)]
def zTA (nodes:Nat) (x:StpI) (r:Nat):List (Int×Nat×Nat):=
 match r with
 | 0=>[(x.node,1,nodes),(x.to,1,256)]++(zdr x.n++[((x.data.length:Int),1,64)])
 | 2=>zdr x.node++(zdr x.to++(zdr x.n++zdr x.data.length))
 | 3=>[(x.node,1,nodes),(x.to,1,nodes),(x.n,1,256)]++zdr x.data.length
 | 4=>[(x.node,1,nodes),(x.to,1,nodes),(x.n,1,256)]++zdr (x.data.length - 1)
 | 5=>[(x.node,1,nodes),(x.to,1,nodes),(x.n,1,256)]++zdr (x.data.length - 1)
 | 6=>[(x.node,1,nodes)]++(zdr x.to++(zdr x.n++[((x.data.length:Int),1,8)]))
 | 8=>[(x.node,1,nodes)]++(zdr x.to++([(x.n,256,256)]++zdr x.data.length))
 | 10=>[(x.node,1,nodes)]++(zdr x.to++([(x.n,1,64)]++zdr x.data.length))
 | 11=>zdr x.node++(zdr x.to++([(x.n,1,256)]++zdr x.data.length))
 | _=>[(x.node,1,nodes)]++(zdr x.to++(zdr x.n++zdr x.data.length))
def zK4 (nodes:Nat) (x:StpI) (r:Nat):Prop:=
 match r with
 | 0=>(0≤x.node∧x.node<nodes)∧(0≤x.to∧x.to<256)∧x.n=0∧x.data.length<64
 | 2=>x.node=0∧x.to=0∧x.n=0∧x.data.length=0
 | 3=>(0≤x.node∧x.node<nodes)∧(0≤x.to∧x.to<nodes)∧(0≤x.n∧x.n<256)∧x.data.length=0
 | 4=>(0≤x.node∧x.node<nodes)∧(0≤x.to∧x.to<nodes)∧(0≤x.n∧x.n<256)∧x.data.length=1
 | 5=>(0≤x.node∧x.node<nodes)∧(0≤x.to∧x.to<nodes)∧(0≤x.n∧x.n<256)∧x.data.length=1
 | 6=>(0≤x.node∧x.node<nodes)∧x.to=0∧x.n=0∧x.data.length<8
 | 8=>(0≤x.node∧x.node<nodes)∧x.to=0∧(0≤x.n∧x.n % 256=0∧x.n≤65535)∧x.data.length=0
 | 10=>(0≤x.node∧x.node<nodes)∧x.to=0∧(0≤x.n∧x.n<64)∧x.data.length=0
 | 11=>x.node=0∧x.to=0∧(0≤x.n∧x.n<256)∧x.data.length=0
 | _=>(0≤x.node∧x.node<nodes)∧x.to=0∧x.n=0∧x.data.length=0
theorem zHY (P:List UInt8) (v k:Nat):(zaP P v k).length=k:=by simp[zaP]
theorem zMw {nodes:Nat} (hN:0<nodes) (P:List UInt8) (v:Nat):(1≤(zaK P nodes v).1.toI.kind∧(zaK P nodes v).1.toI.kind≤12)∧zK4 nodes (zaK P nodes v).1.toI ((zaK P nodes v).1.toI.kind - 1).toNat:=by
 have hr:=zO (P:=P) (v:=v) (m:=12) (by decide);have hn:=fun i=>zO (P:=P) (v:=i) (m:=nodes) hN
 have h256:=fun i=>zO (P:=P) (v:=i) (m:=256) (by decide)
 have h64:=fun i=>zO (P:=P) (v:=i) (m:=64) (by decide)
 have h8:=fun i=>zO (P:=P) (v:=i) (m:=8) (by decide)
 unfold zaK;generalize zl P v 12=r at *;have hc:r=0∨r=1∨r=2∨r=3∨r=4∨r=5∨r=6∨r=7∨r=8∨r=9∨r=10∨r=11:=by omega
 have n1:=hn (v+1);have n2:=hn (v+2);have a1:=h256 (v+1);have a2:=h256 (v+2);have a3:=h256 (v+3);have b2:=h64 (v+2);have b3:=h64 (v+3);have c2:=h8 (v+2)
 rcases hc with rfl|rfl|rfl|rfl|rfl|rfl|rfl|rfl|rfl|rfl|rfl|rfl <;>
  simp[zaU,StpR.toI,zK4,zHY]<;>omega
end
section
@[reducible] def zPI (p:Nat×Nat):Int×Int:=((p.1:Int),(p.2:Int))
structure zTn where
 held:Int
 bytes:Int
 gaps:Int
 disk:Int
 seg:Int
 win:Int
 timer:Int
 tries:Int
 wait:Int
 delay:Int
structure zK5 where
 nodes:Int
 links:List (Int×Int)
 set:zTn
 steps:List StpI
def ScrR.toI (S:ScrR):zK5:=⟨S.nodes,S.links.map zPI,⟨S.held,S.bytes,S.gaps,S.disk,S.seg,S.win,S.timer,S.tries,S.wait,S.delay⟩,S.steps.map StpR.toI⟩
theorem zyS {nodes:Nat} (hN:0<nodes) (P:List UInt8):∀ f v,(zfI P nodes f v).length≤f∧∀ y∈zfI P nodes f v,(1≤y.toI.kind∧y.toI.kind≤12)∧zK4 nodes y.toI (y.toI.kind - 1).toNat
 | 0,v=>by simp[zfI]
 | f+1,v=>by
  obtain⟨h1,h2⟩:=zyS hN P f (zaK P nodes v).2;unfold zfI;split
  ·refine⟨by simp;exact h1,fun y hy=>?_⟩;rcases List.mem_cons.1 hy with rfl|hy
   ·exact zMw hN P v
   ·exact h2 y hy
  ·simp
end
end Go.Proofs.YtpnhjkiligohnaaGreatDoor
namespace Go.Proofs.YtpnhjkiligohnaaGreatDoor
open Go Go.Vm
attribute [local irreducible] Brn Ob Grow CallsM inR zbw zbt Mem.row Mem.cells Mem.setCells Mem.upd Go.Vm.Own zb1 zeh zdA zcx New SrcOk zaq NewSl Mem.textAt Mem.mapAt Mem.iterAt zbs kfind Wr NewEls Elems
set_option maxRecDepth 10000
section
variable {M B B0:Mem}
@[reducible] def zwz (p:Int×Int):List Value:=[.int .i64 p.1,.int .i64 p.2]
@[reducible] def zOD (x:StpI) (q:Option Addr) (c:Nat):List Value:=[.int .i64 x.kind,.int .i64 x.node,.int .i64 x.to,.int .i64 x.n,.slice q x.data.length c]
def zrY (x y:StpI):Bool:=decide (x.kind=y.kind)&&decide (x.node=y.node)&&decide (x.to=y.to)&&decide (x.n=y.n)&&decide (x.data=y.data)
theorem sameP_iff {x y:StpI}:zrY x y=true↔x=y:=by
 unfold zrY;simp only[Bool.and_eq_true,decide_eq_true_eq];exact⟨fun h=>StpI.ext' h.1.1.1.1 h.1.1.1.2 h.1.1.2 h.1.2 h.2,fun h=>by subst h;simp⟩
theorem zE8 {a b:Option Addr} {n m c d:Nat} {l l':List (Int×Int)} (ha:SrcOk M 2 a n (l.flatMap zwz)) (hb:SrcOk M 2 b m (l'.flatMap zwz)) (hn:n≤1048576) :
  CallsM Tryz.prog F.zdw [.slice a n c,.slice b m d] M fun u M'=>u = .bool (decide (l=l'))∧M=M':=by
 have hl:l.length=n:=SrcOk.flen (enc:=zwz) (s:=2) (fun _=>rfl) ha (by decide);have hl':l'.length=m:=SrcOk.flen (enc:=zwz) (s:=2) (fun _=>rfl) hb (by decide)
 refine zvw (by simp) ?_;(conv=>whnf);refine brn (fun g=>?_) (fun g=>?_)
 ·have g':n≠m:=by simp at g;omega
  (conv=>whnf);exact⟨by rw[decide_eq_false (fun e=>g' (by rw[←hl,←hl',e]))],rfl⟩
 ·have g':n=m:=by simp at g;omega
  subst g';(conv=>whnf)
  refine zbG (σ:=Nat) [5] (fun y=>[(5,.int .i64 y)]) (fun _=>[]) (fun _=>M)
   (fun i=>i≤n∧l.take i=l'.take i) (fun y=>n - y) 0 ⟨by omega,by simp⟩ zS ?_
  rintro i ⟨hi,hni⟩;(conv=>whnf);refine brn (fun g=>?_) (fun g=>?_)
  ·have g':i<n:=by have:=Zd0 g;omega
   obtain⟨z,hz⟩:∃ z,l[i]? = some z:=⟨_,List.getElem?_eq_getElem (by omega)⟩
   obtain⟨y,hy⟩:∃ y,l'[i]? = some y:=⟨_,List.getElem?_eq_getElem (by omega)⟩
   obtain⟨b1,o1,rfl,hr1⟩:=SrcOk.fall (enc:=zwz) (s:=2) (fun _=>rfl) ha (by decide) hz;obtain⟨b2,o2,rfl,hr2⟩:=SrcOk.fall (enc:=zwz) (s:=2) (fun _=>rfl) hb (by decide) hy;(conv=>whnf);refine ob (by first|omega|(dsimp only;omega)) ?_;(conv=>whnf);refine on hr1 ?_;(conv=>whnf);refine ob (by first|omega|(dsimp only;omega)) ?_;(conv=>whnf);refine on hr2 ?_;obtain⟨z1,z2⟩:=z;obtain⟨y1,y2⟩:=y;(conv=>whnf);refine brn (fun e=>?_) (fun e=>?_)
   ·have e':¬(z1=y1∧z2=y2):=by simp at e;omega
    (conv=>whnf);refine⟨?_,rfl⟩;rw[decide_eq_false fun h=>?_];rw[h,hy] at hz;cases hz;exact e' ⟨rfl,rfl⟩
   ·have e':z1=y1∧z2=y2:=by simp at e;omega
    (conv=>whnf);refine ob (zs (by first|omega|(dsimp only;omega))) ?_;(conv=>whnf)
    refine⟨i+1,⟨by omega,?_⟩,by omega,zS⟩;rw[List.take_add_one,List.take_add_one,hz,hy,hni,e'.1,e'.2]
  ·have g':i=n:=by have:=Zd1 g;omega
   subst g';(conv=>whnf)
   rw[List.take_of_length_le (by omega),List.take_of_length_le (by omega)] at hni;exact⟨by rw[decide_eq_true hni],rfl⟩
theorem zHf {x y:StpI} {q r:Option Addr} {c d:Nat} (hx:SrcOk M 1 q x.data.length (x.data.map zF)) (hy:SrcOk M 1 r y.data.length (y.data.map zF)) :
  CallsM Tryz.prog F.zdY [.agg (zOD x q c).toArray,.agg (zOD y r d).toArray] M fun u M'=>u = .bool (zrY x y)∧M=M':=by
 refine zxd (by simp) ?_;(conv=>whnf);refine brn (fun e0=>?_) (fun e0=>?_)
 ·(conv=>whnf);refine brn (fun e1=>?_) (fun e1=>?_)
  ·(conv=>whnf);refine brn (fun e2=>?_) (fun e2=>?_)
   ·(conv=>whnf);refine brn (fun e3=>?_) (fun e3=>?_)
    ·(conv=>whnf);refine zRc hx ?_;(conv=>whnf);refine zRc hy ?_;(conv=>whnf)
     refine⟨?_,rfl⟩;congr 1;unfold zrY;rw[Zd0 e0,Zd0 e1,Zd0 e2,Zd0 e3];simp
    ·
     (conv=>whnf);exact⟨by unfold zrY;simp[Zd1 e3],rfl⟩
   ·
    (conv=>whnf);exact⟨by unfold zrY;simp[Zd1 e2],rfl⟩
  ·
   (conv=>whnf);exact⟨by unfold zrY;simp[Zd1 e1],rfl⟩
 ·
  (conv=>whnf);exact⟨by unfold zrY;simp[Zd1 e0],rfl⟩
def zSV (M:Mem) (cs:List Value) (x:StpI):Prop:=∃ q c,cs=zOD x q c∧SrcOk M 1 q x.data.length (x.data.map zF)
@[reducible] def zTo (S:zK5) (ql:Option Addr) (nl cl:Nat) (qs:Option Addr) (ns cs:Nat):List Value:=[.int .i64 S.nodes,.slice ql nl cl,.int .i64 S.set.held,.int .i64 S.set.bytes,.int .i64 S.set.gaps,.int .i64 S.set.disk,.int .i64 S.set.seg,.int .i64 S.set.win,.int .i64 S.set.timer,.int .i64 S.set.tries,.int .i64 S.set.wait,.int .i64 S.set.delay,.slice qs ns cs]
def zHg (M:Mem) (v:Value) (S:zK5):Prop:=∃ ql nl cl qs ns cs,v = .agg (zTo S ql nl cl qs ns cs).toArray∧SrcOk M 2 ql nl (S.links.flatMap zwz)∧nl≤1048576∧Elems M 5 qs ns (zSV M) S.steps∧ns≤1048576
set_option maxRecDepth 100000 in
theorem zQF {v w:Value} {S:zK5} (hv:zHg M v S) (hw:zHg M w S):CallsM Tryz.prog F.zgB [v,w] M fun u M'=>u = .bool true∧M=M':=by
 obtain⟨ql,nl,cl,qs,ns,cs,rfl,h2,h3,h4,h5⟩:=hv;obtain⟨ql',nl',cl',qs',ns',cs',rfl,h2',h3',h4',h5'⟩:=hw;have hns:ns=ns':=by rw[←h4.len,←h4'.len]
 subst hns;refine zDT (by simp) ?_;refine zR ?_;(conv=>whnf);refine brn_f (by simp) ?_;refine zR ?_;refine(zE8 h2 h2' h3).mono ?_;rintro u _ ⟨rfl,rfl⟩;(conv=>whnf);refine brn_f (by simp) ?_;(conv=>whnf);refine brn_f (by simp) ?_;(conv=>whnf);refine brn_f (by simp) ?_;(conv=>whnf)
 refine zSp (σ:=Nat) [5] (fun y=>[(5,.int .i64 y)]) (fun i=>i≤ns) (fun y=>ns - y) 0 (by omega) zS ?_;rintro i hi;(conv=>whnf);refine brn (fun g=>?_) (fun g=>?_)
 ·have g':i<ns:=by have:=Zd0 g;omega
  obtain⟨hl1,b1,o1,c1,rfl, -, hr1, -, q1,e1,rfl,hd1⟩:=h4.at (by decide) g';obtain⟨hl2,b2,o2,c2,rfl, -, hr2, -, q2,e2,rfl,hd2⟩:=h4'.at (by decide) g';(conv=>whnf);refine ob (by first|omega|(dsimp only;omega)) ?_;(conv=>whnf);refine on hr1 ?_;(conv=>whnf);refine ob (by first|omega|(dsimp only;omega)) ?_;(conv=>whnf);refine on hr2 ?_;refine zR ?_;refine(zHf hd1 hd2).mono ?_;rintro u _ ⟨rfl,rfl⟩;rw[sameP_iff.2 rfl];refine zR ?_;(conv=>whnf);refine ob (zs (by first|omega|(dsimp only;omega))) ?_;(conv=>whnf)
  refine⟨i+1,by omega,by omega,zS⟩
 ·have g':i=ns:=by have:=Zd1 g;omega
  (conv=>whnf);exact⟨rfl,rfl⟩
end
section
variable {M B B0:Mem}
theorem zQG (l:List (Nat×Nat)):(l.map zPI).flatMap zwz=l.flatMap zio:=by
 rw[List.flatMap_map]
theorem SrcOk.kept {M M':Mem} {s:Nat} {a:Option Addr} {n:Nat} {L:List Value} {X:Nat→Prop} (h:SrcOk M s a n L) (hk:Mem.keep X M M') (hX:∀ q,a=some q→¬X q.block):SrcOk M' s a n L:=
 (h.minus hX).le (Mem.keep_minus.1 hk)
theorem zIA {S:ScrR} {M1 M2 M3:Mem} {ql qs:Option Addr} {cl cs:Nat} {X:Nat→Prop} (hN:NewSl M1 T.zan 2 ql S.links.length cl (S.links.flatMap zio) M2) (hE:NewEls M1 T.zB 5 qs S.steps.length cs (StpN M1 M2) S.steps M2)
  (hk:Mem.keep X M2 M3) (hX:∀ b,X b→M1 b≠none) (h1:S.links.length≤1048576) (h2:S.steps.length≤1048576):zHg M3 (.agg (zwy S ql cl qs cs).toArray) S.toI:=by
 refine⟨ql,S.links.length,cl,qs,S.steps.length,cs,rfl,?_,h1,?_,h2⟩
 ·unfold ScrR.toI;dsimp only;rw[zQG];exact SrcOk.kept hN.src hk fun q hq hb=>hX _ hb (hN.block hq).1
 ·unfold NewEls at hE;unfold Elems;obtain⟨css,e1,e2,e3,e4,e5⟩:=hE;refine⟨css,SrcOk.kept e1.src hk fun q hq hb=>hX _ hb (e1.block hq).1,e2,by simp[ScrR.toI],e4,fun i c x hi hx=>?_⟩;unfold ScrR.toI at hx;dsimp only at hx;rw[List.getElem?_map,Option.map_eq_some_iff] at hx;obtain⟨y,hy,rfl⟩:=hx;obtain⟨q,d,h3,h4,h5⟩:=e5 i c y hi hy;exact⟨q,d,h3,SrcOk.kept h4 hk fun r hr hb=>hX _ hb (h5 r hr).1⟩
theorem zB4 (P:List UInt8):(ziq P).links.length≤1048576:=by
 have hn:=zO (P:=P) (v:=0) (m:=64) (by decide);have:=zrX (1+zl P 0 64) (zkc P (1+zl P 0 64) (zl P 1 16)) (1+zl P 0 64)
 have h2:(1+zl P 0 64)*(1+zl P 0 64)≤64*64:=Nat.mul_le_mul (by omega) (by omega);show (za6 _ _ _).length≤_
 omega
theorem zB5 (P:List UInt8):(ziq P).steps.length≤1048576:=by
 have:=(zyS (nodes:=1+zl P 0 64) (by omega) P 256 (2+2*zl P 1 16+10)).1;show (zfI _ _ _ _).length≤_
 omega
set_option maxRecDepth 100000 in
theorem zHZ (aw:∀ {M1:Mem},M.le M1→CallsM Tryz.prog F.zch [] M1 fun v M2=>v = .bool true∧M1.le M2) {a:Option Addr} {n c:Nat} {P:List UInt8} (hs:SrcOk M 1 a n (P.map zF)) (hn:n≤1048576) :
  CallsM Tryz.prog F.zgA [.slice a n c] M fun v M'=>v = .bool true∧M.le M':=by
 have hl:=hs.maplen;refine zsa (by simp) ?_;(conv=>whnf);refine new (fun b hb=>?_);replace hb:M b=none:=hb;obtain⟨M1,hM1⟩:∃ M1,M1=M.setCells b T.zW []:=⟨_,rfl⟩
 have h0:NewSl M T.zW 1 (some ⟨b,0,none⟩) 0 0 [] M1:=hM1▸NewSl.lit hb _ _ _ [] rfl;(conv=>whnf)
 erw [←hM1];refine zS6 (hs.le h0.le) ?_;refine appK M _ h0 (by omega) (by unfold maxLen;omega) (zLr _) (fun q cq M2 h2 hk2=>?_);rw[List.nil_append] at h2;(conv=>whnf)
 rw[Nat.zero_add] at h2 ⊢;refine(zR9 (c:=cq) h2.src hn).mono ?_;rintro u M3 ⟨hle3,ql,cl,qs,cs,rfl,hL,hE⟩;refine zR ?_;(conv=>whnf)
 have h3:NewSl M T.zW 1 q n cq (P.map zF) M3:=h2.up hle3
 refine zbG (σ:=Nat×Mem×List UInt8) [5] (fun y=>[(5,.int .i64 y.1)]) (fun y=>[BE.gone b,BE.live T.zed ((zwy (ziq P) ql cl qs cs).map SC.v)]) (fun y=>y.2.1)
  (fun|⟨i,Mc,L⟩=>i≤n∧NewSl M T.zW 1 q n cq (L.map zF) Mc∧Mem.keep (blk q) M3 Mc) (fun y=>n - y.1) ⟨0,M3,P⟩ ⟨by omega,h3,Mem.keep_refl _ _⟩ zS ?_
 rintro ⟨i,Mc,L⟩ ⟨hi,hQ,hk⟩;(conv=>whnf);refine brn (fun g=>?_) (fun g=>?_)
 ·have g':i<n:=by have:=Zd0 g;dsimp only at this;omega
  obtain⟨b3,cs3,rfl,hc3,hl3,hst⟩:=hQ.wr.store1 g';obtain⟨hlm,b4,o4,e4,hr3⟩:=hQ.src.at g';cases e4;have hx:=UInt8.toNat_lt L[i]
  (conv=>whnf);refine ob (by first|omega|(dsimp only;omega)) ?_;(conv=>whnf);refine on hr3 ?_;(conv=>whnf);refine ob (by first|omega|(dsimp only;omega)) ?_;(conv=>whnf);refine on hc3 ?_;(conv=>whnf);refine ob (by dsimp only;omega) ?_
  have hb:Value.int .u8 (IntKind.u8.wrap (255 - (L[i].toNat:Int)))=zF (255 - L[i]):=by
   simp only[zF];congr 1;rw[UInt8.toNat_sub_of_le _ _ (by rw[UInt8.le_iff_toNat_le];simp;omega)];simp[IntKind.wrap,IntKind.signed,IntKind.bits];omega
  obtain⟨hw5,hk5⟩:=hst (255 - L[i]);rw[←hb] at hw5 hk5;obtain⟨M5,hM5⟩:∃ M5,M5=Mc.setCells b3 T.zW (splice cs3 (0+i*1) [Value.int .u8 (IntKind.u8.wrap (255 - (L[i].toNat:Int)))]):=⟨_,rfl⟩
  rw[←hM5] at hw5 hk5;(conv=>whnf)
  erw [←hM5];have h5:NewSl M T.zW 1 (some ⟨b3,0,none⟩) n cq ((L.set i (255 - L[i])).map zF) M5:=hQ.ofWr hw5 hk5 rfl
  (conv=>whnf);refine ob (zs (by first|omega|(dsimp only;omega))) ?_;(conv=>whnf)
  exact⟨⟨i+1,M5,L.set i (255 - L[i])⟩,⟨by omega,h5,Mem.keep_trans hk hk5⟩,by dsimp only;omega,zS⟩
 ·have g':i=n:=by have:=Zd1 g;dsimp only at this;omega
  subst g';refine zR ?_;have hMc:M.le Mc:=hQ.le
  refine(zQE (c:=c) (hs.le hMc) hn).mono ?_;rintro u M5 ⟨hle5,ql',cl',qs',cs',rfl,hL',hE'⟩
  have hX:∀ b,blk q b→M2 b≠none:=fun b ⟨r,hr,e⟩ hb=>by
   obtain⟨_,ds,hd⟩:=h2.block hr;rw[e] at hd;rw[show M2 b=_ from hd] at hb;cases hb
  have hA:zHg M5 _ (ziq P).toI:=zIA hL hE (Mem.keep_trans hk (Mem.keep_of_le hle5)) hX (zB4 P) (zB5 P);have hB:zHg M5 _ (ziq P).toI:=zIA hL' hE' (Mem.keep_refl (fun _=>False) _) (fun _ h=>h.elim) (zB4 P) (zB5 P)
  refine zT (hle5) ?_;(conv=>whnf)
  refine(zQF hA hB).mono ?_;rintro u _ ⟨rfl,rfl⟩;have hM5:=Mem.le_trans hMc hle5
  refine zT (hle5) ?_;refine zR ?_;(conv=>whnf)
  refine(aw hM5).mono ?_;rintro v M6 ⟨rfl,hle6⟩;refine zT (Mem.le_trans hle5 hle6) ?_;refine zR ?_;(conv=>whnf)
  exact⟨rfl,Mem.le_trans hM5 hle6⟩
end
end Go.Proofs.YtpnhjkiligohnaaGreatDoor
namespace Go.Proofs.YtpnhjkiligohnaaGreatDoor
open Go Go.Vm
attribute [local irreducible] Brn Ob Grow CallsM inR zbw zbt Mem.row Mem.cells Mem.setCells Mem.upd Go.Vm.Own zb1 zeh zdA zcx New SrcOk zaq NewSl Mem.textAt Mem.mapAt Mem.iterAt zbs kfind Wr NewEls Elems
set_option maxRecDepth 10000
open Br
theorem zQH:Reads T.zW 1 fun (_:Mem) cs (n:Int)=>cs=[.int .u8 n]∧zHb .u8 n:=Reads.int (by kernel_rfl)
theorem zMx {α:Type} {M:Mem} {a:Option Addr} {n:Nat} {R:List Value→α→Prop} {l:List α} {β:Type} (f:β→Value) (h:Elems M 1 a n R l) (hR:∀ cs x,R cs x→∃ y,cs=[f y]):∃ l':List β,SrcOk M 1 a n (l'.map f):=by
 unfold Elems at h;obtain⟨css,h1,h2,h3,h4,h5⟩:=h
 have:∃ l':List β,css.flatten=l'.map f:=by
  clear h1 h4
  induction css generalizing l n with
  | nil=>exact⟨[],rfl⟩
  | cons cs r ih=>
   match l,h3 with
   | [],h3=>simp at h2 h3;omega
   | x::l,h3=>
    obtain⟨y,hy⟩:=hR cs x (h5 0 cs x rfl rfl);obtain⟨l',hl'⟩:=ih (n:=n - 1) (l:=l) (by simp at h2;omega) (by simp at h3;omega) (fun i c z hi hz=>h5 (i+1) c z (by simpa using hi) (by simpa using hz));exact⟨y::l',by simp[hy,hl']⟩
 obtain⟨l',e⟩:=this;exact⟨l',e▸h1⟩
theorem zQI {n:Int} (h:zHb .u8 n):Value.int .u8 n=zF (UInt8.ofNat n.toNat):=by
 have:=bounds_u8 h;simp only[zF];congr 1;simp;omega
theorem zOE:Reads T.zo4 1 fun M cs (l:List UInt8)=>∃ a n c,cs=[.slice a n c]∧SrcOk M 1 a n (l.map zF)∧n≤1048576∧n≤c:=fun H enc W fuel cs d ps h hb=>by
 obtain⟨h1,l,a,n,c,h2,h3,h4⟩:=Reads.slice (t:=T.zo4) (e:=T.zW) (by kernel_rfl) (by kernel_rfl) (by decide) zQH H enc W fuel cs d ps h hb;obtain⟨l',h5⟩:=zMx zF h3 (fun cs x hx=>⟨_,hx.1.trans (by rw[zQI hx.2])⟩);exact⟨h1,l',a,n,c,h2,h5,h4⟩
end Go.Proofs.YtpnhjkiligohnaaGreatDoor
