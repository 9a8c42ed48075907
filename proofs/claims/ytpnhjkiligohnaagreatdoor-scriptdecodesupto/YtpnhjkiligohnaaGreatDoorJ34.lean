/- Part of this proof;laid by program. -/
import Derived.Test.YtpnhjkiligohnaaGreatDoorJ33
set_option linter.unusedVariables false
set_option linter.unusedSimpArgs false
namespace Go.Proofs.YtpnhjkiligohnaaGreatDoor
open Go Go.Vm
attribute [local irreducible] Brn Ob Grow CallsM inR zbw zbt Mem.row Mem.cells Mem.setCells Mem.upd Go.Vm.Own zb1 zeh zdA zcx New SrcOk zaq NewSl Mem.textAt Mem.mapAt Mem.iterAt zbs kfind Wr NewEls Elems
set_option maxRecDepth 10000
section
variable {M B B0:Mem}
def zkc (P:List UInt8) (nodes k:Nat):List (Nat×Nat):=(List.range k).map fun i=>(min (zl P (2+2*i) nodes) (zl P (3+2*i) nodes),max (zl P (2+2*i) nodes) (zl P (3+2*i) nodes))
def zfI (P:List UInt8) (nodes:Nat):Nat→Nat→List StpR
 | 0,_=>[]
 | f+1,v=>if v<P.length then (zaK P nodes v).1::zfI P nodes f (zaK P nodes v).2 else []
structure ScrR where
 nodes:Nat
 links:List (Nat×Nat)
 held:Nat
 bytes:Nat
 gaps:Nat
 disk:Nat
 seg:Nat
 win:Nat
 timer:Nat
 tries:Nat
 wait:Nat
 delay:Nat
 steps:List StpR
def ziq (P:List UInt8):ScrR:=
 let nodes:=1+zl P 0 64
 let k:=zl P 1 16
 let w:=2+2*k
 ⟨nodes,znW nodes (zkc P nodes k),zl P w 256,8*zl P (w+1) 256,zl P (w+2) 256,256+256*zl P (w+3) 256,16+zl P (w+4) 256,1+zl P (w+5) 63,1+zl P (w+6) 8,1+zl P (w+7) 4,1+zl P (w+8) 8,zl P (w+9) 4,zfI P nodes 256 (w+10)⟩
@[reducible] def zwy (S:ScrR) (ql:Option Addr) (cl:Nat) (qs:Option Addr) (cs:Nat):List Value:=[.int .i64 (S.nodes:Nat),.slice ql S.links.length cl,.int .i64 (S.held:Nat),.int .i64 (S.bytes:Nat),.int .i64 (S.gaps:Nat),.int .i64 (S.disk:Nat),.int .i64 (S.seg:Nat),.int .i64 (S.win:Nat),.int .i64 (S.timer:Nat),.int .i64 (S.tries:Nat),.int .i64 (S.wait:Nat),.int .i64 (S.delay:Nat),.slice qs S.steps.length cs]
def StpN (B0 M:Mem) (cs:List Value) (x:StpR):Prop:=∃ q c,cs=zim x q c∧SrcOk M 1 q x.data.length (x.data.map zF)∧∀ r,q=some r→B0 r.block=none∧∃ ds,M.has r.block T.zW ds
theorem zDN (P:List UInt8) (nodes k:Nat):zkc P nodes (k+1)=zkc P nodes k++[(min (zl P (2+2*k) nodes) (zl P (3+2*k) nodes),max (zl P (2+2*k) nodes) (zl P (3+2*k) nodes))]:=by unfold zkc;rw[List.range_succ,List.map_append];rfl
theorem TkAt.upd {M':Mem} {bt bp:Nat} {a:Option Addr} {n c:Nat} {P:List UInt8} {v mb:Nat} (h:TkAt B M bt bp a n c P v) (hmb:B mb=none) (hne:bt≠mb) (hM':∀ b,b≠mb→M' b=M b):TkAt B M' bt bp a n c P v:=by
 obtain⟨h1,h2,h3,h4,h5,h6⟩:=h;exact⟨fun b o hb=>(hM' b (fun e=>by rw[e,hmb] at hb;cases hb)).trans (h1 b o hb),h2,(hM' bt hne).trans h3,h4,h5,h6⟩
theorem TkAt.le {M':Mem} {bt bp:Nat} {a:Option Addr} {n c:Nat} {P:List UInt8} {v:Nat} (h:TkAt B M bt bp a n c P v) (hM':M.le M'):TkAt B M' bt bp a n c P v:=
 ⟨Mem.le_trans h.1 hM',h.2.1,hM' _ _ h.2.2.1,h.2.2.2⟩
theorem OthAt.keep {M':Mem} {mb:Nat} {oth:List (Nat×Nat)} {S:Nat→Prop} (h:OthAt M mb oth) (hk:Mem.keep S M M') (hS:¬S mb):OthAt M' mb oth:=by
 obtain⟨m,hm,h2⟩:=h;exact⟨m,hm.mono fun o ho=>hk _ _ hS ho,h2⟩
def zbg (P:List UInt8) (nodes:Nat):Nat→Nat→Nat
 | 0,v=>v
 | j+1,v=>(zaK P nodes (zbg P nodes j v)).2
def zbN (P:List UInt8) (nodes v j:Nat):List StpR:=(List.range j).map fun i=>(zaK P nodes (zbg P nodes i v)).1
theorem zfJ (P:List UInt8) (nodes v j:Nat):(zbN P nodes v j).length=j:=by simp[zbN]
theorem zyR (P:List UInt8) (nodes v j:Nat):zbN P nodes v (j+1)=zbN P nodes v j++[(zaK P nodes (zbg P nodes j v)).1]:=by unfold zbN;rw[List.range_succ,List.map_append];rfl
theorem zoU (P:List UInt8) (nodes v:Nat):∀ j,zbg P nodes (j+1) v=zbg P nodes j (zaK P nodes v).2
 | 0=>rfl
 | j+1=>by show (zaK P nodes (zbg P nodes (j+1) v)).2=_;rw[zoU P nodes v j];rfl
theorem zpj (P:List UInt8) (nodes:Nat):∀ (j f v:Nat),j≤f→(∀ i,i<j→zbg P nodes i v<P.length)→(j=f∨P.length≤zbg P nodes j v)→zfI P nodes f v=zbN P nodes v j
 | 0,0,v,_,_,_=>rfl
 | 0,f+1,v,_,_,h=>by
  have h':P.length≤v:=by rcases h with h|h; · omega
                         ·exact h
  unfold zfI;rw[if_neg (by omega)];rfl
 | j+1,0,v,h,_,_=>by omega
 | j+1,f+1,v,h,hl,he=>by
  have h0:v<P.length:=hl 0 (by omega);unfold zfI;rw[if_pos h0,zpj P nodes j f (zaK P nodes v).2 (by omega) (fun i hi=>by rw[←zoU];exact hl (i+1) (by omega)) (by rw[←zoU];omega)];unfold zbN;rw[List.range_succ_eq_map,List.map_cons,List.map_map];congr 1;refine List.map_congr_left fun i _=>?_
  show (zaK P nodes (zbg P nodes i (zaK P nodes v).2)).1=(zaK P nodes (zbg P nodes (i+1) v)).1;rw[zoU]
theorem NewSl.minus {E:TypeId} {s:Nat} {a:Option Addr} {n c:Nat} {L:List Value} {M1:Mem} {S:Nat→Prop} (h:NewSl M E s a n c L M1) (hS:∀ b,S b→M b=none) (ha:∀ p,a=some p→¬S p.block):NewSl M E s a n c L (M1.minus S):=by
 rw[newSl_iff] at h ⊢;obtain⟨h0,h1,h2,h3⟩:=h;exact⟨Mem.le_minus h0 hS,h1,h2,h3.imp id fun ⟨b,cs,hab,hb,hh,hr⟩=>⟨b,cs,hab,hb,hh.minus (ha _ hab),hr⟩⟩
theorem zqC {A B:Mem} {x:Nat} (h:A.le B) (hx:B x=none):A x=none:=by
 cases hA:A x with
 | none=>rfl
 | some o=>rw[h _ _ hA] at hx;cases hx
theorem StpN.keep {B0 M M':Mem} {cs:List Value} {x:StpR} {S:Nat→Prop} (h:StpN B0 M cs x) (hk:Mem.keep S M M') (hS:∀ b ds,M.has b T.zW ds→¬S b):StpN B0 M' cs x:=by
 obtain⟨q,c,h1,h2,h3⟩:=h;refine⟨q,c,h1,(h2.minus fun r hr=>?_).le (Mem.keep_minus.1 hk),fun r hr=>?_⟩
 ·obtain⟨_,ds,hd⟩:=h3 r hr;exact hS _ _ hd
 ·obtain⟨h4,ds,hd⟩:=h3 r hr;exact⟨h4,ds,hk _ _ (hS _ _ hd) hd⟩
set_option maxRecDepth 100000 in
theorem zR9 {a:Option Addr} {n c:Nat} {P:List UInt8} (hs:SrcOk M 1 a n (P.map zF)) (hn:n≤1048576) :
  CallsM Tryz.prog F.zae [.slice a n c] M fun u M'=>M.le M'∧∃ ql cl qs cs,u = .agg (zwy (ziq P) ql cl qs cs).toArray∧NewSl M T.zan 2 ql (ziq P).links.length cl ((ziq P).links.flatMap zio) M'∧NewEls M T.zB 5 qs (ziq P).steps.length cs (StpN M M') (ziq P).steps M':=by
 have hl:=hs.maplen;refine zy6 (by simp) ?_;(conv=>whnf);refine new (fun bt hbt=>?_);replace hbt:M bt=none:=hbt;(conv=>whnf);refine new (fun bp hbp=>?_);have hbp':(M.setCells bt T.int [.int .i64 0]) bp=none:=hbp
 have hne:bp≠bt:=by rintro rfl;simp[Mem.setCells,Mem.upd] at hbp'
 have hbpM:M bp=none:=by simpa[Mem.setCells,Mem.upd,hne] using hbp'
 obtain⟨M1,hM1⟩:∃ M1,M1=(M.setCells bt T.int [.int .i64 0]).setCells bp T.zo4 [.slice a n c]:=⟨_,rfl⟩
 have hMM1:M.le M1:=hM1▸Mem.le_trans (Mem.le_setCells hbt) (Mem.le_setCells hbp');have hp1:M1.has bp T.zo4 [.slice a n c]:=hM1▸Mem.has_setCells
 have ht1:M1.has bt T.int [.int .i64 0]:=hM1▸Mem.has.le (Mem.le_setCells hbp') Mem.has_setCells;obtain⟨B,hB⟩:∃ B,B=M1.minus fun y=>y=bt:=⟨_,rfl⟩
 have hMB:M.le B:=hB▸Mem.le_minus hMM1 (fun _ e=>e▸hbt);have hTk1:TkAt B M1 bt bp a n c P 0:=⟨hB▸Mem.minus_le _ _,hB▸Mem.minus_in rfl,by simpa using ht1,hB▸hp1.minus hne,hs.le hMB,hn⟩
 (conv=>whnf);erw [←hM1];refine(zC hTk1 (m:=64) (by decide) (by decide)).mono ?_;rintro u M2 ⟨rfl,h2,hk2⟩;have hr2:=zO (P:=P) (v:=0) (m:=64) (by decide)
 obtain⟨nodes,hnodes⟩:∃ nodes,nodes=1+zl P 0 64:=⟨_,rfl⟩
 (conv=>whnf);refine ob (zs (by first|omega|(dsimp only;omega))) ?_;rw[show (1:Int)+((zl P 0 64:Nat):Int)=((nodes:Nat):Int) by omega];refine zR ?_;(conv=>whnf);refine new (fun mb hmb=>?_);replace hmb:M2 mb=none:=hmb
 have hbtm:bt≠mb:=by
  rintro rfl;obtain⟨_,_,hh,_⟩:=h2;rw[show M2 bt=_ from hh] at hmb;cases hmb
 have hBmb:B mb=none:=by
  cases hx:B mb with
  | none=>rfl
  | some o=>rw[h2.1 mb o hx] at hmb;cases hmb
 obtain⟨M3,hM3⟩:∃ M3,M3=M2.upd mb (.map #[] 0):=⟨_,rfl⟩
 have hO3:OthAt M3 mb (zkc P nodes 0):=⟨[],hM3▸MapAt.new M2 mb,fun p=>by simp[zaI,zkc]⟩
 have h3:TkAt B M3 bt bp a n c P 1:=h2.upd hBmb hbtm (hM3▸fun b hb=>Mem.upd_ne _ _ hb);(conv=>whnf)
 erw [←hM3];refine(zC h3 (m:=16) (by decide) (by decide)).mono ?_;rintro u M4 ⟨rfl,h4,hk4⟩;have hO4:=hO3.keep hk4 (fun e=>hbtm e.symm)
 have hr4:=zO (P:=P) (v:=1) (m:=16) (by decide);(conv=>whnf)
 refine zbG (σ:=Nat×Mem) [17] (fun y=>[(17,.int .i64 y.1)]) (fun y=>[BE.gone bp,BE.live T.zed [SC.v (S.i 0),SC.v S.sn,SC.v (S.i 0),SC.v (S.i 0),SC.v (S.i 0),SC.v (S.i 0),SC.v (S.i 0),SC.v (S.i 0),SC.v (S.i 0),SC.v (S.i 0),SC.v (S.i 0),SC.v (S.i 0),SC.v S.sn],BE.gone bt,BE.live T.zed [SC.v (.int .i64 nodes),SC.v S.sn,SC.v (S.i 0),SC.v (S.i 0),SC.v (S.i 0),SC.v (S.i 0),SC.v (S.i 0),SC.v (S.i 0),SC.v (S.i 0),SC.v (S.i 0),SC.v (S.i 0),SC.v (S.i 0),SC.v S.sn]]) (fun y=>y.2)
  (fun|⟨i,Mc⟩=>i≤zl P 1 16∧TkAt B Mc bt bp a n c P (2+2*i)∧OthAt Mc mb (zkc P nodes i)) (fun y=>zl P 1 16 - y.1) ⟨0,M4⟩ ⟨by omega,h4,hO4⟩ zS ?_
 rintro ⟨i,Mc⟩ ⟨hi,hT,hO⟩;(conv=>whnf);refine brn (fun g=>?_) (fun g=>?_)
 ·have g':i<zl P 1 16:=by have:=Zd0 g;dsimp only at this;omega
  refine zX ?_;refine⟨Mc.minus fun y=>y=bt,Mem.minus_le _ _,?_⟩;refine zR ?_;refine(zC hT (m:=nodes) (by omega) (by omega)).mono ?_;rintro u M5 ⟨rfl,h5,hk5⟩;refine zT (Mem.keep_minus.1 hk5) ?_;refine zR ?_;refine(zC h5 (m:=nodes) (by omega) (by omega)).mono ?_;rintro u M6 ⟨rfl,h6,hk6⟩;have hO6:=(hO.keep hk5 (fun e=>hbtm e.symm)).keep hk6 (fun e=>hbtm e.symm)
  obtain⟨m,hmA,hmg⟩:=hO6;(conv=>whnf)
  obtain⟨x,hx⟩:∃ x,x=min (zl P (2+2*i) nodes) (zl P (2+2*i+1) nodes):=⟨_,rfl⟩
  obtain⟨y,hy⟩:∃ y,y=max (zl P (2+2*i) nodes) (zl P (2+2*i+1) nodes):=⟨_,rfl⟩
  rw[show min ((zl P (2+2*i) nodes:Nat):Int) ((zl P (2+2*i+1) nodes:Nat):Int)=((x:Nat):Int) by omega,show max ((zl P (2+2*i) nodes:Nat):Int) ((zl P (2+2*i+1) nodes:Nat):Int)=((y:Nat):Int) by omega];refine hmA.put zIz (x,y) true fun p f hm=>?_
  obtain⟨M7,hM7⟩:∃ M7,M7=M6.upd mb (mput p f (kvL (x,y)) (vvB true)):=⟨_,rfl⟩
  have h7:TkAt B M7 bt bp a n c P (2+2*i+1+1):=h6.upd hBmb hbtm (fun b hb=>by rw[hM7];exact Mem.upd_ne _ _ hb)
  have hO7:OthAt M7 mb (zkc P nodes (i+1)):=by
   refine⟨_,hM7▸hm M6,fun z=>?_⟩;rw[zLu,hmg,zDN];simp only[List.mem_append,List.mem_singleton];by_cases hz:z=(x,y)
   ·rw[if_pos hz,if_pos (.inr (by rw[hz,hx,hy,show 3+2*i=2+2*i+1 by omega]))]
   ·rw[if_neg hz];by_cases hz2:z∈zkc P nodes i
    ·rw[if_pos hz2,if_pos (.inl hz2)]
    ·rw[if_neg hz2,if_neg];rintro (h|h)
     ·exact hz2 h
     ·exact hz (by rw[h,hx,hy,show 3+2*i=2+2*i+1 by omega])
  (conv=>whnf);erw [←hM7];(conv=>whnf);refine ob (zs (by first|omega|(dsimp only;omega))) ?_;(conv=>whnf)
  refine⟨⟨i+1,M7⟩,⟨by omega,?_,hO7⟩,by dsimp only;omega,?_⟩
  ·rw[show 2+2*(i+1)=2+2*i+1+1 by omega];exact h7
  ·exact zS
 ·have g':i=zl P 1 16:=by have:=Zd1 g;dsimp only at this;omega
  subst g';have hnd:nodes≤64:=by omega
  (conv=>whnf);refine(zOz hO hnd).mono ?_;rintro u M5 ⟨ql,cl,rfl,hL⟩;have h5:=hT.le hL.le
  have hL':=hL.mono (Mem.le_trans hMB hT.1);obtain⟨L,hL0⟩:∃ L,L=znW nodes (zkc P nodes (zl P 1 16)):=⟨_,rfl⟩
  rw[←hL0] at hL';erw [←hL0];obtain⟨w,hw⟩:∃ w,w=2+2*zl P 1 16:=⟨_,rfl⟩
  rw[←hw] at h5;have k0:Mem.keep (fun y=>y=bt) M5 M5:=Mem.keep_refl _ _
  obtain⟨t0,e0⟩:∃ t,t=zl P w 256:=⟨_,rfl⟩
  have r0:=zO (P:=P) (v:=w) (m:=256) (by decide);rw[←e0] at r0;(conv=>whnf)
  refine(zC h5 (m:=256) (by decide) (by decide)).mono ?_;rintro u N0 ⟨rfl,h10,kk0⟩;have k1:=Mem.keep_trans k0 kk0
  rw[←e0];obtain⟨t1,e1⟩:∃ t,t=zl P (w+1) 256:=⟨_,rfl⟩
  have r1:=zO (P:=P) (v:=w+1) (m:=256) (by decide);rw[←e1] at r1;(conv=>whnf)
  refine(zC h10 (m:=256) (by decide) (by decide)).mono ?_;rintro u N1 ⟨rfl,h11,kk1⟩;have k2:=Mem.keep_trans k1 kk1
  rw[←e1];(conv=>whnf);refine ob (zs (by first|omega|(dsimp only;omega))) ?_;obtain⟨t2,e2⟩:∃ t,t=zl P (w+2) 256:=⟨_,rfl⟩
  have r2:=zO (P:=P) (v:=w+2) (m:=256) (by decide);rw[←e2] at r2;(conv=>whnf)
  refine(zC h11 (m:=256) (by decide) (by decide)).mono ?_;rintro u N2 ⟨rfl,h12,kk2⟩;have k3:=Mem.keep_trans k2 kk2
  rw[←e2];obtain⟨t3,e3⟩:∃ t,t=zl P (w+3) 256:=⟨_,rfl⟩
  have r3:=zO (P:=P) (v:=w+3) (m:=256) (by decide);rw[←e3] at r3;(conv=>whnf)
  refine(zC h12 (m:=256) (by decide) (by decide)).mono ?_;rintro u N3 ⟨rfl,h13,kk3⟩;have k4:=Mem.keep_trans k3 kk3
  rw[←e3];(conv=>whnf);refine ob (zs (by first|omega|(dsimp only;omega))) ?_;(conv=>whnf);refine ob (zs (by first|omega|(dsimp only;omega))) ?_;obtain⟨t4,e4⟩:∃ t,t=zl P (w+4) 256:=⟨_,rfl⟩
  have r4:=zO (P:=P) (v:=w+4) (m:=256) (by decide);rw[←e4] at r4;(conv=>whnf)
  refine(zC h13 (m:=256) (by decide) (by decide)).mono ?_;rintro u N4 ⟨rfl,h14,kk4⟩;have k5:=Mem.keep_trans k4 kk4
  rw[←e4];(conv=>whnf);refine ob (zs (by first|omega|(dsimp only;omega))) ?_;obtain⟨t5,e5⟩:∃ t,t=zl P (w+5) 63:=⟨_,rfl⟩
  have r5:=zO (P:=P) (v:=w+5) (m:=63) (by decide);rw[←e5] at r5;(conv=>whnf)
  refine(zC h14 (m:=63) (by decide) (by decide)).mono ?_;rintro u N5 ⟨rfl,h15,kk5⟩;have k6:=Mem.keep_trans k5 kk5
  rw[←e5];(conv=>whnf);refine ob (zs (by first|omega|(dsimp only;omega))) ?_;obtain⟨t6,e6⟩:∃ t,t=zl P (w+6) 8:=⟨_,rfl⟩
  have r6:=zO (P:=P) (v:=w+6) (m:=8) (by decide);rw[←e6] at r6;(conv=>whnf)
  refine(zC h15 (m:=8) (by decide) (by decide)).mono ?_;rintro u N6 ⟨rfl,h16,kk6⟩;have k7:=Mem.keep_trans k6 kk6
  rw[←e6];(conv=>whnf);refine ob (zs (by first|omega|(dsimp only;omega))) ?_;obtain⟨t7,e7⟩:∃ t,t=zl P (w+7) 4:=⟨_,rfl⟩
  have r7:=zO (P:=P) (v:=w+7) (m:=4) (by decide);rw[←e7] at r7;(conv=>whnf)
  refine(zC h16 (m:=4) (by decide) (by decide)).mono ?_;rintro u N7 ⟨rfl,h17,kk7⟩;have k8:=Mem.keep_trans k7 kk7
  rw[←e7];(conv=>whnf);refine ob (zs (by first|omega|(dsimp only;omega))) ?_;obtain⟨t8,e8⟩:∃ t,t=zl P (w+8) 8:=⟨_,rfl⟩
  have r8:=zO (P:=P) (v:=w+8) (m:=8) (by decide);rw[←e8] at r8;(conv=>whnf)
  refine(zC h17 (m:=8) (by decide) (by decide)).mono ?_;rintro u N8 ⟨rfl,h18,kk8⟩;have k9:=Mem.keep_trans k8 kk8
  rw[←e8];(conv=>whnf);refine ob (zs (by first|omega|(dsimp only;omega))) ?_;obtain⟨t9,e9⟩:∃ t,t=zl P (w+9) 4:=⟨_,rfl⟩
  have r9:=zO (P:=P) (v:=w+9) (m:=4) (by decide);rw[←e9] at r9;(conv=>whnf)
  refine(zC h18 (m:=4) (by decide) (by decide)).mono ?_;rintro u N9 ⟨rfl,h19,kk9⟩;have k10:=Mem.keep_trans k9 kk9
  rw[←e9];(conv=>whnf)
  obtain⟨A,hA⟩:∃ A,A=N9.minus fun y=>y=bt:=⟨_,rfl⟩
  have hBA:B.le A:=hA▸Mem.le_minus h19.1 (fun _ e=>e▸h19.2.1);have hAbt:A bt=none:=hA▸Mem.minus_in rfl
  have hLA:NewSl M T.zan 2 ql L.length cl (L.flatMap zio) A:=by
   have hne:∀ q,ql=some q→¬q.block=bt:=fun q hq e=>by
    obtain⟨_,cs,hc⟩:=hL'.block hq;rw[e] at hc;exact absurd (hc.inj h5.2.2.1).1 (by decide)
   have:=hL'.keep k10 (fun _ e=>e▸hbt) hne;exact hA▸NewSl.minus this (fun _ e=>e▸hbt) hne
  obtain⟨w0,hw0⟩:∃ w0,w0=w+9+1:=⟨_,rfl⟩
  rw[←hw0] at h19
  refine zbG (σ:=Nat×Mem×Option Addr×Nat) [] (fun y=>[]) (fun y=>[BE.gone bp,BE.live T.zed [SC.v (S.i 0),SC.v S.sn,SC.v (S.i 0),SC.v (S.i 0),SC.v (S.i 0),SC.v (S.i 0),SC.v (S.i 0),SC.v (S.i 0),SC.v (S.i 0),SC.v (S.i 0),SC.v (S.i 0),SC.v (S.i 0),SC.v S.sn],BE.gone bt,BE.live T.zed [SC.v (.int .i64 nodes),SC.v (.slice ql L.length cl),SC.v (.int .i64 t0),SC.v (.int .i64 (8*t1)),SC.v (.int .i64 t2),SC.v (.int .i64 (256+256*t3)),SC.v (.int .i64 (16+t4)),SC.v (.int .i64 (1+t5)),SC.v (.int .i64 (1+t6)),SC.v (.int .i64 (1+t7)),SC.v (.int .i64 (1+t8)),SC.v (.int .i64 t9),SC.v (.slice y.2.2.1 y.1 y.2.2.2)]]) (fun y=>y.2.1)
   (fun|⟨j,Mc,q,cq⟩=>j≤256∧TkAt B Mc bt bp a n c P (zbg P nodes j w0)∧NewEls A T.zB 5 q j cq (StpN A Mc) (zbN P nodes w0 j) Mc∧∀ i,i<j→zbg P nodes i w0<P.length) (fun y=>256 - y.1) ⟨0,N9,none,0⟩ ⟨by omega,h19,(NewEls.nil _ _ _ _).up (hA▸Mem.minus_le _ _),by omega⟩ zS ?_
  rintro ⟨j,Mc,q,cq⟩ ⟨hj,hT,hE,hlt⟩;have hj0:(zbg P nodes j w0<P.length∧j<256)∨(j=256∨P.length≤zbg P nodes j w0):=by omega
  refine on (hT.2.2.1.c1 rfl) ?_;(conv=>whnf)
  refine on ((hT.2.2.2.1.le hT.1).c1 rfl) ?_;(conv=>whnf)
  (conv=>whnf);refine brn (fun g=>?_) (fun g=>?_)
  ·have g':=Zd0 g;have hv:zbg P nodes j w0<P.length:=by omega
   (conv=>whnf);refine brn (fun f=>?_) (fun f=>?_)
   ·have f':j<256:=by have:=Zd0 f;dsimp only at this;omega
    refine zX ?_;refine⟨A,hE.le,?_⟩;refine zR ?_;refine(zQC hT (nodes:=nodes) (by omega) (by omega)).mono ?_;rintro u M7 ⟨qd,cd,rfl,h7,hk7,hd⟩;have hA7:A.le M7:=hk7.le hE.le (fun _ e=>e▸hAbt)
    have hqb:∀ p,q=some p→¬p.block=bt:=fun p hp e=>by
     obtain⟨_,cs,hc⟩:=hE.block hp;rw[e] at hc;exact absurd (hc.inj hT.2.2.1).1 (by decide)
    have hE7:NewEls A T.zB 5 q j cq (StpN A M7) (zbN P nodes w0 j) M7:=(hE.keep hk7 (fun _ e=>e▸hAbt) hqb).imp fun cs x _ hx=>hx.keep hk7 fun b ds hb e=>by
     rw[e] at hb;exact absurd (hb.inj hT.2.2.1).1 (by decide)
    have hAm:A.le (Mc.minus fun y=>y=bt):=Mem.le_minus hE.le (fun _ e=>e▸hAbt);have hx:StpN A M7 (zim (zaK P nodes (zbg P nodes j w0)).1 qd cd) (zaK P nodes (zbg P nodes j w0)).1:=⟨qd,cd,rfl,hd.src,fun r hr=>⟨zqC hAm (hd.block hr).1,(hd.block hr).2⟩⟩
    refine zT (hA7) ?_;(conv=>whnf)
    refine zRd A hE7 _ hx rfl (by dsimp only;omega) (by dsimp only;simp[maxLen];omega) (by simp[Value.oneCell']) fun q8 c8 M8 hE8 hk8=>?_
    have hn8:∀ b E ds,M7.has b E ds→E≠T.zB→¬blk q b:=fun b E ds hb hE' ⟨p,hp,e⟩=>by
     obtain⟨_,cs,hc⟩:=hE7.block hp;rw[e] at hc;exact hE' (hc.inj hb).1.symm
    have h8:TkAt B M8 bt bp a n c P (zbg P nodes (j+1) w0):=⟨Mem.le_trans hBA hE8.le,h7.2.1,hk8 _ _ (hn8 _ _ _ h7.2.2.1 (by decide)) h7.2.2.1,h7.2.2.2⟩
    have hE9:NewEls A T.zB 5 q8 (j+1) c8 (StpN A M8) (zbN P nodes w0 (j+1)) M8:=by
     rw[zyR];exact hE8.imp fun cs x _ hx=>hx.keep hk8 fun b ds hb=>hn8 _ _ _ hb (by decide)
    refine zT (hE8.le) ?_;refine zR ?_;(conv=>whnf)
    refine⟨⟨j+1,M8,q8,c8⟩,⟨by omega,h8,hE9,fun i hi=>?_⟩,by dsimp only;omega,zS⟩;by_cases hij:i=j
    ·rw[hij];exact hv
    ·exact hlt i (by omega)
   ·have f':j=256:=by have:=Zd1 f;dsimp only at this;omega
    have hst:zbN P nodes w0 j=zfI P nodes 256 w0:=(zpj P nodes j 256 w0 hj hlt (.inl f')).symm
    have hdec:ziq P=⟨nodes,L,t0,8*t1,t2,256+256*t3,16+t4,1+t5,1+t6,1+t7,1+t8,t9,zbN P nodes w0 j⟩:=by
     rw[hst];subst hnodes hL0 e0 e1 e2 e3 e4 e5 e6 e7 e8 e9 hw0 hw;rfl
    rw[hdec];(conv=>whnf)
    refine⟨Mem.le_trans hMB hT.1,ql,cl,q,cq,?_,hLA.up hE.le,?_⟩
    ·simp[zwy,zfJ]
    ·dsimp only;rw[zfJ];exact(hE.mono hLA.le).imp fun cs x _ ⟨q',c',h1,h2,h3⟩=>⟨q',c',h1,h2,fun r hr=>⟨zqC hLA.le (h3 r hr).1,(h3 r hr).2⟩⟩
  ·have g':=Zd1 g;have hst:zbN P nodes w0 j=zfI P nodes 256 w0:=(zpj P nodes j 256 w0 hj hlt (.inr (by omega))).symm
   have hdec:ziq P=⟨nodes,L,t0,8*t1,t2,256+256*t3,16+t4,1+t5,1+t6,1+t7,1+t8,t9,zbN P nodes w0 j⟩:=by
    rw[hst];subst hnodes hL0 e0 e1 e2 e3 e4 e5 e6 e7 e8 e9 hw0 hw;rfl
   rw[hdec];(conv=>whnf)
   refine⟨Mem.le_trans hMB hT.1,ql,cl,q,cq,?_,hLA.up hE.le,?_⟩
   ·simp[zwy,zfJ]
   ·dsimp only;rw[zfJ];exact(hE.mono hLA.le).imp fun cs x _ ⟨q',c',h1,h2,h3⟩=>⟨q',c',h1,h2,fun r hr=>⟨zqC hLA.le (h3 r hr).1,(h3 r hr).2⟩⟩
end
section
variable {M B B0:Mem}
@[reducible] def zkd (a:Option Addr) (n c v:Nat):Value := .agg #[.slice a n c,.int .i64 (min v n:Nat)]
theorem zag {a:Option Addr} {n c:Nat} {P:List UInt8} (hs:SrcOk M 1 a n (P.map zF)) (hn:n≤1048576) (v:Nat) {m:Nat} (hm:0<m) (hm2:m≤1000000) :
  CallsM Tryz.prog F.zu [zkd a n c v,.int .i64 m] M fun u M'=>u = .tuple #[zkd a n c (v+1),.int .i64 (zl P v m:Nat)]∧M'=M:=by
 have hl:=hs.maplen;unfold zkd;obtain⟨w,hw⟩:∃ w:Nat,w=min v n:=⟨_,rfl⟩
 rw[←hw];refine zDY (by simp) ?_;(conv=>whnf);refine brn (fun g=>?_) (fun g=>?_)
 ·have g':=Zd0 g;have e0:zl P v m=0:=by unfold zl;rw[List.getD_eq_getElem?_getD,List.getElem?_eq_none (by omega)];simp
  (conv=>whnf);refine⟨?_,rfl⟩;rw[e0,show min (v+1) n=w by omega];rfl
 ·have g':=Zd1 g;have hv:v<n:=by omega
  have e1:w=v:=by omega
  subst e1;obtain⟨hk,b2,o2,ha2,hr2⟩:=hs.at hv;have e0:zl P w m=P[w].toNat % m:=by unfold zl;rw[List.getD_eq_getElem?_getD,List.getElem?_eq_getElem hk];rfl
  generalize P[w]=x at *;have hx:=UInt8.toNat_lt x
  refine zX ?_;refine⟨[1],M,Mem.le_refl _,fun d=>?_⟩;(conv=>whnf)
  refine ob (zs (by first|omega|(dsimp only;omega))) ?_;(conv=>whnf);refine ob (by first|omega|(dsimp only;omega)) ?_;(conv=>whnf);refine atp ha2 ?_;(conv=>whnf);refine on hr2 ?_;(conv=>whnf);refine ob (by omega) ?_;refine zT (Mem.le_refl M) ?_;(conv=>whnf)
  refine⟨?_,rfl⟩;rw[e0,show min (w+1) n=w+1 by omega,show IntKind.i64.wrap (x.toNat:Int)=((x.toNat:Nat):Int) by rw[IntKind.wrap_i64];omega];rfl
theorem zHc {a:Option Addr} {n c:Nat} {P:List UInt8} (hs:SrcOk M 1 a n (P.map zF)) (hn:n≤1048576) (v:Nat) {k:Nat} (hk:k≤64) :
  CallsM Tryz.prog F.zgD [zkd a n c v,.int .i64 k] M fun u M'=>∃ q cq,u = .tuple #[zkd a n c (v+k),.slice q k cq]∧NewSl M T.zW 1 q k cq ((zaP P v k).map zF) M':=by
 refine zEd (by simp) ?_;(conv=>whnf)
 refine zbG (σ:=Nat×Mem×Option Addr×Nat) [7,6,9] (fun y=>[(7,.int .i64 y.1),(6,.slice y.2.2.1 y.1 y.2.2.2)]) (fun y=>[BE.live T.zaw [SC.v (.slice a n c),SC.v (.int .i64 (min (v+y.1) n:Nat))],BE.live T.zaw [SC.v S.sn,SC.v (S.i 0)]]) (fun y=>y.2.1)
  (fun|⟨i,Mc,q,cq⟩=>i≤k∧NewSl M T.zW 1 q i cq ((zaP P v i).map zF) Mc) (fun y=>k - y.1) ⟨0,M,none,0⟩ ⟨by omega,NewSl.none _ _ _⟩ zS ?_
 rintro ⟨i,Mc,q,cq⟩ ⟨hi,hN⟩;(conv=>whnf);refine brn (fun g=>?_) (fun g=>?_)
 ·have g':i<k:=by have:=Zd0 g;dsimp only at this;omega
  (conv=>whnf);refine(zag (hs.le hN.le) hn (v+i) (m:=256) (by decide) (by decide)).mono ?_;rintro u M5 ⟨rfl,rfl⟩;(conv=>whnf)
  refine appK _ _ hN (by first|omega|(dsimp only;omega)) (by unfold maxLen;dsimp only;omega) (by intro u hu;simp at hu;subst hu;rfl) (fun q6 c6 M6 h6 hk6=>?_);erw [show [Value.int IntKind.u8 (IntKind.u8.wrap ((zl P (v+i) 256:Nat):Int))]=[P.getD (v+i) 0].map zF from congrArg (fun v=>[v]) (zdV P (v+i))] at h6;rw[←List.map_append,←za7] at h6;(conv=>whnf);refine ob (zs (by first|omega|(dsimp only;omega))) ?_;(conv=>whnf)
  exact⟨⟨i+1,M6,q6,c6⟩,⟨by omega,h6⟩,by dsimp only;omega,zS⟩
 ·have g':i=k:=by have:=Zd1 g;dsimp only at this;omega
  subst g';(conv=>whnf)
  exact⟨q,cq,rfl,hN⟩
@[reducible] def zSa (k nd to nn:Nat):Value := .agg #[.int .i64 k,.int .i64 nd,.int .i64 to,.int .i64 nn,.slice none 0 0]
theorem zHd {a:Option Addr} {n c:Nat} {P:List UInt8} (hs:SrcOk M 1 a n (P.map zF)) (hn:n≤1048576) (v kd nd to nn:Nat) {m:Nat} (hm:0<m) (hm2:m≤64) :
  CallsM Tryz.prog F.zgC [zkd a n c v,zSa kd nd to nn,.int .i64 m] M fun u M'=>∃ q cq,u = .tuple #[zkd a n c (v+1+zl P v m),.agg #[.int .i64 kd,.int .i64 nd,.int .i64 to,.int .i64 nn,.slice q (zl P v m) cq]]∧NewSl M T.zW 1 q (zl P v m) cq ((zaP P (v+1) (zl P v m)).map zF) M':=by
 have hr:=zO (P:=P) (v:=v) (m:=m) hm;refine zD9 (by simp) ?_;(conv=>whnf)
 refine(zag hs hn v hm (by omega)).mono ?_;rintro u _ ⟨rfl,rfl⟩;(conv=>whnf)
 refine(zHc hs hn (v+1) (k:=zl P v m) (by omega)).mono ?_;rintro u M2 ⟨q,cq,rfl,hN⟩;(conv=>whnf)
 refine⟨[2,3],M2,Mem.le_refl _,fun d=>?_⟩;(conv=>whnf)
 refine zT (Mem.le_refl M2) ?_;(conv=>whnf)
 exact⟨q,cq,rfl,hN⟩
theorem zAr {a:Option Addr} {n c:Nat} {P:List UInt8} (hs:SrcOk M 1 a n (P.map zF)) (hn:n≤1048576) (v kd nd nodes:Nat) (hN:0<nodes) (hN2:nodes≤64) :
  CallsM Tryz.prog F.znp [zkd a n c v,zSa kd nd 0 0,.int .i64 nodes] M fun u M'=>∃ q cq k,k=(if kd=4 then 0 else 1)∧u = .tuple #[zkd a n c (v+2+k),.agg #[.int .i64 kd,.int .i64 nd,.int .i64 (zl P v nodes:Nat),.int .i64 (zl P (v+1) 256:Nat),.slice q k cq]]∧NewSl M T.zW 1 q k cq ((zaP P (v+2) k).map zF) M':=by
 refine zEa (by simp) ?_;(conv=>whnf)
 refine(zag hs hn v hN (by omega)).mono ?_;rintro u _ ⟨rfl,rfl⟩;(conv=>whnf)
 refine(zag hs hn (v+1) (m:=256) (by decide) (by decide)).mono ?_;rintro u _ ⟨rfl,rfl⟩;(conv=>whnf);refine brn (fun g=>?_) (fun g=>?_)
 ·have g':=Zd0 g;(conv=>whnf)
  refine⟨[2,3],_,Mem.le_refl _,fun d=>?_⟩;(conv=>whnf)
  refine zU ?_;(conv=>whnf)
  exact⟨none,0,0,by rw[if_pos (by omega)],rfl,NewSl.none _ _ _⟩
 ·have g':=Zd1 g;(conv=>whnf)
  refine(zHc hs hn (v+2) (k:=1) (by omega)).mono ?_;rintro u M2 ⟨q,cq,rfl,hN⟩;(conv=>whnf)
  refine⟨[2,3],M2,Mem.le_refl _,fun d=>?_⟩;(conv=>whnf)
  refine zT (Mem.le_refl M2) ?_;(conv=>whnf)
  exact⟨q,cq,1,by rw[if_neg (by omega)],rfl,hN⟩
theorem zOA {a:Option Addr} {n c:Nat} {P:List UInt8} (hs:SrcOk M 1 a n (P.map zF)) (hn:n≤1048576) (v nodes:Nat) (hN:0<nodes) (hN2:nodes≤64) :
  CallsM Tryz.prog F.zjL [zkd a n c v,.int .i64 nodes] M fun u M'=>∃ q cq,u = .tuple #[zkd a n c (zaK P nodes v).2,.agg (zim (zaK P nodes v).1 q cq).toArray] ∧
   NewSl M T.zW 1 q (zaK P nodes v).1.data.length cq ((zaK P nodes v).1.data.map zF) M':=by
 obtain⟨r,hr0⟩:∃ r,r=zl P v 12:=⟨_,rfl⟩
 have hr:=zO (P:=P) (v:=v) (m:=12) (by decide);have hst:zaK P nodes v=zaU P nodes v r:=by unfold zaK;rw[hr0]
 rw[hst];refine zD1 (by simp) ?_;(conv=>whnf)
 refine(zag hs hn v (m:=12) (by decide) (by decide)).mono ?_;rintro u _ ⟨rfl,rfl⟩;rw[←hr0] at hr ⊢;(conv=>whnf);refine ob (zs (by first|omega|(dsimp only;omega))) ?_;have hc:r=0∨r=1∨r=2∨r=3∨r=4∨r=5∨r=6∨r=7∨r=8∨r=9∨r=10∨r=11:=by omega
 rcases hc with rfl|rfl|rfl|rfl|rfl|rfl|rfl|rfl|rfl|rfl|rfl|rfl
 ·skip
  repeat' ((conv=>whnf);first|refine brn_t rfl ?_|refine brn_f rfl ?_|refine ob rfl ?_|refine ob (by decide) ?_|refine brn_t (by kernel_rfl) ?_|refine brn_f (by kernel_rfl) ?_|fail)
  refine(zag hs hn (v+1) (m:=nodes) hN (by omega)).mono ?_;rintro u _ ⟨rfl,rfl⟩
  repeat' ((conv=>whnf);first|refine brn_t rfl ?_|refine brn_f rfl ?_|refine ob rfl ?_|refine ob (by decide) ?_|refine brn_t (by kernel_rfl) ?_|refine brn_f (by kernel_rfl) ?_|fail)
  refine(zag hs hn (v+2) (m:=256) (by decide) (by decide)).mono ?_;rintro u _ ⟨rfl,rfl⟩
  repeat' ((conv=>whnf);first|refine brn_t rfl ?_|refine brn_f rfl ?_|refine ob rfl ?_|refine ob (by decide) ?_|refine brn_t (by kernel_rfl) ?_|refine brn_f (by kernel_rfl) ?_|fail)
  refine(zHd hs hn (v+3) 1 (zl P (v+1) nodes) (zl P (v+2) 256) 0 (m:=64) (by decide) (by decide)).mono ?_;rintro u M2 ⟨q,cq,rfl,hN⟩
  repeat' ((conv=>whnf);first|refine brn_t rfl ?_|refine brn_f rfl ?_|refine ob rfl ?_|refine ob (by decide) ?_|refine brn_t (by kernel_rfl) ?_|refine brn_f (by kernel_rfl) ?_|fail)
  exact⟨q,cq,by simp[zaU,zim,zJ],by simpa[zaU,zJ] using hN⟩
 ·skip
  repeat' ((conv=>whnf);first|refine brn_t rfl ?_|refine brn_f rfl ?_|refine ob rfl ?_|refine ob (by decide) ?_|refine brn_t (by kernel_rfl) ?_|refine brn_f (by kernel_rfl) ?_|fail)
  refine(zag hs hn (v+1) (m:=nodes) hN (by omega)).mono ?_;rintro u _ ⟨rfl,rfl⟩
  repeat' ((conv=>whnf);first|refine brn_t rfl ?_|refine brn_f rfl ?_|refine ob rfl ?_|refine ob (by decide) ?_|refine brn_t (by kernel_rfl) ?_|refine brn_f (by kernel_rfl) ?_|fail)
  refine⟨[1,2],_,Mem.le_refl _,fun d=>?_⟩
  repeat' ((conv=>whnf);first|refine brn_t rfl ?_|refine brn_f rfl ?_|refine ob rfl ?_|refine ob (by decide) ?_|refine brn_t (by kernel_rfl) ?_|refine brn_f (by kernel_rfl) ?_|fail)
  refine zU ?_
  repeat' ((conv=>whnf);first|refine brn_t rfl ?_|refine brn_f rfl ?_|refine ob rfl ?_|refine ob (by decide) ?_|refine brn_t (by kernel_rfl) ?_|refine brn_f (by kernel_rfl) ?_|fail)
  exact⟨none,0,rfl,NewSl.none _ _ _⟩
 ·skip
  repeat' ((conv=>whnf);first|refine brn_t rfl ?_|refine brn_f rfl ?_|refine ob rfl ?_|refine ob (by decide) ?_|refine brn_t (by kernel_rfl) ?_|refine brn_f (by kernel_rfl) ?_|fail)
  refine⟨[1,2],_,Mem.le_refl _,fun d=>?_⟩
  repeat' ((conv=>whnf);first|refine brn_t rfl ?_|refine brn_f rfl ?_|refine ob rfl ?_|refine ob (by decide) ?_|refine brn_t (by kernel_rfl) ?_|refine brn_f (by kernel_rfl) ?_|fail)
  refine zU ?_
  repeat' ((conv=>whnf);first|refine brn_t rfl ?_|refine brn_f rfl ?_|refine ob rfl ?_|refine ob (by decide) ?_|refine brn_t (by kernel_rfl) ?_|refine brn_f (by kernel_rfl) ?_|fail)
  exact⟨none,0,rfl,NewSl.none _ _ _⟩
 ·skip
  repeat' ((conv=>whnf);first|refine brn_t rfl ?_|refine brn_f rfl ?_|refine ob rfl ?_|refine ob (by decide) ?_|refine brn_t (by kernel_rfl) ?_|refine brn_f (by kernel_rfl) ?_|fail)
  refine(zag hs hn (v+1) (m:=nodes) hN (by omega)).mono ?_;rintro u _ ⟨rfl,rfl⟩
  repeat' ((conv=>whnf);first|refine brn_t rfl ?_|refine brn_f rfl ?_|refine ob rfl ?_|refine ob (by decide) ?_|refine brn_t (by kernel_rfl) ?_|refine brn_f (by kernel_rfl) ?_|fail)
  refine(zAr hs hn (v+2) 4 (zl P (v+1) nodes) nodes hN hN2).mono ?_;rintro u M2 ⟨q,cq,k,hk,rfl,hN⟩;have hk':k=0:=by rw[hk];rfl
  subst hk'
  repeat' ((conv=>whnf);first|refine brn_t rfl ?_|refine brn_f rfl ?_|refine ob rfl ?_|refine ob (by decide) ?_|refine brn_t (by kernel_rfl) ?_|refine brn_f (by kernel_rfl) ?_|fail)
  exact⟨q,cq,rfl,hN⟩
 ·skip
  repeat' ((conv=>whnf);first|refine brn_t rfl ?_|refine brn_f rfl ?_|refine ob rfl ?_|refine ob (by decide) ?_|refine brn_t (by kernel_rfl) ?_|refine brn_f (by kernel_rfl) ?_|fail)
  refine(zag hs hn (v+1) (m:=nodes) hN (by omega)).mono ?_;rintro u _ ⟨rfl,rfl⟩
  repeat' ((conv=>whnf);first|refine brn_t rfl ?_|refine brn_f rfl ?_|refine ob rfl ?_|refine ob (by decide) ?_|refine brn_t (by kernel_rfl) ?_|refine brn_f (by kernel_rfl) ?_|fail)
  refine(zAr hs hn (v+2) 5 (zl P (v+1) nodes) nodes hN hN2).mono ?_;rintro u M2 ⟨q,cq,k,hk,rfl,hN⟩;have hk':k=1:=by rw[hk];rfl
  subst hk'
  repeat' ((conv=>whnf);first|refine brn_t rfl ?_|refine brn_f rfl ?_|refine ob rfl ?_|refine ob (by decide) ?_|refine brn_t (by kernel_rfl) ?_|refine brn_f (by kernel_rfl) ?_|fail)
  exact⟨q,cq,rfl,hN⟩
 ·skip
  repeat' ((conv=>whnf);first|refine brn_t rfl ?_|refine brn_f rfl ?_|refine ob rfl ?_|refine ob (by decide) ?_|refine brn_t (by kernel_rfl) ?_|refine brn_f (by kernel_rfl) ?_|fail)
  refine(zag hs hn (v+1) (m:=nodes) hN (by omega)).mono ?_;rintro u _ ⟨rfl,rfl⟩
  repeat' ((conv=>whnf);first|refine brn_t rfl ?_|refine brn_f rfl ?_|refine ob rfl ?_|refine ob (by decide) ?_|refine brn_t (by kernel_rfl) ?_|refine brn_f (by kernel_rfl) ?_|fail)
  refine(zAr hs hn (v+2) 6 (zl P (v+1) nodes) nodes hN hN2).mono ?_;rintro u M2 ⟨q,cq,k,hk,rfl,hN⟩;have hk':k=1:=by rw[hk];rfl
  subst hk'
  repeat' ((conv=>whnf);first|refine brn_t rfl ?_|refine brn_f rfl ?_|refine ob rfl ?_|refine ob (by decide) ?_|refine brn_t (by kernel_rfl) ?_|refine brn_f (by kernel_rfl) ?_|fail)
  exact⟨q,cq,rfl,hN⟩
 ·skip
  repeat' ((conv=>whnf);first|refine brn_t rfl ?_|refine brn_f rfl ?_|refine ob rfl ?_|refine ob (by decide) ?_|refine brn_t (by kernel_rfl) ?_|refine brn_f (by kernel_rfl) ?_|fail)
  refine(zag hs hn (v+1) (m:=nodes) hN (by omega)).mono ?_;rintro u _ ⟨rfl,rfl⟩
  repeat' ((conv=>whnf);first|refine brn_t rfl ?_|refine brn_f rfl ?_|refine ob rfl ?_|refine ob (by decide) ?_|refine brn_t (by kernel_rfl) ?_|refine brn_f (by kernel_rfl) ?_|fail)
  refine(zHd hs hn (v+2) 7 (zl P (v+1) nodes) 0 0 (m:=8) (by decide) (by decide)).mono ?_;rintro u M2 ⟨q,cq,rfl,hN⟩
  repeat' ((conv=>whnf);first|refine brn_t rfl ?_|refine brn_f rfl ?_|refine ob rfl ?_|refine ob (by decide) ?_|refine brn_t (by kernel_rfl) ?_|refine brn_f (by kernel_rfl) ?_|fail)
  exact⟨q,cq,by simp[zaU,zim,zJ],by simpa[zaU,zJ] using hN⟩
 ·skip
  repeat' ((conv=>whnf);first|refine brn_t rfl ?_|refine brn_f rfl ?_|refine ob rfl ?_|refine ob (by decide) ?_|refine brn_t (by kernel_rfl) ?_|refine brn_f (by kernel_rfl) ?_|fail)
  refine(zag hs hn (v+1) (m:=nodes) hN (by omega)).mono ?_;rintro u _ ⟨rfl,rfl⟩
  repeat' ((conv=>whnf);first|refine brn_t rfl ?_|refine brn_f rfl ?_|refine ob rfl ?_|refine ob (by decide) ?_|refine brn_t (by kernel_rfl) ?_|refine brn_f (by kernel_rfl) ?_|fail)
  refine⟨[1,2],_,Mem.le_refl _,fun d=>?_⟩
  repeat' ((conv=>whnf);first|refine brn_t rfl ?_|refine brn_f rfl ?_|refine ob rfl ?_|refine ob (by decide) ?_|refine brn_t (by kernel_rfl) ?_|refine brn_f (by kernel_rfl) ?_|fail)
  refine zU ?_
  repeat' ((conv=>whnf);first|refine brn_t rfl ?_|refine brn_f rfl ?_|refine ob rfl ?_|refine ob (by decide) ?_|refine brn_t (by kernel_rfl) ?_|refine brn_f (by kernel_rfl) ?_|fail)
  exact⟨none,0,rfl,NewSl.none _ _ _⟩
 ·skip
  repeat' ((conv=>whnf);first|refine brn_t rfl ?_|refine brn_f rfl ?_|refine ob rfl ?_|refine ob (by decide) ?_|refine brn_t (by kernel_rfl) ?_|refine brn_f (by kernel_rfl) ?_|fail)
  refine(zag hs hn (v+1) (m:=nodes) hN (by omega)).mono ?_;rintro u _ ⟨rfl,rfl⟩
  repeat' ((conv=>whnf);first|refine brn_t rfl ?_|refine brn_f rfl ?_|refine ob rfl ?_|refine ob (by decide) ?_|refine brn_t (by kernel_rfl) ?_|refine brn_f (by kernel_rfl) ?_|fail)
  refine(zag hs hn (v+2) (m:=256) (by decide) (by decide)).mono ?_;rintro u _ ⟨rfl,rfl⟩;have hq:=zO (P:=P) (v:=v+2) (m:=256) (by decide)
  refine ob (zs (by omega)) ?_
  repeat' ((conv=>whnf);first|refine brn_t rfl ?_|refine brn_f rfl ?_|refine ob rfl ?_|refine ob (by decide) ?_|refine brn_t (by kernel_rfl) ?_|refine brn_f (by kernel_rfl) ?_|fail)
  refine⟨[1,2],_,Mem.le_refl _,fun d=>?_⟩
  repeat' ((conv=>whnf);first|refine brn_t rfl ?_|refine brn_f rfl ?_|refine ob rfl ?_|refine ob (by decide) ?_|refine brn_t (by kernel_rfl) ?_|refine brn_f (by kernel_rfl) ?_|fail)
  refine zU ?_
  repeat' ((conv=>whnf);first|refine brn_t rfl ?_|refine brn_f rfl ?_|refine ob rfl ?_|refine ob (by decide) ?_|refine brn_t (by kernel_rfl) ?_|refine brn_f (by kernel_rfl) ?_|fail)
  exact⟨none,0,rfl,NewSl.none _ _ _⟩
 ·skip
  repeat' ((conv=>whnf);first|refine brn_t rfl ?_|refine brn_f rfl ?_|refine ob rfl ?_|refine ob (by decide) ?_|refine brn_t (by kernel_rfl) ?_|refine brn_f (by kernel_rfl) ?_|fail)
  refine(zag hs hn (v+1) (m:=nodes) hN (by omega)).mono ?_;rintro u _ ⟨rfl,rfl⟩
  repeat' ((conv=>whnf);first|refine brn_t rfl ?_|refine brn_f rfl ?_|refine ob rfl ?_|refine ob (by decide) ?_|refine brn_t (by kernel_rfl) ?_|refine brn_f (by kernel_rfl) ?_|fail)
  refine⟨[1,2],_,Mem.le_refl _,fun d=>?_⟩
  repeat' ((conv=>whnf);first|refine brn_t rfl ?_|refine brn_f rfl ?_|refine ob rfl ?_|refine ob (by decide) ?_|refine brn_t (by kernel_rfl) ?_|refine brn_f (by kernel_rfl) ?_|fail)
  refine zU ?_
  repeat' ((conv=>whnf);first|refine brn_t rfl ?_|refine brn_f rfl ?_|refine ob rfl ?_|refine ob (by decide) ?_|refine brn_t (by kernel_rfl) ?_|refine brn_f (by kernel_rfl) ?_|fail)
  exact⟨none,0,rfl,NewSl.none _ _ _⟩
 ·skip
  repeat' ((conv=>whnf);first|refine brn_t rfl ?_|refine brn_f rfl ?_|refine ob rfl ?_|refine ob (by decide) ?_|refine brn_t (by kernel_rfl) ?_|refine brn_f (by kernel_rfl) ?_|fail)
  refine(zag hs hn (v+1) (m:=nodes) hN (by omega)).mono ?_;rintro u _ ⟨rfl,rfl⟩
  repeat' ((conv=>whnf);first|refine brn_t rfl ?_|refine brn_f rfl ?_|refine ob rfl ?_|refine ob (by decide) ?_|refine brn_t (by kernel_rfl) ?_|refine brn_f (by kernel_rfl) ?_|fail)
  refine(zag hs hn (v+2) (m:=64) (by decide) (by decide)).mono ?_;rintro u _ ⟨rfl,rfl⟩
  repeat' ((conv=>whnf);first|refine brn_t rfl ?_|refine brn_f rfl ?_|refine ob rfl ?_|refine ob (by decide) ?_|refine brn_t (by kernel_rfl) ?_|refine brn_f (by kernel_rfl) ?_|fail)
  refine⟨[1,2],_,Mem.le_refl _,fun d=>?_⟩
  repeat' ((conv=>whnf);first|refine brn_t rfl ?_|refine brn_f rfl ?_|refine ob rfl ?_|refine ob (by decide) ?_|refine brn_t (by kernel_rfl) ?_|refine brn_f (by kernel_rfl) ?_|fail)
  refine zU ?_
  repeat' ((conv=>whnf);first|refine brn_t rfl ?_|refine brn_f rfl ?_|refine ob rfl ?_|refine ob (by decide) ?_|refine brn_t (by kernel_rfl) ?_|refine brn_f (by kernel_rfl) ?_|fail)
  exact⟨none,0,rfl,NewSl.none _ _ _⟩
 ·skip
  repeat' ((conv=>whnf);first|refine brn_t rfl ?_|refine brn_f rfl ?_|refine ob rfl ?_|refine ob (by decide) ?_|refine brn_t (by kernel_rfl) ?_|refine brn_f (by kernel_rfl) ?_|fail)
  refine(zag hs hn (v+1) (m:=256) (by decide) (by decide)).mono ?_;rintro u _ ⟨rfl,rfl⟩
  repeat' ((conv=>whnf);first|refine brn_t rfl ?_|refine brn_f rfl ?_|refine ob rfl ?_|refine ob (by decide) ?_|refine brn_t (by kernel_rfl) ?_|refine brn_f (by kernel_rfl) ?_|fail)
  refine⟨[1,2],_,Mem.le_refl _,fun d=>?_⟩
  repeat' ((conv=>whnf);first|refine brn_t rfl ?_|refine brn_f rfl ?_|refine ob rfl ?_|refine ob (by decide) ?_|refine brn_t (by kernel_rfl) ?_|refine brn_f (by kernel_rfl) ?_|fail)
  refine zU ?_
  repeat' ((conv=>whnf);first|refine brn_t rfl ?_|refine brn_f rfl ?_|refine ob rfl ?_|refine ob (by decide) ?_|refine brn_t (by kernel_rfl) ?_|refine brn_f (by kernel_rfl) ?_|fail)
  exact⟨none,0,rfl,NewSl.none _ _ _⟩
end
section
variable {M B B0:Mem}
theorem zK3 {a:Option Addr} {n c:Nat} {P:List UInt8} (hs:SrcOk M 1 a n (P.map zF)) (hn:n≤1048576) (nodes:Nat) (hN:0<nodes) (hN2:nodes≤64) :
  CallsM Tryz.prog F.zkk [zkd a n c 1,.int .i64 nodes] M fun u M'=>∃ q cq,u = .tuple #[zkd a n c (2+2*zl P 1 16),.slice q (zl P 1 16) cq]∧NewSl M T.zan 2 q (zl P 1 16) cq ((zkc P nodes (zl P 1 16)).flatMap zio) M':=by
 have hr:=zO (P:=P) (v:=1) (m:=16) (by decide);refine zAZ (by simp) ?_;(conv=>whnf);refine new (fun b hb=>?_);replace hb:M b=none:=hb;have h0:NewSl M T.zan 2 (some ⟨b,0,none⟩) 0 0 ((zkc P nodes 0).flatMap zio) (M.setCells b T.zan []):=NewSl.lit hb _ _ _ [] rfl
 obtain⟨M1,hM1⟩:∃ M1,M1=M.setCells b T.zan []:=⟨_,rfl⟩
 rw[←hM1] at h0;(conv=>whnf)
 erw [←hM1];refine(zag (hs.le h0.le) hn 1 (m:=16) (by decide) (by decide)).mono ?_;rintro u M2 ⟨rfl,rfl⟩;(conv=>whnf)
 refine zbG (σ:=Nat×Mem×Option Addr×Nat) [8,6] (fun y=>[(8,.int .i64 y.1),(6,.slice y.2.2.1 y.1 y.2.2.2)]) (fun y=>[BE.live T.zaw [SC.v (.slice a n c),SC.v (.int .i64 (min (2+2*y.1) n:Nat))],BE.live T.zaw [SC.v S.sn,SC.v (S.i 0)]]) (fun y=>y.2.1)
  (fun|⟨i,Mc,q,cq⟩=>i≤zl P 1 16∧NewSl M T.zan 2 q i cq ((zkc P nodes i).flatMap zio) Mc) (fun y=>zl P 1 16 - y.1) ⟨0,M2,some ⟨b,0,none⟩,0⟩ ⟨by omega,h0⟩ zS ?_
 rintro ⟨i,Mc,q,cq⟩ ⟨hi,hQ⟩;(conv=>whnf);refine brn (fun g=>?_) (fun g=>?_)
 ·have g':i<zl P 1 16:=by have:=Zd0 g;dsimp only at this;omega
  (conv=>whnf);refine(zag (hs.le hQ.le) hn (2+2*i) hN (by omega)).mono ?_;rintro u _ ⟨rfl,rfl⟩;(conv=>whnf)
  refine(zag (hs.le hQ.le) hn (2+2*i+1) hN (by omega)).mono ?_;rintro u _ ⟨rfl,rfl⟩;obtain⟨x,hx⟩:∃ x,x=min (zl P (2+2*i) nodes) (zl P (2+2*i+1) nodes):=⟨_,rfl⟩
  obtain⟨y,hy⟩:∃ y,y=max (zl P (2+2*i) nodes) (zl P (2+2*i+1) nodes):=⟨_,rfl⟩
  (conv=>whnf);rw[show min ((zl P (2+2*i) nodes:Nat):Int) ((zl P (2+2*i+1) nodes:Nat):Int)=((x:Nat):Int) by omega,show max ((zl P (2+2*i) nodes:Nat):Int) ((zl P (2+2*i+1) nodes:Nat):Int)=((y:Nat):Int) by omega];refine zFR M hQ (x,y) rfl (by dsimp only;omega) (by dsimp only;simp[maxLen];omega) (by intro u hu;simp at hu;rcases hu with rfl|rfl<;>rfl) fun q6 c6 M6 h6 hk6=>?_
  rw[show zkc P nodes i++[(x,y)]=zkc P nodes (i+1) by rw[zDN,hx,hy,show 3+2*i=2+2*i+1 by omega]] at h6;(conv=>whnf);refine ob (zs (by first|omega|(dsimp only;omega))) ?_;(conv=>whnf)
  refine⟨⟨i+1,M6,q6,c6⟩,⟨by omega,h6⟩,by dsimp only;omega,?_⟩;rw[show 2+2*(i+1)=2+2*i+1+1 by omega];exact zS
 ·have g':i=zl P 1 16:=by have:=Zd1 g;dsimp only at this;omega
  subst g';(conv=>whnf)
  exact⟨q,cq,rfl,hQ⟩
end
section
variable {M B B0:Mem}
theorem zOB {a:Option Addr} {n c:Nat} {l:List (Nat×Nat)} (hs:SrcOk M 2 a n (l.flatMap zio)) (hn:n≤1048576) (x:Nat×Nat) :
  CallsM Tryz.prog F.zlS [.slice a n c,kvL x] M fun u M'=>u = .bool (decide (x∈l))∧M'=M:=by
 have hl:l.length=n:=SrcOk.flen (enc:=zio) (s:=2) (fun _=>rfl) hs (by decide);obtain⟨x1,x2⟩:=x;refine zCs (by simp) ?_;(conv=>whnf)
 refine zbG (σ:=Nat) [5] (fun y=>[(5,.int .i64 y)]) (fun _=>[BE.live T.zan [SC.v (.int .i64 x1),SC.v (.int .i64 x2)]]) (fun _=>M)
  (fun i=>i≤n∧(x1,x2)∉l.take i) (fun y=>n - y) 0 ⟨by omega,by simp⟩ zS ?_
 rintro i ⟨hi,hni⟩;(conv=>whnf);refine brn (fun g=>?_) (fun g=>?_)
 ·have g':i<n:=by have:=Zd0 g;omega
  obtain⟨z,hz⟩:∃ z,l[i]? = some z:=⟨_,List.getElem?_eq_getElem (by omega)⟩
  obtain⟨b,o,rfl,hrow⟩:=SrcOk.fall (enc:=zio) (s:=2) (fun _=>rfl) hs (by decide) hz;(conv=>whnf);refine ob (by first|omega|(dsimp only;omega)) ?_;(conv=>whnf);refine on hrow ?_;obtain⟨z1,z2⟩:=z;have hmem:(z1,z2)∈l:=List.mem_of_getElem? hz
  (conv=>whnf);refine brn (fun e=>?_) (fun e=>?_)
  ·have e':z1=x1∧z2=x2:=by simp at e;omega
   (conv=>whnf);refine⟨?_,rfl⟩;rw[←e'.1,←e'.2,decide_eq_true hmem]
  ·have e':¬(z1=x1∧z2=x2):=by simp at e;omega
   (conv=>whnf);refine ob (zs (by first|omega|(dsimp only;omega))) ?_;(conv=>whnf)
   refine⟨i+1,⟨by omega,?_⟩,by omega,zS⟩;rw[List.take_add_one,hz];simp only[Option.toList,List.mem_append,List.mem_singleton,Prod.mk.injEq,not_or];exact⟨hni,fun h=>e' ⟨h.1.symm,h.2.symm⟩⟩
 ·have g':i=n:=by have:=Zd1 g;omega
  subst g';(conv=>whnf)
  refine⟨?_,rfl⟩;rw[List.take_of_length_le (by omega)] at hni;rw[decide_eq_false hni]
end
section
variable {M B B0:Mem}
theorem zMv {ao:Option Addr} {no co:Nat} {oth:List (Nat×Nat)} (hO:SrcOk M 2 ao no (oth.flatMap zio)) (hno2:no≤1048576) {n:Nat} (hn:n≤64) :
  CallsM Tryz.prog F.zit [.int .i64 n,.slice ao no co] M fun v M'=>∃ q c,v = .slice q (znW n oth).length c∧NewSl M T.zan 2 q (znW n oth).length c ((znW n oth).flatMap zio) M':=by
 refine zCn (by simp) ?_;(conv=>whnf);refine new (fun b hb=>?_);replace hb:M b=none:=hb;obtain⟨M1,hM1⟩:∃ M1,M1=M.setCells b T.zan []:=⟨_,rfl⟩
 have h0:NewSl M T.zan 2 (some ⟨b,0,none⟩) 0 0 ([].flatMap zio) M1:=hM1▸NewSl.lit hb _ _ _ [] rfl;(conv=>whnf)
 erw [←hM1]
 refine zbG (σ:=Nat×Mem×Option Addr×Nat×Nat) [6,5,7] (fun y=>[(6,.int .i64 y.1),(5,.slice y.2.2.1 y.2.2.2.1 y.2.2.2.2)]) (fun _=>[]) (fun y=>y.2.1)
  (fun|⟨a,Mc,q,k,cq⟩=>a≤n∧k=(za6 n oth a).length∧NewSl M T.zan 2 q k cq ((za6 n oth a).flatMap zio) Mc) (fun y=>n - y.1) ⟨0,M1,some ⟨b,0,none⟩,0,0⟩ ⟨by omega,rfl,h0⟩ zS ?_
 rintro ⟨a,Mc,q,k,cq⟩ ⟨ha,hk,hN⟩;(conv=>whnf);refine brn (fun g=>?_) (fun g=>?_)
 ·have g':a<n:=by have:=Zd0 g;dsimp only at this;omega
  refine zR ?_;refine ob (zs (by first|omega|(dsimp only;omega))) ?_;(conv=>whnf)
  refine zbG (σ:=Nat×Mem×Option Addr×Nat×Nat) [7,5] (fun y=>[(7,.int .i64 ((a+1+y.1:Nat):Int)),(5,.slice y.2.2.1 y.2.2.2.1 y.2.2.2.2)]) (fun _=>[]) (fun y=>y.2.1)
   (fun|⟨j,Md,q,k,cq⟩=>a+1+j≤n∧k=(za6 n oth a++za5 oth a j).length∧NewSl M T.zan 2 q k cq ((za6 n oth a++za5 oth a j).flatMap zio) Md) (fun y=>n - (a+1+y.1)) ⟨0,Mc,q,k,cq⟩ ⟨by omega,by simp[za5,hk],by simpa[za5] using hN⟩ zS ?_
  rintro ⟨j,Md,q,k,cq⟩ ⟨hj,hk,hN⟩;have hpl:=zrX n oth a
  have hrl:=zrW oth a j;have hnn:a*n≤64*64:=Nat.mul_le_mul (by omega) hn
  rw[List.length_append] at hk;(conv=>whnf);refine brn (fun e=>?_) (fun e=>?_)
  ·have e':a+1+j<n:=by have:=Zd0 e;dsimp only at this;omega
   (conv=>whnf);refine ob (zs (by first|omega|(dsimp only;omega))) ?_;(conv=>whnf);refine brn (fun f=>?_) (fun f=>?_)
   ·have f':j=0:=by have:=Zd0 f;dsimp only at this;omega
    have hyes:a+1+j=a+1∨(a,a+1+j)∈oth := .inl (by omega);have e1:lk1 oth a (a+1+j)=[(a,a+1+j)]:=by unfold lk1;rw[if_pos hyes]
    have e2:(za6 n oth a++za5 oth a (j+1))=(za6 n oth a++za5 oth a j)++[(a,a+1+j)]:=by rw[zin,e1,List.append_assoc]
    refine zR ?_;refine zFR M hN (a,a+1+j) rfl (by dsimp only;omega) (by dsimp only;simp[maxLen];omega) (by intro u hu;simp at hu;rcases hu with rfl|rfl<;>rfl) fun q6 c6 M6 h6 hk6=>?_
    refine zR ?_;refine ob (zs (by first|omega|(dsimp only;omega))) ?_;(conv=>whnf)
    refine⟨⟨j+1,M6,q6,k+1,c6⟩,⟨by omega,by rw[e2,List.length_append];simp[hk],by rw[e2];exact h6⟩,by dsimp only;omega,?_⟩;rw[show ((a+1+(j+1):Nat):Int)=((a+1+j:Nat):Int)+1 by omega];exact zS
   ·have f':j≠0:=by have:=Zd1 f;dsimp only at this;omega
    (conv=>whnf);refine(zOB (hO.le hN.le) hno2 (a,a+1+j)).mono ?_;rintro u Md ⟨rfl,rfl⟩;(conv=>whnf);refine brn (fun hg=>?_) (fun hg=>?_)
    ·have hyes:a+1+j=a+1∨(a,a+1+j)∈oth := .inr (Zd0 hg);have e1:lk1 oth a (a+1+j)=[(a,a+1+j)]:=by unfold lk1;rw[if_pos hyes]
     have e2:(za6 n oth a++za5 oth a (j+1))=(za6 n oth a++za5 oth a j)++[(a,a+1+j)]:=by rw[zin,e1,List.append_assoc]
     refine zR ?_;refine zFR M hN (a,a+1+j) rfl (by dsimp only;omega) (by dsimp only;simp[maxLen];omega) (by intro u hu;simp at hu;rcases hu with rfl|rfl<;>rfl) fun q6 c6 M6 h6 hk6=>?_
     refine zR ?_;refine ob (zs (by first|omega|(dsimp only;omega))) ?_;(conv=>whnf)
     refine⟨⟨j+1,M6,q6,k+1,c6⟩,⟨by omega,by rw[e2,List.length_append];simp[hk],by rw[e2];exact h6⟩,by dsimp only;omega,?_⟩;rw[show ((a+1+(j+1):Nat):Int)=((a+1+j:Nat):Int)+1 by omega];exact zS
    ·have hno:¬(a+1+j=a+1∨(a,a+1+j)∈oth):=by
      rintro (h|h)
      ·omega
      ·exact Zd1 hg h
     have e2:(za6 n oth a++za5 oth a (j+1))=(za6 n oth a++za5 oth a j):=by rw[zin];unfold lk1;rw[if_neg hno,List.append_nil]
     refine zR ?_;refine ob (zs (by first|omega|(dsimp only;omega))) ?_;(conv=>whnf)
     refine⟨⟨j+1,Md,q,k,cq⟩,⟨by omega,by rw[e2,List.length_append];exact hk,by rw[e2];exact hN⟩,by dsimp only;omega,?_⟩;rw[show ((a+1+(j+1):Nat):Int)=((a+1+j:Nat):Int)+1 by omega];exact zS
  ·have e':a+1+j=n:=by have:=Zd1 e;dsimp only at this;omega
   have e2:za6 n oth (a+1)=za6 n oth a++za5 oth a j:=by rw[zup,show n - (a+1)=j by omega]
   refine zR ?_;refine ob (zs (by first|omega|(dsimp only;omega))) ?_;(conv=>whnf)
   exact⟨⟨a+1,Md,q,k,cq⟩,⟨by omega,by rw[e2,List.length_append];exact hk,by rw[e2];exact hN⟩,by dsimp only;omega,zS⟩
 ·have g':a=n:=by have:=Zd1 g;dsimp only at this;omega
  subst g';refine zR ?_;(conv=>whnf)
  subst hk;exact⟨q,cq,rfl,hN⟩
end
end Go.Proofs.YtpnhjkiligohnaaGreatDoor
