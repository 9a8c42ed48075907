/- Part of this proof;laid by program. -/
import Derived.Test.YtpnhjkiligohnaaGreatDoorJ33
import Derived.Test.YtpnhjkiligohnaaGreatDoorJ32
set_option linter.unusedVariables false
set_option linter.unusedSimpArgs false
namespace Go.Proofs.YtpnhjkiligohnaaGreatDoor
open Go Go.Vm
attribute [local irreducible] Brn Ob Grow CallsM inR zay zav Mem.row Mem.cells Mem.setCells Mem.upd Go.Vm.Own zaU zbF zbE zaV New SrcOk zah NewSl Mem.textAt Mem.mapAt Mem.iterAt zak kfind Wr NewEls Elems
set_option maxRecDepth 10000
variable {M B B0:Mem}
def zpi (P:List UInt8) (nodes k:Nat):List (Nat×Nat):=(List.range k).map fun i=>(min (zp P (2+2*i) nodes) (zp P (3+2*i) nodes),max (zp P (2+2*i) nodes) (zp P (3+2*i) nodes))
def zn9 (P:List UInt8) (nodes:Nat):Nat→Nat→List ztx
 | 0,_=>[]
 | f+1,v=>if v<P.length then (zcF P nodes v).1::zn9 P nodes f (zcF P nodes v).2 else []
structure zFU where
 nodes:Nat
 links:List (Nat×Nat)
 held:Nat
 bytes:Nat
 gaps:Nat
 disk:Nat
 seg:Nat
 win:Nat
 timer:Nat
 tries:Nat
 wait:Nat
 delay:Nat
 steps:List ztx
def zmY (P:List UInt8):zFU:=
 let nodes:=1+zp P 0 64
 let k:=zp P 1 16
 let w:=2+2*k
 ⟨nodes,ziz nodes (zpi P nodes k),zp P w 256,8*zp P (w+1) 256,zp P (w+2) 256,256+256*zp P (w+3) 256,16+zp P (w+4) 256,1+zp P (w+5) 63,1+zp P (w+6) 8,1+zp P (w+7) 4,1+zp P (w+8) 8,zp P (w+9) 4,zn9 P nodes 256 (w+10)⟩
@[reducible] def zJF (S:zFU) (ql:Option Addr) (cl:Nat) (qs:Option Addr) (cs:Nat):List Value:=[.int .i64 (S.nodes:Nat),.slice ql S.links.length cl,.int .i64 (S.held:Nat),.int .i64 (S.bytes:Nat),.int .i64 (S.gaps:Nat),.int .i64 (S.disk:Nat),.int .i64 (S.seg:Nat),.int .i64 (S.win:Nat),.int .i64 (S.timer:Nat),.int .i64 (S.tries:Nat),.int .i64 (S.wait:Nat),.int .i64 (S.delay:Nat),.slice qs S.steps.length cs]
def StpN (B0 M:Mem) (cs:List Value) (x:ztx):Prop:=∃ q c,cs=zjZ x q c∧SrcOk M 1 q x.data.length (x.data.map z7)∧∀ r,q=some r→B0 r.block=none∧∃ ds,M.has r.block T.zY ds
theorem zHo (P:List UInt8) (nodes k:Nat):zpi P nodes (k+1)=zpi P nodes k++[(min (zp P (2+2*k) nodes) (zp P (3+2*k) nodes),max (zp P (2+2*k) nodes) (zp P (3+2*k) nodes))]:=by unfold zpi;rw[List.range_succ,List.map_append];rfl
theorem TkAt.upd {M':Mem} {bt bp:Nat} {a:Option Addr} {n c:Nat} {P:List UInt8} {v mb:Nat} (h:TkAt B M bt bp a n c P v) (hmb:B mb=none) (hne:bt≠mb) (hM':∀ b,b≠mb→M' b=M b):TkAt B M' bt bp a n c P v:=by
 obtain⟨h1,h2,h3,h4,h5,h6⟩:=h;exact⟨fun b o hb=>(hM' b (fun e=>by rw[e,hmb] at hb;cases hb)).trans (h1 b o hb),h2,(hM' bt hne).trans h3,h4,h5,h6⟩
theorem TkAt.le {M':Mem} {bt bp:Nat} {a:Option Addr} {n c:Nat} {P:List UInt8} {v:Nat} (h:TkAt B M bt bp a n c P v) (hM':M.le M'):TkAt B M' bt bp a n c P v:=
 ⟨Mem.le_trans h.1 hM',h.2.1,hM' _ _ h.2.2.1,h.2.2.2⟩
theorem OthAt.keep {M':Mem} {mb:Nat} {oth:List (Nat×Nat)} {S:Nat→Prop} (h:OthAt M mb oth) (hk:Mem.keep S M M') (hS:¬S mb):OthAt M' mb oth:=by
 obtain⟨m,hm,h2⟩:=h;exact⟨m,hm.mono fun o ho=>hk _ _ hS ho,h2⟩
def zbZ (P:List UInt8) (nodes:Nat):Nat→Nat→Nat
 | 0,v=>v
 | j+1,v=>(zcF P nodes (zbZ P nodes j v)).2
def zdJ (P:List UInt8) (nodes v j:Nat):List ztx:=(List.range j).map fun i=>(zcF P nodes (zbZ P nodes i v)).1
theorem znl (P:List UInt8) (nodes v j:Nat):(zdJ P nodes v j).length=j:=by simp[zdJ]
theorem zCO (P:List UInt8) (nodes v j:Nat):zdJ P nodes v (j+1)=zdJ P nodes v j++[(zcF P nodes (zbZ P nodes j v)).1]:=by unfold zdJ;rw[List.range_succ,List.map_append];rfl
theorem zl1 (P:List UInt8) (nodes v:Nat):∀ j,zbZ P nodes (j+1) v=zbZ P nodes j (zcF P nodes v).2
 | 0=>rfl
 | j+1=>by show (zcF P nodes (zbZ P nodes (j+1) v)).2=_;rw[zl1 P nodes v j];rfl
theorem ztz (P:List UInt8) (nodes:Nat):∀ (j f v:Nat),j≤f→(∀ i,i<j→zbZ P nodes i v<P.length)→(j=f∨P.length≤zbZ P nodes j v)→zn9 P nodes f v=zdJ P nodes v j
 | 0,0,v,_,_,_=>rfl
 | 0,f+1,v,_,_,h=>by
  have h':P.length≤v:=by rcases h with h|h; · omega
                         ·exact h
  unfold zn9;rw[if_neg (by omega)];rfl
 | j+1,0,v,h,_,_=>by omega
 | j+1,f+1,v,h,hl,he=>by
  have h0:v<P.length:=hl 0 (by omega);unfold zn9;rw[if_pos h0,ztz P nodes j f (zcF P nodes v).2 (by omega) (fun i hi=>by rw[←zl1];exact hl (i+1) (by omega)) (by rw[←zl1];omega)];unfold zdJ;rw[List.range_succ_eq_map,List.map_cons,List.map_map];congr 1;refine List.map_congr_left fun i _=>?_
  show (zcF P nodes (zbZ P nodes i (zcF P nodes v).2)).1=(zcF P nodes (zbZ P nodes (i+1) v)).1;rw[zl1]
theorem NewSl.minus {E:TypeId} {s:Nat} {a:Option Addr} {n c:Nat} {L:List Value} {M1:Mem} {S:Nat→Prop} (h:NewSl M E s a n c L M1) (hS:∀ b,S b→M b=none) (ha:∀ p,a=some p→¬S p.block):NewSl M E s a n c L (M1.minus S):=by
 rw[newSl_iff] at h ⊢;obtain⟨h0,h1,h2,h3⟩:=h;exact⟨Mem.le_minus h0 hS,h1,h2,h3.imp id fun ⟨b,cs,hab,hb,hh,hr⟩=>⟨b,cs,hab,hb,hh.minus (ha _ hab),hr⟩⟩
theorem zzn {A B:Mem} {x:Nat} (h:A.le B) (hx:B x=none):A x=none:=by
 cases hA:A x with
 | none=>rfl
 | some o=>rw[h _ _ hA] at hx;cases hx
theorem StpN.keep {B0 M M':Mem} {cs:List Value} {x:ztx} {S:Nat→Prop} (h:StpN B0 M cs x) (hk:Mem.keep S M M') (hS:∀ b ds,M.has b T.zY ds→¬S b):StpN B0 M' cs x:=by
 obtain⟨q,c,h1,h2,h3⟩:=h;refine⟨q,c,h1,(h2.minus fun r hr=>?_).le (Mem.keep_minus.1 hk),fun r hr=>?_⟩
 ·obtain⟨_,ds,hd⟩:=h3 r hr;exact hS _ _ hd
 ·obtain⟨h4,ds,hd⟩:=h3 r hr;exact⟨h4,ds,hk _ _ (hS _ _ hd) hd⟩
set_option maxRecDepth 100000 in
theorem zNs {a:Option Addr} {n c:Nat} {P:List UInt8} (hs:SrcOk M 1 a n (P.map z7)) (hn:n≤1048576) :
  CallsM Tryz.prog F.zbH [.slice a n c] M fun u M'=>M.le M'∧∃ ql cl qs cs,u = .agg (zJF (zmY P) ql cl qs cs).toArray∧NewSl M T.zac 2 ql (zmY P).links.length cl ((zmY P).links.flatMap zd4) M'∧NewEls M T.zD 5 qs (zmY P).steps.length cs (StpN M M') (zmY P).steps M':=by
 have hl:=hs.maplen;refine zvK (by simp) ?_;(conv=>whnf);refine new (fun bt hbt=>?_);replace hbt:M bt=none:=hbt;(conv=>whnf);refine new (fun bp hbp=>?_);have hbp':(M.setCells bt T.int [.int .i64 0]) bp=none:=hbp
 have hne:bp≠bt:=by rintro rfl;simp[Mem.setCells,Mem.upd] at hbp'
 have hbpM:M bp=none:=by simpa[Mem.setCells,Mem.upd,hne] using hbp'
 obtain⟨M1,hM1⟩:∃ M1,M1=(M.setCells bt T.int [.int .i64 0]).setCells bp T.zl9 [.slice a n c]:=⟨_,rfl⟩
 have hMM1:M.le M1:=hM1▸Mem.le_trans (Mem.le_setCells hbt) (Mem.le_setCells hbp');have hp1:M1.has bp T.zl9 [.slice a n c]:=hM1▸Mem.has_setCells
 have ht1:M1.has bt T.int [.int .i64 0]:=hM1▸Mem.has.le (Mem.le_setCells hbp') Mem.has_setCells;obtain⟨B,hB⟩:∃ B,B=M1.minus fun y=>y=bt:=⟨_,rfl⟩
 have hMB:M.le B:=hB▸Mem.le_minus hMM1 (fun _ e=>e▸hbt);have hTk1:TkAt B M1 bt bp a n c P 0:=⟨hB▸Mem.minus_le _ _,hB▸Mem.minus_in rfl,by simpa using ht1,hB▸hp1.minus hne,hs.le hMB,hn⟩
 (conv=>whnf);erw [←hM1];refine(zw hTk1 (m:=64) (by decide) (by decide)).mono ?_;rintro u M2 ⟨rfl,h2,hk2⟩;have hr2:=zbq (P:=P) (v:=0) (m:=64) (by decide)
 obtain⟨nodes,hnodes⟩:∃ nodes,nodes=1+zp P 0 64:=⟨_,rfl⟩
 (conv=>whnf);refine obr (zm (by first|omega|(dsimp only;omega))) ?_;rw[show (1:Int)+((zp P 0 64:Nat):Int)=((nodes:Nat):Int) by omega];refine zR ?_;(conv=>whnf);refine new (fun mb hmb=>?_);replace hmb:M2 mb=none:=hmb
 have hbtm:bt≠mb:=by
  rintro rfl;obtain⟨_,_,hh,_⟩:=h2;rw[show M2 bt=_ from hh] at hmb;cases hmb
 have hBmb:B mb=none:=by
  cases hx:B mb with
  | none=>rfl
  | some o=>rw[h2.1 mb o hx] at hmb;cases hmb
 obtain⟨M3,hM3⟩:∃ M3,M3=M2.upd mb (.map #[] 0):=⟨_,rfl⟩
 have hO3:OthAt M3 mb (zpi P nodes 0):=⟨[],hM3▸MapAt.new M2 mb,fun p=>by simp[zL,zpi]⟩
 have h3:TkAt B M3 bt bp a n c P 1:=h2.upd hBmb hbtm (hM3▸fun b hb=>Mem.upd_ne _ _ hb);(conv=>whnf)
 erw [←hM3];refine(zw h3 (m:=16) (by decide) (by decide)).mono ?_;rintro u M4 ⟨rfl,h4,hk4⟩;have hO4:=hO3.keep hk4 (fun e=>hbtm e.symm)
 have hr4:=zbq (P:=P) (v:=1) (m:=16) (by decide);(conv=>whnf)
 refine zaL (σ:=Nat×Mem) [17] (fun y=>[(17,.int .i64 y.1)]) (fun y=>[BE.gone bp,BE.live T.zgM [SC.v (S.i 0),SC.v S.sn,SC.v (S.i 0),SC.v (S.i 0),SC.v (S.i 0),SC.v (S.i 0),SC.v (S.i 0),SC.v (S.i 0),SC.v (S.i 0),SC.v (S.i 0),SC.v (S.i 0),SC.v (S.i 0),SC.v S.sn],BE.gone bt,BE.live T.zgM [SC.v (.int .i64 nodes),SC.v S.sn,SC.v (S.i 0),SC.v (S.i 0),SC.v (S.i 0),SC.v (S.i 0),SC.v (S.i 0),SC.v (S.i 0),SC.v (S.i 0),SC.v (S.i 0),SC.v (S.i 0),SC.v (S.i 0),SC.v S.sn]]) (fun y=>y.2)
  (fun|⟨i,Mc⟩=>i≤zp P 1 16∧TkAt B Mc bt bp a n c P (2+2*i)∧OthAt Mc mb (zpi P nodes i)) (fun y=>zp P 1 16 - y.1) ⟨0,M4⟩ ⟨by omega,h4,hO4⟩ zS ?_
 rintro ⟨i,Mc⟩ ⟨hi,hT,hO⟩;(conv=>whnf);refine brn (fun g=>?_) (fun g=>?_)
 ·have g':i<zp P 1 16:=by have:=Zd0 g;dsimp only at this;omega
  refine zX ?_;refine⟨Mc.minus fun y=>y=bt,Mem.minus_le _ _,?_⟩;refine zR ?_;refine(zw hT (m:=nodes) (by omega) (by omega)).mono ?_;rintro u M5 ⟨rfl,h5,hk5⟩;refine zT (Mem.keep_minus.1 hk5) ?_;refine zR ?_;refine(zw h5 (m:=nodes) (by omega) (by omega)).mono ?_;rintro u M6 ⟨rfl,h6,hk6⟩;have hO6:=(hO.keep hk5 (fun e=>hbtm e.symm)).keep hk6 (fun e=>hbtm e.symm)
  obtain⟨m,hmA,hmg⟩:=hO6;(conv=>whnf)
  obtain⟨x,hx⟩:∃ x,x=min (zp P (2+2*i) nodes) (zp P (2+2*i+1) nodes):=⟨_,rfl⟩
  obtain⟨y,hy⟩:∃ y,y=max (zp P (2+2*i) nodes) (zp P (2+2*i+1) nodes):=⟨_,rfl⟩
  rw[show min ((zp P (2+2*i) nodes:Nat):Int) ((zp P (2+2*i+1) nodes:Nat):Int)=((x:Nat):Int) by omega,show max ((zp P (2+2*i) nodes:Nat):Int) ((zp P (2+2*i+1) nodes:Nat):Int)=((y:Nat):Int) by omega];refine hmA.put zpV (x,y) true fun p f hm=>?_
  obtain⟨M7,hM7⟩:∃ M7,M7=M6.upd mb (mput p f (kvL (x,y)) (vvB true)):=⟨_,rfl⟩
  have h7:TkAt B M7 bt bp a n c P (2+2*i+1+1):=h6.upd hBmb hbtm (fun b hb=>by rw[hM7];exact Mem.upd_ne _ _ hb)
  have hO7:OthAt M7 mb (zpi P nodes (i+1)):=by
   refine⟨_,hM7▸hm M6,fun z=>?_⟩;rw[zGo,hmg,zHo];simp only[List.mem_append,List.mem_singleton];by_cases hz:z=(x,y)
   ·rw[if_pos hz,if_pos (.inr (by rw[hz,hx,hy,show 3+2*i=2+2*i+1 by omega]))]
   ·rw[if_neg hz];by_cases hz2:z∈zpi P nodes i
    ·rw[if_pos hz2,if_pos (.inl hz2)]
    ·rw[if_neg hz2,if_neg];rintro (h|h)
     ·exact hz2 h
     ·exact hz (by rw[h,hx,hy,show 3+2*i=2+2*i+1 by omega])
  (conv=>whnf);erw [←hM7];(conv=>whnf);refine obr (zm (by first|omega|(dsimp only;omega))) ?_;(conv=>whnf)
  refine⟨⟨i+1,M7⟩,⟨by omega,?_,hO7⟩,by dsimp only;omega,?_⟩
  ·rw[show 2+2*(i+1)=2+2*i+1+1 by omega];exact h7
  ·exact zS
 ·have g':i=zp P 1 16:=by have:=Zd1 g;dsimp only at this;omega
  subst g';have hnd:nodes≤64:=by omega
  (conv=>whnf);refine(zJE hO hnd).mono ?_;rintro u M5 ⟨ql,cl,rfl,hL⟩;have h5:=hT.le hL.le
  have hL':=hL.mono (Mem.le_trans hMB hT.1);obtain⟨L,hL0⟩:∃ L,L=ziz nodes (zpi P nodes (zp P 1 16)):=⟨_,rfl⟩
  rw[←hL0] at hL';erw [←hL0];obtain⟨w,hw⟩:∃ w,w=2+2*zp P 1 16:=⟨_,rfl⟩
  rw[←hw] at h5;have k0:Mem.keep (fun y=>y=bt) M5 M5:=Mem.keep_refl _ _
  obtain⟨t0,e0⟩:∃ t,t=zp P w 256:=⟨_,rfl⟩
  have r0:=zbq (P:=P) (v:=w) (m:=256) (by decide);rw[←e0] at r0;(conv=>whnf)
  refine(zw h5 (m:=256) (by decide) (by decide)).mono ?_;rintro u N0 ⟨rfl,h10,kk0⟩;have k1:=Mem.keep_trans k0 kk0
  rw[←e0];obtain⟨t1,e1⟩:∃ t,t=zp P (w+1) 256:=⟨_,rfl⟩
  have r1:=zbq (P:=P) (v:=w+1) (m:=256) (by decide);rw[←e1] at r1;(conv=>whnf)
  refine(zw h10 (m:=256) (by decide) (by decide)).mono ?_;rintro u N1 ⟨rfl,h11,kk1⟩;have k2:=Mem.keep_trans k1 kk1
  rw[←e1];(conv=>whnf);refine obr (zm (by first|omega|(dsimp only;omega))) ?_;obtain⟨t2,e2⟩:∃ t,t=zp P (w+2) 256:=⟨_,rfl⟩
  have r2:=zbq (P:=P) (v:=w+2) (m:=256) (by decide);rw[←e2] at r2;(conv=>whnf)
  refine(zw h11 (m:=256) (by decide) (by decide)).mono ?_;rintro u N2 ⟨rfl,h12,kk2⟩;have k3:=Mem.keep_trans k2 kk2
  rw[←e2];obtain⟨t3,e3⟩:∃ t,t=zp P (w+3) 256:=⟨_,rfl⟩
  have r3:=zbq (P:=P) (v:=w+3) (m:=256) (by decide);rw[←e3] at r3;(conv=>whnf)
  refine(zw h12 (m:=256) (by decide) (by decide)).mono ?_;rintro u N3 ⟨rfl,h13,kk3⟩;have k4:=Mem.keep_trans k3 kk3
  rw[←e3];(conv=>whnf);refine obr (zm (by first|omega|(dsimp only;omega))) ?_;(conv=>whnf);refine obr (zm (by first|omega|(dsimp only;omega))) ?_;obtain⟨t4,e4⟩:∃ t,t=zp P (w+4) 256:=⟨_,rfl⟩
  have r4:=zbq (P:=P) (v:=w+4) (m:=256) (by decide);rw[←e4] at r4;(conv=>whnf)
  refine(zw h13 (m:=256) (by decide) (by decide)).mono ?_;rintro u N4 ⟨rfl,h14,kk4⟩;have k5:=Mem.keep_trans k4 kk4
  rw[←e4];(conv=>whnf);refine obr (zm (by first|omega|(dsimp only;omega))) ?_;obtain⟨t5,e5⟩:∃ t,t=zp P (w+5) 63:=⟨_,rfl⟩
  have r5:=zbq (P:=P) (v:=w+5) (m:=63) (by decide);rw[←e5] at r5;(conv=>whnf)
  refine(zw h14 (m:=63) (by decide) (by decide)).mono ?_;rintro u N5 ⟨rfl,h15,kk5⟩;have k6:=Mem.keep_trans k5 kk5
  rw[←e5];(conv=>whnf);refine obr (zm (by first|omega|(dsimp only;omega))) ?_;obtain⟨t6,e6⟩:∃ t,t=zp P (w+6) 8:=⟨_,rfl⟩
  have r6:=zbq (P:=P) (v:=w+6) (m:=8) (by decide);rw[←e6] at r6;(conv=>whnf)
  refine(zw h15 (m:=8) (by decide) (by decide)).mono ?_;rintro u N6 ⟨rfl,h16,kk6⟩;have k7:=Mem.keep_trans k6 kk6
  rw[←e6];(conv=>whnf);refine obr (zm (by first|omega|(dsimp only;omega))) ?_;obtain⟨t7,e7⟩:∃ t,t=zp P (w+7) 4:=⟨_,rfl⟩
  have r7:=zbq (P:=P) (v:=w+7) (m:=4) (by decide);rw[←e7] at r7;(conv=>whnf)
  refine(zw h16 (m:=4) (by decide) (by decide)).mono ?_;rintro u N7 ⟨rfl,h17,kk7⟩;have k8:=Mem.keep_trans k7 kk7
  rw[←e7];(conv=>whnf);refine obr (zm (by first|omega|(dsimp only;omega))) ?_;obtain⟨t8,e8⟩:∃ t,t=zp P (w+8) 8:=⟨_,rfl⟩
  have r8:=zbq (P:=P) (v:=w+8) (m:=8) (by decide);rw[←e8] at r8;(conv=>whnf)
  refine(zw h17 (m:=8) (by decide) (by decide)).mono ?_;rintro u N8 ⟨rfl,h18,kk8⟩;have k9:=Mem.keep_trans k8 kk8
  rw[←e8];(conv=>whnf);refine obr (zm (by first|omega|(dsimp only;omega))) ?_;obtain⟨t9,e9⟩:∃ t,t=zp P (w+9) 4:=⟨_,rfl⟩
  have r9:=zbq (P:=P) (v:=w+9) (m:=4) (by decide);rw[←e9] at r9;(conv=>whnf)
  refine(zw h18 (m:=4) (by decide) (by decide)).mono ?_;rintro u N9 ⟨rfl,h19,kk9⟩;have k10:=Mem.keep_trans k9 kk9
  rw[←e9];(conv=>whnf)
  obtain⟨A,hA⟩:∃ A,A=N9.minus fun y=>y=bt:=⟨_,rfl⟩
  have hBA:B.le A:=hA▸Mem.le_minus h19.1 (fun _ e=>e▸h19.2.1);have hAbt:A bt=none:=hA▸Mem.minus_in rfl
  have hLA:NewSl M T.zac 2 ql L.length cl (L.flatMap zd4) A:=by
   have hne:∀ q,ql=some q→¬q.block=bt:=fun q hq e=>by
    obtain⟨_,cs,hc⟩:=hL'.block hq;rw[e] at hc;exact absurd (hc.inj h5.2.2.1).1 (by decide)
   have:=hL'.keep k10 (fun _ e=>e▸hbt) hne;exact hA▸NewSl.minus this (fun _ e=>e▸hbt) hne
  obtain⟨w0,hw0⟩:∃ w0,w0=w+9+1:=⟨_,rfl⟩
  rw[←hw0] at h19
  refine zaL (σ:=Nat×Mem×Option Addr×Nat) [] (fun y=>[]) (fun y=>[BE.gone bp,BE.live T.zgM [SC.v (S.i 0),SC.v S.sn,SC.v (S.i 0),SC.v (S.i 0),SC.v (S.i 0),SC.v (S.i 0),SC.v (S.i 0),SC.v (S.i 0),SC.v (S.i 0),SC.v (S.i 0),SC.v (S.i 0),SC.v (S.i 0),SC.v S.sn],BE.gone bt,BE.live T.zgM [SC.v (.int .i64 nodes),SC.v (.slice ql L.length cl),SC.v (.int .i64 t0),SC.v (.int .i64 (8*t1)),SC.v (.int .i64 t2),SC.v (.int .i64 (256+256*t3)),SC.v (.int .i64 (16+t4)),SC.v (.int .i64 (1+t5)),SC.v (.int .i64 (1+t6)),SC.v (.int .i64 (1+t7)),SC.v (.int .i64 (1+t8)),SC.v (.int .i64 t9),SC.v (.slice y.2.2.1 y.1 y.2.2.2)]]) (fun y=>y.2.1)
   (fun|⟨j,Mc,q,cq⟩=>j≤256∧TkAt B Mc bt bp a n c P (zbZ P nodes j w0)∧NewEls A T.zD 5 q j cq (StpN A Mc) (zdJ P nodes w0 j) Mc∧∀ i,i<j→zbZ P nodes i w0<P.length) (fun y=>256 - y.1) ⟨0,N9,none,0⟩ ⟨by omega,h19,(NewEls.nil _ _ _ _).up (hA▸Mem.minus_le _ _),by omega⟩ zS ?_
  rintro ⟨j,Mc,q,cq⟩ ⟨hj,hT,hE,hlt⟩;have hj0:(zbZ P nodes j w0<P.length∧j<256)∨(j=256∨P.length≤zbZ P nodes j w0):=by omega
  refine on (hT.2.2.1.c1 rfl) ?_;(conv=>whnf)
  refine on ((hT.2.2.2.1.le hT.1).c1 rfl) ?_;(conv=>whnf)
  (conv=>whnf);refine brn (fun g=>?_) (fun g=>?_)
  ·have g':=Zd0 g;have hv:zbZ P nodes j w0<P.length:=by omega
   (conv=>whnf);refine brn (fun f=>?_) (fun f=>?_)
   ·have f':j<256:=by have:=Zd0 f;dsimp only at this;omega
    refine zX ?_;refine⟨A,hE.le,?_⟩;refine zR ?_;refine(zLX hT (nodes:=nodes) (by omega) (by omega)).mono ?_;rintro u M7 ⟨qd,cd,rfl,h7,hk7,hd⟩;have hA7:A.le M7:=hk7.le hE.le (fun _ e=>e▸hAbt)
    have hqb:∀ p,q=some p→¬p.block=bt:=fun p hp e=>by
     obtain⟨_,cs,hc⟩:=hE.block hp;rw[e] at hc;exact absurd (hc.inj hT.2.2.1).1 (by decide)
    have hE7:NewEls A T.zD 5 q j cq (StpN A M7) (zdJ P nodes w0 j) M7:=(hE.keep hk7 (fun _ e=>e▸hAbt) hqb).imp fun cs x _ hx=>hx.keep hk7 fun b ds hb e=>by
     rw[e] at hb;exact absurd (hb.inj hT.2.2.1).1 (by decide)
    have hAm:A.le (Mc.minus fun y=>y=bt):=Mem.le_minus hE.le (fun _ e=>e▸hAbt);have hx:StpN A M7 (zjZ (zcF P nodes (zbZ P nodes j w0)).1 qd cd) (zcF P nodes (zbZ P nodes j w0)).1:=⟨qd,cd,rfl,hd.src,fun r hr=>⟨zzn hAm (hd.block hr).1,(hd.block hr).2⟩⟩
    refine zT (hA7) ?_;(conv=>whnf)
    refine zOI A hE7 _ hx rfl (by dsimp only;omega) (by dsimp only;simp[maxLen];omega) (by simp[Value.oneCell']) fun q8 c8 M8 hE8 hk8=>?_
    have hn8:∀ b E ds,M7.has b E ds→E≠T.zD→¬blk q b:=fun b E ds hb hE' ⟨p,hp,e⟩=>by
     obtain⟨_,cs,hc⟩:=hE7.block hp;rw[e] at hc;exact hE' (hc.inj hb).1.symm
    have h8:TkAt B M8 bt bp a n c P (zbZ P nodes (j+1) w0):=⟨Mem.le_trans hBA hE8.le,h7.2.1,hk8 _ _ (hn8 _ _ _ h7.2.2.1 (by decide)) h7.2.2.1,h7.2.2.2⟩
    have hE9:NewEls A T.zD 5 q8 (j+1) c8 (StpN A M8) (zdJ P nodes w0 (j+1)) M8:=by
     rw[zCO];exact hE8.imp fun cs x _ hx=>hx.keep hk8 fun b ds hb=>hn8 _ _ _ hb (by decide)
    refine zT (hE8.le) ?_;refine zR ?_;(conv=>whnf)
    refine⟨⟨j+1,M8,q8,c8⟩,⟨by omega,h8,hE9,fun i hi=>?_⟩,by dsimp only;omega,zS⟩;by_cases hij:i=j
    ·rw[hij];exact hv
    ·exact hlt i (by omega)
   ·have f':j=256:=by have:=Zd1 f;dsimp only at this;omega
    have hst:zdJ P nodes w0 j=zn9 P nodes 256 w0:=(ztz P nodes j 256 w0 hj hlt (.inl f')).symm
    have hdec:zmY P=⟨nodes,L,t0,8*t1,t2,256+256*t3,16+t4,1+t5,1+t6,1+t7,1+t8,t9,zdJ P nodes w0 j⟩:=by
     rw[hst];subst hnodes hL0 e0 e1 e2 e3 e4 e5 e6 e7 e8 e9 hw0 hw;rfl
    rw[hdec];(conv=>whnf)
    refine⟨Mem.le_trans hMB hT.1,ql,cl,q,cq,?_,hLA.up hE.le,?_⟩
    ·simp[zJF,znl]
    ·dsimp only;rw[znl];exact(hE.mono hLA.le).imp fun cs x _ ⟨q',c',h1,h2,h3⟩=>⟨q',c',h1,h2,fun r hr=>⟨zzn hLA.le (h3 r hr).1,(h3 r hr).2⟩⟩
  ·have g':=Zd1 g;have hst:zdJ P nodes w0 j=zn9 P nodes 256 w0:=(ztz P nodes j 256 w0 hj hlt (.inr (by omega))).symm
   have hdec:zmY P=⟨nodes,L,t0,8*t1,t2,256+256*t3,16+t4,1+t5,1+t6,1+t7,1+t8,t9,zdJ P nodes w0 j⟩:=by
    rw[hst];subst hnodes hL0 e0 e1 e2 e3 e4 e5 e6 e7 e8 e9 hw0 hw;rfl
   rw[hdec];(conv=>whnf)
   refine⟨Mem.le_trans hMB hT.1,ql,cl,q,cq,?_,hLA.up hE.le,?_⟩
   ·simp[zJF,znl]
   ·dsimp only;rw[znl];exact(hE.mono hLA.le).imp fun cs x _ ⟨q',c',h1,h2,h3⟩=>⟨q',c',h1,h2,fun r hr=>⟨zzn hLA.le (h3 r hr).1,(h3 r hr).2⟩⟩
end Go.Proofs.YtpnhjkiligohnaaGreatDoor
namespace Go.Proofs.YtpnhjkiligohnaaGreatDoor
section
structure zOX where
 kind:Int
 node:Int
 to:Int
 n:Int
 data:List UInt8
end
section
structure zOY where
 held:Int
 bytes:Int
 gaps:Int
 disk:Int
 seg:Int
 win:Int
 timer:Int
 tries:Int
 wait:Int
 delay:Int
structure zPw where
 nodes:Int
 links:List (Int×Int)
 set:zOY
 steps:List zOX
end
end Go.Proofs.YtpnhjkiligohnaaGreatDoor
namespace Go.Proofs.YtpnhjkiligohnaaGreatDoor
open Go Go.Vm
attribute [local irreducible] Brn Ob Grow CallsM inR zay zav Mem.row Mem.cells Mem.setCells Mem.upd Go.Vm.Own zaU zbF zbE zaV New SrcOk zah NewSl Mem.textAt Mem.mapAt Mem.iterAt zak kfind Wr NewEls Elems
set_option maxRecDepth 10000
open Br
theorem zLZ:Reads T.zY 1 fun (_:Mem) cs (n:Int)=>cs=[.int .u8 n]∧zB1 .u8 n:=Reads.int (by kernel_rfl)
theorem zHp {α:Type} {M:Mem} {a:Option Addr} {n:Nat} {R:List Value→α→Prop} {l:List α} {β:Type} (f:β→Value) (h:Elems M 1 a n R l) (hR:∀ cs x,R cs x→∃ y,cs=[f y]):∃ l':List β,SrcOk M 1 a n (l'.map f):=by
 unfold Elems at h;obtain⟨css,h1,h2,h3,h4,h5⟩:=h
 have:∃ l':List β,css.flatten=l'.map f:=by
  clear h1 h4
  induction css generalizing l n with
  | nil=>exact⟨[],rfl⟩
  | cons cs r ih=>
   match l,h3 with
   | [],h3=>simp at h2 h3;omega
   | x::l,h3=>
    obtain⟨y,hy⟩:=hR cs x (h5 0 cs x rfl rfl);obtain⟨l',hl'⟩:=ih (n:=n - 1) (l:=l) (by simp at h2;omega) (by simp at h3;omega) (fun i c z hi hz=>h5 (i+1) c z (by simpa using hi) (by simpa using hz));exact⟨y::l',by simp[hy,hl']⟩
 obtain⟨l',e⟩:=this;exact⟨l',e▸h1⟩
theorem zL0 {n:Int} (h:zB1 .u8 n):Value.int .u8 n=z7 (UInt8.ofNat n.toNat):=by
 have:=bounds_u8 h;simp only[z7];congr 1;simp;omega
theorem zJG:Reads T.zl9 1 fun M cs (l:List UInt8)=>∃ a n c,cs=[.slice a n c]∧SrcOk M 1 a n (l.map z7)∧n≤1048576∧n≤c:=fun H enc W fuel cs d ps h hb=>by
 obtain⟨h1,l,a,n,c,h2,h3,h4⟩:=Reads.slice (t:=T.zl9) (e:=T.zY) (by kernel_rfl) (by kernel_rfl) (by decide) zLZ H enc W fuel cs d ps h hb;obtain⟨l',h5⟩:=zHp z7 h3 (fun cs x hx=>⟨_,hx.1.trans (by rw[zL0 hx.2])⟩);exact⟨h1,l',a,n,c,h2,h5,h4⟩
end Go.Proofs.YtpnhjkiligohnaaGreatDoor
