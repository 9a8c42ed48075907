/- Part of this proof;laid by program. -/
import Derived.Test.YtpnhjkiligohnaaGreatDoorJ33
set_option linter.unusedVariables false
set_option linter.unusedSimpArgs false
namespace Go.Proofs.YtpnhjkiligohnaaGreatDoor
open Go Go.Vm
attribute [local irreducible] Brn Ob Grow CallsM inR zbd za9 Mem.row Mem.cells Mem.setCells Mem.upd Go.Vm.Own zbN zcZ zcB zbV New SrcOk zat NewSl Mem.textAt Mem.mapAt Mem.iterAt za8 kfind Wr NewEls Elems
set_option maxRecDepth 10000
section
variable {M B B0:Mem}
def ziI (P:List UInt8) (nodes k:Nat):List (Nat×Nat):=(List.range k).map fun i=>(min (zm P (2+2*i) nodes) (zm P (3+2*i) nodes),max (zm P (2+2*i) nodes) (zm P (3+2*i) nodes))
def zex (P:List UInt8) (nodes:Nat):Nat→Nat→List StpR
 | 0,_=>[]
 | f+1,v=>if v<P.length then (zaV P nodes v).1::zex P nodes f (zaV P nodes v).2 else []
structure ScrR where
 nodes:Nat
 links:List (Nat×Nat)
 held:Nat
 bytes:Nat
 gaps:Nat
 disk:Nat
 seg:Nat
 win:Nat
 timer:Nat
 tries:Nat
 wait:Nat
 delay:Nat
 steps:List StpR
def zdN (P:List UInt8):ScrR:=
 let nodes:=1+zm P 0 64
 let k:=zm P 1 16
 let w:=2+2*k
 ⟨nodes,zcR nodes (ziI P nodes k),zm P w 256,8*zm P (w+1) 256,zm P (w+2) 256,256+256*zm P (w+3) 256,16+zm P (w+4) 256,1+zm P (w+5) 63,1+zm P (w+6) 8,1+zm P (w+7) 4,1+zm P (w+8) 8,zm P (w+9) 4,zex P nodes 256 (w+10)⟩
@[reducible] def zL2 (S:ScrR) (ql:Option Addr) (cl:Nat) (qs:Option Addr) (cs:Nat):List Value:=[.int .i64 (S.nodes:Nat),.slice ql S.links.length cl,.int .i64 (S.held:Nat),.int .i64 (S.bytes:Nat),.int .i64 (S.gaps:Nat),.int .i64 (S.disk:Nat),.int .i64 (S.seg:Nat),.int .i64 (S.win:Nat),.int .i64 (S.timer:Nat),.int .i64 (S.tries:Nat),.int .i64 (S.wait:Nat),.int .i64 (S.delay:Nat),.slice qs S.steps.length cs]
def StpN (B0 M:Mem) (cs:List Value) (x:StpR):Prop:=∃ q c,cs=zm4 x q c∧SrcOk M 1 q x.data.length (x.data.map zy)∧∀ r,q=some r→B0 r.block=none∧∃ ds,M.has r.block T.zM ds
theorem zNw (P:List UInt8) (nodes k:Nat):ziI P nodes (k+1)=ziI P nodes k++[(min (zm P (2+2*k) nodes) (zm P (3+2*k) nodes),max (zm P (2+2*k) nodes) (zm P (3+2*k) nodes))]:=by unfold ziI;rw[List.range_succ,List.map_append];rfl
theorem TkAt.upd {M':Mem} {bt bp:Nat} {a:Option Addr} {n c:Nat} {P:List UInt8} {v mb:Nat} (h:TkAt B M bt bp a n c P v) (hmb:B mb=none) (hne:bt≠mb) (hM':∀ b,b≠mb→M' b=M b):TkAt B M' bt bp a n c P v:=by
 obtain⟨h1,h2,h3,h4,h5,h6⟩:=h;exact⟨fun b o hb=>(hM' b (fun e=>by rw[e,hmb] at hb;cases hb)).trans (h1 b o hb),h2,(hM' bt hne).trans h3,h4,h5,h6⟩
theorem TkAt.le {M':Mem} {bt bp:Nat} {a:Option Addr} {n c:Nat} {P:List UInt8} {v:Nat} (h:TkAt B M bt bp a n c P v) (hM':M.le M'):TkAt B M' bt bp a n c P v:=
 ⟨Mem.le_trans h.1 hM',h.2.1,hM' _ _ h.2.2.1,h.2.2.2⟩
theorem OthAt.keep {M':Mem} {mb:Nat} {oth:List (Nat×Nat)} {S:Nat→Prop} (h:OthAt M mb oth) (hk:Mem.keep S M M') (hS:¬S mb):OthAt M' mb oth:=by
 obtain⟨m,hm,h2⟩:=h;exact⟨m,hm.mono fun o ho=>hk _ _ hS ho,h2⟩
def zcS (P:List UInt8) (nodes:Nat):Nat→Nat→Nat
 | 0,v=>v
 | j+1,v=>(zaV P nodes (zcS P nodes j v)).2
def zf3 (P:List UInt8) (nodes v j:Nat):List StpR:=(List.range j).map fun i=>(zaV P nodes (zcS P nodes i v)).1
theorem zqY (P:List UInt8) (nodes v j:Nat):(zf3 P nodes v j).length=j:=by simp[zf3]
theorem zIO (P:List UInt8) (nodes v j:Nat):zf3 P nodes v (j+1)=zf3 P nodes v j++[(zaV P nodes (zcS P nodes j v)).1]:=by unfold zf3;rw[List.range_succ,List.map_append];rfl
theorem zpk (P:List UInt8) (nodes v:Nat):∀ j,zcS P nodes (j+1) v=zcS P nodes j (zaV P nodes v).2
 | 0=>rfl
 | j+1=>by show (zaV P nodes (zcS P nodes (j+1) v)).2=_;rw[zpk P nodes v j];rfl
theorem zxc (P:List UInt8) (nodes:Nat):∀ (j f v:Nat),j≤f→(∀ i,i<j→zcS P nodes i v<P.length)→(j=f∨P.length≤zcS P nodes j v)→zex P nodes f v=zf3 P nodes v j
 | 0,0,v,_,_,_=>rfl
 | 0,f+1,v,_,_,h=>by
  have h':P.length≤v:=by rcases h with h|h; · omega
                         ·exact h
  unfold zex;rw[if_neg (by omega)];rfl
 | j+1,0,v,h,_,_=>by omega
 | j+1,f+1,v,h,hl,he=>by
  have h0:v<P.length:=hl 0 (by omega);unfold zex;rw[if_pos h0,zxc P nodes j f (zaV P nodes v).2 (by omega) (fun i hi=>by rw[←zpk];exact hl (i+1) (by omega)) (by rw[←zpk];omega)];unfold zf3;rw[List.range_succ_eq_map,List.map_cons,List.map_map];congr 1;refine List.map_congr_left fun i _=>?_
  show (zaV P nodes (zcS P nodes i (zaV P nodes v).2)).1=(zaV P nodes (zcS P nodes (i+1) v)).1;rw[zpk]
theorem NewSl.minus {E:TypeId} {s:Nat} {a:Option Addr} {n c:Nat} {L:List Value} {M1:Mem} {S:Nat→Prop} (h:NewSl M E s a n c L M1) (hS:∀ b,S b→M b=none) (ha:∀ p,a=some p→¬S p.block):NewSl M E s a n c L (M1.minus S):=by
 rw[newSl_iff] at h ⊢;obtain⟨h0,h1,h2,h3⟩:=h;exact⟨Mem.le_minus h0 hS,h1,h2,h3.imp id fun ⟨b,cs,hab,hb,hh,hr⟩=>⟨b,cs,hab,hb,hh.minus (ha _ hab),hr⟩⟩
theorem zq7 {A B:Mem} {x:Nat} (h:A.le B) (hx:B x=none):A x=none:=by
 cases hA:A x with
 | none=>rfl
 | some o=>rw[h _ _ hA] at hx;cases hx
theorem StpN.keep {B0 M M':Mem} {cs:List Value} {x:StpR} {S:Nat→Prop} (h:StpN B0 M cs x) (hk:Mem.keep S M M') (hS:∀ b ds,M.has b T.zM ds→¬S b):StpN B0 M' cs x:=by
 obtain⟨q,c,h1,h2,h3⟩:=h;refine⟨q,c,h1,(h2.minus fun r hr=>?_).le (Mem.keep_minus.1 hk),fun r hr=>?_⟩
 ·obtain⟨_,ds,hd⟩:=h3 r hr;exact hS _ _ hd
 ·obtain⟨h4,ds,hd⟩:=h3 r hr;exact⟨h4,ds,hk _ _ (hS _ _ hd) hd⟩
set_option maxRecDepth 100000 in
theorem zxd {a:Option Addr} {n c:Nat} {P:List UInt8} (hs:SrcOk M 1 a n (P.map zy)) (hn:n≤1048576) :
  CallsM Tryz.prog F.z8 [.slice a n c] M fun u M'=>M.le M'∧∃ ql cl qs cs,u = .agg (zL2 (zdN P) ql cl qs cs).toArray∧NewSl M T.zci 2 ql (zdN P).links.length cl ((zdN P).links.flatMap zoh) M'∧NewEls M T.zG 5 qs (zdN P).steps.length cs (StpN M M') (zdN P).steps M':=by
 have hl:=hs.maplen;refine zzR (by simp) ?_;(conv=>whnf);refine new (fun bt hbt=>?_);replace hbt:M bt=none:=hbt;(conv=>whnf);refine new (fun bp hbp=>?_);have hbp':(M.setCells bt T.int [.int .i64 0]) bp=none:=hbp
 have hne:bp≠bt:=by rintro rfl;simp[Mem.setCells,Mem.upd] at hbp'
 have hbpM:M bp=none:=by simpa[Mem.setCells,Mem.upd,hne] using hbp'
 obtain⟨M1,hM1⟩:∃ M1,M1=(M.setCells bt T.int [.int .i64 0]).setCells bp T.zY [.slice a n c]:=⟨_,rfl⟩
 have hMM1:M.le M1:=hM1▸Mem.le_trans (Mem.le_setCells hbt) (Mem.le_setCells hbp');have hp1:M1.has bp T.zY [.slice a n c]:=hM1▸Mem.has_setCells
 have ht1:M1.has bt T.int [.int .i64 0]:=hM1▸Mem.has.le (Mem.le_setCells hbp') Mem.has_setCells;obtain⟨B,hB⟩:∃ B,B=M1.minus fun y=>y=bt:=⟨_,rfl⟩
 have hMB:M.le B:=hB▸Mem.le_minus hMM1 (fun _ e=>e▸hbt);have hTk1:TkAt B M1 bt bp a n c P 0:=⟨hB▸Mem.minus_le _ _,hB▸Mem.minus_in rfl,by simpa using ht1,hB▸hp1.minus hne,hs.le hMB,hn⟩
 (conv=>whnf);erw [←hM1];refine(zB hTk1 (m:=64) (by decide) (by decide)).mono ?_;rintro u M2 ⟨rfl,h2,hk2⟩;have hr2:=zab (P:=P) (v:=0) (m:=64) (by decide)
 obtain⟨nodes,hnodes⟩:∃ nodes,nodes=1+zm P 0 64:=⟨_,rfl⟩
 (conv=>whnf);refine obr (zs (by first|omega|(dsimp only;omega))) ?_;rw[show (1:Int)+((zm P 0 64:Nat):Int)=((nodes:Nat):Int) by omega];refine zR ?_;(conv=>whnf);refine new (fun mb hmb=>?_);replace hmb:M2 mb=none:=hmb
 have hbtm:bt≠mb:=by
  rintro rfl;obtain⟨_,_,hh,_⟩:=h2;rw[show M2 bt=_ from hh] at hmb;cases hmb
 have hBmb:B mb=none:=by
  cases hx:B mb with
  | none=>rfl
  | some o=>rw[h2.1 mb o hx] at hmb;cases hmb
 obtain⟨M3,hM3⟩:∃ M3,M3=M2.upd mb (.map #[] 0):=⟨_,rfl⟩
 have hO3:OthAt M3 mb (ziI P nodes 0):=⟨[],hM3▸MapAt.new M2 mb,fun p=>by simp[zaO,ziI]⟩
 have h3:TkAt B M3 bt bp a n c P 1:=h2.upd hBmb hbtm (hM3▸fun b hb=>Mem.upd_ne _ _ hb);(conv=>whnf)
 erw [←hM3];refine(zB h3 (m:=16) (by decide) (by decide)).mono ?_;rintro u M4 ⟨rfl,h4,hk4⟩;have hO4:=hO3.keep hk4 (fun e=>hbtm e.symm)
 have hr4:=zab (P:=P) (v:=1) (m:=16) (by decide);(conv=>whnf)
 refine zcD (σ:=Nat×Mem) [17] (fun y=>[(17,.int .i64 y.1)]) (fun y=>[BE.gone bp,BE.live T.zch [SC.v (S.i 0),SC.v S.sn,SC.v (S.i 0),SC.v (S.i 0),SC.v (S.i 0),SC.v (S.i 0),SC.v (S.i 0),SC.v (S.i 0),SC.v (S.i 0),SC.v (S.i 0),SC.v (S.i 0),SC.v (S.i 0),SC.v S.sn],BE.gone bt,BE.live T.zch [SC.v (.int .i64 nodes),SC.v S.sn,SC.v (S.i 0),SC.v (S.i 0),SC.v (S.i 0),SC.v (S.i 0),SC.v (S.i 0),SC.v (S.i 0),SC.v (S.i 0),SC.v (S.i 0),SC.v (S.i 0),SC.v (S.i 0),SC.v S.sn]]) (fun y=>y.2)
  (fun|⟨i,Mc⟩=>i≤zm P 1 16∧TkAt B Mc bt bp a n c P (2+2*i)∧OthAt Mc mb (ziI P nodes i)) (fun y=>zm P 1 16 - y.1) ⟨0,M4⟩ ⟨by omega,h4,hO4⟩ zS ?_
 rintro ⟨i,Mc⟩ ⟨hi,hT,hO⟩;(conv=>whnf);refine brn (fun g=>?_) (fun g=>?_)
 ·have g':i<zm P 1 16:=by have:=Zd0 g;dsimp only at this;omega
  refine zX ?_;refine⟨Mc.minus fun y=>y=bt,Mem.minus_le _ _,?_⟩;refine zR ?_;refine(zB hT (m:=nodes) (by omega) (by omega)).mono ?_;rintro u M5 ⟨rfl,h5,hk5⟩;refine zT (Mem.keep_minus.1 hk5) ?_;refine zR ?_;refine(zB h5 (m:=nodes) (by omega) (by omega)).mono ?_;rintro u M6 ⟨rfl,h6,hk6⟩;have hO6:=(hO.keep hk5 (fun e=>hbtm e.symm)).keep hk6 (fun e=>hbtm e.symm)
  obtain⟨m,hmA,hmg⟩:=hO6;(conv=>whnf)
  obtain⟨x,hx⟩:∃ x,x=min (zm P (2+2*i) nodes) (zm P (2+2*i+1) nodes):=⟨_,rfl⟩
  obtain⟨y,hy⟩:∃ y,y=max (zm P (2+2*i) nodes) (zm P (2+2*i+1) nodes):=⟨_,rfl⟩
  rw[show min ((zm P (2+2*i) nodes:Nat):Int) ((zm P (2+2*i+1) nodes:Nat):Int)=((x:Nat):Int) by omega,show max ((zm P (2+2*i) nodes:Nat):Int) ((zm P (2+2*i+1) nodes:Nat):Int)=((y:Nat):Int) by omega];refine hmA.put zEr (x,y) true fun p f hm=>?_
  obtain⟨M7,hM7⟩:∃ M7,M7=M6.upd mb (mput p f (kvL (x,y)) (vvB true)):=⟨_,rfl⟩
  have h7:TkAt B M7 bt bp a n c P (2+2*i+1+1):=h6.upd hBmb hbtm (fun b hb=>by rw[hM7];exact Mem.upd_ne _ _ hb)
  have hO7:OthAt M7 mb (ziI P nodes (i+1)):=by
   refine⟨_,hM7▸hm M6,fun z=>?_⟩;rw[zED,hmg,zNw];simp only[List.mem_append,List.mem_singleton];by_cases hz:z=(x,y)
   ·rw[if_pos hz,if_pos (.inr (by rw[hz,hx,hy,show 3+2*i=2+2*i+1 by omega]))]
   ·rw[if_neg hz];by_cases hz2:z∈ziI P nodes i
    ·rw[if_pos hz2,if_pos (.inl hz2)]
    ·rw[if_neg hz2,if_neg];rintro (h|h)
     ·exact hz2 h
     ·exact hz (by rw[h,hx,hy,show 3+2*i=2+2*i+1 by omega])
  (conv=>whnf);erw [←hM7];(conv=>whnf);refine obr (zs (by first|omega|(dsimp only;omega))) ?_;(conv=>whnf)
  refine⟨⟨i+1,M7⟩,⟨by omega,?_,hO7⟩,by dsimp only;omega,?_⟩
  ·rw[show 2+2*(i+1)=2+2*i+1+1 by omega];exact h7
  ·exact zS
 ·have g':i=zm P 1 16:=by have:=Zd1 g;dsimp only at this;omega
  subst g';have hnd:nodes≤64:=by omega
  (conv=>whnf);refine(zHV hO hnd).mono ?_;rintro u M5 ⟨ql,cl,rfl,hL⟩;have h5:=hT.le hL.le
  have hL':=hL.mono (Mem.le_trans hMB hT.1);obtain⟨L,hL0⟩:∃ L,L=zcR nodes (ziI P nodes (zm P 1 16)):=⟨_,rfl⟩
  rw[←hL0] at hL';erw [←hL0];obtain⟨w,hw⟩:∃ w,w=2+2*zm P 1 16:=⟨_,rfl⟩
  rw[←hw] at h5;have k0:Mem.keep (fun y=>y=bt) M5 M5:=Mem.keep_refl _ _
  obtain⟨t0,e0⟩:∃ t,t=zm P w 256:=⟨_,rfl⟩
  have r0:=zab (P:=P) (v:=w) (m:=256) (by decide);rw[←e0] at r0;(conv=>whnf)
  refine(zB h5 (m:=256) (by decide) (by decide)).mono ?_;rintro u N0 ⟨rfl,h10,kk0⟩;have k1:=Mem.keep_trans k0 kk0
  rw[←e0];obtain⟨t1,e1⟩:∃ t,t=zm P (w+1) 256:=⟨_,rfl⟩
  have r1:=zab (P:=P) (v:=w+1) (m:=256) (by decide);rw[←e1] at r1;(conv=>whnf)
  refine(zB h10 (m:=256) (by decide) (by decide)).mono ?_;rintro u N1 ⟨rfl,h11,kk1⟩;have k2:=Mem.keep_trans k1 kk1
  rw[←e1];(conv=>whnf);refine obr (zs (by first|omega|(dsimp only;omega))) ?_;obtain⟨t2,e2⟩:∃ t,t=zm P (w+2) 256:=⟨_,rfl⟩
  have r2:=zab (P:=P) (v:=w+2) (m:=256) (by decide);rw[←e2] at r2;(conv=>whnf)
  refine(zB h11 (m:=256) (by decide) (by decide)).mono ?_;rintro u N2 ⟨rfl,h12,kk2⟩;have k3:=Mem.keep_trans k2 kk2
  rw[←e2];obtain⟨t3,e3⟩:∃ t,t=zm P (w+3) 256:=⟨_,rfl⟩
  have r3:=zab (P:=P) (v:=w+3) (m:=256) (by decide);rw[←e3] at r3;(conv=>whnf)
  refine(zB h12 (m:=256) (by decide) (by decide)).mono ?_;rintro u N3 ⟨rfl,h13,kk3⟩;have k4:=Mem.keep_trans k3 kk3
  rw[←e3];(conv=>whnf);refine obr (zs (by first|omega|(dsimp only;omega))) ?_;(conv=>whnf);refine obr (zs (by first|omega|(dsimp only;omega))) ?_;obtain⟨t4,e4⟩:∃ t,t=zm P (w+4) 256:=⟨_,rfl⟩
  have r4:=zab (P:=P) (v:=w+4) (m:=256) (by decide);rw[←e4] at r4;(conv=>whnf)
  refine(zB h13 (m:=256) (by decide) (by decide)).mono ?_;rintro u N4 ⟨rfl,h14,kk4⟩;have k5:=Mem.keep_trans k4 kk4
  rw[←e4];(conv=>whnf);refine obr (zs (by first|omega|(dsimp only;omega))) ?_;obtain⟨t5,e5⟩:∃ t,t=zm P (w+5) 63:=⟨_,rfl⟩
  have r5:=zab (P:=P) (v:=w+5) (m:=63) (by decide);rw[←e5] at r5;(conv=>whnf)
  refine(zB h14 (m:=63) (by decide) (by decide)).mono ?_;rintro u N5 ⟨rfl,h15,kk5⟩;have k6:=Mem.keep_trans k5 kk5
  rw[←e5];(conv=>whnf);refine obr (zs (by first|omega|(dsimp only;omega))) ?_;obtain⟨t6,e6⟩:∃ t,t=zm P (w+6) 8:=⟨_,rfl⟩
  have r6:=zab (P:=P) (v:=w+6) (m:=8) (by decide);rw[←e6] at r6;(conv=>whnf)
  refine(zB h15 (m:=8) (by decide) (by decide)).mono ?_;rintro u N6 ⟨rfl,h16,kk6⟩;have k7:=Mem.keep_trans k6 kk6
  rw[←e6];(conv=>whnf);refine obr (zs (by first|omega|(dsimp only;omega))) ?_;obtain⟨t7,e7⟩:∃ t,t=zm P (w+7) 4:=⟨_,rfl⟩
  have r7:=zab (P:=P) (v:=w+7) (m:=4) (by decide);rw[←e7] at r7;(conv=>whnf)
  refine(zB h16 (m:=4) (by decide) (by decide)).mono ?_;rintro u N7 ⟨rfl,h17,kk7⟩;have k8:=Mem.keep_trans k7 kk7
  rw[←e7];(conv=>whnf);refine obr (zs (by first|omega|(dsimp only;omega))) ?_;obtain⟨t8,e8⟩:∃ t,t=zm P (w+8) 8:=⟨_,rfl⟩
  have r8:=zab (P:=P) (v:=w+8) (m:=8) (by decide);rw[←e8] at r8;(conv=>whnf)
  refine(zB h17 (m:=8) (by decide) (by decide)).mono ?_;rintro u N8 ⟨rfl,h18,kk8⟩;have k9:=Mem.keep_trans k8 kk8
  rw[←e8];(conv=>whnf);refine obr (zs (by first|omega|(dsimp only;omega))) ?_;obtain⟨t9,e9⟩:∃ t,t=zm P (w+9) 4:=⟨_,rfl⟩
  have r9:=zab (P:=P) (v:=w+9) (m:=4) (by decide);rw[←e9] at r9;(conv=>whnf)
  refine(zB h18 (m:=4) (by decide) (by decide)).mono ?_;rintro u N9 ⟨rfl,h19,kk9⟩;have k10:=Mem.keep_trans k9 kk9
  rw[←e9];(conv=>whnf)
  obtain⟨A,hA⟩:∃ A,A=N9.minus fun y=>y=bt:=⟨_,rfl⟩
  have hBA:B.le A:=hA▸Mem.le_minus h19.1 (fun _ e=>e▸h19.2.1);have hAbt:A bt=none:=hA▸Mem.minus_in rfl
  have hLA:NewSl M T.zci 2 ql L.length cl (L.flatMap zoh) A:=by
   have hne:∀ q,ql=some q→¬q.block=bt:=fun q hq e=>by
    obtain⟨_,cs,hc⟩:=hL'.block hq;rw[e] at hc;exact absurd (hc.inj h5.2.2.1).1 (by decide)
   have:=hL'.keep k10 (fun _ e=>e▸hbt) hne;exact hA▸NewSl.minus this (fun _ e=>e▸hbt) hne
  obtain⟨w0,hw0⟩:∃ w0,w0=w+9+1:=⟨_,rfl⟩
  rw[←hw0] at h19
  refine zcD (σ:=Nat×Mem×Option Addr×Nat) [] (fun y=>[]) (fun y=>[BE.gone bp,BE.live T.zch [SC.v (S.i 0),SC.v S.sn,SC.v (S.i 0),SC.v (S.i 0),SC.v (S.i 0),SC.v (S.i 0),SC.v (S.i 0),SC.v (S.i 0),SC.v (S.i 0),SC.v (S.i 0),SC.v (S.i 0),SC.v (S.i 0),SC.v S.sn],BE.gone bt,BE.live T.zch [SC.v (.int .i64 nodes),SC.v (.slice ql L.length cl),SC.v (.int .i64 t0),SC.v (.int .i64 (8*t1)),SC.v (.int .i64 t2),SC.v (.int .i64 (256+256*t3)),SC.v (.int .i64 (16+t4)),SC.v (.int .i64 (1+t5)),SC.v (.int .i64 (1+t6)),SC.v (.int .i64 (1+t7)),SC.v (.int .i64 (1+t8)),SC.v (.int .i64 t9),SC.v (.slice y.2.2.1 y.1 y.2.2.2)]]) (fun y=>y.2.1)
   (fun|⟨j,Mc,q,cq⟩=>j≤256∧TkAt B Mc bt bp a n c P (zcS P nodes j w0)∧NewEls A T.zG 5 q j cq (StpN A Mc) (zf3 P nodes w0 j) Mc∧∀ i,i<j→zcS P nodes i w0<P.length) (fun y=>256 - y.1) ⟨0,N9,none,0⟩ ⟨by omega,h19,(NewEls.nil _ _ _ _).up (hA▸Mem.minus_le _ _),by omega⟩ zS ?_
  rintro ⟨j,Mc,q,cq⟩ ⟨hj,hT,hE,hlt⟩;have hj0:(zcS P nodes j w0<P.length∧j<256)∨(j=256∨P.length≤zcS P nodes j w0):=by omega
  refine on (hT.2.2.1.c1 rfl) ?_;(conv=>whnf)
  refine on ((hT.2.2.2.1.le hT.1).c1 rfl) ?_;(conv=>whnf)
  (conv=>whnf);refine brn (fun g=>?_) (fun g=>?_)
  ·have g':=Zd0 g;have hv:zcS P nodes j w0<P.length:=by omega
   (conv=>whnf);refine brn (fun f=>?_) (fun f=>?_)
   ·have f':j<256:=by have:=Zd0 f;dsimp only at this;omega
    refine zX ?_;refine⟨A,hE.le,?_⟩;refine zR ?_;refine(zRY hT (nodes:=nodes) (by omega) (by omega)).mono ?_;rintro u M7 ⟨qd,cd,rfl,h7,hk7,hd⟩;have hA7:A.le M7:=hk7.le hE.le (fun _ e=>e▸hAbt)
    have hqb:∀ p,q=some p→¬p.block=bt:=fun p hp e=>by
     obtain⟨_,cs,hc⟩:=hE.block hp;rw[e] at hc;exact absurd (hc.inj hT.2.2.1).1 (by decide)
    have hE7:NewEls A T.zG 5 q j cq (StpN A M7) (zf3 P nodes w0 j) M7:=(hE.keep hk7 (fun _ e=>e▸hAbt) hqb).imp fun cs x _ hx=>hx.keep hk7 fun b ds hb e=>by
     rw[e] at hb;exact absurd (hb.inj hT.2.2.1).1 (by decide)
    have hAm:A.le (Mc.minus fun y=>y=bt):=Mem.le_minus hE.le (fun _ e=>e▸hAbt);have hx:StpN A M7 (zm4 (zaV P nodes (zcS P nodes j w0)).1 qd cd) (zaV P nodes (zcS P nodes j w0)).1:=⟨qd,cd,rfl,hd.src,fun r hr=>⟨zq7 hAm (hd.block hr).1,(hd.block hr).2⟩⟩
    refine zT (hA7) ?_;(conv=>whnf)
    refine zUq A hE7 _ hx rfl (by dsimp only;omega) (by dsimp only;simp[maxLen];omega) (by simp[Value.oneCell']) fun q8 c8 M8 hE8 hk8=>?_
    have hn8:∀ b E ds,M7.has b E ds→E≠T.zG→¬blk q b:=fun b E ds hb hE' ⟨p,hp,e⟩=>by
     obtain⟨_,cs,hc⟩:=hE7.block hp;rw[e] at hc;exact hE' (hc.inj hb).1.symm
    have h8:TkAt B M8 bt bp a n c P (zcS P nodes (j+1) w0):=⟨Mem.le_trans hBA hE8.le,h7.2.1,hk8 _ _ (hn8 _ _ _ h7.2.2.1 (by decide)) h7.2.2.1,h7.2.2.2⟩
    have hE9:NewEls A T.zG 5 q8 (j+1) c8 (StpN A M8) (zf3 P nodes w0 (j+1)) M8:=by
     rw[zIO];exact hE8.imp fun cs x _ hx=>hx.keep hk8 fun b ds hb=>hn8 _ _ _ hb (by decide)
    refine zT (hE8.le) ?_;refine zR ?_;(conv=>whnf)
    refine⟨⟨j+1,M8,q8,c8⟩,⟨by omega,h8,hE9,fun i hi=>?_⟩,by dsimp only;omega,zS⟩;by_cases hij:i=j
    ·rw[hij];exact hv
    ·exact hlt i (by omega)
   ·have f':j=256:=by have:=Zd1 f;dsimp only at this;omega
    have hst:zf3 P nodes w0 j=zex P nodes 256 w0:=(zxc P nodes j 256 w0 hj hlt (.inl f')).symm
    have hdec:zdN P=⟨nodes,L,t0,8*t1,t2,256+256*t3,16+t4,1+t5,1+t6,1+t7,1+t8,t9,zf3 P nodes w0 j⟩:=by
     rw[hst];subst hnodes hL0 e0 e1 e2 e3 e4 e5 e6 e7 e8 e9 hw0 hw;rfl
    rw[hdec];(conv=>whnf)
    refine⟨Mem.le_trans hMB hT.1,ql,cl,q,cq,?_,hLA.up hE.le,?_⟩
    ·simp[zL2,zqY]
    ·dsimp only;rw[zqY];exact(hE.mono hLA.le).imp fun cs x _ ⟨q',c',h1,h2,h3⟩=>⟨q',c',h1,h2,fun r hr=>⟨zq7 hLA.le (h3 r hr).1,(h3 r hr).2⟩⟩
  ·have g':=Zd1 g;have hst:zf3 P nodes w0 j=zex P nodes 256 w0:=(zxc P nodes j 256 w0 hj hlt (.inr (by omega))).symm
   have hdec:zdN P=⟨nodes,L,t0,8*t1,t2,256+256*t3,16+t4,1+t5,1+t6,1+t7,1+t8,t9,zf3 P nodes w0 j⟩:=by
    rw[hst];subst hnodes hL0 e0 e1 e2 e3 e4 e5 e6 e7 e8 e9 hw0 hw;rfl
   rw[hdec];(conv=>whnf)
   refine⟨Mem.le_trans hMB hT.1,ql,cl,q,cq,?_,hLA.up hE.le,?_⟩
   ·simp[zL2,zqY]
   ·dsimp only;rw[zqY];exact(hE.mono hLA.le).imp fun cs x _ ⟨q',c',h1,h2,h3⟩=>⟨q',c',h1,h2,fun r hr=>⟨zq7 hLA.le (h3 r hr).1,(h3 r hr).2⟩⟩
end
section
variable {M B B0:Mem}
@[reducible] def zm5 (p:Int×Int):List Value:=[.int .i64 p.1,.int .i64 p.2]
end
end Go.Proofs.YtpnhjkiligohnaaGreatDoor
namespace Go.Proofs.YtpnhjkiligohnaaGreatDoor
section
structure StpI where
 kind:Int
 node:Int
 to:Int
 n:Int
 data:List UInt8
theorem StpI.ext' {x y:StpI} (h1:x.kind=y.kind) (h2:x.node=y.node) (h3:x.to=y.to) (h4:x.n=y.n) (h5:x.data=y.data):x=y:=by
 cases x;cases y;simp_all
def StpR.toI (x:StpR):StpI:=⟨x.kind,x.node,x.to,x.n,x.data⟩
def zap (x:Int×Nat×Nat):Bool:=decide (0≤x.1)&&decide (x.1.tmod x.2.1=0)&&decide (x.1.tdiv x.2.1<x.2.2)
def zP (x:Int×Nat×Nat):UInt8:=UInt8.ofNat (x.1.tdiv x.2.1 % 256).toNat
def zaW (n:Int):List (Int×Nat×Nat):=if n=0 then [] else [(-1,1,1)]
def zaL (nodes:Nat) (x:StpI) (r:Nat):List (Int×Nat×Nat):=
 match r with
 | 0=>[(x.node,1,nodes),(x.to,1,256)]++(zaW x.n++[((x.data.length:Int),1,64)])
 | 2=>zaW x.node++(zaW x.to++(zaW x.n++zaW x.data.length))
 | 3=>[(x.node,1,nodes),(x.to,1,nodes),(x.n,1,256)]++zaW x.data.length
 | 4=>[(x.node,1,nodes),(x.to,1,nodes),(x.n,1,256)]++zaW (x.data.length - 1)
 | 5=>[(x.node,1,nodes),(x.to,1,nodes),(x.n,1,256)]++zaW (x.data.length - 1)
 | 6=>[(x.node,1,nodes)]++(zaW x.to++(zaW x.n++[((x.data.length:Int),1,8)]))
 | 8=>[(x.node,1,nodes)]++(zaW x.to++([(x.n,256,256)]++zaW x.data.length))
 | 10=>[(x.node,1,nodes)]++(zaW x.to++([(x.n,1,64)]++zaW x.data.length))
 | 11=>zaW x.node++(zaW x.to++([(x.n,1,256)]++zaW x.data.length))
 | _=>[(x.node,1,nodes)]++(zaW x.to++(zaW x.n++zaW x.data.length))
def zag (nodes:Nat) (x:StpI):List (Int×Nat×Nat):=(x.kind - 1,1,12)::zaL nodes x (x.kind - 1).toNat
def zL3 (nodes:Nat) (x:StpI):Option (List UInt8):=
 if (1≤x.kind∧x.kind≤12)∧(zag nodes x).all zap=true then some ((zag nodes x).map zP++x.data) else none
def zH (n:Int):UInt8:=UInt8.ofNat (n % 256).toNat
def zm6 (x:StpI) (r:Nat):List UInt8:=
 match r with
 | 0=>[zH x.node,zH x.to,zH x.data.length]
 | 2=>[]
 | 3=>[zH x.node,zH x.to,zH x.n]
 | 4=>[zH x.node,zH x.to,zH x.n]
 | 5=>[zH x.node,zH x.to,zH x.n]
 | 6=>[zH x.node,zH x.data.length]
 | 8=>[zH x.node,zH (x.n / 256)]
 | 10=>[zH x.node,zH x.n]
 | 11=>[zH x.n]
 | _=>[zH x.node]
def ziJ (x:StpI):List UInt8:=zH (x.kind - 1)::(zm6 x (x.kind - 1).toNat++x.data)
def zNx (x:StpI):Prop:=(1≤x.kind∧x.kind≤12)∧(0≤x.node∧x.node≤63)∧(0≤x.to∧x.to≤255)∧(0≤x.n∧x.n≤65535)∧x.data.length≤63
theorem zHW (pre own:List UInt8) (i:Nat):(pre++own).getD (pre.length+i) 0=own.getD i 0:=by
 simp[List.getD_eq_getElem?_getD,List.getElem?_append_right]
theorem ztP (pre own:List UInt8) (i m:Nat):zm (pre++own) (pre.length+i) m=zm own i m:=by
 unfold zm;rw[zHW]
theorem zCR (pre own:List UInt8) (i k:Nat):zau (pre++own) (pre.length+i) k=zau own i k:=by
 unfold zau;refine List.map_congr_left fun j _=>?_
 rw[Nat.add_assoc,zHW]
theorem zNy (pre own:List UInt8) (nodes r:Nat):zai (pre++own) nodes pre.length r=((zai own nodes 0 r).1,pre.length+(zai own nodes 0 r).2):=by
 have h0:∀ i m,zm (pre++own) (pre.length+i) m=zm own (0+i) m:=fun i m=>by rw[ztP,Nat.zero_add]
 have h1:∀ i k,zau (pre++own) (pre.length+i) k=zau own (0+i) k:=fun i k=>by rw[zCR,Nat.zero_add]
 unfold zai;split<;>simp only[h0,h1]<;>(try rfl)<;>(congr 1;omega)
theorem zNz (pre own:List UInt8) (nodes:Nat):zaV (pre++own) nodes pre.length=((zaV own nodes 0).1,pre.length+(zaV own nodes 0).2):=by
 unfold zaV;rw[zNy,show zm (pre++own) pre.length 12=zm own 0 12 from ztP pre own 0 12]
theorem zL4 (own post:List UInt8):zau (own++post) 0 own.length=own:=by
 unfold zau;apply List.ext_getElem
 ·simp
 ·intro i h1 h2;simp[List.getElem?_append_left h2,List.getElem?_eq_getElem h2]
theorem zPR {n:Int} {m:Nat} (hm:0<m) (h:0≤n∧n<m) (hm2:m≤256):(zH n).toNat % m=n.toNat:=by
 unfold zH;have:(n % 256).toNat=n.toNat:=by omega
 rw[this,UInt8.toNat_ofNat',Nat.mod_eq_of_lt (by omega:n.toNat<2 ^ 8),Nat.mod_eq_of_lt (by omega)]
theorem zqZ (n:Int) (m:Nat):zap (n,1,m)=true↔0≤n∧n<m:=by
 unfold zap;simp
theorem zF9 (n:Int):zap (n,256,256)=true↔0≤n∧n % 256=0∧n≤65535:=by
 unfold zap;simp only[Bool.and_eq_true,decide_eq_true_eq];constructor
 ·rintro ⟨⟨h1,h2⟩,h3⟩;rw[Int.tmod_eq_emod_of_nonneg h1] at h2;rw[Int.tdiv_eq_ediv_of_nonneg h1] at h3;omega
 ·rintro ⟨h1,h2,h3⟩;rw[Int.tmod_eq_emod_of_nonneg h1,Int.tdiv_eq_ediv_of_nonneg h1];omega
theorem zUf (n:Int):(zaW n).all zap=true↔n=0:=by
 unfold zaW;split
 ·simp[*]
 ·simp[zap, *]
theorem zCS (n:Int) (m:Nat):zP (n,1,m)=zH n:=by unfold zP zH;simp
theorem zQ6 (n:Int) (h:0≤n) (m:Nat):zP (n,256,m)=zH (n / 256):=by
 unfold zP zH;have e:n.tdiv ((256:Nat):Int)=n / 256:=Int.tdiv_eq_ediv_of_nonneg h
 rw[e]
theorem zL5 {k:Int} (h:1≤k∧k≤12):k=1∨k=2∨k=3∨k=4∨k=5∨k=6∨k=7∨k=8∨k=9∨k=10∨k=11∨k=12:=by omega
def zjK (nodes:Nat) (x:StpI) (r:Nat):Prop:=
 match r with
 | 0=>(0≤x.node∧x.node<nodes)∧(0≤x.to∧x.to<256)∧x.n=0∧x.data.length<64
 | 2=>x.node=0∧x.to=0∧x.n=0∧x.data.length=0
 | 3=>(0≤x.node∧x.node<nodes)∧(0≤x.to∧x.to<nodes)∧(0≤x.n∧x.n<256)∧x.data.length=0
 | 4=>(0≤x.node∧x.node<nodes)∧(0≤x.to∧x.to<nodes)∧(0≤x.n∧x.n<256)∧x.data.length=1
 | 5=>(0≤x.node∧x.node<nodes)∧(0≤x.to∧x.to<nodes)∧(0≤x.n∧x.n<256)∧x.data.length=1
 | 6=>(0≤x.node∧x.node<nodes)∧x.to=0∧x.n=0∧x.data.length<8
 | 8=>(0≤x.node∧x.node<nodes)∧x.to=0∧(0≤x.n∧x.n % 256=0∧x.n≤65535)∧x.data.length=0
 | 10=>(0≤x.node∧x.node<nodes)∧x.to=0∧(0≤x.n∧x.n<64)∧x.data.length=0
 | 11=>x.node=0∧x.to=0∧(0≤x.n∧x.n<256)∧x.data.length=0
 | _=>(0≤x.node∧x.node<nodes)∧x.to=0∧x.n=0∧x.data.length=0
theorem zCT (nodes:Nat) (x:StpI) (r:Nat):(zaL nodes x r).all zap=true↔zjK nodes x r:=by
 unfold zaL zjK;split<;>simp only[List.all_append,List.all_cons,List.all_nil,Bool.and_true,Bool.and_eq_true,zqZ,zF9,zUf]<;>omega
theorem zNA {nodes:Nat} {x:StpI} (h1:1≤x.kind∧x.kind≤12) (h2:zjK nodes x (x.kind - 1).toNat):zL3 nodes x=some (ziJ x):=by
 unfold zL3
 have hg:(zag nodes x).all zap=true:=by
  unfold zag;rw[List.all_cons,Bool.and_eq_true];exact⟨(zqZ _ _).2 (by omega),(zCT ..).2 h2⟩
 rw[if_pos ⟨h1,hg⟩];congr 1;obtain⟨k,nd,to,n,data⟩:=x;dsimp only at h1 h2
 rcases zL5 h1 with rfl|rfl|rfl|rfl|rfl|rfl|rfl|rfl|rfl|rfl|rfl|rfl <;>
  simp only[zjK,Int.reduceSub,Int.toNat_zero,Int.reduceToNat] at h2 <;>
  simp[zag,zaL,ziJ,zm6,zCS,zQ6,zaW,h2]
theorem zNB (pre own post:List UInt8) {k:Nat} (hk:k=own.length):zau (pre++(own++post)) pre.length k=own:=by
 subst hk;have:=zCR pre (own++post) 0 own.length
 rw[Nat.add_zero] at this;rw[this,zL4]
theorem zi0 {y:StpR} {x:StpI} (h1:(y.kind:Int)=x.kind) (h2:(y.node:Int)=x.node) (h3:(y.to:Int)=x.to) (h4:(y.n:Int)=x.n) (h5:y.data=x.data):y.toI=x:=StpI.ext' h1 h2 h3 h4 h5
theorem zby {l:List UInt8} {i m:Nat} {n:Int} (h:l.getD i 0=zH n) (hm:0<m) (hn:0≤n∧n<m) (hm2:m≤256):((zm l i m:Nat):Int)=n:=by
 unfold zm;rw[h,zPR hm hn hm2];omega
theorem zPS {nodes:Nat} {x:StpI} (hN:0<nodes) (hN2:nodes≤64) (h1:1≤x.kind∧x.kind≤12) (h2:zjK nodes x (x.kind - 1).toNat) (post:List UInt8) :
  (zaV (ziJ x++post) nodes 0).1.toI=x∧(zaV (ziJ x++post) nodes 0).2=(ziJ x).length:=by
 obtain⟨k,nd,to,n,data⟩:=x;dsimp only at h1 h2;have hk:∀ l,((zm (zH (k - 1)::l) 0 12:Nat):Int)=k - 1:=fun l=>zby (by rfl) (by decide) (by omega) (by decide)
 have hst:∀ (l:List UInt8) (r:Nat),(r:Int)=k - 1→zaV (zH (k - 1)::l) nodes 0=zai (zH (k - 1)::l) nodes 0 r:=fun l r hr=>by
  have e:zm (zH (k - 1)::l) 0 12=r:=by have:=hk l;omega
  unfold zaV;rw[e]
 have hb:∀ (pre:List UInt8) (j:Nat) (m:Nat),pre.length=j→m=data.length→zau (pre++(data++post)) j m=data:=fun pre j m hj hm=>by
  subst hj;exact zNB pre data post hm
 have hd0:data.length=0→data=[]:=List.length_eq_zero_iff.1;unfold ziJ;dsimp only;rw[List.cons_append,List.append_assoc]
 rcases zL5 h1 with rfl|rfl|rfl|rfl|rfl|rfl|rfl|rfl|rfl|rfl|rfl|rfl <;>
  simp only[zjK,Int.reduceSub,Int.toNat_zero,Int.reduceToNat] at h2
 ·rw[hst _ 0 rfl];have e3:((zm (zH 0::zH nd::zH to::zH data.length::(data++post)) 3 64:Nat):Int)=data.length:=zby (by rfl) (by decide) (by omega) (by decide)
  refine⟨zi0 rfl (show ((zm _ 1 nodes:Nat):Int)=nd from zby (by rfl) hN h2.1 (by omega)) (show ((zm _ 2 256:Nat):Int)=to from zby (by rfl) (by decide) h2.2.1 (by decide)) h2.2.2.1.symm (hb [_,_,_,_] _ _ rfl (Int.ofNat.inj e3)),?_⟩;refine(congrArg (0+4 + ·) (Int.ofNat.inj e3)).trans ?_;simp[zm6];omega
 ·rw[hst _ 1 rfl];refine⟨zi0 rfl (show ((zm _ 1 nodes:Nat):Int)=nd from zby (by rfl) hN h2.1 (by omega)) h2.2.1.symm h2.2.2.1.symm (hd0 h2.2.2.2).symm,?_⟩;simp[zm6,zai,h2.2.2.2,hd0]
 ·rw[hst _ 2 rfl];refine⟨zi0 rfl h2.1.symm h2.2.1.symm h2.2.2.1.symm (hd0 h2.2.2.2).symm,?_⟩;simp[zm6,zai,h2.2.2.2,hd0]
 ·rw[hst _ 3 rfl];refine⟨zi0 rfl (show ((zm _ 1 nodes:Nat):Int)=nd from zby (by rfl) hN h2.1 (by omega)) (show ((zm _ 2 nodes:Nat):Int)=to from zby (by rfl) hN h2.2.1 (by omega)) (show ((zm _ 3 256:Nat):Int)=n from zby (by rfl) (by decide) h2.2.2.1 (by decide)) (hd0 h2.2.2.2).symm,?_⟩;simp[zm6,zai,h2.2.2.2,hd0]
 ·rw[hst _ 4 rfl];refine⟨zi0 rfl (show ((zm _ 1 nodes:Nat):Int)=nd from zby (by rfl) hN h2.1 (by omega)) (show ((zm _ 2 nodes:Nat):Int)=to from zby (by rfl) hN h2.2.1 (by omega)) (show ((zm _ 3 256:Nat):Int)=n from zby (by rfl) (by decide) h2.2.2.1 (by decide)) (hb [_,_,_,_] _ _ rfl h2.2.2.2.symm),?_⟩;simp[zm6,zai,h2.2.2.2]
 ·rw[hst _ 5 rfl];refine⟨zi0 rfl (show ((zm _ 1 nodes:Nat):Int)=nd from zby (by rfl) hN h2.1 (by omega)) (show ((zm _ 2 nodes:Nat):Int)=to from zby (by rfl) hN h2.2.1 (by omega)) (show ((zm _ 3 256:Nat):Int)=n from zby (by rfl) (by decide) h2.2.2.1 (by decide)) (hb [_,_,_,_] _ _ rfl h2.2.2.2.symm),?_⟩;simp[zm6,zai,h2.2.2.2]
 ·rw[hst _ 6 rfl];have e3:((zm (zH 6::zH nd::zH data.length::(data++post)) 2 8:Nat):Int)=data.length:=zby (by rfl) (by decide) (by omega) (by decide)
  refine⟨zi0 rfl (show ((zm _ 1 nodes:Nat):Int)=nd from zby (by rfl) hN h2.1 (by omega)) h2.2.1.symm h2.2.2.1.symm (hb [_,_,_] _ _ rfl (Int.ofNat.inj e3)),?_⟩;refine(congrArg (0+3 + ·) (Int.ofNat.inj e3)).trans ?_;simp[zm6];omega
 ·rw[hst _ 7 rfl];refine⟨zi0 rfl (show ((zm _ 1 nodes:Nat):Int)=nd from zby (by rfl) hN h2.1 (by omega)) h2.2.1.symm h2.2.2.1.symm (hd0 h2.2.2.2).symm,?_⟩;simp[zm6,zai,h2.2.2.2,hd0]
 ·rw[hst _ 8 rfl];have e3:((zm (zH 8::zH nd::zH (n / 256)::(data++post)) 2 256:Nat):Int)=n / 256:=zby (by rfl) (by decide) (by omega) (by decide)
  refine⟨zi0 rfl (show ((zm _ 1 nodes:Nat):Int)=nd from zby (by rfl) hN h2.1 (by omega)) h2.2.1.symm (show ((256*zm (zH 8::zH nd::zH (n / 256)::(data++post)) 2 256:Nat):Int)=n by omega) (hd0 h2.2.2.2).symm,?_⟩;simp[zm6,zai,h2.2.2.2,hd0]
 ·rw[hst _ 9 rfl];refine⟨zi0 rfl (show ((zm _ 1 nodes:Nat):Int)=nd from zby (by rfl) hN h2.1 (by omega)) h2.2.1.symm h2.2.2.1.symm (hd0 h2.2.2.2).symm,?_⟩;simp[zm6,zai,h2.2.2.2,hd0]
 ·rw[hst _ 10 rfl];refine⟨zi0 rfl (show ((zm _ 1 nodes:Nat):Int)=nd from zby (by rfl) hN h2.1 (by omega)) h2.2.1.symm (show ((zm _ 2 64:Nat):Int)=n from zby (by rfl) (by decide) h2.2.2.1 (by decide)) (hd0 h2.2.2.2).symm,?_⟩;simp[zm6,zai,h2.2.2.2,hd0]
 ·rw[hst _ 11 rfl];refine⟨zi0 rfl h2.1.symm h2.2.1.symm (show ((zm _ 1 256:Nat):Int)=n from zby (by rfl) (by decide) h2.2.2.1 (by decide)) (hd0 h2.2.2.2).symm,?_⟩;simp[zm6,zai,h2.2.2.2,hd0]
theorem zIP (P:List UInt8) (v k:Nat):(zau P v k).length=k:=by simp[zau]
theorem zNC {nodes:Nat} (hN:0<nodes) (P:List UInt8) (v:Nat):(1≤(zaV P nodes v).1.toI.kind∧(zaV P nodes v).1.toI.kind≤12)∧zjK nodes (zaV P nodes v).1.toI ((zaV P nodes v).1.toI.kind - 1).toNat:=by
 have hr:=zab (P:=P) (v:=v) (m:=12) (by decide);have hn:=fun i=>zab (P:=P) (v:=i) (m:=nodes) hN
 have h256:=fun i=>zab (P:=P) (v:=i) (m:=256) (by decide)
 have h64:=fun i=>zab (P:=P) (v:=i) (m:=64) (by decide)
 have h8:=fun i=>zab (P:=P) (v:=i) (m:=8) (by decide)
 unfold zaV;generalize zm P v 12=r at *;have hc:r=0∨r=1∨r=2∨r=3∨r=4∨r=5∨r=6∨r=7∨r=8∨r=9∨r=10∨r=11:=by omega
 have n1:=hn (v+1);have n2:=hn (v+2);have a1:=h256 (v+1);have a2:=h256 (v+2);have a3:=h256 (v+3);have b2:=h64 (v+2);have b3:=h64 (v+3);have c2:=h8 (v+2)
 rcases hc with rfl|rfl|rfl|rfl|rfl|rfl|rfl|rfl|rfl|rfl|rfl|rfl <;>
  simp[zai,StpR.toI,zjK,zIP]<;>omega
end
section
@[reducible] def zd9 (p:Nat×Nat):Int×Int:=((p.1:Int),(p.2:Int))
structure SetI where
 held:Int
 bytes:Int
 gaps:Int
 disk:Int
 seg:Int
 win:Int
 timer:Int
 tries:Int
 wait:Int
 delay:Int
structure zkx where
 nodes:Int
 links:List (Int×Int)
 set:SetI
 steps:List StpI
def ScrR.toI (S:ScrR):zkx:=⟨S.nodes,S.links.map zd9,⟨S.held,S.bytes,S.gaps,S.disk,S.seg,S.win,S.timer,S.tries,S.wait,S.delay⟩,S.steps.map StpR.toI⟩
def zbf (n b:Int):Int:=if n<b then -1 else n - b
def zfg (s:SetI):List (Int×Nat×Nat):=[(s.held,1,256),(s.bytes,8,256),(s.gaps,1,256),(zbf s.disk 256,256,256),(zbf s.seg 16,1,256),(zbf s.win 1,1,63),(zbf s.timer 1,1,8),(zbf s.tries 1,1,4),(zbf s.wait 1,1,8),(s.delay,1,4)]
def zaz (l:List (Int×Int)):List (Nat×Nat):=(l.filter fun p=>decide (0≤p.1∧p.1+1<p.2)).map fun p=>(p.1.toNat,p.2.toNat)
def zoi (S:zkx):Prop:=
 (1≤S.nodes∧S.nodes≤64)∧S.steps.length≤256∧(zcR S.nodes.toNat (zaz S.links)).map zd9=S.links∧(zaz S.links).length≤15∧(zfg S.set).all zap=true∧∀ x∈S.steps,(1≤x.kind∧x.kind≤12)∧zjK S.nodes.toNat x (x.kind - 1).toNat
def ze9 (l:List (Nat×Nat)):List UInt8:=l.flatMap fun p=>[zH p.1,zH p.2]
def zp2 (S:zkx):List UInt8:=zH (S.nodes - 1)::zH (zaz S.links).length::(ze9 (zaz S.links)++((zfg S.set).map zP++S.steps.flatMap ziJ))
theorem zxe {n:Nat} {o1 o2:List (Nat×Nat)} (h:∀ a b,a+1<b→b<n→((a,b)∈o1↔(a,b)∈o2)):zcR n o1=zcR n o2:=by
 have e1:∀ a k,a+1+k≤n→zb0 o1 a k=zb0 o2 a k:=by
  intro a k
  induction k with
  | zero=>intro _;rfl
  | succ k ih=>
   intro hk;rw[zf2,zf2,ih (by omega)];congr 1;unfold lk1;by_cases h0:k=0
   ·subst h0;simp
   ·have:=h a (a+1+k) (by omega) (by omega);simp only[this]
 have e2:∀ a,a≤n→zcr n o1 a=zcr n o2 a:=by
  intro a
  induction a with
  | zero=>intro _;rfl
  | succ a ih=>
   intro ha;rw[zog,zog,ih (by omega),e1 a _ (by omega)]
 exact e2 n (Nat.le_refl _)
theorem zJv {oth:List (Nat×Nat)} {a b:Nat} {p:Nat×Nat}:p∈lk1 oth a b↔p=(a,b)∧(b=a+1∨(a,b)∈oth):=by
 unfold lk1;split
 ·simp only[List.mem_singleton];exact⟨fun h=>⟨h,by assumption⟩,fun h=>h.1⟩
 ·simp only[List.not_mem_nil,false_iff];exact fun h=>by simp_all
theorem zpJ {oth:List (Nat×Nat)} {a:Nat} {p:Nat×Nat}:∀ k,p∈zb0 oth a k↔p.1=a∧a<p.2∧p.2<a+1+k∧(p.2=a+1∨p∈oth)
 | 0=>by simp[zb0];omega
 | k+1=>by
  rw[zf2,List.mem_append,zpJ k,zJv];obtain⟨x,y⟩:=p;simp only[Prod.mk.injEq];constructor
  ·rintro (⟨rfl,h1,h2,h3⟩|⟨⟨rfl,rfl⟩,h⟩)
   ·exact⟨rfl,h1,by omega,h3⟩
   ·exact⟨rfl,by omega,by omega,h⟩
  ·rintro ⟨rfl,h1,h2,h3⟩;by_cases hy:y=x+1+k
   ·exact .inr ⟨⟨rfl,hy⟩,by rw[←hy];exact h3⟩
   ·exact .inl ⟨rfl,h1,by omega,h3⟩
theorem zoj {n:Nat} {oth:List (Nat×Nat)} {p:Nat×Nat}:p∈zcR n oth↔p.1<p.2∧p.2<n∧(p.2=p.1+1∨p∈oth):=by
 unfold zcR;simp only[List.mem_flatMap,List.mem_range,zpJ];constructor
 ·rintro ⟨a,h1,rfl,h2,h3,h4⟩;exact⟨h2,by omega,h4⟩
 ·rintro ⟨h1,h2,h3⟩;exact⟨p.1,by omega,rfl,h1,by omega,h3⟩
theorem zxf {l:List (Nat×Nat)} {p:Nat×Nat}:p∈zaz (l.map zd9)↔p∈l∧p.1+1<p.2:=by
 unfold zaz;simp only[List.mem_map,List.mem_filter,decide_eq_true_eq];constructor
 ·rintro ⟨_,⟨⟨q,hq,rfl⟩,h1,h2⟩,rfl⟩;obtain⟨x,y⟩:=q;simp only[Int.toNat_natCast] at *;exact⟨hq,by omega⟩
 ·rintro ⟨h1,h2⟩;obtain⟨x,y⟩:=p;exact⟨zd9 (x,y),⟨⟨_,h1,rfl⟩,by dsimp only at *; omega⟩,by simp⟩
theorem zEJ {α:Type}:∀ {l m:List α},l.Nodup→(∀ x∈l,x∈m)→l.length≤m.length
 | [],_,_,_=>by simp
 | x::l,m,h,hs=>by
  obtain⟨s,t,rfl⟩:=List.append_of_mem (hs x (by simp));rw[List.nodup_cons] at h
  have:=zEJ (l:=l) (m:=s++t) h.2 fun y hy=>by
   have h1:=hs y (List.mem_cons_of_mem _ hy);simp only[List.mem_append,List.mem_cons] at h1 ⊢;rcases h1 with h1|rfl|h1
   ·exact .inl h1
   ·exact absurd hy h.1
   ·exact .inr h1
  simp only[List.length_append,List.length_cons] at this ⊢;omega
theorem zzB (oth:List (Nat×Nat)) (a:Nat):∀ k,(zb0 oth a k).Nodup
 | 0=>by simp[zb0]
 | k+1=>by
  rw[zf2,List.nodup_append];refine⟨zzB oth a k,?_,?_⟩
  ·unfold lk1;split<;>simp
  ·rintro x hx y hy rfl;rw[zpJ] at hx;rw[zJv] at hy;have:=congrArg Prod.snd hy.1
   dsimp only at this;omega
theorem zzC (n:Nat) (oth:List (Nat×Nat)):∀ a,(zcr n oth a).Nodup∧∀ p∈zcr n oth a,p.1<a
 | 0=>by simp[zcr]
 | a+1=>by
  obtain⟨h1,h2⟩:=zzC n oth a;rw[zog];refine⟨List.nodup_append.2 ⟨h1,zzB .., ?_⟩,fun p hp=>?_⟩
  ·rintro x hx y hy rfl;have:=h2 _ hx
   rw[zpJ] at hy;omega
  ·rcases List.mem_append.1 hp with h|h
   ·exact Nat.lt_succ_of_lt (h2 _ h)
   ·rw[zpJ] at h;omega
theorem zHX (n:Nat) (oth:List (Nat×Nat)):(zcR n oth).Nodup:=(zzC n oth n).1
theorem zIQ {l:List (Nat×Nat)} (h:l.Nodup):(zaz (l.map zd9)).Nodup:=by
 have e:zaz (l.map zd9)=l.filter fun p=>decide (p.1+1<p.2):=by
  unfold zaz
  induction l with
  | nil=>rfl
  | cons p l ih=>
   rw[List.nodup_cons] at h;obtain⟨x,y⟩:=p;by_cases hc:x+1<y
   ·rw[List.map_cons,List.filter_cons_of_pos (by simp;omega),List.map_cons,ih h.2,List.filter_cons_of_pos (by simp[hc])];simp
   ·rw[List.map_cons,List.filter_cons_of_neg (by simp;omega),ih h.2,List.filter_cons_of_neg (by simp;omega)]
 rw[e];exact h.filter _
theorem zPT {P:List UInt8} {w:Nat}:(zfg ⟨(zm P w 256:Nat),(8*zm P (w+1) 256:Nat),(zm P (w+2) 256:Nat),(256+256*zm P (w+3) 256:Nat),(16+zm P (w+4) 256:Nat),(1+zm P (w+5) 63:Nat),(1+zm P (w+6) 8:Nat),(1+zm P (w+7) 4:Nat),(1+zm P (w+8) 8:Nat),(zm P (w+9) 4:Nat)⟩).all zap=true:=by
 have a0:=zab (P:=P) (v:=w) (m:=256) (by decide);have a1:=zab (P:=P) (v:=w+1) (m:=256) (by decide)
 have a2:=zab (P:=P) (v:=w+2) (m:=256) (by decide);have a3:=zab (P:=P) (v:=w+3) (m:=256) (by decide)
 have a4:=zab (P:=P) (v:=w+4) (m:=256) (by decide);have a5:=zab (P:=P) (v:=w+5) (m:=63) (by decide)
 have a6:=zab (P:=P) (v:=w+6) (m:=8) (by decide);have a7:=zab (P:=P) (v:=w+7) (m:=4) (by decide)
 have a8:=zab (P:=P) (v:=w+8) (m:=8) (by decide);have a9:=zab (P:=P) (v:=w+9) (m:=4) (by decide)
 have g8:zap (((8*zm P (w+1) 256:Nat):Int),8,256)=true:=by
  unfold zap;simp only[Bool.and_eq_true,decide_eq_true_eq];rw[Int.tmod_eq_emod_of_nonneg (by omega),Int.tdiv_eq_ediv_of_nonneg (by omega)];omega
 have lo:∀ (n b:Nat),b≤n→zbf n b=((n - b:Nat):Int):=fun n b h=>by unfold zbf;rw[if_neg (by omega)];omega
 unfold zfg;dsimp only
 rw[show zbf ((256+256*zm P (w+3) 256:Nat):Int) 256=((256+256*zm P (w+3) 256 - 256:Nat):Int) from lo _ 256 (by omega),show zbf ((16+zm P (w+4) 256:Nat):Int) 16=((16+zm P (w+4) 256 - 16:Nat):Int) from lo _ 16 (by omega),
  show zbf ((1+zm P (w+5) 63:Nat):Int) 1=((1+zm P (w+5) 63 - 1:Nat):Int) from lo _ 1 (by omega),show zbf ((1+zm P (w+6) 8:Nat):Int) 1=((1+zm P (w+6) 8 - 1:Nat):Int) from lo _ 1 (by omega),
  show zbf ((1+zm P (w+7) 4:Nat):Int) 1=((1+zm P (w+7) 4 - 1:Nat):Int) from lo _ 1 (by omega),show zbf ((1+zm P (w+8) 8:Nat):Int) 1=((1+zm P (w+8) 8 - 1:Nat):Int) from lo _ 1 (by omega)]
 simp only[List.all_cons,List.all_nil,Bool.and_eq_true,Bool.and_true,zqZ,zF9,g8,true_and];omega
theorem zHY (P:List UInt8) (nodes k:Nat):(ziI P nodes k).length=k:=by simp[ziI]
theorem zs5 {nodes:Nat} (hN:0<nodes) (P:List UInt8):∀ f v,(zex P nodes f v).length≤f∧∀ y∈zex P nodes f v,(1≤y.toI.kind∧y.toI.kind≤12)∧zjK nodes y.toI (y.toI.kind - 1).toNat
 | 0,v=>by simp[zex]
 | f+1,v=>by
  obtain⟨h1,h2⟩:=zs5 hN P f (zaV P nodes v).2;unfold zex;split
  ·refine⟨by simp;exact h1,fun y hy=>?_⟩;rcases List.mem_cons.1 hy with rfl|hy
   ·exact zNC hN P v
   ·exact h2 y hy
  ·simp
theorem zEK (P:List UInt8):zoi (zdN P).toI:=by
 have hn:=zab (P:=P) (v:=0) (m:=64) (by decide);have hk:=zab (P:=P) (v:=1) (m:=16) (by decide)
 obtain⟨s1,s2⟩:=zs5 (nodes:=1+zm P 0 64) (by omega) P 256 (2+2*zm P 1 16+10);refine⟨?_,?_,?_,?_,?_,?_⟩
 ·simp only[zdN,ScrR.toI];omega
 ·simp only[zdN,ScrR.toI,List.length_map];exact s1
 ·simp only[zdN,ScrR.toI,Int.toNat_natCast];rw[zxe (o1:=zaz _) (o2:=ziI P (1+zm P 0 64) (zm P 1 16)) fun a b h1 h2=>?_];rw[zxf,zoj];constructor
  ·rintro ⟨⟨_,_,h3|h3⟩,h4⟩
   ·dsimp only at h3;omega
   ·exact h3
  ·intro h;exact⟨⟨by dsimp only;omega,h2,.inr h⟩,h1⟩
 ·simp only[zdN,ScrR.toI]
  have:=zEJ (l:=zaz ((zcR (1+zm P 0 64) (ziI P (1+zm P 0 64) (zm P 1 16))).map zd9)) (m:=ziI P (1+zm P 0 64) (zm P 1 16)) (zIQ (zHX ..)) fun p hp=>by
   rw[zxf,zoj] at hp;rcases hp with ⟨⟨_,_,h3|h3⟩,h4⟩
   ·omega
   ·exact h3
  rw[zHY] at this;omega
 ·exact zPT
 ·intro x hx;simp only[zdN,ScrR.toI,List.mem_map] at hx;obtain⟨y,hy,rfl⟩:=hx;simp only[zdN,ScrR.toI,Int.toNat_natCast];exact s2 y hy
theorem zHZ {n:Nat} {l:List (Int×Int)} (h:(zcR n (zaz l)).map zd9=l):∀ p∈zaz l,p.1+1<p.2∧p.2<n:=by
 intro p hp;rw[←h,zxf,zoj] at hp;exact⟨hp.2,hp.1.2.1⟩
theorem zH0 (k:Nat):∀ (pre post:List UInt8) (l:List (Nat×Nat)),(∀ p∈l,p.1<k∧p.2<k)→k≤64→∀ i,i<l.length→∃ p,l[i]? = some p∧zm (pre++(ze9 l++post)) (pre.length+2*i) k=p.1∧zm (pre++(ze9 l++post)) (pre.length+2*i+1) k=p.2
 | pre,post,[],_,_,i,hi=>by simp at hi
 | pre,post,p::l,h,hk,0,_=>by
  refine⟨p,rfl,?_,?_⟩
  ·rw[ztP];have:=zby (l:=ze9 (p::l)++post) (i:=0) (m:=k) (n:=p.1) (by rfl) (by have:=h p (by simp);omega) (by have:=h p (by simp);omega) (by omega)
   exact Int.ofNat.inj this
  ·rw[Nat.add_assoc,ztP];have:=zby (l:=ze9 (p::l)++post) (i:=1) (m:=k) (n:=p.2) (by rfl) (by have:=h p (by simp);omega) (by have:=h p (by simp);omega) (by omega)
   exact Int.ofNat.inj this
 | pre,post,p::l,h,hk,i+1,hi=>by
  obtain⟨q,h1,h2,h3⟩:=zH0 k (pre++[zH p.1,zH p.2]) post l (fun q hq=>h q (List.mem_cons_of_mem _ hq)) hk i (by simpa using hi);refine⟨q,by simpa using h1,?_,?_⟩
  ·rw[←h2];congr 1
   ·simp[ze9]
   ·simp;omega
  ·rw[←h3];congr 1
   ·simp[ze9]
   ·simp;omega
theorem zND {k:Nat} (hk:k≤64) (P:List UInt8) (pre post:List UInt8) (l:List (Nat×Nat)) (hP:P=pre++(ze9 l++post)) (hpre:pre.length=2) (h:∀ p∈l,p.1+1<p.2∧p.2<k):ziI P k l.length=l:=by
 apply List.ext_getElem?;intro i;by_cases hi:i<l.length
 ·obtain⟨p,h1,h2,h3⟩:=zH0 k pre post l (fun p hp=>by have:=h p hp;omega) hk i hi;have hp:=h p (List.mem_of_getElem? h1)
  rw[h1];unfold ziI;rw[List.getElem?_map,List.getElem?_range hi,Option.map_some,show 3+2*i=pre.length+2*i+1 by omega,show 2+2*i=pre.length+2*i by omega,hP,h2,h3];congr 1;rw[Nat.min_eq_left (by omega),Nat.max_eq_right (by omega)]
 ·rw[List.getElem?_eq_none (by rw[zHY];omega),List.getElem?_eq_none (by omega)]
theorem zzD {nodes:Nat} (hN:0<nodes) (hN2:nodes≤64):∀ (L:List StpI) (f:Nat) (pre:List UInt8),L.length≤f→(∀ x∈L,(1≤x.kind∧x.kind≤12)∧zjK nodes x (x.kind - 1).toNat) →
  (zex (pre++L.flatMap ziJ) nodes f pre.length).map StpR.toI=L
 | [],f,pre,_,_=>by
  cases f with
  | zero=>rfl
  | succ f=>unfold zex;rw[if_neg (by simp)];rfl
 | x::L,0,pre,h,_=>by simp at h
 | x::L,f+1,pre,h,hx=>by
  obtain⟨h1,h2⟩:=hx x (by simp);obtain⟨h3,h4⟩:=zPS hN hN2 h1 h2 (L.flatMap ziJ);have h5:=zNz pre (ziJ x++L.flatMap ziJ) nodes
  have h6:=zzD hN hN2 L f (pre++ziJ x) (by simpa using h) (fun y hy=>hx y (List.mem_cons_of_mem _ hy));rw[List.flatMap_cons];unfold zex;rw[if_pos (by simp[ziJ]),h5,List.map_cons,h3,h4];rw[List.append_assoc,List.length_append] at h6;rw[h6]
theorem zNE {s:SetI} (hg:(zfg s).all zap=true) (P pre post:List UInt8) (hP:P=pre++((zfg s).map zP++post)) {w:Nat} (hw:w=pre.length) :
  (⟨(zm P w 256:Nat),(8*zm P (w+1) 256:Nat),(zm P (w+2) 256:Nat),(256+256*zm P (w+3) 256:Nat),(16+zm P (w+4) 256:Nat),(1+zm P (w+5) 63:Nat),(1+zm P (w+6) 8:Nat),(1+zm P (w+7) 4:Nat),(1+zm P (w+8) 8:Nat),(zm P (w+9) 4:Nat)⟩:SetI)=s:=by
 subst hw;obtain⟨s0,s1,s2,s3,s4,s5,s6,s7,s8,s9⟩:=s
 have g8:∀ n:Int,zap (n,8,256)=true→0≤n∧n % 8=0∧n / 8<256∧zP (n,8,256)=zH (n / 8):=fun n h=>by
  unfold zap at h;simp only[Bool.and_eq_true,decide_eq_true_eq] at h;obtain⟨⟨h1,h2⟩,h3⟩:=h;rw[Int.tmod_eq_emod_of_nonneg h1] at h2;rw[Int.tdiv_eq_ediv_of_nonneg h1] at h3;refine⟨h1,h2,h3,?_⟩;unfold zP zH;have e:n.tdiv ((8:Nat):Int)=n / 8:=Int.tdiv_eq_ediv_of_nonneg h1
  rw[e]
 have lo:∀ n b:Int,0≤zbf n b→zbf n b=n - b∧b≤n:=fun n b h=>by
  unfold zbf at h ⊢;split at h
  ·omega
  ·rw[if_neg (by assumption)];omega
 unfold zfg at hg hP;simp only[List.all_cons,List.all_nil,Bool.and_eq_true,Bool.and_true,zqZ,zF9] at hg;obtain⟨h0,h1,h2,h3,h4,h5,h6,h7,h8,h9⟩:=hg;obtain⟨b1,b2,b3,b4⟩:=g8 _ h1;have l3:=lo _ _ h3.1
 have l4:=lo _ _ h4.1;have l5:=lo _ _ h5.1
 have l6:=lo _ _ h6.1;have l7:=lo _ _ h7.1
 have l8:=lo _ _ h8.1;simp only[List.map_cons,List.map_nil,zCS,b4,zQ6 _ h3.1] at hP
 have key:∀ (i:Nat) (m:Nat) (n:Int) (l:List UInt8),P=pre++l→l.getD i 0=zH n→0<m→(0≤n∧n<m)→m≤256→((zm P (pre.length+i) m:Nat):Int)=n:=fun i m n l hl hgd hm hn hm2=>by
  rw[hl,ztP];exact zby hgd hm hn hm2
 have e0:=key 0 256 _ _ hP (by rfl) (by decide) (by omega) (by decide);have e1:=key 1 256 _ _ hP (by rfl) (by decide) (by omega) (by decide)
 have e2:=key 2 256 _ _ hP (by rfl) (by decide) (by omega) (by decide);have e3:=key 3 256 _ _ hP (by rfl) (by decide) (by omega) (by decide)
 have e4:=key 4 256 _ _ hP (by rfl) (by decide) (by omega) (by decide);have e5:=key 5 63 _ _ hP (by rfl) (by decide) (by omega) (by decide)
 have e6:=key 6 8 _ _ hP (by rfl) (by decide) (by omega) (by decide);have e7:=key 7 4 _ _ hP (by rfl) (by decide) (by omega) (by decide)
 have e8:=key 8 8 _ _ hP (by rfl) (by decide) (by omega) (by decide);have e9:=key 9 4 _ _ hP (by rfl) (by decide) (by omega) (by decide)
 rw[Nat.add_zero] at e0;rw[SetI.mk.injEq];omega
theorem zBb {S:zkx} (h:zoi S):(zdN (zp2 S)).toI=S:=by
 obtain⟨h1,h2,h3,h4,h5,h6⟩:=h;obtain⟨nodes,links,set,steps⟩:=S;dsimp only at h1 h2 h3 h4 h5 h6;obtain⟨n,rfl⟩:∃ n:Nat,nodes=n:=⟨nodes.toNat,by omega⟩
 rw[Int.toNat_natCast] at h3 h6;obtain⟨P,hP⟩:∃ P,P=zp2 ⟨n,links,set,steps⟩:=⟨_,rfl⟩
 rw[←hP];unfold zp2 at hP;dsimp only at hP;have t0:((zm P 0 64:Nat):Int)=(n:Int) - 1:=by rw[hP];exact zby (by rfl) (by decide) (by omega) (by decide)
 have t1:((zm P 1 16:Nat):Int)=((zaz links).length:Nat):=by rw[hP];exact zby (by rfl) (by decide) (by omega) (by decide)
 have t0':1+zm P 0 64=n:=by omega
 have t1':zm P 1 16=(zaz links).length:=by omega
 have ho:ziI P n (zaz links).length=zaz links:=zND (k:=n) (by omega) P [_,_] _ (zaz links) hP rfl (zHZ h3)
 have hrl:(ze9 (zaz links)).length=2*(zaz links).length:=by
  unfold ze9;generalize zaz links=l
  induction l with
  | nil=>rfl
  | cons p l ih=>simp[ih];omega
 have hs:=zNE h5 P (zH (n - 1)::zH (zaz links).length::ze9 (zaz links)) (steps.flatMap ziJ) (by rw[hP];simp) (w:=2+2*(zaz links).length) (by simp[hrl];omega);have hst:=zzD (nodes:=n) (by omega) (by omega) steps 256 (zH (n - 1)::zH (zaz links).length::(ze9 (zaz links)++(zfg set).map zP)) h2 h6
 have hlen:(zH ((n:Int) - 1)::zH ((zaz links).length:Nat)::(ze9 (zaz links)++(zfg set).map zP)).length=2+2*(zaz links).length+10:=by simp[hrl,zfg];omega
 rw[hlen,show (zH ((n:Int) - 1)::zH ((zaz links).length:Nat)::(ze9 (zaz links)++(zfg set).map zP))++steps.flatMap ziJ=P by rw[hP];simp] at hst;unfold zdN ScrR.toI;dsimp only;rw[t0',t1',ho,h3,hst];congr 1
end
section
theorem zuS {nodes:Nat} (hN2:nodes≤64) {x:StpI} (h1:1≤x.kind∧x.kind≤12) (h2:zjK nodes x (x.kind - 1).toNat):zNx x:=by
 obtain⟨k,nd,to,n,data⟩:=x;unfold zNx;dsimp only at h1 h2 ⊢;refine⟨h1,?_⟩
 rcases zL5 h1 with rfl|rfl|rfl|rfl|rfl|rfl|rfl|rfl|rfl|rfl|rfl|rfl <;>
  simp only[zjK,Int.reduceSub,Int.toNat_zero,Int.reduceToNat] at h2<;>omega
end
end Go.Proofs.YtpnhjkiligohnaaGreatDoor
