/- Part. -/
import Derived.Test.YtlgbofpennelhaaGreatJ15
set_option linter.all false
set_option maxHeartbeats 0
namespace Go.Proofs.YtlgbofpennelhaaGreat
open Go Go.Vm Go.Proofs.Tryz
attribute [local irreducible] Brn Ob Grow CallsM inR zI zF Mem.row Mem.cells Mem.setCells Mem.upd Go.Vm.Own zZ zaj zam zO New SrcOk subA NewSl Mem.textAt Mem.mapAt Mem.iterAt zC zB Wr NewEls Elems
set_option maxRecDepth 10000
section
variable {M M0:Mem} {p b sp sb:Nat} {S:StR} {came:Int} {xs:HsT} {es:EsT}
@[reducible] def zqU (x:PX):List Value:=[.int .i64 x.id.o,.int .i64 x.id.d,.int .i64 x.id.e,.int .i64 x.id.c,.slice x.a x.p.length x.c,.int .i64 x.n]
theorem zmM (x:PX):(zqU x).length=6:=rfl
theorem zEx (x:PX):∀ v∈zqU x,v.oneCell'=true:=by
 intro v hv;simp only[zqU,Yp,Yco,or_false] at hv;rcases hv with rfl|rfl|rfl|rfl|rfl|rfl<;>rfl
structure PB where
 x:PX
 h:0≤x.n∧x.n≤4611686018427387904
instance:Inhabited PB:=⟨⟨⟨⟨0,0,0,0⟩,none,0,[],0⟩,by simp⟩⟩
def zwy (x:PB):List Value:=zqU x.x
def zth (x y:PB):Int:=x.x.n - y.x.n
theorem zG2 (x y:PB):CallsM prog 221 [.agg (zwy x).toArray,.agg (zwy y).toArray] M fun v _=>v = .int .i64 (zth x y):=by
 obtain⟨x,hx⟩:=x;obtain⟨y,hy⟩:=y;unfold zwy zth;refine zlB (by simp) ?_;(conv=>whnf);refine obr (inR_i64 (by first|omega|(dsimp only;omega))) ?_;(conv=>whnf)
theorem zEy:Go.Sort.SWO (Go.Proofs.ltOf zth):=by
 have h:∀ x y:PB,Go.Proofs.ltOf zth x y=decide (x.x.n<y.x.n):=fun x y=>by
  unfold Go.Proofs.ltOf zth;rw[decide_eq_decide];omega
 refine⟨fun x=>?_,fun x y z=>?_,fun x y z=>?_⟩<;>simp only[h,decide_eq_true_eq,decide_eq_false_iff_not]<;>omega
theorem zqd:∀ {l l':List PX},l.Perm l'→l.Pairwise (fun x y=>x.n<y.n)→l'.Pairwise (fun x y=>x.n≤y.n)→l=l'
 | [],l',hp,_,_=>(List.nil_perm.1 hp).symm
 | x::r,l',hp,h1,h2=>by
  cases l' with
  | nil=>exact absurd hp.length_eq (by simp)
  | cons y r'=>
   have hxy:x=y:=by
    rcases Yp.1 (hp.mem_iff.1 (by simp:x∈x::r)) with e|e
    ·exact e
    ·rcases Yp.1 (hp.mem_iff.2 (by simp:y∈y::r')) with e'|e'
     ·exact e'.symm
     ·have g1:=(Yx.1 h1).1 y e';have g2:=(Yx.1 h2).1 x e
      omega
   subst hxy;rw[zqd (List.Perm.cons_inv hp) (Yx.1 h1).2 (Yx.1 h2).2]
theorem zF0:∀ (l:List PX),(∀ x∈l,0≤x.n∧x.n≤4611686018427387904)→∃ l':List PB,l'.map PB.x=l
 | [],_=>⟨[],rfl⟩
 | x::r,h=>by
  obtain⟨r',hr⟩:=zF0 r fun y hy=>h y (by simp[hy])
  exact⟨⟨x,h x (by simp)⟩::r',by simp[hr]⟩
theorem zue (l:List PB):l.flatMap zwy=(l.map PB.x).flatMap zqU:=by
 rw[List.flatMap_map];rfl
structure HeldAt (M0:Mem) (a:Option Addr) (n c:Nat) (ms:List MX) (M':Mem):Prop where
 row:NewSl M0 82 5 a n c (ms.flatMap zAq) M'
 data:∀ m∈ms,NewSl M0 5 1 m.a m.p.length m.c (m.p.map zc) M'
 apart:ms.Pairwise fun x y=>∀ z,blk x.a z→¬blk y.a z
theorem HeldAt.msgs {a:Option Addr} {n c:Nat} {ms:List MX} {M':Mem} (h:HeldAt M0 a n c ms M'):zAr M' a n ms:=⟨h.row.src,fun m hm=>(h.data m hm).src⟩
theorem HeldAt.up {a:Option Addr} {n c:Nat} {ms:List MX} {M' M2:Mem} (h:HeldAt M0 a n c ms M') (hle:M'.le M2):HeldAt M0 a n c ms M2:=⟨h.row.up hle,fun m hm=>(h.data m hm).up hle,h.apart⟩
theorem HeldAt.len {a:Option Addr} {n c:Nat} {ms:List MX} {M':Mem} (h:HeldAt M0 a n c ms M'):ms.length=n:=h.row.src.flen zEk (by decide)
@[reducible] def zIF (x:PX) (a:Option Addr) (c:Nat):MX:=⟨x.id,a,c,x.p⟩
theorem zyX (h:FreshSt M0 M p b sp sb S came xs es) (hcm:came≤4611686018427387904):CallsM prog 144 [ptr p] M fun v M'=>
  ∃ a n c ms,v = .slice a n c∧HeldAt M a n c ms M'∧ms.map MX.msg=S.l:=by
 refine znq (by simp) ?_;have hA:=h.at'
 have hI:=h.inv;have hqh:=hI.qh
 have hxl:xs.length=S.l.length:=by rw[←hA.held,Y9]
 have hpl:∀ q∈xs,q.2.p.length≤48:=fun q hq=>by
  have hm:q.2.msg∈S.l:=by rw[←hA.held];exact Yj.2 ⟨q,hq,rfl⟩
  exact(zdf (hI.msgs _ hm).1).2.2
 (conv=>whnf);refine brn_f rfl ?_;(conv=>whnf);refine on (hA.self.c1 (zfR hI.ulen ..)) ?_;(conv=>whnf)
 refine hA.map.range fun q bi hbi hIt=>?_
 replace hbi:M bi=none:=hbi;(conv=>whnf)
 refine zak (σ:=Mem×(Option Addr×Nat×Nat)×List PX×HsT) [3] (fun x=>[(3,.slice x.2.1.1 x.2.1.2.1 x.2.1.2.2)]) (fun _=>[]) (fun x=>x.1)
  (fun|⟨M1,(a,n,c),l,todo⟩=>NewSl M 324 6 a n c (l.flatMap zqU) M1∧Iter idA pxV M1 bi b xs todo∧(l++todo.map (·.2)).Perm (xs.map (·.2))) (fun x=>x.2.2.2.length) ⟨_,(none,0,0),[],xs⟩
  ⟨(Yaw M _ _).up (Ya8 hbi),hIt,.refl _⟩ zS ?_
 rintro ⟨M1,⟨a,n,c⟩,l,todo⟩ ⟨hN,hI1,hperm⟩;(conv=>whnf)
 refine hI1.next (fun h0=>?_) (fun i k todo' o' hperm2 hI2 hent=>?_)
 ·subst h0;simp only[Ybz,Yt] at hperm;have hll:l.length=n:=hN.src.flen zmM (by decide)
  have hbl:∀ x∈l,0≤x.n∧x.n≤4611686018427387904:=fun x hx=>by
   obtain⟨q,hq,rfl⟩:=Yj.1 (hperm.mem_iff.1 hx);have:=hA.came.2 q hq
   omega
  obtain⟨lb,rfl⟩:=zF0 l hbl;rw[←zue] at hN;have hnx:n=xs.length:=by have:=hperm.length_eq;simp at this hll;omega
  refine zR ?_;refine(zqN Tryz.laysP (by kernel_rfl) (enc:=zwy) (k:=6) (by decide) isAgg324 sizeOf324 (fun x:PB=>zmM x.x) (fun x:PB=>zEx x.x) zEy (g:=221) (fun args w=>zhn (by kernel_rfl) args w) (fun x y=>zG2 x y) hN.wr (by omega)).mono ?_;rintro v M5 ⟨rfl,l',hp',hs',hw',hk'⟩;have hN5:=hN.ofWr hw' hk' rfl
  rw[zue] at hN5
  have hl':l'.map PB.x=xs.map (·.2):=by
   refine(zqd ((hp'.map PB.x).trans hperm).symm ?_ ?_).symm
   ·rw[Ybd];exact hA.ord
   ·rw[Ybd];refine hs'.imp fun {x y} hxy=>?_
    unfold zth at hxy;omega
  rw[hl'] at hN5;have hle5:M.le M5:=hN5.le
  (conv=>whnf)
  refine zak (σ:=Nat×Mem×(Option Addr×Nat)×List MX) [28,6] (fun x=>[(28,.int .i64 x.1),(6,.slice x.2.2.1.1 x.2.2.2.length x.2.2.1.2)]) (fun _=>[]) (fun x=>x.2.1)
   (fun|⟨j,M6,(a6,c6),ms⟩=>j≤n∧HeldAt M5 a6 ms.length c6 ms M6∧ms.map MX.msg=(xs.take j).map (fun q=>q.2.msg)) (fun x=>n - x.1) ⟨0,M5,(none,0),[]⟩
   ⟨by omega,⟨Yaw M5 _ _,by simp,by simp⟩,by simp⟩ zS ?_
  rintro ⟨j,M6,⟨a6,c6⟩,ms⟩ ⟨hj,hH,hms⟩;have hle6:=hH.row.le
  have hmsl:ms.length=j:=by have:=congrArg List.length hms;simp at this;omega
  (conv=>whnf);refine brn (fun g=>?_) (fun g=>?_)
  rotate_left
  ·have hge:n≤j:=by have:=Zd1 g;dsimp only at this;omega
   rw[Yf (by omega),hA.held] at hms;refine zR ?_;exact⟨a6,_,c6,ms,rfl,⟨hH.row.mono hle5,fun m hm=>(hH.data m hm).mono hle5,hH.apart⟩,hms⟩
  have hlt:j<n:=by have:=Zd0 g;dsimp only at this;omega
  have hjx:j<xs.length:=by omega
  have hx:(xs.map (·.2))[j]? = some xs[j].2:=by rw[Ya7,Yb hjx];rfl
  obtain⟨b1,o1,ha,hcc⟩:=hN5.src.fparts zmM (by decide) hx;have htk:xs.take (j+1)=xs.take j++[xs[j]]:=by rw[Y1,Yb hjx];rfl
  have hmem:xs[j]∈xs:=Yai _;generalize xs[j]=q at *;have hd6:=(hA.data q hmem).src.le (Yc hle5 hle6)
  have hq48:=hpl q hmem;(conv=>whnf);refine ob (by first|omega|(dsimp only;omega)) ?_;(conv=>whnf);refine atp ha ?_;(conv=>whnf);refine on (Ycg hle6 (hcc 0 6 (by decide))) ?_;refine zR ?_;refine new (fun b9 hb9=>?_);replace hb9:M6 b9=none:=hb9;have hN7:NewSl M6 5 1 (some ⟨b9,0,none⟩) 0 0 (([]:List UInt8).map zc) _:=Ybc hb9 5 1 0 [] rfl
  obtain⟨M7,hM7⟩:∃ M7,M7=M6.setCells b9 5 []:=⟨_,rfl⟩
  rw[←hM7] at hN7;(conv=>whnf)
  erw [←hM7];refine zR ?_;refine zb2 (hd6.le hN7.le) ?_;(conv=>whnf);refine zb8 M6 _ hN7 (by first|omega|(dsimp only;omega)) (by simp[maxLen]<;>omega) (zaA _) fun a8 c8 M8 hN8=>?_
  rw[Yap q.2.p.length] at hN8;rw[Yap q.2.p.length];have hH8:=hH.up hN8.le
  refine zT (hN8.le) ?_;refine zR ?_;refine zvM M5 hH8.row (zIF q.2 a8 c8) rfl (by first|omega|(dsimp only;omega)) (by simp[maxLen];omega) (by simp[Value.oneCell']) fun a9 c9 M9 hN9 hk9=>?_
  have hfr:∀ y,blk a6 y→M5 y=none:=fun y ⟨q,hq,e⟩=>e▸(hH8.row.block hq).1
  have hnew:NewSl M5 5 1 a8 q.2.p.length c8 (q.2.p.map zc) M8:=hN8.mono hle6;refine zR ?_;refine obr (inR_i64 (by first|omega|(dsimp only;omega))) ?_;(conv=>whnf)
  refine⟨⟨j+1,M9,(a9,c9),ms++[zIF q.2 a8 c8]⟩,⟨by omega,⟨by simpa using hN9,fun m hm=>?_,?_⟩,?_⟩,by dsimp only;omega,?_⟩
  ·rcases Yy.1 hm with hm|hm
   ·exact(hH8.data m hm).keep hk9 hfr fun q hq ⟨q',hq',e⟩=>hH8.row.ne (hH8.data m hm) (by decide) hq' hq e
   ·simp only[Y0] at hm;subst hm;exact hnew.keep hk9 hfr fun q hq ⟨q',hq',e⟩=>hH8.row.ne hnew (by decide) hq' hq e
  ·rw[Yax];refine⟨hH.apart,by simp,fun m hm y hy z hz hz'=>?_⟩;simp only[Y0] at hy;subst hy;obtain⟨q1,hq1,e1⟩:=hz;obtain⟨q2,hq2,e2⟩:=hz';obtain⟨_,cs,hh⟩:=(hH.data m hm).block hq1;have h0:=(hN8.block hq2).1
   unfold Mem.has at hh;rw[e2,←e1,hh] at h0;cases h0
  ·rw[Yv,hms,htk,Yv];rfl
  ·simp only[Yi,Ym,Yar];exact zS
 ·have hk2:Mem.keep (fun y=>y=bi) M1 (M1.upd bi o'):=Yad _ _ rfl
  have hN2:NewSl M 324 6 a n c (l.flatMap zqU) (M1.upd bi o'):=hN.keep hk2 (fun y e=>e▸hbi) (fun q hq e=>by
   obtain⟨_,cs,hh⟩:=hN.block hq
   exact(hI1.nb hh).1 e)
  obtain⟨M2,hM2⟩:∃ M2,M2=M1.upd bi o':=⟨_,rfl⟩
  rw[←hM2] at hI2 hent hN2;have hlt:l.length<xs.length:=by have:=hperm.length_eq;have:=hperm2.length_eq;simp at *; omega
  have hll:l.length=n:=hN2.src.flen zmM (by decide);(conv=>whnf)
  erw [←hM2];refine zR ?_;refine on hent ?_;refine zR ?_;refine zvM M hN2 k (by simp) (by first|omega|(dsimp only;omega)) (by simp[maxLen];omega) (by simp[Value.oneCell']) fun a6 c6 M6 hN6 hk6=>?_
  have hnb:∀ y,blk a y→y≠bi∧y≠b:=fun y ⟨q,hq,e⟩=>by
   obtain⟨_,cs,hh⟩:=hN2.block hq;exact e▸hI2.nb hh
  have hI6:=hI2.keep hk6 (fun hb=>(hnb _ hb).1 rfl) (fun hb=>(hnb _ hb).2 rfl);(conv=>whnf)
  refine⟨⟨M6,(a6,n+1,c6),l++[k],todo'⟩,⟨hN6,hI6,?_⟩,by have:=hperm2.length_eq;simp at this ⊢; omega,zS⟩;refine List.Perm.trans ?_ hperm;rw[Yr];refine Yc9 _ ?_;have:=hperm2.map (·.2)
  simpa using this.symm
end
section
variable {M M0:Mem} {p b sp sb:Nat} {S:StR} {came:Int} {xs:HsT} {es:EsT}
@[reducible] def zEz (c:Nat→Int):List Value:=[.int .i64 (c 0),.int .i64 (c 1),.int .i64 (c 2),.int .i64 (c 3),.int .i64 (c 4),.int .i64 (c 5),.int .i64 (c 6),.int .i64 (c 7),.int .i64 (c 8),.int .i64 (c 9),.int .i64 (c 10),.int .i64 (c 11),.int .i64 (c 12),.int .i64 (c 13),.int .i64 (c 14),.int .i64 (c 15),.int .i64 (c 16),.int .i64 (c 17),.int .i64 (c 18),.int .i64 (c 19),.int .i64 (c 20),.int .i64 (c 21),.int .i64 (c 22),.int .i64 (c 23),.int .i64 (c 24),.int .i64 (c 25),.int .i64 (c 26),.int .i64 (c 27),.int .i64 (c 28),.int .i64 (c 29),.int .i64 (c 30),.int .i64 (c 31),.int .i64 (c 32),.int .i64 (c 33),.int .i64 (c 34),.int .i64 (c 35),.int .i64 (c 36),.int .i64 (c 37),.int .i64 (c 38),.int .i64 (c 39),.int .i64 (c 40),.int .i64 (c 41),.int .i64 (c 42),.int .i64 (c 43),.int .i64 (c 44),.int .i64 (c 45),.int .i64 (c 46),.int .i64 (c 47),.int .i64 (c 48),.int .i64 (c 49),.int .i64 (c 50),.int .i64 (c 51),.int .i64 (c 52),.int .i64 (c 53),.int .i64 (c 54),.int .i64 (c 55),.int .i64 (c 56),.int .i64 (c 57),.int .i64 (c 58),.int .i64 (c 59),.int .i64 (c 60),.int .i64 (c 61),.int .i64 (c 62),.int .i64 (c 63)]
@[reducible] def zEA (c:Nat→Int):List SC:=[.v (.int .i64 (c 0)),.v (.int .i64 (c 1)),.v (.int .i64 (c 2)),.v (.int .i64 (c 3)),.v (.int .i64 (c 4)),.v (.int .i64 (c 5)),.v (.int .i64 (c 6)),.v (.int .i64 (c 7)),.v (.int .i64 (c 8)),.v (.int .i64 (c 9)),.v (.int .i64 (c 10)),.v (.int .i64 (c 11)),.v (.int .i64 (c 12)),.v (.int .i64 (c 13)),.v (.int .i64 (c 14)),.v (.int .i64 (c 15)),.v (.int .i64 (c 16)),.v (.int .i64 (c 17)),.v (.int .i64 (c 18)),.v (.int .i64 (c 19)),.v (.int .i64 (c 20)),.v (.int .i64 (c 21)),.v (.int .i64 (c 22)),.v (.int .i64 (c 23)),.v (.int .i64 (c 24)),.v (.int .i64 (c 25)),.v (.int .i64 (c 26)),.v (.int .i64 (c 27)),.v (.int .i64 (c 28)),.v (.int .i64 (c 29)),.v (.int .i64 (c 30)),.v (.int .i64 (c 31)),.v (.int .i64 (c 32)),.v (.int .i64 (c 33)),.v (.int .i64 (c 34)),.v (.int .i64 (c 35)),.v (.int .i64 (c 36)),.v (.int .i64 (c 37)),.v (.int .i64 (c 38)),.v (.int .i64 (c 39)),.v (.int .i64 (c 40)),.v (.int .i64 (c 41)),.v (.int .i64 (c 42)),.v (.int .i64 (c 43)),.v (.int .i64 (c 44)),.v (.int .i64 (c 45)),.v (.int .i64 (c 46)),.v (.int .i64 (c 47)),.v (.int .i64 (c 48)),.v (.int .i64 (c 49)),.v (.int .i64 (c 50)),.v (.int .i64 (c 51)),.v (.int .i64 (c 52)),.v (.int .i64 (c 53)),.v (.int .i64 (c 54)),.v (.int .i64 (c 55)),.v (.int .i64 (c 56)),.v (.int .i64 (c 57)),.v (.int .i64 (c 58)),.v (.int .i64 (c 59)),.v (.int .i64 (c 60)),.v (.int .i64 (c 61)),.v (.int .i64 (c 62)),.v (.int .i64 (c 63))]
theorem zG3 (c:Nat→Int):zEz c=(List.range 64).map (fun i=>Value.int .i64 (c i)):=rfl
theorem zG4 (c:Nat→Int):zEA c=(List.range 64).map (fun i=>SC.v (.int .i64 (c i))):=rfl
theorem zIG (c:Nat→Int) {i:Nat} (hi:i<64):zih (zEA c) (i*1) 1=some [.v (.int .i64 (c i))]:=by
 have hl:(zEA c).length=64:=rfl;unfold zih;rw[if_pos (by omega),zG4];rw[Y2 oE];simp
theorem zIH {u:List Int} (h:u.length=64):u.map zi=zEz (fun i=>u.getD i 0):=by
 rw[zG3];apply Ycy (by simp[h]);intro i h1 h2;simp only[Yd2,Yds,zi];congr 1;rw[Ys,Yb (by simpa using h1)];rfl
theorem zEB (hA:StAt M p b sp sb S came xs es) (hI:zlh S):M.row p 5 64=some (zEz (fun i=>S.used.getD i 0)):=by
 rw[hA.self.row (by rw[zia hI.ulen];omega),←zIH hI.ulen];congr 1;unfold zaq;rw[Yr,Yd3];simp[hI.ulen]
theorem zse:∀ (u:List Int) (k j:Nat),j<u.length→zhB k (u.take (j+1))=zhB k (u.take j)++(if 0<u.getD j 0 then [(((k+j:Nat):Int),u.getD j 0)] else [])
 | [],_,_,h=>by simp at h
 | n::r,k,0,_=>by rfl
 | n::r,k,j+1,h=>by
  have ih:=zse r (k+1) j (by simp_all);have e1:∀ t,zhB k (n::t)=if 0<n then ((k:Int),n)::zhB (k+1) t else zhB (k+1) t:=fun _=>rfl
  rw[Ybu,Ybu,e1,e1,ih,List.getD_cons_succ,show k+1+j=k+(j+1) by omega];split
  ·rfl
  ·rfl
@[reducible] def zCE (S:StR) (ua:Option Addr) (uc:Nat) (ha:Option Addr) (ms:List MX) (hc:Nat) (ma:Option Addr) (mk:List MkC) (mc:Nat):Value := .agg #[.int .i64 S.self,.int .i64 S.epoch,.slice ua (zdu S.used).length uc,.slice ha ms.length hc,.slice ma mk.length mc]
def zEC (S:StR) (es:EsT) (M:Mem) (v:Value) (M':Mem):Prop:=∃ ua uc ha hc ms ma mc mk,v=zCE S ua uc ha ms hc ma mk mc∧M.le M'∧NewSl M 136 2 ua (zdu S.used).length uc ((zdu S.used).flatMap zta) M'∧HeldAt M ha ms.length hc ms M'∧ms.map MX.msg=S.l ∧
 MarksAt M ma mk.length mc mk M'∧(mk.map MkC.mk').Perm (es.map zfv)∧Canon (inE es) (mk.map MkC.mk')
theorem MarksAt.up {a:Option Addr} {n c:Nat} {l:List MkC} {M' M2:Mem} (h:MarksAt M0 a n c l M') (hle:M'.le M2):MarksAt M0 a n c l M2:=⟨h.row.up hle,fun m hm=>(h.more m hm).up hle⟩
theorem MarksAt.mono' {a:Option Addr} {n c:Nat} {l:List MkC} {M':Mem} (h:MarksAt M a n c l M') (hle:M0.le M):MarksAt M0 a n c l M':=⟨h.row.mono hle,fun m hm=>(h.more m hm).mono hle⟩
theorem zED (h:FreshSt M0 M p b sp sb S came xs es) (hcm:came≤4611686018427387904) (hes:es.length≤4194000):CallsM prog 77 [ptr p] M (zEC S es M):=by
 refine zl3 oS ?_;have hI:=h.inv
 have hA0:=h.at';refine brn_f rfl ?_
 repeat' (first|refine⟨?_,True.intro⟩|refine⟨?_,?_,True.intro⟩|refine brn_t rfl ?_|refine brn_f rfl ?_|refine ob rfl ?_|refine obr rfl ?_|refine ob oD ?_|refine obr oD ?_|refine grow_same (Ya _) ?_|refine ob (Ya _) ?_|refine⟨_,Ya _,?_⟩|fail)
 refine on (hA0.self.c1 rfl) ?_
 repeat' (first|refine⟨?_,True.intro⟩|refine⟨?_,?_,True.intro⟩|refine brn_t rfl ?_|refine brn_f rfl ?_|refine ob rfl ?_|refine obr rfl ?_|refine ob oD ?_|refine obr oD ?_|refine grow_same (Ya _) ?_|refine ob (Ya _) ?_|refine⟨_,Ya _,?_⟩|fail)
 refine on (hA0.self.c1 rfl) ?_
 repeat' (first|refine⟨?_,True.intro⟩|refine⟨?_,?_,True.intro⟩|refine brn_t rfl ?_|refine brn_f rfl ?_|refine ob rfl ?_|refine obr rfl ?_|refine ob oD ?_|refine obr oD ?_|refine grow_same (Ya _) ?_|refine ob (Ya _) ?_|refine⟨_,Ya _,?_⟩|fail)
 refine on (hA0.self.c1 (zj0 hI.ulen ..)) ?_
 repeat' (first|refine⟨?_,True.intro⟩|refine⟨?_,?_,True.intro⟩|refine brn_t rfl ?_|refine brn_f rfl ?_|refine ob rfl ?_|refine obr rfl ?_|refine ob oD ?_|refine obr oD ?_|refine grow_same (Ya _) ?_|refine ob (Ya _) ?_|refine⟨_,Ya _,?_⟩|fail)
 all_goals
  refine(zyX h hcm).mono ?_;rintro v M4 ⟨ha,hn,hc,ms,rfl,hH0,hmsg⟩;have h4:=h.to hH0.row.le
  refine zT (hH0.row.le) ?_
  repeat' (first|refine⟨?_,True.intro⟩|refine⟨?_,?_,True.intro⟩|refine brn_t rfl ?_|refine brn_f rfl ?_|refine ob rfl ?_|refine obr rfl ?_|refine ob oD ?_|refine obr oD ?_|refine grow_same (Ya _) ?_|refine ob (Ya _) ?_|refine⟨_,Ya _,?_⟩|fail)
 all_goals
  refine(zEe h4.at'.set (by have:=h.room;omega) hes).mono ?_;rintro v M5 ⟨ma,mn,mc,mk,rfl,hMk0,hp,hs⟩;have h5:=h4.to hMk0.row.le
  have hHe:=hH0.up hMk0.row.le;have hMk:=hMk0.mono' hH0.row.le
  have hleM:=hHe.row.le;refine zT (hleM) ?_;refine zR ?_;have hrow:=zEB h5.at' hI
  refine on hrow ?_
  refine zak (σ:=Nat×Mem×(Option Addr×Nat)) [29] (fun x=>[(29,.int .i64 x.1)]) (fun x=>[.live 42 [.v (.int .i64 0),.v (.int .i64 0),.v (.slice none 0 0),.v (.slice none 0 0),.v (.slice none 0 0)],.live 42 [.v (.int .i64 S.self),.v (.int .i64 S.epoch),.v (.slice x.2.2.1 (zdu (S.used.take x.1)).length x.2.2.2),.v (.slice ha hn hc),.v (.slice ma mn mc)]]) (fun x=>x.2.1)
   (fun|⟨j,M6,(a6,c6)⟩=>j≤64∧NewSl M5 136 2 a6 (zdu (S.used.take j)).length c6 ((zdu (S.used.take j)).flatMap zta) M6) (fun x=>64 - x.1) ⟨0,M5,(none,0)⟩ ⟨by omega,Yaw M5 _ _⟩ zS ?_
  rintro ⟨j,M6,⟨a6,c6⟩⟩ ⟨hj,hN6⟩;have hul:(zdu (S.used.take j)).length≤(S.used.take j).length:=zon _ 0
  have huj:(S.used.take j).length≤64:=by simp;omega
  refine brn (fun g=>?_) (fun g=>?_)
  rotate_left
  ·have hge:64≤j:=by have:=Zd1 g;dsimp only at this;omega
   rw[Yf (by rw[hI.ulen];omega)] at hN6 ⊢;refine zR ?_;have hl1:=hHe.len
   have hl2:=hMk.len;subst hl1;subst hl2;exact⟨a6,c6,ha,hc,ms,ma,mc,mk,rfl,Yc hleM hN6.le,hN6.mono hleM,hHe.up hN6.le,hmsg,hMk.up hN6.le,hp,zxS h.invE hp hs⟩
  have hlt:j<64:=by have:=Zd0 g;dsimp only at this;omega
  have hnx:zdu (S.used.take (j+1))=zdu (S.used.take j)++(if 0<S.used.getD j 0 then [((j:Int),S.used.getD j 0)] else []):=by
   have:=zse S.used 0 j (by rw[hI.ulen];omega);rw[Yap] at this;exact this
  refine ob (by omega) ?_;refine on (zIG (fun i=>S.used.getD i 0) hlt) ?_;refine brn (fun g1=>?_) (fun g1=>?_)
  ·have h1:0<S.used.getD j 0:=by simpa using g1
   rw[if_pos h1] at hnx;refine zR ?_;refine zvM M5 hN6 ((j:Int),S.used.getD j 0) rfl (by grind) (by simp[maxLen];omega) oC fun a7 c7 M7 hN7 _=>?_
   refine obr (inR_i64 (by omega)) ?_;rw[←hnx] at hN7;have hl7:(zdu (S.used.take (j+1))).length=(zdu (S.used.take j)).length+1:=by rw[hnx];simp
   rw[←hl7] at hN7;refine⟨⟨j+1,M7,(a7,c7)⟩,⟨by omega,hN7⟩,by omega,?_⟩;dsimp only;rw[hl7];exact zS
  ·have h1:¬0<S.used.getD j 0:=by simpa using g1
   rw[if_neg h1,Yt] at hnx;refine obr (inR_i64 (by omega)) ?_;refine⟨⟨j+1,M6,(a6,c6)⟩,⟨by omega,by rw[hnx];exact hN6⟩,by omega,?_⟩;dsimp only;rw[hnx];exact zS
end
section
variable {M:Mem}
structure zF1 (M:Mem) (ua:Option Addr) (un:Nat) (ha:Option Addr) (hn:Nat) (ma:Option Addr) (mn:Nat) (ul:List (Int×Int)) (ms:List MX) (mk:List MkC):Prop where
 used:SrcOk M 2 ua un (ul.flatMap zta)
 held:zAr M ha hn ms
 seen:zCk M ma mn mk
 few:zKN mk
 short:un≤4194000∧hn≤4194000∧mn≤4194000
end
section
variable {M:Mem}
def zF2:Int→List Int→Prop
 | _,[]=>True
 | last,n::r=>last<n∧n≤65535∧zF2 n r
def zII (m:Mk):Prop:=(0≤m.o∧m.o<64∧1≤m.e∧m.e≤65535∧0≤m.up∧m.up≤65535)∧(0<m.up∨0<m.more.length)∧zF2 (m.up+1) m.more
end
section
variable {M:Mem}
def zJJ (l:List Mk):Prop:=(∀ m∈l,zII m)∧l.Pairwise zey
def zKU (l:List Mk):Nat:=(l.map fun m=>m.more.length).sum
end
end Go.Proofs.YtlgbofpennelhaaGreat
namespace Go.Proofs.YtlgbofpennelhaaGreat
open Go Go.Vm
abbrev NxT:=List (Int×Int)
structure Nx (me epoch:Int) (ul:NxT):Prop where
 each:∀ n∈ul,(0≤n.1∧n.1≤63)∧n.1≠me∧1≤n.2∧n.2≤65535
 sort:ul.Pairwise fun x y=>x.1<y.1
 some:ul≠[]→epoch≠0
def zIJ (self epoch:Int) (ul:NxT):Prop:=Nx self epoch ul∧0≤epoch∧epoch≤65535
def okM (self epoch:Int) (ul:NxT) (m:zcF):Prop:=zeT m.id m.p.length=0∧m.id.d≠self∧(m.id.o=self→m.id.e<epoch∨(m.id.e=epoch∧m.id.c≤zFV ul m.id.d))
def zIK (self epoch:Int) (ul:NxT) (hs:List zcF):Prop:=(∀ m∈hs,okM self epoch ul m)∧(hs.map (·.id)).Nodup
def zJK (self epoch:Int) (ul:NxT) (hs:List zcF) (mks:List Mk):Prop:=zIJ self epoch ul∧zIK self epoch ul hs∧(∀ m∈mks,m.o≠self)∧zJJ mks
def zJL (qh qb qg:Int) (hs:List zcF) (mks:List Mk):Prop:=qg<zKU mks∨qh<hs.length∨qb<zn hs
theorem zwz {u:List Int} {i j:Nat} {v:Int} (hi:i<u.length):(u.set i v).getD j 0=if j=i then v else u.getD j 0:=by
 rw[Ys,Ys,List.getElem?_set];by_cases h:j=i
 ·subst h;rw[if_pos rfl,if_pos hi,if_pos rfl];rfl
 ·rw[if_neg oM,if_neg h]
end Go.Proofs.YtlgbofpennelhaaGreat
namespace Go.Proofs.YtlgbofpennelhaaGreat
open Go Go.Vm
attribute [local irreducible] Brn Ob Grow CallsM inR zI zF Mem.row Mem.cells Mem.setCells Mem.upd Go.Vm.Own zZ zaj zam zO New SrcOk subA NewSl Mem.textAt Mem.mapAt Mem.iterAt zC zB Wr NewEls Elems
set_option maxRecDepth 10000
set_option linter.unusedSimpArgs false
variable {M:Mem} {self epoch:Int} {ul:NxT} {ms:List MX} {mk:List MkC}
structure zIL (ms:List MX) (mk:List MkC) (un hn hc mn:Nat):Prop where
 b1:un≤1048576
 b2:hn≤1048576
 b3:hn≤hc
 b4:mn≤1048576
 msgs:∀ m∈ms,m.p.length≤1048576
 marks:∀ m∈mk,m.more.length≤1048576
end Go.Proofs.YtlgbofpennelhaaGreat
namespace Go.Proofs.YtlgbofpennelhaaGreat
open Go Go.Vm
structure GoS (S:StR) (es:EsT):Prop where
 none:S.epoch=0→∀ n∈S.used,n=0
 own:S.used.getD S.self.toNat 0=0
 held:∀ m∈S.l,m.id.o=S.self→m.id.e=S.epoch→m.id.c≤S.used.getD m.id.d.toNat 0
 seen:∀ q∈es,q.1.1≠S.self
theorem GoS.new (self qh qb qg:Int):GoS (zli self qh qb qg) []:=by
 refine⟨fun _ n hn=>List.eq_of_mem_replicate hn,?_,fun m hm=>(by cases hm),fun q hq=>(by cases hq)⟩;unfold zli;dsimp only;rw[Ys,List.getElem?_replicate];split<;>rfl
theorem zEE {es:EsT} {k:Int×Int} {x:Ent} {q:(Int×Int)×Ent} (h:q∈zt es k x):q.1=k∨∃ r∈es,r.1=q.1:=by
 have h1:q.1∈(zt es k x).map (·.1):=Yj.2 ⟨q,h,rfl⟩;rw[ztP] at h1;split at h1
 ·simp_all
 ·grind
theorem zsf {S:StR} {set:IdT→Int} {i:IdT} {n:Nat} (h:za2 S set 4 i n=0):i.d=S.self∧set i=0:=by
 unfold za2 at h;split at h
 ·omega
 rw[if_neg oD,if_neg oD,if_neg oD] at h;split at h
 ·cases h
 ·omega
theorem GoS.step:zJI GoS:=by
 intro S es es' k i p hI hE h hst;by_cases hm:za2 S (zes S es) k i p.length=0
 rotate_left
 ·simp_all
 rw[if_pos hm];by_cases h1:k=1
 ·subst h1;rw[if_neg (fun h=>by omega)] at hst;subst hst;have e:zai S 1 i p={ S with epoch:=S.epoch+1,used:=List.replicate 64 0 }:=by unfold zai;rw[if_pos rfl]
  rw[e];have he:=hI.epoch
  refine⟨fun _ n hn=>List.eq_of_mem_replicate hn,?_,fun m hm ho he'=>?_,h.seen⟩
  ·grind
  ·have:=(hI.msgs m hm).2.2 ho;dsimp only at he';omega
 by_cases h2:k=2
 ·subst h2;rw[if_neg (fun h=>by omega)] at hst;subst hst;obtain⟨g1,g2,g3,g4,g5,g6⟩:=zs7 hm;obtain⟨r1,r2,r3,r4,r5⟩:=zkE (zdf g1).1;have e:zai S 2 i p={ S with l:=S.l++[⟨i,p⟩],used:=if i.o=S.self∧i.e=S.epoch then S.used.set i.d.toNat (max (zdt S i.d) i.c) else S.used }:=by unfold zai;rw[if_neg oD,if_pos rfl]
  rw[e];have hs:=hI.self
  have hu:=hI.ulen;refine⟨fun h0 n hn=>?_,?_,fun m hm ho he'=>?_,h.seen⟩
  ·dsimp only at h0 hn;rw[if_neg (fun hh=>by omega)] at hn;exact h.none h0 n hn
  ·dsimp only;split
   ·rw[zwz oM,if_neg oM];exact h.own
   ·exact h.own
  ·dsimp only at hm ho he' ⊢;rcases Yy.1 hm with hm|hm
   ·have hc:=h.held m hm ho he';split
    ·rw[zwz oM];split
     ·rename_i hd;unfold zdt;rw[hd] at hc;omega
     ·exact hc
    ·exact hc
   ·grind
 by_cases h3:k=3
 ·subst h3;rw[if_neg (fun h=>by omega)] at hst;subst hst;have e:zai S 3 i p={ S with l:=S.l.filter fun m=>decide (m.id≠i) }:=by unfold zai;rw[if_neg oD,if_neg oD,if_pos rfl]
  rw[e];exact⟨h.none,h.own,fun m hm=>h.held m (Ya3.1 hm).1,h.seen⟩
 ·have e:zai S k i p=S:=by unfold zai;rw[if_neg h1,if_neg h2,if_neg h3]
  rw[e];refine⟨h.none,h.own,h.held,fun q hq=>?_⟩;split at hst
  ·rename_i h4;obtain⟨-, rfl⟩:=h4;obtain⟨hd,hz⟩:=zsf hm;rcases hst with ⟨hne,rfl⟩|⟨_,x,rfl,_⟩
   ·simp_all
   ·have:=(zkE (zt2 hz).1).2.2.2.2;rcases zEE hq with hk|⟨r,hr,hk⟩
    ·simp_all
    ·rw[←hk];exact h.seen r hr
  ·rw[hst] at hq;exact h.seen q hq
end Go.Proofs.YtlgbofpennelhaaGreat
namespace Go.Proofs.YtlgbofpennelhaaGreat
open Go Go.Vm Go.Proofs.Tryz
attribute [local irreducible] Brn Ob Grow CallsM inR zI zF Mem.row Mem.cells Mem.setCells Mem.upd Go.Vm.Own zZ zaj zam zO New SrcOk subA NewSl Mem.textAt Mem.mapAt Mem.iterAt zC zB Wr NewEls Elems
set_option maxRecDepth 10000
section
structure Hd where
 p:Nat
 b:Nat
 sp:Nat
 sb:Nat
 came:Int
 xs:HsT
 es:EsT
@[reducible] def zwA (B M:Mem) (S:StR) (x:Hd):Prop:=FreshSt B M x.p x.b x.sp x.sb S x.came x.xs x.es
@[reducible] def hB (x:Hd):Nat→Prop:=stB x.p x.b x.sp x.sb x.xs x.es
structure Two (B M:Mem) (S U:StR) (x y:Hd):Prop where
 one:zwA B M S x
 two:zwA B M U y
 apart:∀ z,hB x z→¬hB y z
variable {B M:Mem} {S U:StR} {x y:Hd}
end
section
def toE (m:Mk):(Int×Int)×Ent:=((m.o,m.e),⟨0,none,0,m.up,m.more⟩)
def zcJ (mk:List Mk):EsT:=mk.map toE
theorem zyY (mk:List Mk):(zcJ mk).map zfv=mk:=by
 unfold zcJ;rw[Ya4];exact Ydh _
structure SeenAs (es:EsT) (mk:List Mk):Prop where
 perm:(es.map zfv).Perm mk
 sort:mk.Pairwise zey
theorem zF3 {es:EsT} {k:Int×Int}:(ze es k).map (fun x=>(x.up,x.more))=((es.map zfv).find? fun m=>decide (m.o=k.1∧m.e=k.2)).map fun m=>(m.up,m.more):=by
 induction es with
 | nil=>rfl
 | cons q r ih=>
  obtain⟨⟨a,b⟩,x⟩:=q;obtain⟨k1,k2⟩:=k;rw[Yq,List.find?_cons];by_cases e:a=k1∧b=k2
  ·obtain⟨rfl,rfl⟩:=e;simp[ze,zfv]
  ·have h1:¬(a,b)=(k1,k2):=fun h=>e (by simp_all)
   have h2:decide ((zfv ((a,b),x)).o=(k1,k2).1∧(zfv ((a,b),x)).e=(k1,k2).2)=false:=decide_eq_false e;rw[h2];simp only[ze,if_neg h1];exact ih
theorem zCF {l r:List Mk} (h:l.Perm r) (hs:r.Pairwise zey) (k:Int×Int):l.find? (fun m=>decide (m.o=k.1∧m.e=k.2))=r.find? fun m=>decide (m.o=k.1∧m.e=k.2):=by
 cases h1:l.find? fun m=>decide (m.o=k.1∧m.e=k.2) with
 | none=>
  grind
 | some x=>
  have hx:=h.mem_iff.1 (Ycf h1);have ex:=Ydm h1
  cases h2:r.find? fun m=>decide (m.o=k.1∧m.e=k.2) with
  | none=>
   grind
  | some y=>
   have ey:=Ydm h2;simp only[decide_eq_true_eq] at ex ey;rw[zmx hs hx (Ycf h2) oM oM]
theorem SeenAs.get {es:EsT} {mk:List Mk} (h:SeenAs es mk) (k:Int×Int):(ze es k).map (fun x=>(x.up,x.more))=(ze (zcJ mk) k).map fun x=>(x.up,x.more):=by
 rw[zF3,zF3,zyY,zCF h.perm h.sort]
theorem SeenAs.up {es:EsT} {mk:List Mk} (h:SeenAs es mk) (k:Int×Int):zca es k=zca (zcJ mk) k∧zbw es k=zbw (zcJ mk) k:=by
 have:=h.get k;unfold zca zbw;cases h1:ze es k<;>cases h2:ze (zcJ mk) k<;>rw[h1,h2] at this<;>simp_all
theorem SeenAs.gaps {es:EsT} {mk:List Mk} (h:SeenAs es mk):zaD es=zaD (zcJ mk):=by
 have e:∀ x:EsT,zaD x=((x.map zfv).map fun m=>m.more.length).sum:=fun x=>by
  unfold zaD;rw[Ya4];rfl
 rw[e,e,zyY];exact(h.perm.map _).sum_nat
theorem SeenAs.has {es:EsT} {mk:List Mk} (h:SeenAs es mk) (o d e c:Int):zft es o d e c=zft (zcJ mk) o d e c:=by
 unfold zft;rw[(h.up _).1,(h.up _).2]
theorem SeenAs.may {es:EsT} {mk:List Mk} (h:SeenAs es mk) (g o d e c:Int):mayE g es o d e c=mayE g (zcJ mk) o d e c:=by
 unfold mayE;rw[h.has,(h.up _).1,h.gaps]
theorem SeenAs.add {es:EsT} {mk:List Mk} (h:SeenAs es mk) (o e c:Int):zfu es o e c=zfu (zcJ mk) o e c:=by
 unfold zfu;rw[(h.up _).1,(h.up _).2]
theorem SeenAs.nil:SeenAs [] []:=⟨.nil,.nil⟩
theorem SeenAs.canon {es:EsT} {mk:List Mk} (h:SeenAs es mk) (hE:InvE es):Canon (inE es) mk:=by
 refine⟨h.sort,fun m hm=>?_,fun o e c=>?_⟩
 ·obtain⟨q,hq,rfl⟩:=Yj.1 (h.perm.mem_iff.2 hm);exact hE.can q hq
 ·rw[zs6 hE];constructor
  ·rintro ⟨q,hq,e1,e2,hc⟩;exact⟨zfv q,h.perm.mem_iff.1 (Yj.2 ⟨q,hq,rfl⟩),e1,e2,hc⟩
  ·rintro ⟨m,hm,e1,e2,hc⟩;obtain⟨q,hq,rfl⟩:=Yj.1 (h.perm.mem_iff.2 hm);exact⟨q,hq,e1,e2,hc⟩
def zgQ (m:Mk):List Mk→List Mk
 | []=>[m]
 | y::r=>if m.o<y.o∨(m.o=y.o∧m.e<y.e) then m::y::r else if m.o=y.o∧m.e=y.e then m::r else y::zgQ m r
theorem zow {m x:Mk}:∀ {l:List Mk},l.Pairwise zey→(x∈zgQ m l↔x=m∨(x∈l∧¬(x.o=m.o∧x.e=m.e)))
 | [],_=>by simp[zgQ]
 | y::r,h=>by
  obtain⟨h1,h2⟩:=Yx.1 h;unfold zgQ;split
  ·rename_i hl
   have hne:∀ z∈y::r,¬(z.o=m.o∧z.e=m.e):=fun z hz=>by
    rcases Yp.1 hz with rfl|hz
    ·omega
    ·have:=h1 z hz;unfold zey at this;omega
   constructor
   ·grind
   ·grind
  ·rename_i hl;split
   ·rename_i he
    have hne:∀ z∈r,¬(z.o=m.o∧z.e=m.e):=fun z hz=>by
     have:=h1 z hz;unfold zey at this;omega
    constructor
    ·grind
    ·grind
   ·rename_i he;rw[Yp,zow h2,Yp];constructor
    ·grind
    ·grind
theorem zmN {m:Mk}:∀ {l:List Mk},l.Pairwise zey→(zgQ m l).Pairwise zey
 | [],_=>by simp[zgQ]
 | y::r,h=>by
  obtain⟨h1,h2⟩:=Yx.1 h;unfold zgQ;split
  ·rename_i hl;refine Yx.2 ⟨fun z hz=>?_,h⟩;rcases Yp.1 hz with rfl|hz
   ·exact hl
   ·have:=h1 z hz;unfold zey at this ⊢; omega
  ·rename_i hl;split
   ·rename_i he;refine Yx.2 ⟨fun z hz=>?_,h2⟩;have:=h1 z hz;unfold zey at this ⊢; omega
   ·rename_i he;refine Yx.2 ⟨fun z hz=>?_,zmN h2⟩;rcases(zow h2).1 hz with rfl|⟨hz,_⟩
    ·unfold zey;omega
    ·simp_all
def zlI (mk:List Mk) (o e c:Int):List Mk:=zgQ ⟨o,e,(zfu (zcJ mk) o e c).1,(zfu (zcJ mk) o e c).2⟩ mk
theorem zni {α:Type}:∀ {l r:List α},l.Nodup→r.Nodup→(∀ x,x∈l↔x∈r)→l.Perm r
 | [],r,_,_,h=>by
  have:r=[]:=List.eq_nil_iff_forall_not_mem.2 fun x hx=>by simp_all
  rw[this]
 | a::l,r,h1,h2,h=>by
  have ha:a∈r:=(h a).1 oS;obtain⟨u,v,rfl⟩:=List.append_of_mem ha;obtain⟨h3,h4⟩:=Yau.1 h1;have hp:(u++a::v).Perm (a::(u++v)):=List.perm_middle
  have h5:=Yau.1 (hp.nodup_iff.1 h2);refine(List.Perm.cons a (zni h4 h5.2 fun x=>?_)).trans hp.symm;have hx:=h x
  rw[hp.mem_iff,Yp,Yp] at hx;constructor
  ·grind
  ·grind
theorem zAF {es:EsT} (h:(es.map (·.1)).Nodup):(es.map zfv).Nodup:=by
 rw[List.Nodup,Ybd] at h ⊢
 exact h.imp fun {a b} hne e=>hne (by
  have h1:=congrArg Mk.o e;have h2:=congrArg Mk.e e
  exact Prod.ext h1 h2)
theorem zAG {mk:List Mk} (h:mk.Pairwise zey):mk.Nodup:=h.imp fun {a b} h e=>by subst e;unfold zey at h;omega
theorem SeenAs.put {es:EsT} {mk:List Mk} (h:SeenAs es mk) (hn:(es.map (·.1)).Nodup) {o e c:Int} {x:Ent} (hx:(x.up,x.more)=zfu es o e c):SeenAs (zt es (o,e) x) (zlI mk o e c):=by
 have hm:zfv ((o,e),x)=⟨o,e,(zfu (zcJ mk) o e c).1,(zfu (zcJ mk) o e c).2⟩:=by rw[←h.add,←hx];rfl
 refine⟨zni (zAF (zf6 hn _ _)) (zAG (zmN h.sort)) fun m=>?_,zmN h.sort⟩;unfold zlI;rw[zow h.sort,←hm,Yj];constructor
 ·rintro ⟨q,hq,rfl⟩;rcases zmz hn hq with rfl|⟨h1,h2⟩
  ·simp
  ·exact .inr ⟨h.perm.mem_iff.1 (Yj.2 ⟨q,h1,rfl⟩),fun ⟨e1,e2⟩=>h2 (Prod.ext e1 e2)⟩
 ·rintro (rfl|⟨h1,h2⟩)
  ·exact⟨((o,e),x),zG (by rw[zbL,if_pos rfl]),rfl⟩
  ·obtain⟨q,hq,rfl⟩:=Yj.1 (h.perm.mem_iff.2 h1);refine⟨q,?_,rfl⟩
   have:ze (zt es (o,e) x) q.1=some q.2:=by
    rw[zbL,if_neg fun e1=>h2 ⟨congrArg Prod.fst e1,congrArg Prod.snd e1⟩];exact zbK hn hq
   exact zG this
end
section
variable {M A:Mem} {h:Hd}
structure StW where
 S:StR
 sn:List Mk
def zbB (X:StW) (k:Int) (i:IdT) (n:Nat):Int:=za2 X.S (zes X.S (zcJ X.sn)) k i n
def zct (X:StW) (k:Int) (i:IdT) (p:List UInt8):StW×Int:=
 if zbB X k i p.length=0 then (⟨zai X.S k i p,if k=4 then zlI X.sn i.o i.e i.c else X.sn⟩,0) else (X,zbB X k i p.length)
theorem zEF (S:StR) (k:Int) (i:IdT) (p:List UInt8):(zai S k i p).self=S.self∧(zai S k i p).qh=S.qh∧(zai S k i p).qb=S.qb∧(zai S k i p).qg=S.qg:=by
 unfold zai;repeat' split
 all_goals exact⟨rfl,rfl,rfl,rfl⟩
structure FreshW (A M:Mem) (h:Hd) (X:StW):Prop where
 st:zwA A M X.S h
 seen:SeenAs h.es X.sn
 go:GoS X.S h.es
 bd:¬zcN X.S.self X.S.qh X.S.qb X.S.qg
theorem FreshW.to {X:StW} (h1:FreshW A M h X) {M':Mem} (hle:M.le M'):FreshW A M' h X:=⟨h1.st.to hle,h1.seen,h1.go,h1.bd⟩
theorem FreshW.may {X:StW} (h1:FreshW A M h X) (k:Int) (i:IdT) (n:Nat):za2 X.S (zes X.S h.es) k i n=zbB X k i n:=by
 have:zes X.S h.es=zes X.S (zcJ X.sn):=funext fun i=>h1.seen.may ..
 unfold zbB;rw[this]
theorem FreshW.es_len {X:StW} (h1:FreshW A M h X):h.es.length=X.sn.length:=by have:=h1.seen.perm.length_eq;simpa using this
theorem FreshW.base {X:StW} (h1:FreshW A M h X):FreshW (M.minus (hB h)) M h X∧A.le (M.minus (hB h)):=⟨⟨h1.st.base.1,h1.seen,h1.go,h1.bd⟩,h1.st.base.2⟩
theorem FreshW.mono {X:StW} {A':Mem} (h1:FreshW A' M h X) (hle:A.le A'):FreshW A M h X:=
 ⟨⟨Yc hle h1.st.le,h1.st.at',h1.st.inv,h1.st.invE,h1.st.room,fun y hy=>by
  cases e:A y with
  | none=>rfl
  | some o=>have:=hle y o e;rw[h1.st.fresh y hy] at this;cases this⟩,h1.seen,h1.go,h1.bd⟩
theorem zF4 (self qh qb qg:Int):CallsM prog 79 [.int .i64 self,.agg #[.int .i64 qh,.int .i64 qb,.int .i64 qg]] M fun v M'=>
  (zcN self qh qb qg∧v = .tuple #[.pointer none,.int .i64 1]∧M=M') ∨
  (¬zcN self qh qb qg∧∃ h,v = .tuple #[ptr h.p,.int .i64 0]∧FreshW M M' h ⟨zli self qh qb qg,[]⟩∧h.came=0):=
 (zEh self qh qb qg).mono fun v M' hv=>by
  rcases hv with h1|⟨h1,p,b,sp,sb,rfl,h2⟩
  ·simp_all
  ·exact .inr ⟨h1,⟨p,b,sp,sb,0,[],[]⟩,rfl,⟨h2,SeenAs.nil,GoS.new .., h1⟩,rfl⟩
theorem zJM {X:StW} (h1:FreshW A M h X) (k:Int) (i:IdT) (a:Option Addr) (n c:Nat) (hn:n≤1048576):CallsM prog 129 [ptr h.p,evV k i a n c] M fun v M'=>v = .int .i64 (zbB X k i n)∧M.le M':=
 (zwh h1.st k i a n c hn).mono fun v M' ⟨hv,hle⟩=>⟨by rw[hv,h1.may],hle⟩
theorem zG5 {X:StW} (h1:FreshW A M h X) (k:Int) (i:IdT) {a:Option Addr} {c:Nat} {l:List UInt8} (hl:SrcOk M 1 a l.length (l.map zc)) (hn:l.length≤1048576) (hcm:h.came≤4611686018427387904) :
  CallsM prog 134 [ptr h.p,evV k i a l.length c] M fun v M'=>∃ h',v = .int .i64 (zct X k i l).2∧FreshW A M' h' (zct X k i l).1∧h'.p=h.p∧h'.came≤h.came+1:=
 (zAp h1.st k i hl hn hcm).mono fun v M' ⟨cm,xs,es,hv,hc,h2,hst⟩=>by
  have hq:=GoS.step X.S h.es es k i l h1.st.inv h1.st.invE h1.go hst;rw[h1.may] at hv h2 hst hq;unfold zct;by_cases hm:zbB X k i l.length=0
  ·rw[if_pos hm] at h2 hq ⊢;refine⟨⟨h.p,h.b,h.sp,h.sb,cm,xs,es⟩,by rw[hv,hm],⟨h2,?_,hq,by obtain⟨q1,q2,q3,q4⟩:=zEF X.S k i l;dsimp only;rw[q1,q2,q3,q4];exact h1.bd⟩,rfl,hc⟩;by_cases hk:k=4
   ·rw[if_pos ⟨hm,hk⟩] at hst;rw[if_pos hk]
    have h4:mayE X.S.qg h.es i.o i.d i.e i.c=0:=by
     have h5:=h1.may k i l.length;rw[hm,hk] at h5;exact(zsf h5).2
    rcases hst with ⟨hne,_⟩|⟨_,x,rfl,hx⟩
    ·omega
    ·exact h1.seen.put h1.st.invE.nodup hx
   ·rw[if_neg fun h=>hk h.2] at hst;rw[if_neg hk];dsimp only;rw[hst];exact h1.seen
  ·rw[if_neg hm] at h2 hq ⊢;rw[if_neg fun h=>hm h.1] at hst;exact⟨⟨h.p,h.b,h.sp,h.sb,cm,xs,es⟩,hv,⟨h2,by dsimp only;rw[hst];exact h1.seen,hq,h1.bd⟩,rfl,hc⟩
theorem zG6 {X:StW} (h1:FreshW A M h X) (d:Int):CallsM prog 69 [ptr h.p,.int .i64 d] M fun v M'=>v = .tuple #[idA (zaW X.S d).1,.int .i64 (zaW X.S d).2]∧M=M':=zEi h1.st.at' h1.st.inv d
theorem zIM {X:StW} (h1:FreshW A M h X) (i:IdT):CallsM prog 343 [ptr h.p,idA i] M fun v M'=>
  (v = .tuple #[.agg #[.int .i64 0,.int .i64 0,.int .i64 0,.int .i64 0,.slice none 0 0],.bool false]∧zfQ X.S.l i=false∧M=M') ∨
  (∃ a n c l,v = .tuple #[.agg #[.int .i64 i.o,.int .i64 i.d,.int .i64 i.e,.int .i64 i.c,.slice a n c],.bool true]∧zfQ X.S.l i=true∧⟨i,l⟩∈X.S.l∧NewSl M 5 1 a n c (l.map zc) M'):=zGM h1.st.at' h1.st.inv i
theorem zIN {X:StW} (h1:FreshW A M h X) (hcm:h.came≤4611686018427387904):CallsM prog 144 [ptr h.p] M fun v M'=>∃ a n c ms,v = .slice a n c∧HeldAt M a n c ms M'∧ms.map MX.msg=X.S.l:=zyX h1.st hcm
theorem FreshW.few {X:StW} (h1:FreshW A M h X):∀ m∈X.sn,m.more.length≤256:=fun m hm=>by
 obtain⟨q,hq,e⟩:=Yj.1 (h1.seen.perm.mem_iff.2 hm);have h2:m.more=q.2.more:=(congrArg Mk.more e).symm
 have h3:=zjY hq;have h4:=h1.st.room
 rw[h2];omega
structure zAH (M0 M:Mem) (X:StW) (v:Value):Prop where
 ex:∃ ua uc ha hc ms ma mc mk,v=zCE X.S ua uc ha ms hc ma mk mc∧zF1 M ua (zdu X.S.used).length ha ms.length ma mk.length (zdu X.S.used) ms mk ∧
  zIL ms mk (zdu X.S.used).length ms.length hc mk.length∧ms.map MX.msg=X.S.l∧mk.map MkC.mk'=X.sn∧NewSl M0 136 2 ua (zdu X.S.used).length uc ((zdu X.S.used).flatMap zta) M∧HeldAt M0 ha ms.length hc ms M∧MarksAt M0 ma mk.length mc mk M
theorem zG7 {X:StW} (h1:FreshW A M h X) (hcm:h.came≤4611686018427387904) (hmk:X.sn.length≤1048576):CallsM prog 77 [ptr h.p] M fun v M'=>M.le M'∧zAH M M' X v:=
 (zED h1.st hcm (by rw[h1.es_len];omega)).mono fun v M' ⟨ua,uc,ha,hc,ms,ma,mc,mk,hv,hle,hN,hH,hmsg,hMk,hperm,hcan⟩=>by
  have hI:=h1.st.inv;have hqh:=hI.qh
  have hqm:X.S.qh≤256:=by have:=h1.bd;unfold zcN at this;omega
  have hml:ms.length=X.S.l.length:=by rw[←hmsg,Y9]
  have hmk2:mk.map MkC.mk'=X.sn:=hcan.uniq (h1.seen.canon h1.st.invE);have hmkl:mk.length=X.sn.length:=by rw[←hmk2,Y9]
  have hus:(zdu X.S.used).length≤64:=by have h9:(zdu X.S.used).length≤X.S.used.length:=zon _ 0;have:=hI.ulen;omega
  have hfew:∀ m∈mk,m.more.length≤256:=fun m hm=>h1.few m.mk' (hmk2▸Yj.2 ⟨m,hm,rfl⟩)
  have hcl:ms.length≤hc:=(newSl_iff.1 hH.row).2.2.1;refine⟨hle,⟨ua,uc,ha,hc,ms,ma,mc,mk,hv,⟨hN.src,hH.msgs,hMk.r,fun m hm=>by grind,by omega⟩,⟨by omega,by omega,by omega,by omega,fun m hm=>?_,fun m hm=>by grind⟩,hmsg,hmk2,hN,hH,hMk⟩⟩;have h2:m.msg∈X.S.l:=hmsg▸Yj.2 ⟨m,hm,rfl⟩
  have:=(zdf (hI.msgs _ h2).1).2.2;dsimp only [MX.msg] at this;omega
end
section
variable {M M0:Mem}
def zti (xs:List Int):List UInt8:=xs.flatMap (be 2)
end
end Go.Proofs.YtlgbofpennelhaaGreat
namespace Go.Proofs.YtlgbofpennelhaaGreat
open Go Go.Vm
def zcn (x:EvX):Int:=zba x.kind x.id x.p.length
def zx (x:EvX):List UInt8:=zp x.kind::(if x.kind=1 then [] else if x.kind=2 then zX x.id.o x.id.d x.id.e x.id.c++x.p else zX x.id.o x.id.d x.id.e x.id.c)
def zb0 (x:EvX):List UInt8:=if zcn x=0 then zx x else []
def zcg:List UInt8→Option EvX
 | []=>none
 | b::r=>
  if b.toNat=1 then (if r=[] then some ⟨1,zaV,[]⟩ else none)
  else if b.toNat=2 then (if zaJ r=0 then some ⟨2,(zaw r).id,(zaw r).p⟩ else none)
  else if b.toNat=3∨b.toNat=4 then (if zan r=0 then some ⟨b.toNat,zcG r,[]⟩ else none)
  else none
theorem zbh (b:UInt8) (r:List UInt8):zcg (b::r)=if b.toNat=1 then (if r=[] then some ⟨1,zaV,[]⟩ else none)
  else if b.toNat=2 then (if zaJ r=0 then some ⟨2,(zaw r).id,(zaw r).p⟩ else none)
  else if b.toNat=3∨b.toNat=4 then (if zan r=0 then some ⟨b.toNat,zcG r,[]⟩ else none)
  else none:=rfl
theorem zmO {x:EvX} (h:zcn x=0):x.kind=1∨x.kind=2∨x.kind=3∨x.kind=4:=by
 unfold zcn zba at h
 repeat' split at h
 all_goals omega
theorem zuf {x:EvX} (h:zcn x=0) (hk:x.kind=1):zhz x.id∧x.p=[]:=by
 unfold zcn zba at h;rw[if_pos hk] at h;split at h
 ·cases h
 ·simp_all
theorem ziG {x:EvX} (h:zcn x=0) (hk:x.kind=2):zer x.id=0∧0<x.p.length∧x.p.length≤48:=by
 unfold zcn zba at h;rw[if_neg oM,if_pos hk] at h;exact zdf h
theorem zgg {x:EvX} (h:zcn x=0) (hk:x.kind=3∨x.kind=4):zer x.id=0∧x.p=[]:=by
 unfold zcn zba at h;rw[if_neg oM,if_neg oM,if_pos hk] at h;split at h
 ·omega
 ·simp_all
theorem zdV (o d e c:Int):(zX o d e c).length=6:=by rfl
theorem zic {i:IdT} (h:zer i=0):zan (zX i.o i.d i.e i.c)=0∧zcG (zX i.o i.d i.e i.c)=i:=by
 obtain⟨h1,h2⟩:=zrZ (i:=i) h
 have:zan (zX i.o i.d i.e i.c)=0:=by
  unfold zan;rw[if_neg oM,h1,if_neg (by simp only[ne_eq,Decidable.not_not];exact h)]
 exact⟨this,by unfold zcG;rw[if_pos this,h1]⟩
theorem zwB {k:Int} (h:0≤k∧k<256):((zp k).toNat:Int)=k:=zd3 h
theorem zx2 {x:EvX} (h:zcn x=0):zcg (zx x)=some x:=by
 obtain⟨k,i,p⟩:=x;have hk:=zmO h
 dsimp only at hk;have hb:((zp k).toNat:Int)=k:=zwB oM
 rcases hk with rfl|rfl|rfl|rfl
 ·obtain⟨h1,h2⟩:=zuf h rfl;dsimp only at h1 h2;subst h2;have eb:zx ⟨1,i,[]⟩=[zp 1]:=rfl
  rw[eb,zbh,if_pos oM,if_pos rfl];obtain⟨o,d,e,c⟩:=i;unfold zhz at h1;dsimp only at h1;obtain⟨rfl,rfl,rfl,rfl⟩:=h1;rfl
 ·obtain⟨h1,h2,h3⟩:=ziG h rfl;dsimp only at h1 h2 h3;obtain⟨g1,g2⟩:=zic h1;have e6:(zX i.o i.d i.e i.c++p).take 6=zX i.o i.d i.e i.c:=by rw[Y4 (by rw[zdV];omega),Yf (by rw[zdV];omega)]
  have d6:(zX i.o i.d i.e i.c++p).drop 6=p:=by rw[Yd3,Yaf (by grind),zdV];simp
  have hm:zaJ (zX i.o i.d i.e i.c++p)=0:=by
   unfold zaJ;rw[if_neg (by grind),e6,if_neg (by simp[g1]),if_neg (by grind)]
  have eb:zx ⟨2,i,p⟩=zp 2::(zX i.o i.d i.e i.c++p):=rfl;rw[eb,zbh,if_neg oM,if_pos oM,if_pos hm];unfold zaw;rw[if_pos hm,e6,d6];rw[zcG,if_pos g1] at g2;dsimp only;rw[g2]
 ·obtain⟨h1,h2⟩:=zgg h (.inl rfl);dsimp only at h1 h2;subst h2;obtain⟨g1,g2⟩:=zic h1;have eb:zx ⟨3,i,[]⟩=zp 3::zX i.o i.d i.e i.c:=rfl
  rw[eb,zbh,if_neg oM,if_neg oM,if_pos oM,if_pos g1,g2,hb]
 ·obtain⟨h1,h2⟩:=zgg h (.inr rfl);dsimp only at h1 h2;subst h2;obtain⟨g1,g2⟩:=zic h1;have eb:zx ⟨4,i,[]⟩=zp 4::zX i.o i.d i.e i.c:=rfl
  rw[eb,zbh,if_neg oM,if_neg oM,if_pos oM,if_pos g1,g2,hb]
theorem znj {l:List UInt8} (h:zan l=0):l.length=6∧zer (zcA l)=0:=by
 unfold zan at h;split at h
 ·cases h
 ·rename_i h6;split at h
  ·cases h
  ·rename_i h7;have h8:(zcA l).err=0:=by simpa using h7
   exact⟨by omega,h8⟩
theorem ztj {l:List UInt8} (h:zaJ l=0):(7≤l.length∧l.length≤54)∧zan (l.take 6)=0:=by
 unfold zaJ at h;split at h
 ·cases h
 ·omega
theorem zox {b:UInt8} {k:Nat} (h:b.toNat=k):zp (k:Int)=b:=by rw[←h];exact zfS b
theorem zx3 {l:List UInt8} {x:EvX} (h:zcg l=some x):zcn x=0∧zx x=l:=by
 cases l with
 | nil=>cases h
 | cons b r=>
  rw[zbh] at h;split at h
  ·rename_i hb;split at h
   ·rename_i hr;cases h;subst hr;exact⟨by decide,by have:=zox hb;unfold zx;rw[if_pos rfl];exact congrArg (· :: []) this⟩
   ·cases h
  rename_i hb1;split at h
  ·rename_i hb;split at h
   ·rename_i hm;cases h;obtain⟨h1,h2⟩:=ztj hm;obtain⟨h3,h4⟩:=znj h2;have em:zaw r=⟨zcA (r.take 6),r.drop 6⟩:=by unfold zaw;rw[if_pos hm]
    rw[em];dsimp only;refine⟨?_,?_⟩
    ·unfold zcn zba;dsimp only;rw[if_neg oD,if_pos rfl];unfold zeT msgErr;rw[show idErr (zcA (r.take 6)).o (zcA (r.take 6)).d (zcA (r.take 6)).e (zcA (r.take 6)).c=0 from h4];rw[if_neg oD,if_neg oE,if_neg oE]
    ·unfold zx;dsimp only;rw[if_neg oD,if_pos rfl,zr0 h3,Ycu];exact congrArg (· :: r) (zox hb)
   ·cases h
  rename_i hb2;split at h
  ·rename_i hb;split at h
   ·rename_i hi;cases h;obtain⟨h3,h4⟩:=znj hi;have ei:zcG r=zcA r:=by unfold zcG;rw[if_pos hi]
    rw[ei];refine⟨?_,?_⟩
    ·unfold zcn zba;dsimp only;rw[if_neg oM,if_neg oM,if_pos oM,if_neg (by omega),if_neg oS]
    ·unfold zx;dsimp only;rw[if_neg oM,if_neg oM,zr0 h3,zox rfl]
   ·cases h
  ·cases h
end Go.Proofs.YtlgbofpennelhaaGreat
namespace Go.Proofs.YtlgbofpennelhaaGreat
open Go Go.Vm Go.Proofs.Tryz
attribute [local irreducible] Brn Ob Grow CallsM inR zI zF Mem.row Mem.cells Mem.setCells Mem.upd Go.Vm.Own zZ zaj zam zO New SrcOk subA NewSl Mem.textAt Mem.mapAt Mem.iterAt zC zB Wr NewEls Elems
set_option maxRecDepth 10000
section
variable {M:Mem}
theorem zCG (i:IdT) {a:Option Addr} {c:Nat} {l:List UInt8} (hl:SrcOk M 1 a l.length (l.map zc)) (h0:zeT i l.length=0):CallsM prog 201 [.agg #[.int .i64 i.o,.int .i64 i.d,.int .i64 i.e,.int .i64 i.c,.slice a l.length c]] M fun v M'=>
  ∃ a' c',v = .tuple #[.slice a' (6+l.length) c',.int .i64 0]∧NewSl M 5 1 a' (6+l.length) c' ((zX i.o i.d i.e i.c++l).map zc) M':=by
 refine zzR oS ?_;obtain⟨h1,h2,h3⟩:=zdf h0;refine zJ (zin _ _ _ _ _ _ _ _) ?_;refine brn_f (by simp_all) ?_;refine zM (zmB _ _ _ _ _) ?_;rintro v M1 (⟨hne, -⟩|⟨-, a1,c1,rfl,hN⟩)
 ·exact absurd h1 hne
 refine zR ?_;refine zb2 (hl.le hN.le) ?_;refine zb8 M _ hN (by omega) (by simp[maxLen]<;>omega) (zaA _) fun a2 c2 M2 hN2=>?_
 refine zR ?_;exact⟨a2,c2,rfl,by simpa using hN2⟩
def zCH (x:EvX) (M:Mem) (v:Value) (M':Mem):Prop:=∃ a c,v = .tuple #[.slice a (zb0 x).length c,.int .i64 (zcn x)]∧NewSl M 5 1 a (zb0 x).length c ((zb0 x).map zc) M'
theorem zEG (x:EvX) {a:Option Addr} {c:Nat} (hl:SrcOk M 1 a x.p.length (x.p.map zc)):CallsM prog 130 [evV x.kind x.id a x.p.length c] M (zCH x M):=by
 obtain⟨k,i,p⟩:=x;dsimp only at hl ⊢;refine zsK oS ?_;refine zJ (zyP k i a p.length c) ?_;refine brn (fun g=>?_) (fun g=>?_)
 ·have g1:¬zba k i p.length=0:=by simpa using g
  have e:zb0 ⟨k,i,p⟩=[]:=by unfold zb0 zcn;rw[if_neg g1]
  refine zR ?_;refine⟨none,0,?_,?_⟩
  ·rw[e];rfl
  ·rw[e];exact Yaw _ _ _
 have g0:zba k i p.length=0:=by simpa using g
 have g1:zcn ⟨k,i,p⟩=0:=g0;have e:zb0 ⟨k,i,p⟩=zx ⟨k,i,p⟩:=by unfold zb0;rw[if_pos g1]
 have hk:=zmO g1;dsimp only at hk;rcases hk with rfl|rfl|rfl|rfl
 ·have eb:zx ⟨1,i,p⟩=[zp 1]:=rfl;have hlen:1+0=(zb0 ⟨1,i,p⟩).length:=by rw[e,eb];rfl
  have hle:=Ya M;refine zR ?_;refine new (fun b9 hb9=>?_);replace hb9:M b9=none:=hb9;rw[ze4];have hN9:NewSl M 5 1 (some ⟨b9,0,none⟩) 1 1 ([zp 1].map zc) _:=Ybc hb9 5 1 1 [zc (zp 1)] rfl
  refine zb2 (vs:=([]:List UInt8).map zc) (Ybh _ _) ?_;refine zb8 _ _ hN9 (by omega) (by simp[maxLen]<;>omega) (zaA _) fun a2 c2 M2 hN2=>?_
  refine zR ?_;refine⟨a2,c2,by simp_all,?_⟩;rw[←hlen,e,eb];exact NewSl.mono (by simpa using hN2) hle
 ·obtain⟨h1,h2,h3⟩:=ziG g1 rfl;dsimp only at h1 h2 h3;have eb:zx ⟨2,i,p⟩=zp 2::(zX i.o i.d i.e i.c++p):=rfl
  have hlen:1+(6+p.length)=(zb0 ⟨2,i,p⟩).length:=by rw[e,eb,Ym,Yi,zdV];omega
  refine zR ?_;refine(zCG i hl (by assumption)).mono ?_;rintro v M1 ⟨a1,c1,rfl,hN⟩;refine zR ?_;refine new (fun b9 hb9=>?_);replace hb9:M1 b9=none:=hb9;have hle:=hN.le
  rw[ze4];have hN9:NewSl M1 5 1 (some ⟨b9,0,none⟩) 1 1 ([zp 2].map zc) _:=Ybc hb9 5 1 1 [zc (zp 2)] rfl
  refine zb2 (hN.src.le hN9.le) ?_;refine zb8 _ _ hN9 (by omega) (by simp[maxLen]<;>omega) (zaA _) fun a2 c2 M2 hN2=>?_
  refine zR ?_;refine⟨a2,c2,by simp_all,?_⟩;rw[←hlen,e,eb];exact NewSl.mono (by simpa using hN2) hle
 ·have eb:zx ⟨3,i,p⟩=zp 3::zX i.o i.d i.e i.c:=rfl;have hlen:1+6=(zb0 ⟨3,i,p⟩).length:=by rw[e,eb,Ym,zdV]
  obtain⟨h1,h2⟩:=zgg g1 (by simp);refine zM (zmB _ _ _ _ _) ?_;rintro v M1 (⟨hne, -⟩|⟨-, a1,c1,rfl,hN⟩)
  ·simp_all
  refine zR ?_;refine new (fun b9 hb9=>?_);replace hb9:M1 b9=none:=hb9;have hle:=hN.le
  rw[ze4];have hN9:NewSl M1 5 1 (some ⟨b9,0,none⟩) 1 1 ([zp 3].map zc) _:=Ybc hb9 5 1 1 [zc (zp 3)] rfl
  refine zb2 (hN.src.le hN9.le) ?_;refine zb8 _ _ hN9 (by omega) (by simp[maxLen]<;>omega) (zaA _) fun a2 c2 M2 hN2=>?_
  refine zR ?_;refine⟨a2,c2,by simp_all,?_⟩;rw[←hlen,e,eb];exact NewSl.mono (by simpa using hN2) hle
 ·have eb:zx ⟨4,i,p⟩=zp 4::zX i.o i.d i.e i.c:=rfl;have hlen:1+6=(zb0 ⟨4,i,p⟩).length:=by rw[e,eb,Ym,zdV]
  obtain⟨h1,h2⟩:=zgg g1 (by simp);refine zM (zmB _ _ _ _ _) ?_;rintro v M1 (⟨hne, -⟩|⟨-, a1,c1,rfl,hN⟩)
  ·simp_all
  refine zR ?_;refine new (fun b9 hb9=>?_);replace hb9:M1 b9=none:=hb9;have hle:=hN.le
  rw[ze4];have hN9:NewSl M1 5 1 (some ⟨b9,0,none⟩) 1 1 ([zp 4].map zc) _:=Ybc hb9 5 1 1 [zc (zp 4)] rfl
  refine zb2 (hN.src.le hN9.le) ?_;refine zb8 _ _ hN9 (by omega) (by simp[maxLen]<;>omega) (zaA _) fun a2 c2 M2 hN2=>?_
  refine zR ?_;refine⟨a2,c2,by simp_all,?_⟩;rw[←hlen,e,eb];exact NewSl.mono (by simpa using hN2) hle
end
section
variable {M:Mem}
def GetOut (l:List UInt8) (M:Mem) (v:Value) (M':Mem):Prop:=
 (zcg l=none∧v = .tuple #[evV 0 zaV none 0 0,.int .i64 2]∧M.le M') ∨
 (∃ x a c,zcg l=some x∧v = .tuple #[evV x.kind x.id a x.p.length c,.int .i64 0]∧M.le M'∧SrcOk M' 1 a x.p.length (x.p.map zc)∧x.p.length≤4194304)
theorem zEH {a:Option Addr} {n c:Nat} {l:List UInt8} (hs:SrcOk M 1 a n (l.map zc)) (hn:n≤4194304) (hc:n≤c):CallsM prog 155 [.slice a n c] M (GetOut l M):=by
 refine zsN oS ?_;have hl:=hs.maplen
 refine zR ?_;refine brn (fun g=>?_) (fun g=>?_)
 ·have hn0:l=[]:=Y8 (by simp_all);subst hn0;refine zR ?_;exact .inl ⟨rfl,rfl,Ya _⟩
 have hn1:0<n:=by have:=Zd1 g;omega
 obtain⟨b,r,rfl⟩:∃ b r,l=b::r:=by
  cases l with
  | nil=>simp_all
  | cons b r=>simp
 obtain⟨h0,bb,o,ha,hrow⟩:=hs.at (i:=0) hn1;replace hrow:M.row bb (o+0*1) 1=some [zc b]:=hrow;have hrl:r.length=n - 1:=by simp at hl;omega
 have hsub:SrcOk M 1 (subA a 1 c 1) (n - 1) (r.map zc):=by
  have:=hs.subm (lo:=1) (hi:=n) oM oM hc;rw[List.drop_succ_cons,Ycn,Yf oM] at this;exact this
 have hb:=Ya5 b;have hw:IntKind.i64.wrap (b.toNat:Int)=b.toNat:=wrap_i64 oM
 refine ob oM ?_;refine atp ha ?_;refine on hrow ?_;(conv=>whnf)
 rw[hw];refine brn (fun g1=>?_) (fun g1=>?_)
 ·have k1:b.toNat=1:=by have:=Zd0 g1;omega
  refine brn (fun g2=>?_) (fun g2=>?_)
  ·have hp:zcg (b::r)=none:=by
    rw[zbh,if_pos k1,if_neg];intro e;subst e;have:=Zd0 g2
    simp at hrl;omega
   refine zR ?_;exact .inl ⟨hp,rfl,by first|exact Ya _|exact hle⟩
  ·have hr:r=[]:=Y8 (by grind);have hp:zcg (b::r)=some ⟨1,zaV,[]⟩:=by rw[zbh,if_pos k1,if_pos hr]
   rw[k1];refine zR ?_;exact .inr ⟨_,none,0,hp,rfl,Ya _,Ybh _ _,by simp⟩
 have k1:¬b.toNat=1:=by have:=Zd1 g1;omega
 refine brn (fun g2=>?_) (fun g2=>?_)
 ·have k2:b.toNat=2:=by have:=Zd0 g2;omega
  refine zV ?_;refine(zt7 _ _ _ _ r hsub oM oM).mono ?_;rintro v M1 ⟨p,m,k,rfl,hle,hps,hm, -⟩;refine brn (fun g3=>?_) (fun g3=>?_)
  ·have e:¬zaJ r=0:=by simpa using g3
   have hp:zcg (b::r)=none:=by rw[zbh,if_neg k1,if_pos k2,if_neg e]
   refine zR ?_;exact .inl ⟨hp,rfl,by omega⟩
  ·have e:zaJ r=0:=by simpa using g3
   have hp:zcg (b::r)=some ⟨2,(zaw r).id,(zaw r).p⟩:=by rw[zbh,if_neg k1,if_pos k2,if_pos e]
   obtain rfl:=hps.maplen;rw[k2];refine zR ?_;exact .inr ⟨_,p,k,hp,rfl,hle,hps,hm⟩
 have k2:¬b.toNat=2:=by have:=Zd1 g2;omega
 refine brn (fun g3=>?_) (fun g3=>?_)
 ·have k3:b.toNat=3∨b.toNat=4:=by have:=Zd0 g3;omega
  refine brn_t g3 ?_;refine zV ?_;refine(zmC _ _ _ _ r hsub (by omega) (by omega)).mono ?_;rintro v _ ⟨rfl,rfl⟩;refine brn (fun g5=>?_) (fun g5=>?_)
  ·have e:¬zan r=0:=by simpa using g5
   have hp:zcg (b::r)=none:=by rw[zbh,if_neg k1,if_neg k2,if_pos k3,if_neg e]
   refine zR ?_;exact .inl ⟨hp,rfl,by first|exact Ya _|exact hle⟩
  ·have e:zan r=0:=by simpa using g5
   have hp:zcg (b::r)=some ⟨b.toNat,zcG r,[]⟩:=by rw[zbh,if_neg k1,if_neg k2,if_pos k3,if_pos e]
   refine zR ?_;exact .inr ⟨_,none,0,hp,rfl,Ya _,Ybh _ _,by simp⟩
 refine brn (fun g4=>?_) (fun g4=>?_)
 ·have k3:b.toNat=3∨b.toNat=4:=by have:=Zd0 g4;omega
  refine zV ?_;refine(zmC _ _ _ _ r hsub (by omega) (by omega)).mono ?_;rintro v _ ⟨rfl,rfl⟩;refine brn (fun g5=>?_) (fun g5=>?_)
  ·have e:¬zan r=0:=by simpa using g5
   have hp:zcg (b::r)=none:=by rw[zbh,if_neg k1,if_neg k2,if_pos k3,if_neg e]
   refine zR ?_;exact .inl ⟨hp,rfl,by first|exact Ya _|exact hle⟩
  ·have e:zan r=0:=by simpa using g5
   have hp:zcg (b::r)=some ⟨b.toNat,zcG r,[]⟩:=by rw[zbh,if_neg k1,if_neg k2,if_pos k3,if_pos e]
   refine zR ?_;exact .inr ⟨_,none,0,hp,rfl,Ya _,Ybh _ _,by simp⟩
 ·have k3:¬(b.toNat=3∨b.toNat=4):=by have:=Zd1 g3;have:=Zd1 g4;omega
  have hp:zcg (b::r)=none:=by rw[zbh,if_neg k1,if_neg k2,if_neg k3]
  refine zR ?_;exact .inl ⟨hp,rfl,by first|exact Ya _|exact hle⟩
end
section
variable {M:Mem}
def zbC (l:List UInt8):EvX:=(zcg l).getD ⟨0,zaV,[]⟩
def zgE (l:List UInt8):Int:=if zcg l=none then 2 else 0
theorem GetOut.all {l:List UInt8} {v:Value} {M':Mem} (h:GetOut l M v M'):∃ a c,v = .tuple #[evV (zbC l).kind (zbC l).id a (zbC l).p.length c,.int .i64 (zgE l)]∧M.le M'∧SrcOk M' 1 a (zbC l).p.length ((zbC l).p.map zc):=by
 unfold zbC zgE;rcases h with ⟨h1,rfl,h2⟩|⟨x,a,c,h1,rfl,h2,h3,h4⟩
 ·rw[h1];exact⟨none,0,rfl,h2,Ybh _ _⟩
 ·rw[h1];exact⟨a,c,rfl,h2,h3⟩
theorem zx4 {l:List UInt8} (h:zgE l=0):zcg l=some (zbC l):=by
 unfold zgE at h;unfold zbC;cases e:zcg l with
 | none=>simp_all
 | some x=>rfl
theorem zAI (x:EvX):(zb0 x).length≤60:=by
 unfold zb0;split
 ·rename_i h;unfold zx;rw[Ym];split
  ·simp
  ·split
   ·rename_i hk;have:=(ziG h hk).2.2
    rw[Yi,zdV];omega
   ·rw[zdV];omega
 ·simp
theorem back {x:EvX} (h:zcn x=0):zbC (zb0 x)=x∧zgE (zb0 x)=0:=by
 have e:zb0 x=zx x:=by unfold zb0;rw[if_pos h]
 have:=zx2 h;unfold zbC zgE;rw[e,this];exact⟨rfl,rfl⟩
theorem zJN {l:List UInt8} (h:zgE l=0):zcn (zbC l)=0∧zb0 (zbC l)=l:=by
 obtain⟨h1,h2⟩:=zx3 (zx4 h);exact⟨h1,by unfold zb0;rw[if_pos h1,h2]⟩
end
section
variable {M:Mem}
structure zmP where
 self:Int
 epoch:Int
 ul:NxT
 hs:List zcF
 sn:List Mk
def zIO (l:NxT):List UInt8:=l.flatMap fun n=>zp n.1::zti [n.2]
def zJO (l:List zcF):List UInt8:=l.flatMap fun m=>zp (6+m.p.length)::(zX m.id.o m.id.d m.id.e m.id.c++m.p)
def zJP (m:Mk):List UInt8:=zp m.o::(zti [m.e,m.up,m.more.length]++zti m.more)
def zIP (l:List Mk):List UInt8:=l.flatMap zJP
def zJQ (s:zmP):List UInt8:=zp s.self::(zti [s.epoch]++[zp s.ul.length])
def zwC (s:zmP):List UInt8:=zJQ s++zIO s.ul++zti [(s.hs.length:Int)]++zJO s.hs++zti [(s.sn.length:Int)]++zIP s.sn
def zCI (s:zmP):List UInt8:=zwC s++be 4 (zhu (zwC s))
structure zLy (s:zmP):Prop where
 bad:¬zcN s.self 256 1048576 256
 form:zJK s.self s.epoch s.ul s.hs s.sn
 full:¬zJL 256 1048576 256 s.hs s.sn
 few:s.sn.length≤65535
structure zLz (M:Mem) (s:zmP) (ua:Option Addr) (un:Nat) (ha:Option Addr) (hn hc:Nat) (ma:Option Addr) (mn:Nat) (ms:List MX) (mk:List MkC):Prop where
 stat:zF1 M ua un ha hn ma mn s.ul ms mk
 big:zIL ms mk un hn hc mn
 held:ms.map MX.msg=s.hs
 seen:mk.map MkC.mk'=s.sn
variable {s:zmP} {ua ha ma:Option Addr} {un uc hn hc mn mc:Nat} {ms:List MX} {mk:List MkC}
end
section
variable {M M0 M1 Mc:Mem}
theorem zx5 (M:Mem) (b:Nat) (E:TypeId) (l:List Value) (y:Nat):(M.setCells b E l) y=if y=b then some (.cells l.toArray E (0,0)) else M y:=by unfold Mem.setCells Mem.upd;rfl
@[reducible] def zKV (M1:Mem) (b:Nat) (k:Nat):Mem:=M1.setCells b 3 [.int .i64 k]
structure zLV (M1:Mem) (b4 b7 b8:Nat) (a:Option Addr) (c:Nat) (l:List UInt8):Prop where
 body:M1.has b4 37 [.slice a l.length c]
 bad:M1.has b8 4 [.bool false]
 src:∀ k,SrcOk (zKV M1 b7 k) 1 a l.length (l.map zc)
 ne:b4≠b7∧b8≠b7
 big:l.length≤4194304∧l.length≤c
structure Got (X M:Mem) (ua:Option Addr) (uc:Nat) (ul:NxT) (ha:Option Addr) (hc:Nat) (ms:List MX) (ma:Option Addr) (mc:Nat) (mk:List MkC):Prop where
 nx:NewSl X 136 2 ua ul.length uc (ul.flatMap zta) M
 held:HeldAt X ha ms.length hc ms M
 seen:MarksAt X ma mk.length mc mk M
variable {X:Mem} {ua ha ma:Option Addr} {uc hc mc:Nat} {ul:NxT} {ms:List MX} {mk:List MkC}
end
section
variable {A M M':Mem} {c p:Nat} {N:Int}
structure CuR where
 X:StW
 D:zf
 L:zaz
 w:CuW
structure CuH where
 h:Hd
 g:Nat
 db:Nat
 des:FsT
@[reducible] def CuH.lb (p:Nat) (H:CuH):Nat→Prop:=zbu H.g p H.db H.des
def LgOk (L:zaz):Prop:=(1≤L.last∧L.last≤99999)∧0≤L.size∧L.size≤1048576
structure CuAt (A M:Mem) (c p:Nat) (N:Int) (H:CuH) (C:CuR):Prop where
 st:FreshW A M H.h C.X
 log:LogAt A M H.g p H.db C.D H.des C.L
 self:M.has c 153 (zhH H.h.p p (ptr H.g) C.w)
 cf:A c=none
 dj:∀ y,hB H.h y→¬H.lb p y
 cs:¬hB H.h c
 cl:¬H.lb p c
 lg:LgOk C.L
 nm:NamesC C.D
 cm:H.h.came≤N
def cuB (c p:Nat) (H:CuH):Nat→Prop:=fun y=>y=c∨hB H.h y∨H.lb p y
variable {H:CuH} {C:CuR}
theorem FreshW.keepS {h:Hd} {X:StW} (h1:FreshW A M h X) {S:Nat→Prop} (hk:Mem.keep S M M') (hS:∀ y,S y→A y=none∧¬hB h y):FreshW A M' h X:=
 ⟨⟨hk.le h1.st.le fun y hy=>(hS y hy).1,h1.st.at'.mono fun y o hy ho=>hk y o (fun e=>(hS y e).2 hy) ho,h1.st.inv,h1.st.invE,h1.st.room,h1.st.fresh⟩,h1.seen,h1.go,h1.bd⟩
theorem FreshW.some {h:Hd} {X:StW} (h1:FreshW A M h X) {y:Nat} (hy:hB h y):M y≠none:=h1.st.some hy
theorem CuAt.to (h:CuAt A M c p N H C) (hle:M.le M'):CuAt A M' c p N H C:=⟨h.st.to hle,h.log.to hle,h.self.le hle,h.cf,h.dj,h.cs,h.cl,h.lg,h.nm,h.cm⟩
theorem CuAt.le (h:CuAt A M c p N H C):A.le M:=h.log.disk.le
theorem CuAt.some (h:CuAt A M c p N H C) {y:Nat} (hy:cuB c p H y):M y≠none:=by
 rcases hy with rfl|hy|hy
 ·have:=h.self;unfold Mem.has at this;rw[this];simp
 ·exact h.st.some hy
 ·exact h.log.full hy
theorem CuAt.fresh (h:CuAt A M c p N H C) {y:Nat} (hy:cuB c p H y):A y=none:=by
 rcases hy with rfl|hy|rfl|hy
 ·exact h.cf
 ·exact h.st.st.fresh y hy
 ·exact h.log.fresh
 ·exact h.log.disk.fresh y hy
theorem CuAt.mono {A':Mem} (h:CuAt A' M c p N H C) (hle:A.le A'):CuAt A M c p N H C:=⟨h.st.mono hle,h.log.mono hle,h.self,(by
 cases e:A c with
 | none=>rfl
 | some o=>have:=hle c o e;rw[h.cf] at this;cases this),h.dj,h.cs,h.cl,h.lg,h.nm,h.cm⟩
theorem CuAt.base (h:CuAt A M c p N H C):CuAt (M.minus (cuB c p H)) M c p N H C∧A.le (M.minus (cuB c p H)):=by
 refine⟨⟨⟨⟨Yab _ _,h.st.st.at',h.st.st.inv,h.st.st.invE,h.st.st.room,fun y hy=>Yaq (.inr (.inl hy))⟩,h.st.seen,h.st.go,h.st.bd⟩,
  ⟨⟨Yab _ _,h.log.disk.at',h.log.disk.rel,h.log.disk.inv,fun y hy=>Yaq (.inr (.inr (.inr hy)))⟩,h.log.self,Yaq (.inr (.inr (.inl rfl)))⟩,
  h.self,Yaq (.inl rfl),h.dj,h.cs,h.cl,h.lg,h.nm,h.cm⟩,Ybs h.le fun y hy=>h.fresh hy⟩
theorem CuAt.turnL (h:CuAt A M c p N H C) {D':zf} {es':FsT} {L':zaz} (h':LogAt (M.minus (H.lb p)) M' H.g p H.db D' es' L') (hl:LgOk L') (hn:NamesC D'):CuAt A M' c p N { H with des:=es' } { C with D:=D',L:=L' }:=by
 have hk:Mem.keep (H.lb p) M M':=Ycc.2 h'.disk.le
 have hnew:∀ y,zbu H.g p H.db es' y→(M.minus (H.lb p)) y=none:=fun y hy=>by
  rcases hy with rfl|hy
  ·exact h'.fresh
  ·exact h'.disk.fresh y hy
 have hout:∀ y,¬H.lb p y→M y≠none→¬zbu H.g p H.db es' y:=fun y h1 h2 h3=>by
  have h4:=hnew y h3;unfold Mem.minus at h4;rw[if_neg h1] at h4;exact h2 h4
 refine⟨h.st.keepS hk fun y hy=>⟨h.fresh (.inr (.inr hy)),fun h2=>h.dj y h2 hy⟩,h'.mono h.log.base.2,hk _ _ h.cl h.self,h.cf,fun y hy=>hout y (h.dj y hy) (h.st.some hy),h.cs,hout c h.cl (h.some (.inl rfl)),hl,hn,h.cm⟩
theorem CuAt.turnS (h:CuAt A M c p N H C) {N':Int} {h2:Hd} {X':StW} (h':FreshW (M.minus (hB H.h)) M' h2 X') (hp:h2.p=H.h.p) (hc:h2.came≤N'):CuAt A M' c p N' { H with h:=h2 } { C with X:=X' }:=by
 have hk:Mem.keep (hB H.h) M M':=Ycc.2 h'.st.le
 have hout:∀ y,¬hB H.h y→M y≠none→¬hB h2 y:=fun y h1 h3 h4=>by
  have h5:=h'.st.fresh y h4;unfold Mem.minus at h5;rw[if_neg h1] at h5;exact h3 h5
 refine⟨h'.mono h.st.base.2,h.log.keepS hk fun y hy=>⟨h.fresh (.inr (.inl hy)),h.dj y hy⟩,?_,h.cf,fun y hy hl=>hout y (fun h1=>h.dj y h1 hl) (h.log.full hl) hy,hout c h.cs (h.some (.inl rfl)),h.cl,h.lg,h.nm,hc⟩;have:=hk _ _ h.cs h.self
 dsimp only;rw[hp];exact this
theorem CuAt.turnC (h:CuAt A M c p N H C) (w:CuW):CuAt A (M.setCells c 153 (zhH H.h.p p (ptr H.g) w)) c p N H { C with w:=w }:=by
 have hk:Mem.keep (fun y=>y=c) M (M.setCells c 153 (zhH H.h.p p (ptr H.g) w)):=fun y o hy ho=>by
  unfold Mem.setCells;rw[Yh _ _ hy];exact ho
 exact⟨h.st.keepS hk fun y hy=>hy▸⟨h.cf,h.cs⟩,h.log.keepS hk fun y hy=>hy▸⟨h.cf,h.cl⟩,Yg,h.cf,h.dj,h.cs,h.cl,h.lg,h.nm,h.cm⟩
theorem CuAt.disk (h:CuAt A M c p N H C):FreshD A M p H.db C.D H.des:=h.log.disk
end
section
variable {A M M':Mem} {c p:Nat} {N:Int} {H:CuH} {C:CuR}
def ziW (C:CuR) (q:List UInt8):CuR×Int:=({ C with D:=(z8 C.D C.L q).1,L:=(z8 C.D C.L q).2.1,w:=zir C.w (z8 C.D C.L q).2.2 },(z8 C.D C.L q).2.2)
def zgR (C:CuR):CuR×Int:=({ C with D:=(syncL C.D C.L).1,L:=(syncL C.D C.L).2.1,w:=zir C.w (syncL C.D C.L).2.2 },(syncL C.D C.L).2.2)
def zlJ (C:CuR) (k:Int) (i:IdT) (q:List UInt8):CuR×Int:=({ C with X:=(zct C.X k i q).1 },(zct C.X k i q).2)
def zad (C:CuR) (k:Int) (i:IdT) (q:List UInt8) (safely:Bool):CuR×Int:=
 if C.w.failed=true then (C,7) else if zbB C.X k i q.length≠0 then (C,zbB C.X k i q.length)
 else if (ziW C (zx ⟨k,i,q⟩)).2≠0 then ziW C (zx ⟨k,i,q⟩)
 else if safely=true then (if (zgR (ziW C (zx ⟨k,i,q⟩)).1).2≠0 then zgR (ziW C (zx ⟨k,i,q⟩)).1 else zlJ (zgR (ziW C (zx ⟨k,i,q⟩)).1).1 k i q)
 else zlJ (ziW C (zx ⟨k,i,q⟩)).1 k i q
theorem NamesC.l {D D':zf} (h:NamesC D) (e:∀ f∈D'.l,f∈D.l∨(∃ k:Int,¬(k<1∨99999<k)∧f.name=zb k)∨(∃ k:Int,¬(k<1∨99999<k)∧f.name=zar k)∨f.name=⟨#[116]⟩):NamesC D':=fun f hf=>by
 rcases e f hf with hf|hf
 ·exact h f hf
 ·exact hf
theorem NamesC.sync {D:zf} (h:NamesC D) (s:ByteArray):NamesC (zbz D s).1:=by
 unfold zbz;split
 ·exact h
 ·rename_i h0;have hf:=(zcl (by simpa using h0)).2
  refine h.l fun f hf2=>?_
  rcases withR_mem.1 hf2 with rfl|⟨hf2,_⟩
  ·have:=Ycf hf;have hn:(zq D s).name=s:=Zd0 (Ydm (p:=fun f:FileR=>decide (f.name=s)) hf)
   have:=h _ this;rw[hn] at this;exact .inr this
  ·simp_all
theorem NamesC.append {D:zf} (h:NamesC D) {s:ByteArray} (hs:zaM D s=0→(∃ k:Int,¬(k<1∨99999<k)∧s=zb k)∨s=⟨#[116]⟩) (q:List UInt8):NamesC (zap D s q).1:=by
 unfold zap;split
 ·exact h
 ·rename_i h0;split
  ·exact h
  ·refine h.l fun f hf=>?_
   rcases withR_mem.1 hf with rfl|⟨hf,_⟩
   ·grind
   ·simp_all
theorem NamesC.remove {D:zf} (h:NamesC D) (s:ByteArray):NamesC (z7 D s).1:=by
 unfold z7;split
 ·exact h
 ·exact h.l fun f hf => .inl (withoutR_mem.1 hf).1
theorem NamesC.removeAll:∀ {ks:List Int} {D:zf},NamesC D→NamesC (removeAll D ks).1
 | [],_,h=>h
 | k::r,D,h=>by
  rw[Go.Proofs.YtlgbofpennelhaaGreat.removeAll];split
  ·exact h.remove _
  ·exact NamesC.removeAll (h.remove _)
theorem NamesC.syncL {D:zf} (h:NamesC D) (L:zaz):NamesC (syncL D L).1:=by
 unfold Go.Proofs.YtlgbofpennelhaaGreat.syncL
 repeat' split
 all_goals first|exact h|exact h.sync _
theorem NamesC.beginL {D:zf} (h:NamesC D) (L:zaz):NamesC (beginL D L).1:=by
 unfold Go.Proofs.YtlgbofpennelhaaGreat.beginL
 repeat' split
 all_goals exact h.syncL L
theorem LgOk.sync {L:zaz} (h:LgOk L) (D:zf):LgOk (syncL D L).2.1:=by
 obtain⟨h1, -, h2⟩:=zjs D L;unfold LgOk at h ⊢;rw[h1,h2];exact h
theorem LgOk.begin {L:zaz} (h:LgOk L) (D:zf):LgOk (beginL D L).2.1:=by
 have hs:=h.sync D;unfold LgOk at h;unfold Go.Proofs.YtlgbofpennelhaaGreat.beginL
 repeat' split
 all_goals first|exact hs|(unfold LgOk at hs ⊢; dsimp only;have:=(zjs D L).1;omega)
theorem LgOk.down {L:zaz} (h:LgOk L) (e:Int):LgOk (zdw L e):=h
theorem zsg {D:zf} {L:zaz} (h:NamesC D) (hl:LgOk L) (q:List UInt8):NamesC (z8 D L q).1∧LgOk (z8 D L q).2.1:=by
 have hr:NamesC (zbA D L (zag q).length).1∧LgOk (zbA D L (zag q).length).2.1:=by
  unfold zbA;split
  ·exact⟨h.beginL L,hl.begin D⟩
  ·simp_all
 unfold z8
 repeat' split
 all_goals first|exact⟨h,hl⟩|exact hr|skip
 refine⟨hr.1.append (fun h0 => .inl ⟨_,zll h0,rfl⟩) _,hr.2.down _⟩
theorem zJR (h:CuAt A M c p N H C) {q:List UInt8} {a:Option Addr} {n cc:Nat} (hs:SrcOk A 1 a n (q.map zc)) (hn:n≤2097152) (hnc:n≤cc) :
  CallsM prog 132 [ptr H.g,.slice a n cc] M fun v M'=>∃ es',v = .int .i64 (z8 C.D C.L q).2.2∧CuAt A M' c p N { H with des:=es' } { C with D:=(z8 C.D C.L q).1,L:=(z8 C.D C.L q).2.1 }:=by
 obtain⟨h1,h2⟩:=zsg h.nm h.lg q;have hb:=h.log.base
 refine(zAC hb.1 h.lg.1.2 h.lg.1.1 h.lg.2 (hs.le h.le) hn hnc (wlL h.disk.inv _)).mono ?_;rintro v M' ⟨es',hv,h'⟩;exact⟨es',hv,h.turnL h' h2 h1⟩
theorem zJS (h:CuAt A M c p N H C):CallsM prog 133 [ptr H.g] M fun v M'=>∃ es',v = .int .i64 (syncL C.D C.L).2.2∧CuAt A M' c p N { H with des:=es' } { C with D:=(syncL C.D C.L).1,L:=(syncL C.D C.L).2.1 }:=
 (zwu h.log.base.1).mono fun _ _ ⟨es',hv,h'⟩=>⟨es',hv,h.turnL h' (h.lg.sync _) (h.nm.syncL _)⟩
theorem zCJ (h:CuAt A M c p N H C) (e:Int):CallsM prog 131 [ptr c,.int .i64 e] M fun v M'=>v = .int .i64 e∧CuAt A M' c p N H { C with w:=zir C.w e }:=
 (zEv h.self e).mono fun _ _ ⟨hv,hM⟩=>⟨hv,hM▸h.turnC _⟩
theorem zJT (h:CuAt A M c p N H C) (k:Int) (i:IdT) (a:Option Addr) (n cc:Nat) (hn:n≤1048576):CallsM prog 129 [ptr H.h.p,evV k i a n cc] M fun v M'=>v = .int .i64 (zbB C.X k i n)∧M.le M':=zJM h.st k i a n cc hn
theorem ztk (h:CuAt A M c p N H C) (hN:N≤4611686018427387904) (k:Int) (i:IdT) {a:Option Addr} {cc:Nat} {l:List UInt8} (hl:SrcOk A 1 a l.length (l.map zc)) (hn:l.length≤1048576) :
  CallsM prog 134 [ptr H.h.p,evV k i a l.length cc] M fun v M'=>∃ h2:Hd,v = .int .i64 (zct C.X k i l).2∧h2.p=H.h.p∧CuAt A M' c p (N+1) { H with h:=h2 } { C with X:=(zct C.X k i l).1 }:=by
 have hb:=h.st.base;refine(zG5 hb.1 k i (hl.le h.le) hn (by have:=h.cm;omega)).mono ?_;rintro v M' ⟨h2,hv,h',hp,hc⟩;exact⟨h2,hv,hp,h.turnS h' hp (by have:=h.cm;omega)⟩
theorem CuAt.more {N':Int} (h:CuAt A M c p N H C) (hN:N≤N'):CuAt A M c p N' H C:=⟨h.st,h.log,h.self,h.cf,h.dj,h.cs,h.cl,h.lg,h.nm,by have:=h.cm;omega⟩
theorem ziH {X:StW} {k:Int} {i:IdT} {n:Nat} (h:zbB X k i n=0):zba k i n=0:=by
 unfold zbB za2 at h;split at h
 ·omega
 ·omega
set_option maxHeartbeats 1000000 in
theorem zsh (h:CuAt A M c p N H C) (hN:N≤4611686018427387904) (k:Int) (i:IdT) {a:Option Addr} {cc:Nat} {l:List UInt8} (hl:SrcOk A 1 a l.length (l.map zc)) (hn:l.length≤1048576) (s:Bool) :
  CallsM prog 70 [ptr c,evV k i a l.length cc,.bool s] M fun v M'=>∃ H',v = .int .i64 (zad C k i l s).2∧CuAt A M' c p (N+1) H' (zad C k i l s).1:=by
 refine zk2 oS ?_;refine zJ (zub h.self) ?_;refine brn (fun e=>?_) (fun e=>?_)
 ·have hf:C.w.failed=true:=by
   cases hf:C.w.failed
   ·rw[hf] at e;exact absurd e oD
   ·rfl
  refine zR ?_;rw[if_pos hf,show zad C k i l s=(C,7) by simp[zad,hf]];exact⟨H,rfl,h.more oM⟩
 have hf:¬C.w.failed=true:=fun hf=>by simp_all
 refine zL (h.self) ?_;refine(zJT h k i a l.length cc hn).mono ?_;rintro v M1 ⟨rfl,hle1⟩;have h1:=h.to hle1
 refine brn (fun e=>?_) (fun e=>?_)
 ·have e1:zbB C.X k i l.length≠0:=by simpa using e
  refine zR ?_;rw[show zad C k i l s=(C,zbB C.X k i l.length) by unfold zad;rw[if_neg hf,if_pos e1]];exact⟨H,rfl,h1.more oM⟩
 have e1:¬zbB C.X k i l.length≠0:=by simpa using e
 have hev:zcn ⟨k,i,l⟩=0:=ziH (by simpa using e1);have hpb:zb0 ⟨k,i,l⟩=zx ⟨k,i,l⟩:=by unfold zb0;rw[if_pos hev]
 have hpl:=zAI ⟨k,i,l⟩;refine zM (zEG ⟨k,i,l⟩ (hl.le h1.le)) ?_;rw[hpb] at hpl;unfold zCH;rw[hev,hpb];rintro v M2 ⟨a2,c2,rfl,hN2⟩;have h2:=(h1.to hN2.le).base
 have hs2:SrcOk (M2.minus (cuB c p H)) 1 a2 (zx ⟨k,i,l⟩).length ((zx ⟨k,i,l⟩).map zc):=hN2.src.minus fun q hq hb=>h1.some hb (hN2.block hq).1
 have hc2:(zx ⟨k,i,l⟩).length≤c2:=(newSl_iff.1 hN2).2.2.1;refine zL (h2.1.self) ?_;refine(zJR h2.1 hs2 oM hc2).mono ?_;rintro v M3 ⟨es3,rfl,h3⟩;refine zM (zCJ h3 _) ?_;rintro v M4 ⟨rfl,h4⟩;replace h4:CuAt A M4 c p N { H with des:=es3 } (ziW C (zx ⟨k,i,l⟩)).1:=h4.mono h2.2;have hA:(z8 C.D C.L (zx ⟨k,i,l⟩)).2.2=(ziW C (zx ⟨k,i,l⟩)).2:=rfl
 rw[hA];obtain⟨C4,hC4⟩:∃ C4,C4=ziW C (zx ⟨k,i,l⟩):=⟨_,rfl⟩
 have hX4:C4.1.X=C.X:=by rw[hC4];rfl
 have hput:zad C k i l s=if C4.2≠0 then C4 else if s=true then (if (zgR C4.1).2≠0 then zgR C4.1 else zlJ (zgR C4.1).1 k i l) else zlJ C4.1 k i l:=by
  unfold zad;rw[if_neg hf,if_neg e1,←hC4]
 rw[←hC4] at h4 ⊢;refine brn (fun e=>?_) (fun e=>?_)
 ·have e2:C4.2≠0:=by simpa using e
  refine zR ?_;rw[hput,if_pos e2];exact⟨_,rfl,h4.more oM⟩
 have e2:¬C4.2≠0:=by simpa using e
 rw[if_neg e2] at hput;cases s
 ·rw[if_neg oD] at hput;refine zL (h4.self) ?_;refine(ztk h4 hN k i hl hn).mono ?_;rintro v M5 ⟨hh5,rfl, -, h5⟩;refine zR ?_;rw[hput];exact⟨_,rfl,h5⟩
 rw[if_pos rfl] at hput;refine zL (h4.self) ?_;refine(zJS h4).mono ?_;rintro v M5 ⟨es5,rfl,h5⟩;refine zM (zCJ h5 _) ?_;rintro v M6 ⟨rfl,h6⟩;have hS:(syncL C4.1.D C4.1.L).2.2=(zgR C4.1).2:=rfl
 rw[hS];replace h6:CuAt A M6 c p N _ (zgR C4.1).1:=h6;obtain⟨C6,hC6⟩:=oI (zgR C4.1);rw[←hC6] at h6 hput ⊢;refine brn (fun e=>?_) (fun e=>?_)
 ·have e3:C6.2≠0:=by simpa using e
  refine zR ?_;rw[hput,if_pos e3];exact⟨_,rfl,h6.more oM⟩
 have e3:¬C6.2≠0:=by simpa using e
 rw[if_neg e3] at hput;refine zL (h6.self) ?_;refine(ztk h6 hN k i hl hn).mono ?_;rintro v M7 ⟨hh7,rfl, -, h7⟩;refine zR ?_;rw[hput];exact⟨_,rfl,h7⟩
end
section
variable {A M M':Mem} {c p:Nat} {N:Int} {H:CuH} {C:CuR}
def zj5 (C:CuR) (d:Int):Int:=if (zaW C.X.S d).2=0∧C.w.spent=true then 10 else (zaW C.X.S d).2
def zbm (C:CuR) (d:Int) (q:List UInt8):CuR×IdT×Int:=
 if C.w.failed=true then (C,zaV,7) else if zj5 C d≠0 then (C,zaV,zj5 C d)
 else if (zad C 2 (zaW C.X.S d).1 q true).2≠0 then ((zad C 2 (zaW C.X.S d).1 q true).1,zaV,(zad C 2 (zaW C.X.S d).1 q true).2)
 else ((zad C 2 (zaW C.X.S d).1 q true).1,(zaW C.X.S d).1,0)
theorem zEI (h:CuAt A M c p N H C) (hN:N≤4611686018427387904) (d:Int) {a:Option Addr} {cc:Nat} {l:List UInt8} (hl:SrcOk A 1 a l.length (l.map zc)) (hn:l.length≤1048576) :
  CallsM prog 34 [ptr c,.int .i64 d,.slice a l.length cc] M fun v M'=>∃ H',v = .tuple #[idA (zbm C d l).2.1,.int .i64 (zbm C d l).2.2]∧CuAt A M' c p (N+1) H' (zbm C d l).1:=by
 refine zjf oS ?_;refine zJ (zub h.self) ?_;refine brn (fun e=>?_) (fun e=>?_)
 ·have hf:C.w.failed=true:=by
   cases hf:C.w.failed
   ·simp_all
   ·rfl
  refine zR ?_;rw[if_pos hf,show zbm C d l=(C,zaV,7) by simp[zbm,hf]];exact⟨H,rfl,h.more oM⟩
 have hf:¬C.w.failed=true:=fun hf=>by simp_all
 refine zL (h.self) ?_;refine zJ (zG6 h.st d) ?_;obtain⟨f,hfd⟩:=oI (zaW C.X.S d);have hfc:zj5 C d=if f.2=0∧C.w.spent=true then 10 else f.2:=by rw[hfd];rfl
 have hsub:zbm C d l=if zj5 C d≠0 then (C,zaV,zj5 C d) else if (zad C 2 f.1 l true).2≠0 then ((zad C 2 f.1 l true).1,zaV,(zad C 2 f.1 l true).2) else ((zad C 2 f.1 l true).1,f.1,0):=by
  unfold zbm;rw[if_neg hf,hfd]
 rw[←hfd];refine zR ?_;refine brn (fun e=>?_) (fun e=>?_)
 rotate_left
 ·have e1:f.2≠0:=by simpa using e
  rw[if_neg (fun hh=>e1 hh.1)] at hfc;refine zR ?_;refine brn_f (by simp[e1]) ?_;refine zR ?_;refine brn_t (by simp[e1]) ?_;refine zR ?_;rw[hsub,hfc,if_pos e1];exact⟨H,rfl,h.more oM⟩
 have e1:f.2=0:=Zd0 e;refine zL (h.self) ?_;cases hsp:C.w.spent
 case true=>
  rw[if_pos ⟨e1,hsp⟩] at hfc;refine zR ?_;rw[hsub,hfc,if_pos oD];exact⟨H,rfl,h.more oM⟩
 rw[if_neg (fun hh=>by simp_all)] at hfc;refine zR ?_;refine brn_t (decide_eq_true e1) ?_;refine zM (zsh h hN 2 f.1 hl hn true) ?_;rintro v M2 ⟨H2,rfl,h2⟩;rw[hfc,if_neg (by simp[e1])] at hsub;refine zR ?_;refine brn (fun e=>?_) (fun e=>?_)
 ·have e2:(zad C 2 f.1 l true).2≠0:=by simpa using e
  refine zR ?_;rw[hsub,if_pos e2];exact⟨H2,rfl,h2⟩
 ·have e2:¬(zad C 2 f.1 l true).2≠0:=by simpa using e
  refine zR ?_;rw[hsub,if_neg e2];exact⟨H2,rfl,h2⟩
theorem zIQ (h:CuAt A M c p N H C) (hN:N≤4611686018427387904) (i:IdT) {a:Option Addr} {cc:Nat} {l:List UInt8} (hl:SrcOk A 1 a l.length (l.map zc)) (hn:l.length≤1048576) :
  CallsM prog 280 [ptr c,.agg #[.int .i64 i.o,.int .i64 i.d,.int .i64 i.e,.int .i64 i.c,.slice a l.length cc]] M fun v M'=>∃ H',v = .int .i64 (zad C 2 i l true).2∧CuAt A M' c p (N+1) H' (zad C 2 i l true).1:=by
 refine zkm oS ?_;refine zM (zsh h hN 2 i hl hn true) ?_;rintro v M2 ⟨H2,rfl,h2⟩;refine zR ?_;exact⟨H2,rfl,h2⟩
theorem zCK (h:CuAt A M c p N H C) (hN:N≤4611686018427387904) (i:IdT):CallsM prog 196 [ptr c,idA i] M fun v M'=>∃ H',v = .int .i64 (zad C 3 i [] false).2∧CuAt A M' c p (N+1) H' (zad C 3 i [] false).1:=by
 refine ziS oS ?_;refine zM (zsh (l:=[]) (a:=none) (cc:=0) h hN 3 i (Ybh _ _) oD false) ?_;rintro v M2 ⟨H2,rfl,h2⟩;refine zR ?_;exact⟨H2,rfl,h2⟩
theorem zCL (h:CuAt A M c p N H C) (hN:N≤4611686018427387904) (i:IdT):CallsM prog 278 [ptr c,idA i] M fun v M'=>∃ H',v = .int .i64 (zad C 4 i [] true).2∧CuAt A M' c p (N+1) H' (zad C 4 i [] true).1:=by
 refine ziT oS ?_;refine zM (zsh (l:=[]) (a:=none) (cc:=0) h hN 4 i (Ybh _ _) oD true) ?_;rintro v M2 ⟨H2,rfl,h2⟩;refine zR ?_;exact⟨H2,rfl,h2⟩
theorem zyZ (h:CuAt A M c p N H C) (hN:N≤4611686018427387904) (hmk:C.X.sn.length≤1048576):CallsM prog 36 [ptr c] M fun v M'=>M.le M'∧zAH M M' C.X v:=by
 refine zjN oS ?_;refine zL (h.self) ?_;refine(zG7 h.st (by have:=h.cm;omega) hmk).mono ?_;rintro v M1 ⟨hle,hS⟩;obtain⟨ua,uc,ha,hc,ms,ma,mc,mk,rfl,hr⟩:=hS.ex;refine zR ?_;exact⟨hle,⟨ua,uc,ha,hc,ms,ma,mc,mk,rfl,hr⟩⟩
theorem zIR (h:CuAt A M c p N H C) (hN:N≤4611686018427387904):CallsM prog 136 [ptr c] M fun v M'=>∃ a n cc ms,v = .slice a n cc∧HeldAt M a n cc ms M'∧ms.map MX.msg=C.X.S.l:=by
 refine zki oS ?_;refine zL (h.self) ?_;refine(zIN h.st (by have:=h.cm;omega)).mono ?_;rintro v M1 ⟨a,n,cc,ms,rfl,hr⟩;refine zR ?_;exact⟨a,n,cc,ms,rfl,hr⟩
theorem zIS (h:CuAt A M c p N H C) (i:IdT):CallsM prog 279 [ptr c,idA i] M fun v M'=>
  (v = .tuple #[.agg #[.int .i64 0,.int .i64 0,.int .i64 0,.int .i64 0,.slice none 0 0],.bool false]∧zfQ C.X.S.l i=false∧M=M') ∨
  (∃ a n cc l,v = .tuple #[.agg #[.int .i64 i.o,.int .i64 i.d,.int .i64 i.e,.int .i64 i.c,.slice a n cc],.bool true]∧zfQ C.X.S.l i=true∧⟨i,l⟩∈C.X.S.l∧NewSl M 5 1 a n cc (l.map zc) M'):=by
 refine zkl oS ?_;refine zL (h.self) ?_;refine(zIM h.st i).mono ?_;rintro v M1 (⟨rfl,h1,rfl⟩|⟨a,n,cc,l,rfl,h1,h2,h3⟩)
 ·refine zU ?_
  repeat' (first|refine⟨?_,True.intro⟩|refine⟨?_,?_,True.intro⟩|refine brn_t rfl ?_|refine brn_f rfl ?_|refine ob rfl ?_|refine obr rfl ?_|refine ob oD ?_|refine obr oD ?_|refine grow_same (Ya _) ?_|refine ob (Ya _) ?_|refine⟨_,Ya _,?_⟩|fail)
  exact .inl ⟨rfl,h1,rfl⟩
 ·refine zT (h3.le) ?_
  repeat' (first|refine⟨?_,True.intro⟩|refine⟨?_,?_,True.intro⟩|refine brn_t rfl ?_|refine brn_f rfl ?_|refine ob rfl ?_|refine obr rfl ?_|refine ob oD ?_|refine obr oD ?_|refine grow_same (Ya _) ?_|refine ob (Ya _) ?_|refine⟨_,Ya _,?_⟩|fail)
  exact .inr ⟨a,n,cc,l,rfl,h1,h2,h3⟩
theorem zeA (h:CuAt A M c p N H C):CallsM prog 67 [ptr c] M fun v M'=>v = .bool C.w.failed∧M=M':=by
 refine zjg oS ?_;have hs:=h.self
 clear h;obtain⟨X,D,L,⟨sn,fl,sp⟩⟩:=C;cases fl
 ·refine zL (hs) ?_;exact⟨rfl,rfl⟩
 ·refine zL (hs) ?_;exact⟨rfl,rfl⟩
end
section
variable {M B:Mem} {p b sp sb:Nat} {S:StR} {came:Int} {xs:HsT} {es:EsT} {L:List K} {D:ztb} {ms:List MX}
theorem zCM (h:FreshSt B M p b sp sb S came xs es) (i:IdT):CallsM prog 342 [ptr p,idA i] M fun v M'=>v = .bool (decide (i.d=S.self)&&zft es i.o i.d i.e i.c)∧M.le M':=by
 refine zny oS ?_;have hA:=h.at'
 refine zK hA.self ?_;refine brn (fun g=>?_) (fun g=>?_)
 ·have g1:i.d=S.self:=Zd0 g;refine zR ?_;refine on (hA.self.c1 (zj0 h.inv.ulen ..)) ?_;refine zM (zCj hA.set (by have:=h.room;omega) i.o i.d i.e i.c) ?_;rintro v M1 ⟨rfl,h1⟩;refine zR ?_;exact⟨by rw[decide_eq_true g1,Bool.true_and],h1⟩
 ·have g1:¬i.d=S.self:=Zd1 g;refine zR ?_;exact⟨by rw[decide_eq_false g1,Bool.false_and],Ya _⟩
end
end Go.Proofs.YtlgbofpennelhaaGreat
namespace Go.Proofs.YtlgbofpennelhaaGreat
open Go Go.Vm Go.Proofs.Tryz
attribute [local irreducible] Brn Ob Grow CallsM inR zI zF Mem.row Mem.cells Mem.setCells Mem.upd Go.Vm.Own zZ zaj zam zO New SrcOk subA NewSl Mem.textAt Mem.mapAt Mem.iterAt zC zB Wr NewEls Elems zc9 zeK zfF zef zeg
set_option maxRecDepth 10000
section
variable {B0 M0 B M B' M':Mem} {S0:Nat→Prop}
def zoy (e:Nat) (p:LP):Nat→Prop:=fun y=>y=e∨zc6 p.s p.qa y∨zlb p.r p.km p.am y∨blk p.qo y∨blk p.qi y
theorem zF5 (e:Nat) (p:LP) (X:za8) (i:List CtlX×List Value) (y:Nat):zc4 (zva e p X i.1 i.2) y↔zoy e p y:=by simp[zc4,zby,zmp,rcvP,objP,zaB,zoy]
def lnkP (e:Nat) (p:LP) (X:za8):Pt:=objP (zoy e p) (fun i:List CtlX×List Value=>zva e p X i.1 i.2) (fun B i=>i.1.map CtlX.x=X.out∧(∀ x∈i.1,x.ok B)∧Brows B i.2 X.inn∧LnkI X) (zF5 e p X)
 fun _ _ _ h hle=>⟨h.1,fun x hx=>(h.2.1 x hx).le hle,h.2.2.1.le hle,h.2.2.2⟩
theorem lnkP.opn {e:Nat} {p:LP} {X:za8} (h:(lnkP e p X).ok B M):LkAt B M (zoy e p) B M e p X:=by
 obtain⟨i,h1,h2,h3,h4,h5⟩:=zsX (d:=zoy e p) (qs:=fun i:List CtlX×List Value=>zva e p X i.1 i.2) (R:=fun B i=>i.1.map CtlX.x=X.out∧(∀ x∈i.1,x.ok B)∧Brows B i.2 X.inn∧LnkI X) h (zF5 e p X);exact⟨⟨i.1,i.2,h1,h2,h3,h4⟩,h5⟩
theorem LkAt.cls {e:Nat} {p:LP} {X:za8} (h:LkAt B0 M0 S0 B M e p X):At B0 M0 S0 B M [lnkP e p X]:=by
 obtain⟨xs,vs,h1,h2,h3,h4⟩:=h.ex;unfold lnkP;exact objP.cls (i:=(xs,vs)) h1 ⟨h2,h3,h4,h.inv⟩
theorem zF6 (d:Nat) (p:DQ) (X:zdR) (ts:List Value) (y:Nat):zc4 (zgL d p X ts) y↔zAf d p y:=by simp[zc4,zby,zaB,zAf]
def decP (d:Nat) (p:DQ) (X:zdR):Pt:=objP (zAf d p) (zgL d p X) (fun B ts=>Brows B ts X.told∧X.inn.length≤260) (zF6 d p X) fun _ _ _ h hle=>⟨h.1.le hle,h.2⟩
theorem decP.opn {d:Nat} {p:DQ} {X:zdR} (h:(decP d p X).ok B M):∃ ts,At B M (zAf d p) B M (zgL d p X ts)∧Brows B ts X.told∧X.inn.length≤260:=zsX (qs:=zgL d p X) (R:=fun B ts=>Brows B ts X.told∧X.inn.length≤260) h (zF6 d p X)
theorem decP.cls {d:Nat} {p:DQ} {X:zdR} {ts:List Value} (h:At B0 M0 S0 B M (zgL d p X ts)) (hR:Brows B ts X.told) (hl:X.inn.length≤260):At B0 M0 S0 B M [decP d p X]:=by unfold decP;exact objP.cls h ⟨hR,hl⟩
structure SideR where
 L:za8
 hunts:Bool
 inn:List UInt8
 resets:Int
 out:List UInt8
@[reducible] def SideR.D (X:SideR):zdR:=⟨X.hunts,X.inn,[]⟩
structure SP where
 s:Nat
 e:Nat
 p:LP
 d:Nat
 q:DQ
 o:Option Addr
 c:Nat
@[reducible] def ziI (x:SP) (X:SideR):List Value:=[ptr x.e,ptr x.d,.int .i64 X.resets,.slice x.o X.out.length x.c]
@[reducible] def zeV (x:SP) (X:SideR):List Pt:=[zby x.s 114 (ziI x X),lnkP x.e x.p X.L,decP x.d x.q X.D,zaB 5 1 x.o X.out.length x.c (X.out.map zc)]
structure zLW (X:SideR):Prop where
 out:X.L.out.length≤1000∧X.L.inn=[]
 few:X.out.length≤100000000
def zeF (x:SP) (X:SideR):Pt:=comp (zeV x X)
def zdx (c p:Nat) (N:Int) (H:CuH) (C:CuR):Pt:=⟨cuB c p H,fun B M=>CuAt B M c p N H C,fun h hy=>h.some hy,fun h hy=>h.fresh hy,fun {B M B' M'} h hB hle hs=>by
 have h0:CuAt Mem.empty M c p N H C:=h.mono (Yc6 _);have hk:Mem.keep (fun y=>¬cuB c p H y) M M':=fun y o hy ho=>by simp_all
 have h1:=h0.st.keepS hk fun y hy=>⟨rfl,fun h2=>hy (.inr (.inl h2))⟩
 have h2:=h0.log.keepS hk fun y hy=>⟨rfl,fun h2=>hy (.inr (.inr h2))⟩
 have off:∀ y,cuB c p H y→B' y=none:=fun y hy=>(hs y hy).2
 refine⟨⟨⟨hle,h1.st.at',h1.st.inv,h1.st.invE,h1.st.room,fun y hy=>off y (.inr (.inl hy))⟩,h1.seen,h1.go,h1.bd⟩,⟨⟨hle,h2.disk.at',h2.disk.rel,h2.disk.inv,fun y hy=>off y (.inr (.inr (.inr hy)))⟩,h2.self,off _ (.inr (.inr (.inl rfl)))⟩,
  zkw h.self (hs c (.inl rfl)).1,off c (.inl rfl),h.dj,h.cs,h.cl,h.lg,h.nm,h.cm⟩⟩
theorem At.cust {ps:List Pt} (h:At B0 M0 S0 B M ps) (i:Nat) {c p:Nat} {N N':Int} {H H':CuH} {C C':CuR} (hi:ps[i]? = some (zdx c p N H C)) (h':CuAt (M.minus (cuB c p H)) M' c p N' H' C'):At B0 M0 S0 B M' (rpl ps i [zdx c p N' H' C']):=by
 have h0:CuAt B M c p N H C:=h.part i hi;have hB:=h0.base.2
 have h2:CuAt B M' c p N' H' C':=h'.mono hB;refine h.call i hi (At.of (p:=zdx c p N' H' C') h2 h2.le ⟨Ya _,Ycc.2 h'.le,fun _ h => .inl h,fun y hy=>?_⟩);have h3:=h'.fresh hy
 unfold Mem.minus at h3;split at h3
 ·exact .inl (by assumption)
 ·simp_all
end
section
variable {B0 M0 B M B' M':Mem} {S0:Nat→Prop}
structure TX where
 p:Nat
 b1:Nat
 b2:Nat
 a:Option Addr
 n:Nat
 c:Nat
def zoW:Option Hrd→Option Hrd→Prop
 | none,none=>True
 | some h,some h'=>h.left=h'.left∧∀ i,i<64→h.c i=h'.c i
 | _,_=>False
abbrev zg2:=Int→Option Hrd
def zqV (x:TX):Nat→Prop:=fun y=>y=x.p∨y=x.b1∨y=x.b2
structure TabOk (B M:Mem) (x:TX) (me age:Int) (nb:List Int) (f:zg2):Prop where
 ex:∃ m,TabAt M x.p x.b1 x.b2 x.a x.n x.c me age nb [] m∧(∀ k,zoW (ze m k) (f k))∧∀ k∈m.map (·.1),k∈nb
 good:∀ k h,f k=some h→(1≤h.left∧h.left≤64)∧∀ i,i<64→0≤h.c i∧h.c i≤16
 row:SrcOk B 1 x.a x.n (nb.map zi)
 few:∀ k∈nb,0≤k∧k<64
 len:x.n≤64
 age:1≤age∧age≤64
 off:∀ y,zqV x y→B y=none
theorem TabAt.some {m:List (Int×Hrd)} {p b1 b2:Nat} {a:Option Addr} {n c:Nat} {me age:Int} {nb:List Int} {st:List (Int×Int)} (h:TabAt M p b1 b2 a n c me age nb st m) {y:Nat} (hy:y=p∨y=b1∨y=b2):M y≠none:=by
 rcases hy with rfl|rfl|rfl
 ·have:=h.self;unfold Mem.has at this;rw[this];simp
 ·exact zfo h.set
 ·exact zfo h.hrd
def zlm (x:TX) (me age:Int) (nb:List Int) (f:zg2):Pt:=⟨zqV x,fun B M=>TabOk B M x me age nb f,fun h hy=>by obtain⟨m,h1,_⟩:=h.ex;exact h1.some hy,fun h hy=>h.off _ hy,
 fun {B M B' M'} h hB hle hs=>by
  obtain⟨m,h1,h2,h3⟩:=h.ex;have e:∀ y,zqV x y→M' y=M y:=fun y hy=>(hs y hy).1
  exact⟨⟨m,⟨zkw h1.self (e _ (.inl rfl)),h1.n1,h1.n2,h1.n12,(h.row.le hB).le hle,h1.na,h1.set.mono fun o ho=>by rw[e _ (.inr (.inl rfl))];exact ho,h1.hrd.mono fun o ho=>by rw[e _ (.inr (.inr rfl))];exact ho⟩,h2,h3⟩,h.good,h.row.le hB,h.few,h.len,h.age,fun y hy=>(hs y hy).2⟩⟩
section
variable {x:TX} {me age:Int} {nb:List Int} {f:zg2}
theorem TabOk.at (h:TabOk B M x me age nb f):∃ m,TabAt M x.p x.b1 x.b2 x.a x.n x.c me age nb [] m∧(∀ k,zoW (ze m k) (f k))∧(∀ k∈m.map (·.1),k∈nb)∧zr1 m∧zFW m∧m.length≤64:=by
 obtain⟨m,h1,h2,h3⟩:=h.ex
 have g:∀ k hh,ze m k=some hh→(1≤hh.left∧hh.left≤64)∧∀ i,i<64→0≤hh.c i∧hh.c i≤16:=fun k hh hk=>by
  have h4:=h2 k;rw[hk] at h4;cases hf:f k with
  | none=>rw[hf] at h4;exact h4.elim
  | some h'=>
   rw[hf] at h4;have h5:=h.good k h' hf
   exact⟨by rw[h4.1];exact h5.1,fun i hi=>by rw[h4.2 i hi];exact h5.2 i hi⟩
 refine⟨m,h1,h2,h3,fun k hh hk=>(g k hh hk).2,fun k hh hk=>(g k hh hk).1,?_⟩
 have h5:=zmn 64 ((m.map (·.1)).map Int.toNat) (by
  rw[List.Nodup,Ybd];refine(Yd5.1 h1.hrd.nodup).imp fun {a b} hab e=>hab.2.2 ?_
  have:=h.few a (h3 a hab.1);have:=h.few b (h3 b hab.2.1);omega) fun y hy=>by
   obtain⟨z,hz,rfl⟩:=Yj.1 hy;have:=h.few z (h3 z hz);omega
 simpa using h5
def byF (f:zg2) (d n:Int):Int:=match f n with|some h=>min 16 (h.c d.toNat+1)|none=>16
def zgS (me:Int) (nb:List Int) (f:zg2) (d:Int):Int:=if zbx d then (if d=me then 0 else nb.foldr (fun k x=>min (byF f d k) x) 16) else 16
def zcS (me:Int) (nb:List Int) (f:zg2) (d:Int):Option Int:=if zbx d&&decide (d≠me) then (if zgS me nb f d<16 then nb.find? (fun k=>decide (byF f d k=zgS me nb f d)) else none) else none
def ztl (me:Int) (nb:List Int) (f:zg2) (to d:Int):Int:=if zcS me nb f d=some to then 16 else zgS me nb f d
theorem zAJ {m:List (Int×Hrd)} (h:∀ k,zoW (ze m k) (f k)) {d:Int} (hd:0≤d∧d<64) (k:Int):byC m d k=byF f d k:=by
 have h1:=h k;unfold byC byF;cases ha:ze m k with
 | none=>rw[ha] at h1;cases hf:f k with
  | none=>rfl
  | some _=>rw[hf] at h1;exact h1.elim
 | some h2=>rw[ha] at h1;cases hf:f k with
  | none=>rw[hf] at h1;exact h1.elim
  | some _=>rw[hf] at h1;simp only;rw[h1.2 _ oM]
theorem isNode_iff {d:Int}:zbx d=true↔0≤d∧d<64:=by simp[zbx]
theorem zy0:∀ (l:List (Int×Hrd)) (d z:Int),z≤lst d l↔z≤16∧∀ q∈l,z≤min 16 (q.2.c d.toNat+1)
 | [],d,z=>by simp[lst]
 | q::r,d,z=>by
  have ih:=zy0 r d z;unfold lst at ih ⊢;simp only[Yb3,Yp,forall_eq_or_imp];rw[Int.le_min,ih];constructor
  ·simp_all
  ·simp_all
theorem zwD (f:zg2) (d:Int):∀ (nb:List Int) (z:Int),z≤nb.foldr (fun k x=>min (byF f d k) x) 16↔z≤16∧∀ k∈nb,z≤byF f d k
 | [],z=>by simp
 | a::r,z=>by
  have ih:=zwD f d r z;simp only[Yb3,Yp,forall_eq_or_imp];rw[Int.le_min,ih];constructor
  ·simp_all
  ·simp_all
theorem zCN {m:List (Int×Hrd)} (h:∀ k,zoW (ze m k) (f k)) (hnd:(m.map (·.1)).Nodup) (hs:∀ k∈m.map (·.1),k∈nb) (d:Int):zcZ me [] m d=zgS me nb f d:=by
 unfold zcZ zgS;cases hd:zbx d with
 | false=>rfl
 | true=>
  have hd':=isNode_iff.1 hd;simp only[if_true];split
  ·rfl
  ·show lst d m=_
   have key:∀ z,z≤lst d m↔z≤nb.foldr (fun k x=>min (byF f d k) x) 16:=fun z=>by
    rw[zy0,zwD];refine and_congr_right fun h16=>⟨fun h1 k hk=>?_,fun h1 q hq=>?_⟩
    ·rw[←zAJ h hd'];unfold byC;cases ha:ze m k with
     | none=>exact h16
     | some hh=>exact h1 (k,hh) (zG ha)
    ·have:=h1 q.1 (hs _ (Yj.2 ⟨q,hq,rfl⟩));rw[←zAJ h hd'] at this;unfold byC at this;rw[zbK hnd (x:=q.2) hq] at this;exact this
   exact Yd8 ((key _).1 (Yae _)) ((key _).2 (Yae _))
theorem zCO {m:List (Int×Hrd)} (h:∀ k,zoW (ze m k) (f k)) (hnd:(m.map (·.1)).Nodup) (hs:∀ k∈m.map (·.1),k∈nb) (d:Int):zhC me nb [] m d=zcS me nb f d:=by
 unfold zhC zcS;rw[zCN h hnd hs];cases hd:zbx d with
 | false=>rfl
 | true=>
  have hd':=isNode_iff.1 hd;have e:(fun k=>decide (byC m d k=zgS me nb f d))=fun k=>decide (byF f d k=zgS me nb f d):=funext fun k=>by rw[zAJ h hd']
  rw[←e];rfl
theorem zx6 (h:TabOk B M x me age nb f) (d:Int):CallsM prog 122 [ptr x.p,.int .i64 d] M fun v M'=>v=zoq (zcS me nb f d)∧M.le M':=by
 obtain⟨m,h1,h2,h3,h4,h5,h6⟩:=h.at;refine(zr4 h1 h4 (by have:=h.len;omega) d).mono ?_;rintro v M' ⟨rfl,hle⟩;exact⟨by rw[zCO h2 h1.hrd.nodup h3],hle⟩
theorem zAK (h:TabOk B M x me age nb f) {to:Int} (ht:to∈nb):CallsM prog 64 [ptr x.p,.int .i64 to] M fun v M'=>∃ a,v = .slice a 64 64∧NewSl M 3 1 a 64 64 (((List.range 64).map fun (d:Nat)=>ztl me nb f to d).map zi) M':=by
 obtain⟨m,h1,h2,h3,h4,h5,h6⟩:=h.at;refine(zCs h1 h4 (by have:=h.len;omega) to).mono ?_;rintro v M' (⟨hn,_⟩|⟨_,b,L,rfl,hN,rfl⟩)
 ·exact absurd ht hn
 ·refine⟨_,rfl,?_⟩;have e:(fun (d:Nat)=>ziq me nb [] m to d)=fun (d:Nat)=>ztl me nb f to d:=funext fun d=>by unfold ziq ztl;rw[zCO h2 h1.hrd.nodup h3,zCN h2 h1.hrd.nodup h3]
  rw[e] at hN;exact hN
end
end
section
variable {B0 M0 B M B' M':Mem} {S0:Nat→Prop} {ps:List Pt}
section
variable {x:TX} {me age:Int} {nb:List Int} {f:zg2}
def zjv (nb:List Int) (age:Int) (f:zg2) (to:Int) (l:List Int):zg2:=if to∈nb∧zfl l=true then fun k=>if k=to then some ⟨fun i=>l.getD i 0,age⟩ else f k else f
theorem zAL {l:List Int} (h:zfl l=true):l.length=64∧∀ y∈l,0≤y∧y≤16:=by
 unfold zfl zhD at h;simp only[Yl,decide_eq_true_eq,Yaz,Yah,Bool.or_eq_false_iff,decide_eq_false_iff_not] at h;exact⟨h.1,fun y hy=>by simp_all⟩
theorem zx7 (h:At B0 M0 S0 B M ps) (i:Nat) (hi:ps[i]? = some (zlm x me age nb f)) (to:Int) {a:Option Addr} {n c:Nat} {l:List Int} (hs:SrcOk M 1 a n (l.map zi)) (hn:n≤4194304) :
  CallsM prog 198 [ptr x.p,.int .i64 to,.slice a n c] M fun v M'=>(∃ e,v = .int .i64 e)∧At B0 M0 S0 B M' (rpl ps i [zlm x me age nb (zjv nb age f to l)]):=by
 have hT:TabOk B M x me age nb f:=h.part i hi;obtain⟨m,h1,h2,h3,h4,h5,h6⟩:=hT.at;refine(zGR h1 (by have:=hT.len;omega) to a n c l hs hn).mono ?_;rintro v M' ⟨rfl,⟨hne,rfl⟩|⟨he,hin,hr,hk,hh,hc,hl,ht⟩⟩
 ·refine⟨⟨_,rfl⟩,?_⟩
  have e:zjv nb age f to l=f:=by
   unfold zjv;rw[if_neg];rintro ⟨g1,g2⟩;exact hne (by unfold zfd;rw[if_pos g1,if_pos g2])
  rw[e];exact h.view i hi hT fun y hy=>hy
 ·refine⟨⟨_,rfl⟩,h.turnS i hi (fun y o hy ho=>hk y o (fun e=>hy (.inr (.inr e))) ho) (fun y hy=>hy) fun hle=>?_⟩;obtain⟨r1,r2⟩:=zAL hr;have e:zjv nb age f to l=fun k=>if k=to then some ⟨fun i=>l.getD i 0,age⟩ else f k:=by unfold zjv;rw[if_pos ⟨hin,hr⟩]
  have hg:∀ i,i<64→hh.c i=l.getD i 0:=fun i hi=>by simp_all
  rw[e];refine⟨⟨zt m to hh,ht,fun k=>?_,fun k hk=>?_⟩,fun k hx hk=>?_,hT.row,hT.few,hT.len,hT.age,hT.off⟩
  ·rw[zbL];by_cases ek:k=to
   ·rw[if_pos ek,if_pos ek];exact⟨hl,fun i hi=>hg i hi⟩
   ·simp_all
  ·by_cases ek:k=to
   ·simp_all
   ·obtain⟨q,hq,rfl⟩:=Yj.1 hk;have:=zbK ht.hrd.nodup (x:=q.2) hq
    rw[zbL,if_neg ek] at this;exact h3 _ (Yj.2 ⟨q,zG this,rfl⟩)
  ·by_cases ek:k=to
   ·rw[if_pos ek] at hk;cases hk;refine⟨hT.age,fun i hi=>?_⟩;have hi':i<l.length:=by omega
    show 0≤l.getD i 0∧l.getD i 0≤16;rw[Ys,Yb hi'];exact r2 _ (Yai hi')
   ·rw[if_neg ek] at hk;exact hT.good k hx hk
def zgh (f:zg2):zg2:=fun k=>zjr (f k)
theorem zx8 (h:At B0 M0 S0 B M ps) (i:Nat) (hi:ps[i]? = some (zlm x me age nb f)) :
  CallsM prog 58 [ptr x.p] M fun v M'=>v = .int .i64 0∧At B0 M0 S0 B M' (rpl ps i [zlm x me age nb (zgh f)]):=by
 have hT:TabOk B M x me age nb f:=h.part i hi;obtain⟨m,h1,h2,h3,h4,h5,h6⟩:=hT.at;refine(zAx h1 oM h5).mono ?_;rintro v M' ⟨rfl,m',hk,ht,hm⟩;refine⟨rfl,h.turnS i hi (fun y o hy ho=>hk y o (fun e=>hy (.inr (.inr e))) ho) (fun y hy=>hy) fun hle=>⟨⟨m',ht,fun k=>?_,fun k hk=>?_⟩,fun k hx hk=>?_,hT.row,hT.few,hT.len,hT.age,hT.off⟩⟩
 ·have h7:=h2 k;rw[hm k];unfold zgh;cases ha:ze m k with
  | none=>rw[ha] at h7;cases hf:f k with
   | none=>exact True.intro
   | some _=>rw[hf] at h7;exact h7.elim
  | some hh=>rw[ha] at h7;cases hf:f k with
   | none=>rw[hf] at h7;exact h7.elim
   | some h'=>
    rw[hf] at h7;simp only[zjr];rw[h7.1];split
    ·exact True.intro
    ·exact⟨rfl,h7.2⟩
 ·obtain⟨q,hq,rfl⟩:=Yj.1 hk;have:=zbK ht.hrd.nodup (x:=q.2) hq
  rw[hm] at this;cases ha:ze m q.1 with
  | none=>rw[ha] at this;cases this
  | some hh=>exact h3 _ (Yj.2 ⟨_,zG ha,rfl⟩)
 ·unfold zgh at hk;cases hf:f k with
  | none=>rw[hf] at hk;cases hk
  | some h'=>
   rw[hf] at hk;have:=hT.good k h' hf
   simp only[zjr] at hk;split at hk
   ·cases hk
   ·cases hk;exact⟨by grind,this.2⟩
end
structure DkX where
 p:Nat
 b:Nat
abbrev zd8:=IdT→Option Known
def zvd (x:DkX):Nat→Prop:=fun y=>y=x.p∨y=x.b
structure zhI (B M:Mem) (x:DkX) (wait next:Int) (K:Nat) (f:zd8):Prop where
 ex:∃ m,DeskAt M x.p x.b wait next m∧(∀ i,ze m i=f i)∧m.length≤K
 good:∀ i k,f i=some k→KOk k
 next:0≤next∧next≤65535
 wait:1≤wait∧wait≤64
 off:∀ y,zvd x y→B y=none
def zdy (x:DkX) (wait next:Int) (K:Nat) (f:zd8):Pt:=⟨zvd x,fun B M=>zhI B M x wait next K f,fun h hy=>by
  obtain⟨m,h1,_⟩:=h.ex;rcases hy with rfl|rfl
  ·have:=h1.self;unfold Mem.has at this;rw[this];simp
  ·exact zfo h1.map,fun h hy=>h.off _ hy,
 fun h hB hle hs=>by
  obtain⟨m,h1,h2,h3⟩:=h.ex
  exact⟨⟨m,h1.mono fun y o hy ho=>by rw[(hs y hy).1];exact ho,h2,h3⟩,h.good,h.next,h.wait,fun y hy=>(hs y hy).2⟩⟩
end
section
variable {B0 M0 B M B' M':Mem} {S0:Nat→Prop} {ps:List Pt}
theorem zug {α:Type} [DecidableEq α]:∀ {l l':List α},l.Nodup→(∀ x∈l,x∈l')→l.length≤l'.length
 | [],_,_,_=>Y5 _
 | a::r,l',h,hs=>by
  obtain⟨h1,h2⟩:=Yau.1 h;have h3:=zug (l':=l'.erase a) h2 fun x hx=>(List.mem_erase_of_ne (fun e=>by simp_all)).2 (hs x (Yak _ hx))
  have h4:=List.length_erase_of_mem (hs a (Yc1 ..));have h5:=List.length_pos_of_mem (hs a (Yc1 ..))
  simp only[Ym];omega
section
variable {x:DkX} {wait next:Int} {K:Nat} {f:zd8}
def zmQ (f:zd8) (i:IdT):zd8:=fun j=>if j=i then none else f j
def zg3 (f:zd8) (n k:Int) (i:IdT):Bool:=match f i with|some y=>(decide (y.waits=0)&&decide (y.to=n))&&decide (y.n=k)|none=>false
def isF (f:zd8) (i:IdT):Bool:=match f i with|some k=>decide (k.waits=0)|none=>false
def zoX (f:zd8) (wait n k:Int) (i:IdT):zd8:=if zg3 f n k i then fun j=>if j=i then some ⟨-1,0,0,wait⟩ else f j else f
def ziK (f:zd8) (n:Int):zd8:=fun j=>match f j with|some y=>if toK n y then none else some y|none=>none
theorem ze7 (h:At B0 M0 S0 B M ps) (i:Nat) (hi:ps[i]? = some (zdy x wait next K f)) {m':List (IdT×Known)} {f':zd8} {K':Nat} (hk:Mem.keep (one x.b) M M') (hd:DeskAt M' x.p x.b wait next m') (hf:∀ i,ze m' i=f' i) (hg:∀ i k,f' i=some k→KOk k) (hl:m'.length≤K'):At B0 M0 S0 B M' (rpl ps i [zdy x wait next K' f']):=
 h.turnS i hi (fun y o hy ho=>hk y o (fun e=>hy (.inr e)) ho) (fun y hy=>hy) fun _=>by
  have hD:zhI B M x wait next K f:=h.part i hi
  exact⟨⟨m',hd,hf,hl⟩,hg,hD.next,hD.wait,hD.off⟩
theorem ztm (m:List (IdT×Known)) (i:IdT):(zaO m i).length≤m.length:=Yat _ _
theorem zEJ (h:At B0 M0 S0 B M ps) (i:Nat) (hi:ps[i]? = some (zdy x wait next K f)) (n k:Int) (d:IdT) :
  CallsM prog 195 [ptr x.p,.int .i64 n,.int .i64 k,idA d] M fun v M'=>v = .bool (zg3 f n k d)∧At B0 M0 S0 B M' (rpl ps i [zdy x wait next K (if zg3 f n k d then zmQ f d else f)]):=by
 have hD:zhI B M x wait next K f:=h.part i hi
 obtain⟨m,h1,h2,h3⟩:=hD.ex;have e:zdv m n k d=zg3 f n k d:=by unfold zdv zg3;rw[h2];cases f d<;>rfl
 refine(zAv h1 n k d).mono ?_;rintro v M' ⟨rfl,h4,h5⟩;unfold zr5 at h4;rw[e] at h4 ⊢;refine⟨rfl,?_⟩;cases hb:zg3 f n k d with
 | false=>rw[hb,if_neg Bool.false_ne_true] at h4;exact ze7 h i hi h5 h4 h2 hD.good h3
 | true=>
  rw[hb,if_pos rfl] at h4;refine ze7 h i hi h5 h4 (fun j=>?_) (fun j y hy=>?_) (Yz (ztm _ _) h3)
  ·simp only[if_true];rw[zfI,h2];rfl
  ·simp only[if_true,zmQ] at hy;split at hy
   ·cases hy
   ·exact hD.good j y hy
theorem zx9 (h:At B0 M0 S0 B M ps) (i:Nat) (hi:ps[i]? = some (zdy x wait next K f)) (n k:Int) (d:IdT) :
  CallsM prog 197 [ptr x.p,.int .i64 n,.int .i64 k,idA d] M fun v M'=>v = .bool (zg3 f n k d)∧At B0 M0 S0 B M' (rpl ps i [zdy x wait next (K+1) (zoX f wait n k d)]):=by
 have hD:zhI B M x wait next K f:=h.part i hi
 obtain⟨m,h1,h2,h3⟩:=hD.ex;have hw:=hD.wait
 have e:zdv m n k d=zg3 f n k d:=by unfold zdv zg3;rw[h2];cases f d<;>rfl
 refine(zuU h1 n k d).mono ?_;rintro v M' ⟨rfl,h4,h5⟩;unfold zj1 at h4;rw[e] at h4 ⊢;refine⟨rfl,?_⟩;unfold zoX;cases hb:zg3 f n k d with
 | false=>rw[hb,if_neg Bool.false_ne_true] at h4;exact ze7 h i hi h5 h4 h2 hD.good oM
 | true=>
  rw[hb,if_pos rfl] at h4;refine ze7 h i hi h5 h4 (fun j=>?_) (fun j y hy=>?_) ?_
  ·simp only[if_true];rw[zbL,h2]
  ·simp only[if_true] at hy;split at hy
   ·cases hy;constructor<;>dsimp only<;>omega
   ·exact hD.good j y hy
  ·unfold zt;split
   ·have:=congrArg List.length (zoc m d (⟨-1,0,0,wait⟩:Known));simp at this;omega
   ·simp;omega
theorem zG9 (h:zhI B M x wait next K f) (d:IdT):CallsM prog 216 [ptr x.p,idA d] M fun v M'=>v = .bool (isF f d)∧M=M':=by
 obtain⟨m,h1,h2,h3⟩:=h.ex;refine(zt8 h1 d).mono ?_;rintro v M' ⟨rfl,rfl⟩;exact⟨by unfold zop isF;rw[h2];cases f d<;>rfl,rfl⟩
theorem zCP (h:At B0 M0 S0 B M ps) (i:Nat) (hi:ps[i]? = some (zdy x wait next K f)) (d:IdT) :
  CallsM prog 138 [ptr x.p,idA d] M fun v M'=>v = .bool (isF f d)∧At B0 M0 S0 B M' (rpl ps i [zdy x wait next K (if isF f d then zmQ f d else f)]):=by
 have hD:zhI B M x wait next K f:=h.part i hi
 obtain⟨m,h1,h2,h3⟩:=hD.ex;have e:zop m d=isF f d:=by unfold zop isF;rw[h2];cases f d<;>rfl
 refine(zxV h1 d).mono ?_;rintro v M' ⟨rfl,h4,h5⟩;unfold zr6 at h4;rw[e] at h4 ⊢;refine⟨rfl,?_⟩;cases hb:isF f d with
 | false=>rw[hb,if_neg Bool.false_ne_true] at h4;exact ze7 h i hi h5 h4 h2 hD.good h3
 | true=>
  rw[hb,if_pos rfl] at h4;refine ze7 h i hi h5 h4 (fun j=>?_) (fun j y hy=>?_) (Yz (ztm _ _) h3)
  ·simp only[if_true];rw[zfI,h2];rfl
  ·simp only[if_true,zmQ] at hy;split at hy
   ·cases hy
   ·exact hD.good j y hy
theorem zwE:∀ (l:List IdT) (m:List (IdT×Known)) (j:IdT),ze (l.foldl zaO m) j=if j∈l then none else ze m j
 | [],m,j=>by simp
 | a::r,m,j=>by
  rw[Yal,zwE r,zfI];by_cases h1:j∈r<;>by_cases h2:j=a<;>simp[h1,h2]
theorem zwF:∀ (l:List IdT) (m:List (IdT×Known)),(l.foldl zaO m).length≤m.length
 | [],m=>Yd _
 | a::r,m=>Yz (zwF r (zaO m a)) (ztm m a)
theorem zAM (h:At B0 M0 S0 B M ps) (i:Nat) (hi:ps[i]? = some (zdy x wait next K f)) (hK:K≤1000000000000) (n:Int) :
  CallsM prog 72 [ptr x.p,.int .i64 n] M fun v M'=>(∃ k,v = .int .i64 k)∧At B0 M0 S0 B M' (rpl ps i [zdy x wait next K (ziK f n)]):=by
 have hD:zhI B M x wait next K f:=h.part i hi
 obtain⟨m,h1,h2,h3⟩:=hD.ex;refine(zwp h1 n oM).mono ?_;rintro v M' ⟨l,rfl,_,_,h4,h5,h6⟩
 have e:∀ j,ze (l.foldl zaO m) j=ziK f n j:=fun j=>by
  rw[zwE];unfold ziK;rw[←h2];by_cases hj:j∈l
  ·obtain⟨k,hk,ht⟩:=isTo_iff.1 ((h4 j).1 hj);rw[if_pos hj,hk];simp[ht]
  ·rw[if_neg hj];cases ha:ze m j with
   | none=>rfl
   | some k=>
    have:toK n k=false:=by
     cases ht:toK n k with
     | false=>rfl
     | true=>exact absurd ((h4 j).2 (isTo_iff.2 ⟨k,ha,ht⟩)) hj
    simp[this]
 refine⟨⟨_,rfl⟩,ze7 h i hi h6 h5 e (fun j y hy=>?_) (Yz (zwF _ _) h3)⟩;unfold ziK at hy;split at hy
 ·split at hy
  ·cases hy
  ·cases hy;exact hD.good j _ (by assumption)
 ·cases hy
theorem zCQ (h:At B0 M0 S0 B M ps) (i:Nat) (hi:ps[i]? = some (zdy x wait next K f)) :
  CallsM prog 61 [ptr x.p] M fun v M'=>v = .int .i64 0∧At B0 M0 S0 B M' (rpl ps i [zdy x wait next K (fun j=>(f j).bind zd7)]):=by
 have hD:zhI B M x wait next K f:=h.part i hi
 obtain⟨m,h1,h2,h3⟩:=hD.ex;refine(zxW h1 fun j y hy=>hD.good j y (by simp_all)).mono ?_;rintro v M' ⟨rfl,h4,m',h5,h6⟩;refine⟨rfl,ze7 h i hi h4 h5 (fun j=>by rw[h6,h2]) (fun j y hy=>?_) ?_⟩
 ·cases hf:f j with
  | none=>simp_all
  | some z=>rw[hf] at hy;exact zEn (hD.good j z hf) hy
 ·have:=zug (l:=m'.map (·.1)) (l':=m.map (·.1)) h5.map.nodup fun j hj=>by
   obtain⟨q,hq,rfl⟩:=Yj.1 hj;have:=zbK h5.map.nodup (x:=q.2) hq
   rw[h6] at this;cases ha:ze m q.1 with
   | none=>simp_all
   | some z=>exact Yj.2 ⟨_,zG ha,rfl⟩
  simp at this;omega
end
end
section
variable {B0 M0 B M B' M':Mem} {S0:Nat→Prop} {ps:List Pt}
section
variable {x:DkX} {wait next:Int} {K:Nat} {f:zd8}
structure PlF where
 f:zd8
 next:Int
 out:List zgM
def zbF (via up:List Int) (s:PlF) (x:zcO):PlF:=
 if (0≤x.id.d∧x.id.d<64)∧zcq via x.id∈up∧s.f x.id=none then
  ⟨fun j=>if j=x.id then some ⟨zcq via x.id,s.next,0,0⟩ else s.f j,(s.next+1) % 65536,s.out++[⟨zcq via x.id,s.next,x⟩]⟩ else s
def zfe (f:zd8) (next:Int) (held:List zcO) (via up:List Int):PlF:=held.foldl (zbF via up) ⟨f,next,[]⟩
theorem zHa (m:List (IdT×Known)) (i:IdT) (k:Known):(zt m i k).length≤m.length+1:=by
 unfold zt;split
 ·have:=congrArg List.length (zoc m i k);simp at this;omega
 ·simp
theorem zCR (via up:List Int):∀ (held:List zcO) (s:zlG) (t:PlF),(∀ j,ze s.m j=t.f j)→s.next=t.next→s.out=t.out→(0≤s.next∧s.next≤65535)→(∀ j k,t.f j=some k→KOk k) →
  (∀ j,ze (held.foldl (zbt via up) s).m j=(held.foldl (zbF via up) t).f j)∧(held.foldl (zbt via up) s).next=(held.foldl (zbF via up) t).next∧(held.foldl (zbt via up) s).out=(held.foldl (zbF via up) t).out ∧
  (0≤(held.foldl (zbt via up) s).next∧(held.foldl (zbt via up) s).next≤65535)∧(∀ j k,(held.foldl (zbF via up) t).f j=some k→KOk k)∧(held.foldl (zbt via up) s).m.length≤s.m.length+held.length
 | [],s,t,h1,h2,h3,h4,h5=>⟨h1,h2,h3,h4,h5,Yd _⟩
 | x::r,s,t,h1,h2,h3,h4,h5=>by
  rw[Yal,Yal];have ih:=zCR via up r (zbt via up s x) (zbF via up t x)
  have hn:=zuV (via:=via) (up:=up) (x:=x) h4;by_cases g:(0≤x.id.d∧x.id.d<64)∧zcq via x.id∈up∧ze s.m x.id=none
  ·have e1:zbt via up s x=⟨zt s.m x.id ⟨zcq via x.id,s.next,0,0⟩,(s.next+1) % 65536,s.out++[⟨zcq via x.id,s.next,x⟩]⟩:=by unfold zbt;rw[if_pos g]
   have e2:zbF via up t x=⟨fun j=>if j=x.id then some ⟨zcq via x.id,t.next,0,0⟩ else t.f j,(t.next+1) % 65536,t.out++[⟨zcq via x.id,t.next,x⟩]⟩:=by unfold zbF;rw[if_pos ⟨g.1,g.2.1,by simp_all⟩]
   rw[e1] at hn;rw[e1,e2] at ih ⊢
   obtain⟨i1,i2,i3,i4,i5,i6⟩:=ih (fun j=>by dsimp only;rw[zbL,h1,h2]) (by simp_all) (by simp_all) hn (fun j k hk=>by
    dsimp only at hk;split at hk
    ·cases hk;constructor<;>dsimp only<;>omega
    ·grind)
   refine⟨i1,i2,i3,i4,i5,Yz i6 ?_⟩;have:=zHa s.m x.id ⟨zcq via x.id,s.next,0,0⟩
   simp only[Ym];omega
  ·have e1:zbt via up s x=s:=by unfold zbt;rw[if_neg g]
   have e2:zbF via up t x=t:=by unfold zbF;rw[if_neg];rintro ⟨g1,g2,g3⟩;exact g ⟨g1,g2,by simp_all⟩
   rw[e1,e2] at ih ⊢;obtain⟨i1,i2,i3,i4,i5,i6⟩:=ih h1 h2 h3 h4 h5;exact⟨i1,i2,i3,i4,i5,Yz i6 (by simp)⟩
def OfB (B:Mem) (cs:List Value) (x:zgM):Prop:=∃ p n k,cs=[.int .i64 x.to,.int .i64 x.n,.int .i64 x.msg.id.o,.int .i64 x.msg.id.d,.int .i64 x.msg.id.e,.int .i64 x.msg.id.c,.slice p n k]∧SrcOk B 1 p n (x.msg.data.map zc)∧n≤2097152
theorem OfB.le {B B':Mem} {cs:List Value} {x:zgM} (h:OfB B cs x) (hle:B.le B'):OfB B' cs x:=by obtain⟨p,n,k,h1,h2,h3⟩:=h;exact⟨p,n,k,h1,h2.le hle,h3⟩
theorem zEK {p b:Nat} {wait next:Int} {m:List (IdT×Known)} (h:DeskAt M p b wait next m) {y:Nat} {E:TypeId} {cs:List Value} (hy:M.has y E cs) (hE:E≠177):y≠p∧y≠b:=by
 constructor
 ·rintro rfl;have:=h.self;unfold Mem.has at this hy;rw[this] at hy;injection hy with e;injection e with e0 e;exact hE (by simp_all)
 ·rintro rfl;obtain⟨_,_,h1,_⟩:=h.map;unfold Mem.has at hy;rw[h1] at hy;injection hy with e;cases e
theorem zCS (h:At B0 M0 S0 B M ps) (i:Nat) (hi:ps[i]? = some (zdy x wait next K f)) {a1 a2 a3:Option Addr} {n1 n3 c1 c2 c3:Nat} {held:List zcO} {via up:List Int}
  (h1:Elems B 5 a1 n1 (MsgR B) held) (h2:SrcOk B 1 a2 64 (via.map zi)) (h3:SrcOk B 1 a3 n3 (up.map zi)) (hn1:n1≤2097152) (hn3:n3≤2097152) :
  CallsM prog 137 [ptr x.p,.slice a1 n1 c1,.slice a2 64 c2,.slice a3 n3 c3] M fun v M'=>∃ a c,v = .slice a (zfe f next held via up).out.length c ∧
   Elems (newB B M M') 7 a (zfe f next held via up).out.length (OfB (newB B M M')) (zfe f next held via up).out∧At B0 M0 S0 (newB B M M') M' (rpl ps i [zdy x wait (zfe f next held via up).next (K+n1) (zfe f next held via up).f]):=by
 have hD:zhI B M x wait next K f:=h.part i hi
 obtain⟨m,g1,g2,g3⟩:=hD.ex;have hl:=h1.len
 refine(zwl B g1 hD.next (hD.off _ (.inl rfl)) (hD.off _ (.inr rfl)) h.le a1 a2 a3 n1 64 n3 c1 c2 c3 held via up h1 h2 h3 rfl hn1 hn3).mono ?_;rintro v M' ⟨a,c,rfl,h4,h5⟩;obtain⟨e1,e2,e3,e4,e5,e6⟩:=zCR via up held ⟨m,next,[]⟩ ⟨f,next,[]⟩ g2 rfl rfl hD.next hD.good;have e3':(zeU m next held via up).out=(zfe f next held via up).out:=e3
 have e1:∀ j,ze (zeU m next held via up).m j=(zfe f next held via up).f j:=e1;have e2:(zeU m next held via up).next=(zfe f next held via up).next:=e2
 have e4:0≤(zeU m next held via up).next∧(zeU m next held via up).next≤65535:=e4;have e5:∀ j k,(zfe f next held via up).f j=some k→KOk k:=e5
 have e6:(zeU m next held via up).m.length≤m.length+held.length:=e6;have hk:Mem.keep (zvd x) M M':=Ycc.2 h5.le
 have hnew:∀ {y:Nat} {E:TypeId} {cs:List Value},(M.minus (ztc x.p x.b)) y=none→M'.has y E cs→E≠177→M y=none:=fun {y E cs} hy hc hE=>by
  obtain⟨q1,q2⟩:=zEK h4 hc hE;unfold Mem.minus at hy;rw[if_neg (by omega)] at hy;exact hy
 rw[e3'] at h5;unfold NewEls at h5;obtain⟨css,f1,f2,f3,f4,f5⟩:=h5;refine⟨a,c,by rw[e3'],?_,?_⟩
 ·rw[←e3'] at f1 f2 f3 f5 ⊢;unfold Elems;refine⟨css,zc5 f1.src fun r hr=>?_,f2,f3,f4,fun j cs y hj hy=>?_⟩
  ·obtain⟨q1,cs,q2⟩:=f1.block hr;exact hnew q1 q2 oD
  ·obtain⟨p,n,k,rfl,q1,q2,q3⟩:=f5 j cs y hj hy;refine⟨p,n,k,rfl,zc5 q1.src fun r hr=>?_,q2⟩;exact q3 r hr
 ·refine h.turnN i hi hk (fun y hy=>hy) fun hle=>⟨⟨_,by simp_all,e1,by omega⟩,e5,by omega,hD.wait,fun y hy=>?_⟩
  unfold newB;cases ho:M y with
  | none=>
   exfalso;rcases hy with rfl|rfl
   ·have:=g1.self;unfold Mem.has at this;rw[this] at ho;cases ho
   ·exact zfo g1.map ho
  | some o=>exact hD.off y hy
end
end
end Go.Proofs.YtlgbofpennelhaaGreat
namespace Go.Proofs.YtlgbofpennelhaaGreat
open Go Go.Vm Go.Proofs.Tryz
attribute [local irreducible] Brn Ob Grow CallsM inR zI zF Mem.row Mem.cells Mem.setCells Mem.upd Go.Vm.Own zZ zaj zam zO New SrcOk subA NewSl Mem.textAt Mem.mapAt Mem.iterAt zC zB Wr NewEls Elems
set_option maxRecDepth 10000
section
variable {A M M':Mem} {c p:Nat} {N:Int} {H:CuH} {C:CuR}
@[reducible] def zIT (X:StW):zmP:=⟨X.S.self,X.S.epoch,zdu X.S.used,X.S.l,X.sn⟩
@[reducible] def zff:ByteArray:=⟨#[116]⟩
def zF7 (C:CuR) (k:Int):CuR×Int:=({ C with D:=(dropL C.D C.L k).1,L:=(dropL C.D C.L k).2.1 },(dropL C.D C.L k).2.2)
def zKW (C:CuR) (was k:Int):CuR×Int:=
 if 0<was then (if (z7 C.D (zar was)).2≠0 then ({ C with D:=(z7 C.D (zar was)).1 },(z7 C.D (zar was)).2) else zF7 { C with D:=(z7 C.D (zar was)).1 } k)
 else zF7 C k
def turnC (C:CuR) (k:Int):CuR×Int:=
 if (zbz C.D zff).2≠0 then ({ C with D:=(zbz C.D zff).1 },(zbz C.D zff).2)
 else if (zoS (zbz C.D zff).1 zff (zar k)).2≠0 then ({ C with D:=(zoS (zbz C.D zff).1 zff (zar k)).1 },(zoS (zbz C.D zff).1 zff (zar k)).2)
 else zKW { C with D:=(zoS (zbz C.D zff).1 zff (zar k)).1,w:={ C.w with snap:=k } } C.w.snap k
end
section
variable {A M M':Mem} {c p db:Nat} {N:Int} {h:Hd} {des:FsT} {X:StW} {D:zf} {w:CuW}
structure zJU (X:StW):Prop where
 inv:zlh X.S
 invE:InvE (zcJ X.sn)
 room:(zaD (zcJ X.sn):Int)≤X.S.qg∧X.S.qg≤256
 go:GoS X.S (zcJ X.sn)
 bd:¬zcN X.S.self X.S.qh X.S.qb X.S.qg
 sort:X.sn.Pairwise zey
structure CuPre (A M:Mem) (c p db:Nat) (N:Int) (h:Hd) (des:FsT) (X:StW) (D:zf) (w:CuW):Prop where
 st:FreshW A M h X
 disk:FreshD A M p db D des
 self:M.has c 153 (zhH h.p p (.pointer none) w)
 cf:A c=none
 dj:∀ y,hB h y→¬zav p db des y
 cs:¬hB h c
 cl:¬zav p db des c
 nm:NamesC D
 cm:h.came≤N
theorem CuPre.to (h1:CuPre A M c p db N h des X D w) (hle:M.le M'):CuPre A M' c p db N h des X D w:=⟨h1.st.to hle,h1.disk.to hle,h1.self.le hle,h1.cf,h1.dj,h1.cs,h1.cl,h1.nm,h1.cm⟩
theorem CuPre.some (h1:CuPre A M c p db N h des X D w):M c≠none:=by
 have:=h1.self;unfold Mem.has at this;rw[this];simp
theorem CuPre.turnD (h1:CuPre A M c p db N h des X D w) {D':zf} {es':FsT} (h':FreshD (M.minus (zav p db des)) M' p db D' es') (hn:NamesC D'):CuPre A M' c p db N h es' X D' w:=by
 have hk:Mem.keep (zav p db des) M M':=Ycc.2 h'.le
 have hout:∀ y,¬zav p db des y→M y≠none→¬zav p db es' y:=fun y h2 h3 h4=>by
  have h5:=h'.fresh y h4;unfold Mem.minus at h5;rw[if_neg h2] at h5;exact h3 h5
 exact⟨h1.st.keepS hk fun y hy=>⟨h1.disk.fresh y hy,fun h2=>h1.dj y h2 hy⟩,h'.mono h1.disk.base.2,hk _ _ h1.cl h1.self,h1.cf,fun y hy=>hout y (h1.dj y hy) (h1.st.some hy),h1.cs,hout c h1.cl h1.some,hn,h1.cm⟩
def zIU (D:zf):List Int→zf×Int
 | []=>(D,0)
 | k::r=>if (z7 D (zar k)).2≠0 then z7 D (zar k) else zIU (z7 D (zar k)).1 r
structure zIV (D:zf) (me qh qb qg:Int) (k:Int) (X:StW):Prop where
 file:∃ f,zh D.l (zar k)=some f∧bl f.all=zCI (zIT X)
 pure:zJU X
 few:X.sn.length≤65535
 set:X.S.self=me∧X.S.qh=qh∧X.S.qb=qb∧X.S.qg=qg
def zJV (D:zf) (k:Int):zf×Int:=if D.down=true then (D,9) else zIU D (zgC D).dropLast
theorem zCT (h1:CuPre A M c p db N h des X D w) (hs:zgC D=[]) (self:Int) (q:Value) (hq:∃ a b d,q = .agg #[.int .i64 a,.int .i64 b,.int .i64 d]):CallsM prog 83 [ptr c,.int .i64 self,q] M fun v M'=>v = .int .i64 0∧M.le M':=by
 obtain⟨qa,qb,qc,rfl⟩:=hq;refine zkf oS ?_;refine zM (zEu h1.self rfl h1.disk h1.nm) ?_;rintro v M1 ⟨a,n,cc,rfl,hn,hN⟩;rw[hs,Yar] at hn;subst hn;refine zR ?_;exact⟨rfl,hN.le⟩
theorem zAN (h1:CuPre A M c p db N h des X D w) {s:ByteArray} (hs:s.size≤4611686018427387904):CallsM prog 148 [ptr p,.string s] M fun v M'=>∃ es',v = .int .i64 (z7 D s).2∧CuPre A M' c p db N h es' X (z7 D s).1 w∧(M.minus (zav p db des)).le (M'.minus (zav p db es')):=
 (zyU h1.disk.base.1 hs).mono fun _ _ ⟨es',hv,h'⟩=>⟨es',hv,h1.turnD h' (h1.nm.remove _),h'.base.2⟩
end
section
variable {A M M':Mem} {c p db:Nat} {N:Int} {h:Hd} {des:FsT} {X:StW} {D:zf} {w:CuW} {H:CuH} {C:CuR}
theorem NamesC.cut {D:zf} (h:NamesC D) (k:Int) (n:Int):NamesC (zcp D (zb k) n).1:=by
 unfold zcp;split
 ·exact h
 ·rename_i h0;split
  ·exact h
  ·have hk:=zll (zcl (by simpa using h0)).1;refine h.l fun f hf=>?_
   rcases withR_mem.1 hf with rfl|⟨hf,_⟩
   ·grind
   ·simp_all
theorem zqf:∀ {f:Nat} {D:zf} {next last:Int} {all:List (List UInt8)},NamesC D→(1≤last∧last≤99999)→1≤next→(∀ q∈all,zcH q) →
  NamesC (zab f D next last all).1∧(1≤(zab f D next last all).2.2.1∧(zab f D next last all).2.2.1≤99999)∧∀ q∈(zab f D next last all).2.2.2.1,zcH q
 | 0,_,_,_,_,h,hl,_,ho=>⟨h,hl,ho⟩
 | f+1,D,next,last,all,h,hl,hn,ho=>by
  rw[zab];split
  ·simp_all
  rename_i h0;split
  ·simp_all
  have hs:=(zou _ (bl (zao D (zb next)).1) (Yd _)).2.1;have ho2:∀ q∈all++zay (bl (zao D (zb next)).1),zcH q:=fun q hq=>by grind
  split
  ·split
   ·exact⟨h.cut _ _,⟨hn,by simp_all⟩,by simp⟩
   ·exact⟨h.cut _ _,⟨hn,by simp_all⟩,ho2⟩
  ·exact zqf h ⟨hn,by omega⟩ oM ho2
theorem zwG {D:zf} {first size:Int} (h:NamesC D) (hf:1≤first∧first≤99999) (hz:0≤size∧size≤1048576):NamesC (zbI D (L0 first size)).1∧LgOk (zbI D (L0 first size)).2.1∧∀ q∈(zbI D (L0 first size)).2.2.1,zcH q:=by
 have h1:NamesC (removeAll D (za7 D fun k=>decide (k<(L0 first size).first))).1:=h.removeAll;obtain⟨a1,a2,a3⟩:=zqf (f:=(100000 - (L0 first size).first).toNat) (next:=(L0 first size).first) (last:=(L0 first size).last) (all:=[]) h1 hf hf.1 oS;unfold zbI;dsimp only;split
 ·exact⟨h1,⟨hf,hz⟩,by simp⟩
 split
 ·exact⟨a1,⟨a2,hz⟩,by simp⟩
 ·exact⟨a1.removeAll,⟨a2,hz⟩,a3⟩
def zdz (X:StW):List (List UInt8)→StW×Int
 | []=>(X,0)
 | q::r=>if zgE q≠0 then (X,2) else if (zct X (zbC q).kind (zbC q).id (zbC q).p).2≠0 then ((zct X (zbC q).kind (zbC q).id (zbC q).p).1,2) else zdz (zct X (zbC q).kind (zbC q).id (zbC q).p).1 r
theorem CuAt.aside (h:CuAt A M c p N H C) {f:Nat} {args:List Value} {R:Value→Mem→Prop} (hc:CallsM prog f args (M.minus (cuB c p H)) R) :
  CallsM prog f args M fun v M'=>∃ A',R v A'∧CuAt A' M' c p N H C:=
 (hc.frame (Yab _ _)).mono fun v M' ⟨A',hR,hle,hk⟩=>by
  have hkk:∀ y o,cuB c p H y→M y=Option.some o→M' y=Option.some o∧A' y=none:=fun y o hy ho=>hk y o (Yaq hy) ho
  have hno:∀ y,cuB c p H y→A' y=none:=fun y hy=>by
   cases e:M y with
   | none=>exact absurd e (h.some hy)
   | some o=>simp_all
  refine⟨A',hR,⟨⟨hle,h.st.st.at'.mono fun y o hy ho=>(hkk y o (.inr (.inl hy)) ho).1,h.st.st.inv,h.st.st.invE,h.st.st.room,fun y hy=>hno y (.inr (.inl hy))⟩,h.st.seen,h.st.go,h.st.bd⟩,
   ⟨⟨hle,h.log.disk.at'.mono fun y o hy ho=>(hkk y o (.inr (.inr (.inr hy))) ho).1,h.log.disk.rel,h.log.disk.inv,fun y hy=>hno y (.inr (.inr (.inr hy)))⟩,(hkk _ _ (.inr (.inr (.inl rfl))) h.log.self).1,hno _ (.inr (.inr (.inl rfl)))⟩,
   (hkk _ _ (.inl rfl) h.self).1,hno c (.inl rfl),h.dj,h.cs,h.cl,h.lg,h.nm,h.cm⟩
def firstC (w:CuW):Int:=max w.snap 1
def zaT (D:zf) (w:CuW) (seg:Int):zf×zaz×List (List UInt8)×Int:=if D.down=true then (D,L0 (firstC w) seg,[],9) else zbI D (L0 (firstC w) seg)
def zdY (X:StW) (D:zf) (w:CuW) (seg:Int):Int:=if (zaT D w seg).2.2.2≠0 then (zaT D w seg).2.2.2 else (zdz X (zaT D w seg).2.2.1).2
theorem CuPre.logged (h1:CuPre A M c p db N h des X D w) {A2 M2:Mem} {g:Nat} {D2:zf} {L2:zaz} {es2:FsT} (hl:LogAt ((M.minus fun y=>y=c∨hB h y).minus (zav p db des)) A2 g p db D2 es2 L2) (hle:A2.le M2)
  (hk:∀ y o,(y=c∨hB h y)→M y=Option.some o→M2 y=Option.some o∧A2 y=none) (hlg:LgOk L2) (hnm:NamesC D2) :
  CuAt A (M2.setCells c 153 (zhH h.p p (ptr g) w)) c p N ⟨h,g,db,es2⟩ ⟨X,D2,L2,w⟩:=by
 have hA:A.le ((M.minus fun y=>y=c∨hB h y).minus (zav p db des)):=Ybs (Ybs h1.disk.le fun y hy=>by
  rcases hy with rfl|hy
  ·exact h1.cf
  ·exact h1.st.st.fresh y hy) h1.disk.fresh
 have hl2:=(hl.mono hA).to hle
 have hno:∀ y,(y=c∨hB h y)→A2 y=none:=fun y hy=>by
  cases e:M y with
  | none=>
   rcases hy with rfl|hy
   ·exact absurd e h1.some
   ·exact absurd e (h1.st.some hy)
  | some o=>simp_all
 have hlb:∀ y,zbu g p db es2 y→¬(y=c∨hB h y):=fun y hy h3=>hl.full hy (hno y h3)
 have hs2:FreshW A M2 h X:=⟨⟨hl2.disk.le,h1.st.st.at'.mono fun y o hy ho=>(hk y o (.inr hy) ho).1,h1.st.st.inv,h1.st.st.invE,h1.st.st.room,h1.st.st.fresh⟩,h1.st.seen,h1.st.go,h1.st.bd⟩
 have hkc:Mem.keep (fun y=>y=c) M2 (M2.setCells c 153 (zhH h.p p (ptr g) w)):=fun y o hy ho=>by
  unfold Mem.setCells;rw[Yh _ _ hy];exact ho
 exact⟨hs2.keepS hkc fun y hy=>hy▸⟨h1.cf,h1.cs⟩,hl2.keepS hkc fun y hy=>hy▸⟨h1.cf,fun h3=>hlb c h3 (.inl rfl)⟩,Yg,h1.cf,fun y hy h3=>hlb y h3 (.inr hy),h1.cs,fun h3=>hlb c h3 (.inl rfl),hlg,hnm,h1.cm⟩
set_option maxHeartbeats 1000000 in
theorem zEL (h1:CuPre A M c p db N h des X D w) {seg:Int} (hseg:16≤seg∧seg≤1048576) (hsn:w.snap≤99999) (hN0:0≤N) (hN:N+(zaT D w seg).2.2.1.length≤4611686018427387904) :
  CallsM prog 84 [ptr c,.int .i64 seg] M fun v M'=>v = .int .i64 (zdY X D w seg)∧(∃ des',FreshD A M' p db (zaT D w seg).1 des') ∧
   (zdY X D w seg=0→∃ H',CuAt A M' c p (N+(zaT D w seg).2.2.1.length) H' ⟨(zdz X (zaT D w seg).2.2.1).1,(zaT D w seg).1,(zaT D w seg).2.1,w⟩):=by
 refine zjh oS ?_;refine zLX (h1.self) ?_;obtain⟨Ma,hMa⟩:=oI (M.minus fun y=>y=c∨hB h y)
 have hda:FreshD (Ma.minus (zav p db des)) Ma p db D des:=by
  refine⟨Yab _ _,h1.disk.at'.mono fun y o hy ho=>?_,h1.disk.rel,h1.disk.inv,fun y hy=>Yaq hy⟩;rw[hMa];unfold Mem.minus;rw[if_neg]
  ·omega
  ·rintro (rfl|h3)
   ·exact h1.cl hy
   ·exact h1.dj y h3 hy
 have hA:A.le (Ma.minus (zav p db des)):=by
  rw[hMa]
  exact Ybs (Ybs h1.disk.le fun y hy=>by
   rcases hy with rfl|hy
   ·exact h1.cf
   ·exact h1.st.st.fresh y hy) h1.disk.fresh
 refine((zG1 hda h1.nm.w (max w.snap 1) seg).frame (hMa▸Yab _ _)).mono ?_;rintro v M2 ⟨A2,hO,hle2,hk2⟩;unfold zyW at hO;have hbad:¬(max w.snap 1<1∨99999<max w.snap 1∨seg<16∨1048576<seg):=by omega
 have hfi:firstC w=max w.snap 1:=rfl;rcases hO with ⟨h3, -⟩|⟨-, hd,rfl,es2,h2⟩|⟨-, hd,h3,rfl,es2,h2⟩|⟨-, hd,h3,g,es2,a,n,cc,rfl,h2,hrec⟩
 ·omega
 ·have hR:zaT D w seg=(D,L0 (firstC w) seg,[],9):=by unfold zaT;rw[if_pos hd]
  have hE:zdY X D w seg=9:=by unfold zdY;rw[hR];rfl
  repeat' (first|refine⟨?_,True.intro⟩|refine⟨?_,?_,True.intro⟩|refine brn_t rfl ?_|refine brn_f rfl ?_|refine ob rfl ?_|refine obr rfl ?_|refine ob oD ?_|refine obr oD ?_|refine grow_same (Ya _) ?_|refine ob (Ya _) ?_|refine⟨_,Ya _,?_⟩|fail)
  rw[hE,hR];exact⟨rfl,⟨es2,(h2.mono hA).to hle2⟩,fun h=>by cases h⟩
 ·have hR:zaT D w seg=zbI D (L0 (max w.snap 1) seg):=by unfold zaT;rw[if_neg (by simp[hd]),hfi]
  have hE:zdY X D w seg=(zbI D (L0 (max w.snap 1) seg)).2.2.2:=by unfold zdY;rw[hR,if_pos h3]
  repeat' (first|refine⟨?_,True.intro⟩|refine⟨?_,?_,True.intro⟩|refine brn_t rfl ?_|refine brn_f rfl ?_|refine ob rfl ?_|refine obr rfl ?_|refine ob oD ?_|refine obr oD ?_|refine grow_same (Ya _) ?_|refine ob (Ya _) ?_|refine⟨_,Ya _,?_⟩|fail)
  refine brn_t (by simp_all) ?_
  repeat' (first|refine⟨?_,True.intro⟩|refine⟨?_,?_,True.intro⟩|refine brn_t rfl ?_|refine brn_f rfl ?_|refine ob rfl ?_|refine obr rfl ?_|refine ob oD ?_|refine obr oD ?_|refine grow_same (Ya _) ?_|refine ob (Ya _) ?_|refine⟨_,Ya _,?_⟩|fail)
  rw[hE,hR];exact⟨rfl,⟨es2,(h2.mono hA).to hle2⟩,fun h=>absurd h h3⟩
 obtain⟨nm1,nm2,nm3⟩:=zwG (first:=max w.snap 1) (size:=seg) h1.nm oM oM;have hR:zaT D w seg=zbI D (L0 (max w.snap 1) seg):=by unfold zaT;rw[if_neg (by simp[hd]),hfi]
 have hE:zdY X D w seg=(zdz X (zbI D (L0 (max w.snap 1) seg)).2.2.1).2:=by unfold zdY;rw[hR,if_neg (by simp[h3])]
 rw[hR] at hN ⊢;rw[hE];obtain⟨o,ho⟩:=oI (zbI D (L0 (max w.snap 1) seg));rw[←ho] at h2 hrec nm1 nm2 nm3 hN h3 ⊢;have hkk:∀ y o,(y=c∨hB h y)→M y=Option.some o→M2 y=Option.some o∧A2 y=none:=fun y o hy hy2=>hk2 y o (by rw[hMa];exact Yaq hy) hy2
 have h4:=h1.logged (hMa▸h2) hle2 hkk nm2 nm1
 repeat' (first|refine⟨?_,True.intro⟩|refine⟨?_,?_,True.intro⟩|refine brn_t rfl ?_|refine brn_f rfl ?_|refine ob rfl ?_|refine obr rfl ?_|refine ob oD ?_|refine obr oD ?_|refine grow_same (Ya _) ?_|refine ob (Ya _) ?_|refine⟨_,Ya _,?_⟩|fail)
 have hc2:M2.has c 153 (zhH h.p p (.pointer none) w):=(hkk c _ (.inl rfl) h1.self).1;refine on hc2.cells ?_;refine ob oS ?_;obtain⟨M3,hM3⟩:=oI (M2.setCells c 153 (zhH h.p p (ptr g) w));rw[←hM3] at h4;erw [←hM3];obtain⟨Z,hZ⟩:∃ Z,Z=M3.minus (cuB c p ⟨h,g,db,es2⟩):=⟨_,rfl⟩
 have hAZ:A.le Z:=by rw[hZ];exact h4.base.2
 have hzz:(A2.minus (zbu g p db es2)).le Z:=fun y o2 hy=>by
  have hy2:A2 y=Option.some o2:=Yab _ _ y o2 hy;have hnl:¬zbu g p db es2 y:=fun hb=>by rw[Yaq hb] at hy;cases hy
  have hnc:¬(y=c∨hB h y):=fun hb=>by
   cases e:M y with
   | none=>
    rcases hb with rfl|hb
    ·exact absurd e h1.some
    ·exact absurd e (h1.st.some hb)
   | some o3=>simp_all
  rw[hZ];unfold Mem.minus;rw[if_neg,hM3,zx5,if_neg fun e=>hnc (.inl e)]
  ·exact hle2 y o2 hy2
  ·rintro (h5|h5|h5)
   ·omega
   ·simp_all
   ·simp_all
 have hel:Elems Z 1 a n (BytesW Z) o.2.2.1:=by
  have h5:Elems _ 1 a n (BytesW _) o.2.2.1:=NewEls.elems hrec;exact h5.imp hzz fun cs x _ ⟨pa,pn,pc,e,hw⟩=>⟨pa,pn,pc,e,hw.le hzz⟩
 have hnl:=hel.len
 refine zak (σ:=Nat×Mem×CuH×StW) [36] (fun y=>[(36,.int .i64 y.1)]) (fun _=>[]) (fun y=>y.2.1)
  (fun|⟨i,Mc,H,Xc⟩=>i≤n∧H.db=db∧CuAt Z Mc c p (N+i) H ⟨Xc,o.1,o.2.1,w⟩∧zdz X o.2.2.1=zdz Xc (o.2.2.1.drop i)) (fun y=>n - y.1) ⟨0,M3,⟨h,g,db,es2⟩,X⟩ ⟨by omega,rfl,by rw[hZ];exact h4.base.1.more oM,rfl⟩ zS ?_
 rintro ⟨i,Mc,⟨Hh,Hg,Hdb,Hes⟩,Xc⟩ ⟨hi,rfl,pc,hrw⟩;refine brn (fun e=>?_) (fun e=>?_)
 rotate_left
 ·have hge:i=n:=by have:=Zd1 e;dsimp only at this;omega
  subst hge;rw[Yaf oM,zdz] at hrw
  repeat' (first|refine⟨?_,True.intro⟩|refine⟨?_,?_,True.intro⟩|refine brn_t rfl ?_|refine brn_f rfl ?_|refine ob rfl ?_|refine obr rfl ?_|refine ob oD ?_|refine obr oD ?_|refine grow_same (Ya _) ?_|refine ob (Ya _) ?_|refine⟨_,Ya _,?_⟩|fail)
  rw[hrw,hnl];exact⟨rfl,⟨Hes,pc.disk.mono hAZ⟩,fun _=>⟨_,pc.mono hAZ⟩⟩
 have hlt:i<n:=by have:=Zd0 e;dsimp only at this;omega
 obtain⟨hl9,bb,oo,cs,ha9, -, hrow, -, xa,xn,xc,rfl,hxw⟩:=(hel.imp (M':=Z) (Ya _) fun _ _ _ h=>h).at oD hlt;have hok:=nm3 _ (Yai hl9)
 rw[Y2 hl9] at hrw;generalize o.2.2.1[i]=x at *;have hxl:x.length=xn:=hxw.src.maplen
 obtain⟨hok1,hok2⟩:=hok;have hxc:xn≤xc:=by have h5:=hxw;unfold Wr at h5;exact h5.2.1
 refine ob (by omega) ?_;refine atp ha9 ?_;refine on (Ycg pc.le hrow) ?_
 repeat' (first|refine⟨?_,True.intro⟩|refine⟨?_,?_,True.intro⟩|refine brn_t rfl ?_|refine brn_f rfl ?_|refine ob rfl ?_|refine obr rfl ?_|refine ob oD ?_|refine obr oD ?_|refine grow_same (Ya _) ?_|refine ob (Ya _) ?_|refine⟨_,Ya _,?_⟩|fail)
 refine(pc.aside (zEH (hxw.src.le pc.base.2) oM hxc)).mono ?_;rintro v M5 ⟨A5,hG,p5⟩;obtain⟨a5,c5,rfl,hle5,hs5⟩:=hG.all;have hZA:Z.le A5:=Yc pc.base.2 hle5
 refine brn (fun e=>?_) (fun e=>?_)
 ·have e1:zgE x≠0:=by simpa using e
  rw[zdz,if_pos e1] at hrw
  repeat' (first|refine⟨?_,True.intro⟩|refine⟨?_,?_,True.intro⟩|refine brn_t rfl ?_|refine brn_f rfl ?_|refine ob rfl ?_|refine obr rfl ?_|refine ob oD ?_|refine obr oD ?_|refine grow_same (Ya _) ?_|refine ob (Ya _) ?_|refine⟨_,Ya _,?_⟩|fail)
  rw[hrw];exact⟨rfl,⟨Hes,(p5.mono hZA).disk.mono hAZ⟩,fun h=>by cases h⟩
 have e1:¬zgE x≠0:=by simpa using e
 rw[zdz,if_neg e1] at hrw
 have hpl:(zbC x).p.length≤1048576:=by
  have h6:=(zJN (by simpa using e1)).1;have h7:zcn (zbC x)=zba (zbC x).kind (zbC x).id (zbC x).p.length:=rfl
  rcases zmO h6 with hk|hk|hk|hk
  ·have:=(zuf h6 hk).2;rw[this];decide
  ·have:=ziG h6 hk;omega
  ·have:=(zgg h6 (.inl hk)).2;rw[this];decide
  ·have:=(zgg h6 (.inr hk)).2;rw[this];decide
 refine zL (p5.self) ?_;refine(ztk p5 oM (zbC x).kind (zbC x).id hs5 hpl).mono ?_;rintro v M6 ⟨h6,rfl, -, p6⟩;obtain⟨ap,hap⟩:=oI (zct Xc (zbC x).kind (zbC x).id (zbC x).p);rw[←hap] at p6 hrw ⊢
 repeat' (first|refine⟨?_,True.intro⟩|refine⟨?_,?_,True.intro⟩|refine brn_t rfl ?_|refine brn_f rfl ?_|refine ob rfl ?_|refine obr rfl ?_|refine ob oD ?_|refine obr oD ?_|refine grow_same (Ya _) ?_|refine ob (Ya _) ?_|refine⟨_,Ya _,?_⟩|fail)
 refine brn (fun e=>?_) (fun e=>?_)
 ·have e2:ap.2≠0:=by simpa using e
  rw[if_pos e2] at hrw
  repeat' (first|refine⟨?_,True.intro⟩|refine⟨?_,?_,True.intro⟩|refine brn_t rfl ?_|refine brn_f rfl ?_|refine ob rfl ?_|refine obr rfl ?_|refine ob oD ?_|refine obr oD ?_|refine grow_same (Ya _) ?_|refine ob (Ya _) ?_|refine⟨_,Ya _,?_⟩|fail)
  rw[hrw];exact⟨rfl,⟨_,(p6.mono hZA).disk.mono hAZ⟩,fun h=>by cases h⟩
 have e2:¬ap.2≠0:=by simpa using e
 rw[if_neg e2] at hrw
 repeat' (first|refine⟨?_,True.intro⟩|refine⟨?_,?_,True.intro⟩|refine brn_t rfl ?_|refine brn_f rfl ?_|refine ob rfl ?_|refine obr rfl ?_|refine ob oD ?_|refine obr oD ?_|refine grow_same (Ya _) ?_|refine ob (Ya _) ?_|refine⟨_,Ya _,?_⟩|fail)
 refine obr (inR_i64 (by omega)) ?_;exact⟨⟨i+1,M6,⟨h6,Hg,Hdb,Hes⟩,ap.1⟩,⟨by omega,rfl,(p6.mono hZA).more (N':=N+((i+1:Nat):Int)) oM,hrw⟩,by omega,zS⟩
def zkH (C:CuR):CuR×Int:=if (zad C 1 zaV [] true).2=10 then ({ (zad C 1 zaV [] true).1 with w:={ (zad C 1 zaV [] true).1.w with spent:=true } },0) else zad C 1 zaV [] true
theorem zIW (h:CuAt A M c p N H C) (hN:N≤4611686018427387904):CallsM prog 85 [ptr c] M fun v M'=>∃ H',v = .int .i64 (zkH C).2∧CuAt A M' c p (N+1) H' (zkH C).1:=by
 refine zkg oS ?_
 repeat' (first|refine⟨?_,True.intro⟩|refine⟨?_,?_,True.intro⟩|refine brn_t rfl ?_|refine brn_f rfl ?_|refine ob rfl ?_|refine obr rfl ?_|refine ob oD ?_|refine obr oD ?_|refine grow_same (Ya _) ?_|refine ob (Ya _) ?_|refine⟨_,Ya _,?_⟩|fail)
 refine(zsh (l:=[]) (a:=none) (cc:=0) h hN 1 zaV (Ybh _ _) oD true).mono ?_;rintro v M1 ⟨H1,rfl,h1⟩;obtain⟨r,hr⟩:=oI (zad C 1 zaV [] true);have hB:zkH C=if r.2=10 then ({ r.1 with w:={ r.1.w with spent:=true } },0) else r:=by rw[hr];rfl
 rw[←hr] at h1 ⊢
 repeat' (first|refine⟨?_,True.intro⟩|refine⟨?_,?_,True.intro⟩|refine brn_t rfl ?_|refine brn_f rfl ?_|refine ob rfl ?_|refine obr rfl ?_|refine ob oD ?_|refine obr oD ?_|refine grow_same (Ya _) ?_|refine ob (Ya _) ?_|refine⟨_,Ya _,?_⟩|fail)
 refine brn (fun e=>?_) (fun e=>?_)
 ·have e1:r.2=10:=Zd0 e
  repeat' (first|refine⟨?_,True.intro⟩|refine⟨?_,?_,True.intro⟩|refine brn_t rfl ?_|refine brn_f rfl ?_|refine ob rfl ?_|refine obr rfl ?_|refine ob oD ?_|refine obr oD ?_|refine grow_same (Ya _) ?_|refine ob (Ya _) ?_|refine⟨_,Ya _,?_⟩|fail)
  refine on h1.self.cells ?_;refine ob oS ?_
  repeat' (first|refine⟨?_,True.intro⟩|refine⟨?_,?_,True.intro⟩|refine brn_t rfl ?_|refine brn_f rfl ?_|refine ob rfl ?_|refine obr rfl ?_|refine ob oD ?_|refine obr oD ?_|refine grow_same (Ya _) ?_|refine ob (Ya _) ?_|refine⟨_,Ya _,?_⟩|fail)
  rw[hB,if_pos e1];exact⟨H1,rfl,h1.turnC { r.1.w with spent:=true }⟩
 ·have e1:¬r.2=10:=Zd1 e
  repeat' (first|refine⟨?_,True.intro⟩|refine⟨?_,?_,True.intro⟩|refine brn_t rfl ?_|refine brn_f rfl ?_|refine ob rfl ?_|refine obr rfl ?_|refine ob oD ?_|refine obr oD ?_|refine grow_same (Ya _) ?_|refine ob (Ya _) ?_|refine⟨_,Ya _,?_⟩|fail)
  rw[hB,if_neg e1];exact⟨H1,rfl,h1⟩
end
end Go.Proofs.YtlgbofpennelhaaGreat
