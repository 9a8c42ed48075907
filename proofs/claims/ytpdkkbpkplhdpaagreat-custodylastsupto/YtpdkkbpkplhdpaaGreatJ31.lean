/- Part of this proof;laid by program. -/
import Derived.Test.YtpdkkbpkplhdpaaGreatJ30
import Derived.Test.YtpdkkbpkplhdpaaGreatJ29
import Derived.Test.YtpdkkbpkplhdpaaGreatJ22
set_option linter.unusedVariables false
set_option linter.unusedSimpArgs false
namespace Go.Proofs.YtpdkkbpkplhdpaaGreat
open Go Go.Vm
variable {C D E T:zf} {k0 last:Int} {E0 E1:List EvX} {s n:Nat} {P:Par}
def zwG (acc:Int) (l:List UInt8):Int:=l.foldl (fun a c=>10*a+((c.toNat:Int) - 48)) acc
theorem zyf:∀ (x y:List UInt8) (a b:Int),x.length=y.length→(∀ c∈x,48≤c.toNat∧c.toNat≤57)→(∀ c∈y,48≤c.toNat∧c.toNat≤57)→(a<b→zwG a x<zwG b y)∧(a=b→x<y→zwG a x<zwG b y)
 | [],[],a,b,_,_,_=>⟨fun h=>h,fun _ h=>absurd h (List.lt_irrefl _)⟩
 | c::x,d::y,a,b,hl,hx,hy=>by
  have h1:=hx c (by simp);have h2:=hy d (by simp)
  obtain⟨i1,i2⟩:=zyf x y (10*a+((c.toNat:Int) - 48)) (10*b+((d.toNat:Int) - 48)) (by simpa using hl) (fun e he=>hx e (by simp[he])) (fun e he=>hy e (by simp[he]));refine⟨fun h=>i1 (by omega),fun h hlt=>?_⟩;rcases List.cons_lt_cons_iff.1 hlt with h3|⟨rfl,h3⟩
  ·exact i1 (by have:c.toNat<d.toNat:=h3;omega)
  ·exact i2 (by rw[h]) h3
theorem zBd {j k:Int} (hj:okK j) (hk:okK k) (h:zfZ (zt j) (zt k)=true):j<k:=by
 unfold okK at hj hk;rw[zgN] at h
 have key:∀ {k:Int},¬(k<1∨99999<k)→∃ t:List UInt8,bl (zt k)=115::t∧t.length=5∧(∀ c∈t,48≤c.toNat∧c.toNat≤57)∧zwG 0 t=k:=fun {k} hk=>by
  have hnn:0≤k:=by omega
  have e1:=zhk hk;have e2:zfv (zt k)=((bl (zt k)).drop 1).foldl (fun a c=>10*a+((c.toNat:Int) - 48)) 0:=if_pos ⟨by rw[zcT hk];rfl,zmg hk⟩
  rw[e2,zcT hk] at e1;refine⟨[dgB k 4,dgB k 3,dgB k 2,dgB k 1,dgB k 0],by rw[zcT hk];rfl,rfl,fun c hc=>?_,e1⟩
  have hd:∃ i,c=dgB k i:=by
   simp only[List.mem_cons,List.not_mem_nil,or_false] at hc;rcases hc with h|h|h|h|h<;>exact⟨_,h⟩
  obtain⟨i,rfl⟩:=hd;have:=zbx hnn i
  omega
 obtain⟨x,x1,x2,x3,x4⟩:=key (k:=j) (by omega);obtain⟨y,y1,y2,y3,y4⟩:=key (k:=k) (by omega);rw[x1,y1] at h;rcases List.cons_lt_cons_iff.1 h with h3|⟨-, h3⟩
 ·exact absurd h3 (by decide)
 ·have:=(zyf x y 0 0 (by omega) x3 y3).2 rfl h3;omega
theorem zeZ (hi:InvD C) (hn:NamesC C) {k:Int}:k∈zci C↔okK k∧∃ f,zg C.l (zt k)=some f:=by
 unfold zci;rw[List.mem_filter,List.mem_map];constructor
 ·rintro ⟨⟨f,hf,rfl⟩,hk⟩;have h0:=Zd0 hk
  obtain⟨k,h1,h2,h3⟩:=(hn.num hf).resolve_right fun h6=>by have:=h6.2;omega
  rw[h3];exact⟨⟨by omega,by omega⟩,f,(zaz hi.sort).2 ⟨hf,h2⟩⟩
 ·rintro ⟨hk,f,hf⟩;obtain⟨h1,h2⟩:=(zaz hi.sort).1 hf;unfold okK at hk;exact⟨⟨f,h1,by rw[h2,zhk (by omega)]⟩,decide_eq_true (by omega)⟩
theorem zr2 (hi:InvD C) (hn:NamesC C):(zci C).Pairwise (· < ·):=by
 have h1:(C.l.map fun f=>zfv f.name).Pairwise fun a b=>a<b∨a≤0∨b≤0:=by
  rw[List.pairwise_map];refine List.Pairwise.imp_of_mem (fun {x y} hx hy hxy=>?_) hi.sort;rcases hn.num hx with ⟨j,j1,j2,j3⟩|⟨-, h1⟩
  ·rcases hn.num hy with ⟨k,k1,k2,k3⟩|⟨-, h2⟩
   ·rw[j2,k2] at hxy;rw[j3,k3];exact .inl (zBd ⟨by omega,by omega⟩ ⟨by omega,by omega⟩ hxy)
   ·exact .inr (.inr (by omega))
  ·exact .inr (.inl (by omega))
 unfold zci;refine List.Pairwise.imp_of_mem (fun {x y} hx hy hxy=>?_) (h1.filter _);rw[List.mem_filter] at hx hy;have a:=Zd0 hx.2
 have b:=Zd0 hy.2;omega
theorem ztJ:∀ {l:List Int} {k:Int},l.Pairwise (· < ·)→k∈l→(∀ j∈l,j≤k)→∃ ks,l=ks++[k]∧ks=l.dropLast∧k∉ks
 | [],_,_,h,_=>by cases h
 | [x],k,_,h,_=>by
  have:k=x:=by simpa using h
  exact⟨[],by rw[this];rfl,rfl,by simp⟩
 | x::y::r,k,hp,h,hm=>by
  obtain⟨h1,h2⟩:=List.pairwise_cons.1 hp
  have hk:k∈y::r:=by
   rcases List.mem_cons.1 h with rfl|h
   ·have:=h1 y (by simp);have:=hm y (by simp)
    omega
   ·exact h
  obtain⟨ks,e1,e2,e3⟩:=ztJ h2 hk fun j hj=>hm j (List.mem_cons_of_mem _ hj)
  refine⟨x::ks,by rw[e1];rfl,by rw[e2];rfl,fun h4=>?_⟩;rcases List.mem_cons.1 h4 with rfl|h4
  ·have:=h1 k hk;omega
  ·exact e3 h4
theorem zwH:∀ {ks:List Int} {D:zf},InvD D→PowD D→ks.Nodup→(∀ k∈ks,okK k∧∃ f,zg D.l (zt k)=some f) →
  (rmSn D ks).2=0∧InvD (rmSn D ks).1∧PowD (rmSn D ks).1∧LessD (rmSn D ks).1 D∧(∀ n,(∀ k∈ks,n≠zt k)→zg (rmSn D ks).1.l n=zg D.l n)∧∀ k∈ks,zg (rmSn D ks).1.l (zt k)=none
 | [],D,h,hp,_,_=>⟨rfl,h,hp,.refl D,fun _ _=>rfl,by simp⟩
 | k::r,D,h,hp,hn,hk=>by
  obtain⟨h1,f,h2⟩:=hk k (by simp);have t1:=Turn.remove h (zt k)
  obtain⟨g1,g2⟩:=zkC h hp.1 (zmF (by unfold okK at h1;omega)) h2;rw[List.nodup_cons] at hn;rw[rmSn,if_neg (by simp[g1])]
  obtain⟨a1,a2,a3,a4,a5,a6⟩:=zwH t1.inv (t1.pow hp) hn.2 fun j hj=>by
   obtain⟨b1,f2,b2⟩:=hk j (by simp[hj]);refine⟨b1,f2,?_⟩;rw[t1.find _ fun e=>hn.1 (zfM b1 h1 e▸hj)];exact b2
  refine⟨a1,a2,a3,a4.trans (.remove h _),fun m hm=>?_,fun j hj=>?_⟩
  ·rw[a5 m fun j hj=>hm j (by simp[hj]),t1.find _ (hm k (by simp))]
  ·rcases List.mem_cons.1 hj with rfl|hj
   ·rw[a5 _ fun i hi e=>hn.1 (zfM h1 (hk i (by simp[hi])).1 e▸hi)];exact g2
   ·exact a6 j hj
structure CutD (D C:zf):Prop where
 inv:InvD C
 pow:PowD C
 lim:C.limit=D.limit
 cut:∀ n,CutAt (zg D.l n) (zg C.l n)
 len:C.l.length≤D.l.length
 used:zaX C.l≤zaX D.l
theorem CutD.refl (h:InvD D) (hp:PowD D):CutD D D:=⟨h,hp,rfl,fun _ => .refl _,Nat.le_refl _,Nat.le_refl _⟩
theorem CutD.crash (h:InvD D) (keep:List Int):CutD D (zbK D keep):=by
 refine⟨zmd h keep,⟨rfl,rfl⟩,rfl,fun n=>?_,?_,zph keep⟩
 ·cases hf:zg D.l n with
  | none=>rw[zzh keep hf];trivial
  | some f=>
   obtain⟨i,hi⟩:=zzg h keep hf;rw[hi];have hz:=zqm keep i f
   refine⟨rfl,?_,⟨f.safe.size+zkw keep i f,?_⟩,fun _=>rfl⟩
   ·unfold zdI;dsimp only;rw[←zaH f.safe,←zaH,zad,List.length_append];omega
   ·unfold zdI FileR.all;dsimp only;rw[zad,zad,zad,zcR,zcC,List.append_nil,←zaH f.safe,List.take_length_add_append]
 ·unfold zbK;simp
theorem CutD.nm (h:CutD D C) (hi:InvD D):∀ f∈C.l,∃ f'∈D.l,f'.name=f.name:=fun f hf=>by
 have h1:=h.cut f.name;rw[(zaz h.inv.sort).2 ⟨hf,rfl⟩] at h1;cases hx:zg D.l f.name with
 | none=>rw[hx] at h1;exact h1.elim
 | some f'=>exact⟨f',((zaz hi.sort).1 hx).1,((zaz hi.sort).1 hx).2⟩
@[reducible] def bootX:EvX:=⟨1,zcr,[]⟩
theorem NamesC.less (h:NamesC C) (hl:∀ f∈E.l,∃ f'∈C.l,f'.name=f.name):NamesC E:=fun f hf=>by
 obtain⟨f',h1,h2⟩:=hl f hf;have:=h f' h1
 rw[h2] at this;exact this
theorem zBe (hi:InvD C) (hp:PowD C):(zbH C).2=0∧InvD (zbH C).1∧PowD (zbH C).1∧LessD (zbH C).1 C∧(∀ n,n≠zah→zg (zbH C).1.l n=zg C.l n)∧zg (zbH C).1.l zah=none:=by
 unfold zbH;split
 ·rename_i h
  have hf:∃ f,zg C.l zah=some f:=by
   rw[List.any_eq_true] at h;obtain⟨f,h1,h2⟩:=h;exact⟨f,(zaz hi.sort).2 ⟨h1,Zd0 h2⟩⟩
  obtain⟨f,hf⟩:=hf;obtain⟨g1,g2⟩:=zkC hi hp.1 (s:=zah) (by decide) hf;have t:=Turn.remove hi zah
  exact⟨g1,t.inv,t.pow hp,.remove hi _,t.find,g2⟩
 ·rename_i h;refine⟨rfl,hi,hp,.refl C,fun _ _=>rfl,?_⟩;rw[findR_none];intro f hf e;exact h (List.any_eq_true.2 ⟨f,hf,decide_eq_true e⟩)
set_option maxHeartbeats 1000000 in
theorem RecD.open (h:RecD P n D E0 E1 s) (hn:n≤60) (hC:CutD D C) (hb:¬zbr P.me P.qh P.qb P.qg) (hseg:16≤P.seg∧P.seg≤1048576) :
  ∃ ld m,s≤m∧m≤E1.length∧Ld (zbH C).1 P.me P.qh P.qb P.qg ld∧(zbF C P.me P.qh P.qb P.qg P.seg ld).2=0∧LiveI P (n+1) (zbF C P.me P.qh P.qb P.qg P.seg ld).1 E0 (E1.take m++[bootX]) (m+1)∧PowD (zbF C P.me P.qh P.qb P.qg P.seg ld).1.D ∧
   ((∀ n f f',zg D.l n=some f→zg C.l n=some f'→bl f'.all=bl f.all)→m=E1.length):=by
 obtain⟨k0,last,hr,hc⟩:=h;obtain⟨w1,w2,w3,w4,w5,w6⟩:=zBe hC.inv hC.pow;obtain⟨S,hS⟩:∃ S,S=(zbH C).1:=⟨_,rfl⟩
 have hD:C.down=false:=hC.pow.1;have hl1:=hr.seg.f1
 have hlast:=hc.last;have hk0:=hr.rng
 rw[←hS] at w2 w3 w4 w5 w6 ⊢;have nmC:NamesC C:=hr.nm.less (hC.nm hr.inv)
 have nmS:NamesC S:=nmC.less w4.nm
 have hop:∀ ld,zbF C P.me P.qh P.qb P.qg P.seg ld=zkA S P.me P.qh P.qb P.qg P.seg ld:=fun ld=>by
  unfold zbF;rw[if_neg hb,if_neg (by omega),if_neg (by simp[hD]),if_neg (by simp[w1]),hS]
 have hld:∃ ld,Ld S P.me P.qh P.qb P.qg ld∧(ldD S ld).2=0∧InvD (ldD S ld).1∧PowD (ldD S ld).1∧LessD (ldD S ld).1 S∧ldW ld=⟨k0,false,false⟩∧ldX P.me P.qh P.qb P.qg ld=zbz P.x0 E0 ∧
   (∀ n,(∀ k,okK k→n≠zt k)→zg (ldD S ld).1.l n=zg S.l n)∧(okK k0→zg (ldD S ld).1.l (zt k0)=zg S.l (zt k0))∧(∀ k,okK k→k≠k0→zg (ldD S ld).1.l (zt k)=none):=by
  have hsnS:∀ k,okK k→zg S.l (zt k)=zg C.l (zt k):=fun k hk=>w5 _ (zom hk).symm
  have hmax:∀ k,okK k→(∃ f,zg S.l (zt k)=some f)→∃ f∈D.l,f.name=zt k:=fun k hk ⟨f,hf⟩=>by
   rw[hsnS k hk] at hf;obtain⟨f1,f2⟩:=(zaz hC.inv.sort).1 hf;obtain⟨f',g1,g2⟩:=hC.nm hr.inv f f1;exact⟨f',g1,g2.trans f2⟩
  rcases hr.snap with ⟨e1,e2,e3⟩|⟨e1,e2,⟨sb,e3,e4⟩,e5⟩
  ·have hno:∀ k,okK k→zg S.l (zt k)=none:=fun k hk=>by
    cases hx:zg S.l (zt k) with
    | none=>rfl
    | some f=>
     obtain⟨f',g1,g2⟩:=hmax k hk ⟨f,hx⟩;exact absurd g2 (e3 f' g1 k hk)
   have hs0:zci S=[]:=List.eq_nil_iff_forall_not_mem.2 fun k hk=>by
    obtain⟨a1,f,a2⟩:=(zeZ w2 nmS).1 hk;rw[hno k a1] at a2;cases a2
   exact⟨none,hs0,rfl,w2,w3,.refl S,by rw[e1];rfl,by rw[e2];rfl,fun _ _=>rfl,fun _=>rfl,fun k hk _=>hno k hk⟩
  ·have hck:=hC.cut (zt k0);rw[e3] at hck;obtain⟨sb',g1,g2⟩:=hck.whole;rw[←hsnS k0 e1] at g1;have hmem:k0∈zci S:=(zeZ w2 nmS).2 ⟨e1,_,g1⟩
   have hle:∀ j∈zci S,j≤k0:=fun j hj=>by
    obtain⟨a1,a2⟩:=(zeZ w2 nmS).1 hj;obtain⟨f',b1,b2⟩:=hmax j a1 a2;exact e5 f' b1 j a1 b2
   obtain⟨ks,k1,k2,k3⟩:=ztJ (zr2 w2 nmS) hmem hle;have hkin:∀ k∈ks,k∈zci S:=fun k hk=>by rw[k1];exact List.mem_append_left _ hk
   have hnd:ks.Nodup:=by
    have:=zr2 w2 nmS;rw[k1] at this;exact(List.pairwise_append.1 this).1.imp fun h e=>by omega
   have hq:=zA8 E0 P.x0;have hcnt:=zwD E0 P.x0
   have hevs:=hc.evs;rw[List.length_append] at hevs;have e00:P.x0.sn.length=0:=rfl
   obtain⟨r1,r2,r3,r4,r5,r6⟩:=zwH w2 w3 hnd fun k hk=>(zeZ w2 nmS).1 (hkin k hk)
   have hlD:ldD S (some (k0,zbz P.x0 E0))=rmSn S ks:=by
    show zf7 S k0=_;unfold zf7;rw[if_neg (by simp[w3.1]),←k2]
   refine⟨some (k0,zbz P.x0 E0),⟨by unfold okK at e1;omega,⟨ks,k1⟩,⟨⟨_,g1,?_⟩,e2,by omega,hq.1,hq.2.1,hq.2.2.1,hq.2.2.2⟩⟩,by rw[hlD];exact r1,by rw[hlD];exact r2,by rw[hlD];exact r3,by rw[hlD];exact r4,rfl,rfl,?_,?_,?_⟩
   ·unfold FileR.all;dsimp only;rw[zad,zcC,List.append_nil,g2];exact e4
   ·rw[hlD];exact fun m hm=>r5 m fun k hk=>hm k ((zeZ w2 nmS).1 (hkin k hk)).1
   ·rw[hlD];exact fun _=>r5 _ fun k hk e=>k3 (zfM e1 ((zeZ w2 nmS).1 (hkin k hk)).1 e▸hk)
   ·rw[hlD];intro k hk hne;by_cases hks:k∈ks
    ·exact r6 k hks
    ·rw[r5 _ fun j hj e=>hks (zfM hk ((zeZ w2 nmS).1 (hkin j hj)).1 e▸hj)];cases hx:zg S.l (zt k) with
     | none=>rfl
     | some f=>
      have:k∈zci S:=(zeZ w2 nmS).2 ⟨hk,f,hx⟩;rw[k1] at this;rcases List.mem_append.1 this with h3|h3
      ·exact absurd h3 hks
      ·exact absurd (by simpa using h3) hne
 obtain⟨ld,l1,l2,l3,l4,l5,l6,l7,l8,l9,l10⟩:=hld;obtain⟨T,hT⟩:∃ T,T=(ldD S ld).1:=⟨_,rfl⟩
 rw[←hT] at l3 l4 l5 l8 l9 l10;have nmT:NamesC T:=nmS.less l5.nm
 have lTC:=l5.trans w4
 have hsegT:∀ k,okK k→zg T.l (zc k)=zg C.l (zc k):=fun k hk=>by
  rw[l8 _ fun j hj e=>zgT hj hk e.symm,w5 _ (zzH hk).symm]
 have hNmI:NmI last T.l:=fun f hf=>by
  obtain⟨f',g1,g2⟩:=lTC.nm f hf;obtain⟨f2,g3,g4⟩:=hC.nm hr.inv f' g1;have:=hr.seg.names f2 g3
  rw[g4.trans g2] at this;exact this
 obtain⟨m,E,la,q1,q2,q3,q4,q5,q6,q7,q8,q9,q10⟩:=hr.seg.reopen (C:=T) ⟨l3,nmT.w,l4.1,l4.2⟩ (by omega) hNmI (fun k h1 h2=>by rw[hsegT k ⟨by omega,by omega⟩];exact hC.cut _) P.seg;have hml:m≤E1.length:=by simpa using q2
 rw[←List.map_take] at q3 q5
 have hre:zaT T ⟨k0,false,false⟩ P.seg=(E,{ L0 (max k0 1) P.seg with last:=la },(E1.take m).map zI,0):=by
  unfold zaT;rw[if_neg (by simp[l4.1])];exact q3
 have hok:=hr.ok
 have hokT:okW P.x0 (E0++E1.take m):=by
  obtain⟨a1,a2⟩:=okW_append.1 hok;exact okW_append.2 ⟨a1,zCd a2 m⟩
 have hrp:zdo (zbz P.x0 E0) ((E1.take m).map zI)=(zbz P.x0 (E0++E1.take m),0):=by
  rw[zrZ (okW_append.1 hokT).2,zfL]
 obtain⟨B,hB⟩:∃ B:CuR,B=⟨zbz P.x0 (E0++E1.take m),E,{ L0 (max k0 1) P.seg with last:=la },⟨k0,false,false⟩⟩:=⟨_,rfl⟩
 have hfin:zkA S P.me P.qh P.qb P.qg P.seg ld=zi8 B:=by
  unfold zkA;rw[if_neg (by simp[l2]),l6,l7,←hT,hre]
  have he:zdE (zbz P.x0 E0) T ⟨k0,false,false⟩ P.seg=0:=by
   unfold zdE;rw[hre];dsimp only;rw[if_neg (by simp),hrp]
  rw[he,if_neg (by simp)];dsimp only;rw[hrp,hB]
 have lEC:=q8.trans lTC;have nmE:NamesC E:=nmT.less q8.nm
 have hsnE:∀ k,okK k→zg E.l (zt k)=zg T.l (zt k):=fun k hk=>q6 _ fun j hj=>zgT hk hj
 have nost:zg E.l zah=none:=by
  rw[q6 _ fun j hj=>zzH hj,l8 _ fun j hj=>zom hj];exact w6
 have lens:=hc.evs
 have hlb:LiveB P n B E0 (E1.take m) s:=by
  have rcE:RecI P E k0 E0 (E1.take m) la s:=by
   refine⟨q4.inv,nmE,q5,hokT,?_⟩
   have hle:∀ f∈E.l,∀ k,okK k→f.name=zt k→k=k0:=fun f hf k hk e=>by
    by_cases hx:k=k0
    ·exact hx
    ·have h1:=l10 k hk hx;rw[←hsnE k hk] at h1;exact absurd e ((findR_none.1 h1) f hf)
   rcases hr.snap with ⟨e1,e2,e3⟩|⟨e1,e2,⟨sb,e3,e4⟩,e5⟩
   ·refine .inl ⟨e1,e2,fun f hf k hk e=>?_⟩;have:=hle f hf k hk e
    unfold okK at hk;omega
   ·refine .inr ⟨e1,e2,?_,fun f hf k hk e=>by rw[hle f hf k hk e];exact Int.le_refl _⟩;have hck:=hC.cut (zt k0)
    rw[e3] at hck;obtain⟨sb',g1,g2⟩:=hck.whole;refine⟨sb',?_,g2.trans e4⟩;rw[hsnE k0 e1,l9 e1,w5 _ (zom e1).symm];exact g1
  rw[hB];refine⟨rcE,⟨by have:=lEC.len;have:=hC.len;have:=hc.files;dsimp only;omega,by have:=lEC.used;have:=hC.used;have:=hc.used;dsimp only;omega,by dsimp only;omega,by rw[List.length_append] at lens ⊢; rw[List.length_take];omega,(lEC.lim.trans hC.lim).trans hc.lim⟩,rfl,⟨rfl,rfl,rfl⟩,rfl,⟨by dsimp only;omega,by show 0≤P.seg;omega,by show P.seg≤_;omega⟩,fun f hf=>?_⟩;dsimp only;rcases nmE f hf with ⟨k,h1,h2⟩|⟨k,h1,h2⟩|h1
  ·left;have h3:¬k<max k0 1:=fun hlt=>q9 f hf k ⟨by omega,by omega⟩ hlt h2
   rcases q5.names f hf with ⟨j,j1,j2,j3⟩|j1
   ·have:j=k:=zjS (by omega) (by omega) (by rw[←j3,h2]);refine⟨k,?_,by omega,h2⟩;show max k0 1≤k
    omega
   ·have:=zfl j1;rw[h2,zbU h1] at this;omega
  ·right;have hk:okK k:=⟨by omega,by omega⟩
   have:k=k0:=by
    by_cases hx:k=k0
    ·exact hx
    ·have h3:=l10 k hk hx;rw[←hsnE k hk] at h3;exact absurd h2 ((findR_none.1 h3) f hf)
   rw[←this];exact⟨hk,h2⟩
  ·exact absurd h1 ((findR_none.1 nost) f hf)
 have hBD:B.D=E:=by rw[hB]
 have hpE:PowD B.D:=by rw[hBD];exact⟨q4.down,q4.left⟩
 have hmay:zcF B.X bootX.kind bootX.id bootX.p.length=0:=by
  have h1:=hlb.evs.2.2;show zag B.X.S _ 1 zcr 0=0
  unfold zag;have hf0:zaF 1 zcr 0=0:=rfl
  rw[hf0,if_neg (by decide),if_pos rfl,if_neg (by omega)]
 have hbt:zi8 B=zbg B bootX.kind bootX.id bootX.p true:=by
  rcases hlb.put hn bootX true (r:=zbg B bootX.kind bootX.id bootX.p true) rfl with ⟨a1,_⟩|⟨_,a2,_⟩|⟨_,_,a3,_⟩
  ·exact absurd hmay a1
  ·unfold zi8;rw[if_neg (by show ¬(zbg B 1 zcr [] true).2=10;have:(zbg B 1 zcr [] true).2=0:=a2;omega)]
  ·exact absurd hpE a3
 refine⟨ld,m,q1,hml,l1,?_⟩;rw[hop,hfin,hbt];rcases hlb.put hn bootX true (r:=zbg B bootX.kind bootX.id bootX.p true) rfl with ⟨a1,_⟩|⟨_,a2,⟨s',a3,_,a5⟩,a6,_⟩|⟨_,_,a3,_⟩
 ·exact absurd hmay a1
 ·have:=a5 rfl;rw[List.length_take,Nat.min_eq_left hml] at this;subst this;refine⟨a2,a3,a6 hpE,fun hh=>?_⟩;have:=q10 fun k f f' h1 h2 h3 h4=>hh _ f f' h3 (by rw[←hsegT k ⟨by omega,by omega⟩];exact h4)
  simpa using this
 ·exact absurd hpE a3
end Go.Proofs.YtpdkkbpkplhdpaaGreat
namespace Go.Proofs.YtpdkkbpkplhdpaaGreat
open Go Go.Vm
attribute [local irreducible] Brn Ob Grow CallsM inR zax zav Mem.row Mem.cells Mem.setCells Mem.upd Go.Vm.Own zaD za5 zbc zaJ New SrcOk subA NewSl Mem.textAt Mem.mapAt Mem.iterAt zau zaj Wr NewEls Elems
set_option maxRecDepth 10000
section
variable {A M M':Mem}
theorem zCA {α:Type} {M0 Z:Mem} {S:Nat→Prop} {E:TypeId} {s bytes:Nat} {a:Option Addr} {n c:Nat} {R:List Value→α→Prop} {l:List α} (h:NewEls M0 E s a n c R l Z) (hZ:Z.le M) (hS1:∀ y,S y→Z y=none) (hS2:∀ y,S y→M y≠none)
  (news:List Value) (x:α) (hx:R news x) (hns:news.length=s) (hv:∀ u∈news,u.oneCell'=true) {k:Option Addr→Nat→Mem→Prop} (h1:(n+1)*bytes≤140737488355328) (h2:n+1≤maxLen)
  (hk:∀ a' c' M',NewEls M0 E s a' (n+1) c' R (l++[x]) (M'.minus S)→Mem.keep (z6 a) M M'→(∀ y,z6 a y→M0 y=none∧¬S y)→k a' c' M'):zaD E s bytes a n c 1 news M k:=by
 unfold NewEls at h;obtain⟨css,s1,l1,m1,u1,r1⟩:=h
 have hblk:∀ y,z6 a y→M0 y=none∧¬S y:=fun y ⟨q,hq,e⟩=>by
  obtain⟨h3,cs,h4⟩:=s1.block hq;rw[e] at h3 h4;refine⟨h3,fun hs=>?_⟩;have:=hS1 y hs
  unfold Mem.has at h4;rw[h4] at this;cases this
 have hm0:M0.le (M.minus (z6 a)):=Mem.le_minus (Mem.le_trans s1.le hZ) fun y hy=>(hblk y hy).1
 refine zge (M.minus (z6 a)) _ (s1.rebase hZ) h1 h2 hv fun a' c' M' hN hkp=>?_
 have hold:∀ y o,Z y=some o→¬z6 a y→(M'.minus S) y=some o:=fun y o hy hny=>by
  unfold Mem.minus;rw[if_neg fun hs=>by rw[hS1 y hs] at hy;cases hy];exact hkp y o hny (hZ y o hy)
 have hN2:NewSl M0 E s a' (n+1) c' (css.flatten++news) (M'.minus S):=by
  obtain⟨w0,w1,w2,w3⟩:=newSl_iff.1 hN;refine newSl_iff.2 ⟨fun y o hy=>?_,w1,w2,w3.imp id fun ⟨b1,cs,ha,hb1,hh,hr⟩=>⟨b1,cs,ha,?_,?_,hr⟩⟩
  ·exact hold y o (s1.le y o hy) fun hbl=>by rw[(hblk y hbl).1] at hy;cases hy
  ·cases e:M0 b1 with
   | none=>rfl
   | some o=>rw[hm0 b1 o e] at hb1;cases hb1
  ·unfold Mem.has at hh ⊢;unfold Mem.minus;rw[if_neg fun hs=>?_]
   ·exact hh
   ·rcases Classical.em (z6 a b1) with hbl|hbl
    ·exact(hblk b1 hbl).2 hs
    ·unfold Mem.minus at hb1;rw[if_neg hbl] at hb1;exact hS2 b1 hs hb1
 refine hk a' c' M' ?_ hkp hblk;unfold NewEls;refine⟨css++[news],by rw[List.flatten_append];simpa using hN2,by simp[l1],by simp[m1],fun cs hcs=>?_,fun i cs y hi hy=>?_⟩
 ·rcases List.mem_append.1 hcs with hcs|hcs
  ·exact u1 cs hcs
  ·simp at hcs;subst hcs;exact hns
 ·by_cases hlt:i<css.length
  ·rw[List.getElem?_append_left hlt] at hi;rw[List.getElem?_append_left (by omega)] at hy;exact r1 i cs y hi hy
  ·rw[List.getElem?_append_right (by omega)] at hi;rw[List.getElem?_append_right (by omega)] at hy;have hi0:=(List.getElem?_eq_some_iff.1 hi).1
   simp at hi0;rw[show i - css.length=0 by omega] at hi;rw[show i - l.length=0 by omega] at hy;simp at hi hy;subst hi;subst hy;exact hx
theorem zDt (limit:Int):CallsM Tryz.prog F.zkN [.int .i64 limit] M fun v M'=>
  ((limit<1∨1048576<limit)∧v = .tuple #[.agg #[.int .i64 0,.slice none 0 0,.int .i64 0,.bool false],.int .i64 1]∧M=M') ∨
  (¬(limit<1∨1048576<limit)∧v = .tuple #[.agg #[.int .i64 limit,.slice none 0 0,.int .i64 (-1),.bool false],.int .i64 0]∧M=M'):=by
 refine zvb (by simp) ?_;(conv=>whnf);refine brn (fun h=>?_) (fun h=>?_)
 ·refine zR ?_;exact .inl ⟨.inl (Zd0 h),rfl,rfl⟩
 ·(conv=>whnf);refine brn (fun h1=>?_) (fun h1=>?_)
  ·refine zR ?_;exact .inl ⟨.inr (Zd0 h1),rfl,rfl⟩
  ·refine zR ?_;exact .inr ⟨by have:=Zd1 h;have:=Zd1 h1;omega,rfl,rfl⟩
theorem zCh (x:zj5):CallsM Tryz.prog F.zia [.agg (zs4 x).toArray] M fun v M'=>v = .agg (zs4 { x with limit:=1048576 }).toArray∧M=M':=by
 refine zsb (by simp) ?_;refine zR ?_;exact⟨rfl,rfl⟩
def okS (x:zj5):Prop:=¬zbr x.me x.qh x.qb x.qg∧16≤x.seg∧x.seg≤1048576
instance (x:zj5):Decidable (okS x):=by unfold okS;infer_instance
theorem zBf (x:zj5):CallsM Tryz.prog F.zic [.agg #[.int .i64 1048576,.slice none 0 0,.int .i64 (-1),.bool false],.int .i64 x.me,.agg #[.int .i64 x.qh,.int .i64 x.qb,.int .i64 x.qg],.int .i64 x.seg] M fun v M'=>v = .int .i64 (if okS x then 0 else 1)∧M=M':=by
 refine zsi (by simp) ?_;refine zR ?_;refine(ztu x.me x.qh x.qb x.qg).mono ?_;rintro v _ (⟨hb,rfl,rfl⟩|⟨hb,rfl,rfl⟩)
 ·refine zR ?_;rw[if_neg fun h=>h.1 hb];exact⟨rfl,rfl⟩
 refine zR ?_;refine brn (fun e=>?_) (fun e=>?_)
 ·have e1:=Zd0 e;refine zR ?_;rw[if_neg fun h=>by have:=h.2.1;omega];exact⟨rfl,rfl⟩
 have e1:=Zd1 e;refine zR ?_;refine brn (fun e=>?_) (fun e=>?_)
 ·have e2:=Zd0 e;refine zR ?_;rw[if_neg fun h=>by have:=h.2.2;omega];exact⟨rfl,rfl⟩
 have e2:=Zd1 e;refine zR ?_;rw[if_pos ⟨hb,by omega,by omega⟩];exact⟨rfl,rfl⟩
theorem zDu (x:zj5):CallsM Tryz.prog F.zkM [.agg (zs4 x).toArray] M fun v M'=>v = .bool (decide (okS x))∧M=M':=by
 refine zu7 (by simp) ?_;refine zR ?_;refine(zDt 1048576).mono ?_;rintro v _ (⟨h, -⟩|⟨-, rfl,rfl⟩)
 ·omega
 refine zR ?_;refine(zBf x).mono ?_;rintro v _ ⟨rfl,rfl⟩;refine zR ?_;refine⟨?_,rfl⟩;by_cases h:okS x
 ·rw[if_pos h,decide_eq_true h];rfl
 ·rw[if_neg h,decide_eq_false h];rfl
end
section
variable {A M M':Mem} {r c p:Nat} {N:Int} {H:CuH} {a:Option Addr} {cc:Nat}
structure zed where
 C:CuR
 evs:List EvX
 safe:Int
def EvL (A:Mem) (cs:List Value) (e:EvX):Prop:=∃ a c,cs=[.int .i64 e.kind,.int .i64 e.id.o,.int .i64 e.id.d,.int .i64 e.id.e,.int .i64 e.id.c,.slice a e.p.length c]∧SrcOk A 1 a e.p.length (e.p.map zl)∧e.p.length≤1048576
def zlk (r c p:Nat) (H:CuH):Nat→Prop:=fun y=>y=r∨cuB c p H y
@[reducible] def zf8 (p c:Nat) (a:Option Addr) (cc:Nat) (R:zed):List Value:=[ptr p,ptr c,.slice a R.evs.length cc,.int .i64 R.safe]
structure RunAt (A M:Mem) (r c p:Nat) (N:Int) (H:CuH) (a:Option Addr) (cc:Nat) (R:zed):Prop where
 cu:CuAt A M c p N H R.C
 self:M.has r T.zK (zf8 p c a cc R)
 rf:A r=none
 rc:¬cuB c p H r
 row:NewEls A T.zhC 6 a R.evs.length cc (EvL A) R.evs (M.minus (zlk r c p H))
variable {R:zed}
theorem RunAt.some (h:RunAt A M r c p N H a cc R) {y:Nat} (hy:zlk r c p H y):M y≠none:=by
 rcases hy with rfl|hy
 ·have:=h.self;unfold Mem.has at this;rw[this];simp
 ·exact h.cu.some hy
theorem CuAt.keepS {C:CuR} (h:CuAt A M c p N H C) {S:Nat→Prop} (hk:Mem.keep S M M') (hS:∀ y,S y→A y=none∧¬cuB c p H y):CuAt A M' c p N H C:=
 ⟨h.st.keepS hk fun y hy=>⟨(hS y hy).1,fun hb=>(hS y hy).2 (.inr (.inl hb))⟩,h.log.keepS hk fun y hy=>⟨(hS y hy).1,fun hb=>(hS y hy).2 (.inr (.inr hb))⟩,hk _ _ (fun e=>(hS c e).2 (.inl rfl)) h.self,h.cf,h.dj,h.cs,h.cl,h.lg,h.nm,h.cm⟩
theorem RunAt.to (h:RunAt A M r c p N H a cc R) (hle:M.le M'):RunAt A M' r c p N H a cc R:=
 ⟨h.cu.to hle,h.self.le hle,h.rf,h.rc,h.row.up fun y o hy=>by
  unfold Mem.minus at hy ⊢;by_cases hb:zlk r c p H y
  ·rw[if_pos hb] at hy;cases hy
  ·rw[if_neg hb] at hy ⊢; exact hle _ _ hy⟩
theorem RunAt.turn (h:RunAt A M r c p N H a cc R) {N':Int} {H':CuH} {C':CuR} (h':CuAt (M.minus (cuB c p H)) M' c p N' H' C'):RunAt A M' r c p N' H' a cc { R with C:=C' }:=by
 have hk:∀ y o,¬cuB c p H y→M y=Option.some o→M' y=Option.some o∧¬cuB c p H' y:=fun y o hy ho=>by
  have h1:(M.minus (cuB c p H)) y=Option.some o:=by unfold Mem.minus;rw[if_neg hy];exact ho
  exact⟨h'.le y o h1,fun hb=>by rw[h'.fresh hb] at h1;cases h1⟩
 obtain⟨h1,h2⟩:=hk r _ h.rc h.self;refine⟨h'.mono h.cu.base.2,h1,h.rf,h2,h.row.up fun y o hy=>?_⟩;unfold Mem.minus at hy ⊢;by_cases hb:zlk r c p H y
 ·rw[if_pos hb] at hy;cases hy
 ·rw[if_neg hb] at hy;obtain⟨h3,h4⟩:=hk y o (fun hc=>hb (.inr hc)) hy;rw[if_neg]
  ·exact h3
  ·rintro (e|e)
   ·exact hb (.inl e)
   ·exact h4 e
theorem RunAt.set (h:RunAt A M r c p N H a cc R) (s:Int):RunAt A (M.setCells r T.zK (zf8 p c a cc { R with safe:=s })) r c p N H a cc { R with safe:=s }:=by
 have hk:Mem.keep (fun y=>y=r) M (M.setCells r T.zK (zf8 p c a cc { R with safe:=s })):=fun y o hy ho=>by
  unfold Mem.setCells;rw[Mem.upd_ne _ _ hy];exact ho
 have hS:∀ y,y=r→A y=none∧¬cuB c p H y:=fun y hy=>hy▸⟨h.rf,h.rc⟩
 refine⟨h.cu.keepS hk hS,Mem.has_setCells,h.rf,h.rc,h.row.up fun y o hy=>?_⟩;unfold Mem.minus at hy ⊢;by_cases hb:zlk r c p H y
 ·rw[if_pos hb] at hy;cases hy
 ·rw[if_neg hb] at hy ⊢;exact hk y o (fun e=>hb (.inl e)) hy
theorem RunAt.put (h:RunAt A M r c p N H a cc R) {M3:Mem} {a3:Option Addr} {c3:Nat} {e:EvX} (hk3:Mem.keep (z6 a) M M3) (hab:∀ y,z6 a y→A y=none∧¬zlk r c p H y) (hN3:NewEls A T.zhC 6 a3 (R.evs.length+1) c3 (EvL A) (R.evs++[e]) (M3.minus (zlk r c p H))) :
  RunAt A (M3.setCells r T.zK [ptr p,ptr c,.slice a3 (R.evs.length+1) c3,.int .i64 R.safe]) r c p N H a3 c3 { R with evs:=R.evs++[e] }:=by
 have h3:=h.cu.keepS hk3 fun y hy=>⟨(hab y hy).1,fun hb=>(hab y hy).2 (.inr hb)⟩
 have hk:Mem.keep (fun y=>y=r) M3 (M3.setCells r T.zK [ptr p,ptr c,.slice a3 (R.evs.length+1) c3,.int .i64 R.safe]):=fun y o hy ho=>by
  unfold Mem.setCells;rw[Mem.upd_ne _ _ hy];exact ho
 have hl:(R.evs++[e]).length=R.evs.length+1:=by simp
 refine⟨h3.keepS hk fun y hy=>hy▸⟨h.rf,h.rc⟩,?_,h.rf,h.rc,?_⟩
 ·unfold zf8;dsimp only;rw[hl];exact Mem.has_setCells
 dsimp only;rw[hl];refine hN3.up fun y o hy=>?_
 unfold Mem.minus at hy ⊢;by_cases hb:zlk r c p H y
 ·rw[if_pos hb] at hy;cases hy
 ·rw[if_neg hb] at hy ⊢;exact hk y o (fun e=>hb (.inl e)) hy
@[reducible] def zfe (x:zj5):Par:=⟨x.me,x.qh,x.qb,x.qg,x.seg⟩
def dsk0:zf:=⟨1048576,[], -1,false⟩
theorem zwI:InvD dsk0:=zv2 (limit:=1048576) (by omega)
theorem zFi (P:Par):RecD P 1 dsk0 [] [] 0:=by
 have hn:∀ f∈dsk0.l,False:=fun f hf=>by cases hf
 exact⟨0,1,⟨zwI,fun f hf=>(hn f hf).elim,SegI.start (by omega) (fun f hf=>(hn f hf).elim) rfl,trivial,.inl ⟨rfl,rfl,fun f hf=>(hn f hf).elim⟩⟩,⟨by decide,by decide,by decide,by decide,rfl⟩⟩
def zCB (x:zj5) (A M:Mem) (v:Value):Prop:=∃ r c p H a cc C,v=ptr r∧RunAt A M r c p 104857600300 H a cc ⟨C,[bootX],1⟩∧LiveI (zfe x) 2 C [] [bootX] 1∧PowD C.D
def zs5:List Value:=[.int .i64 1,.int .i64 0,.int .i64 0,.int .i64 0,.int .i64 0,.slice none 0 0]
set_option maxRecDepth 10000 in
theorem zCi (x:zj5):CallsM Tryz.prog F.zib [.agg (zs4 { x with limit:=1048576 }).toArray] M fun v M'=>(¬okS x∧v = .pointer none∧M.le M')∨(okS x∧zCB x M M' v):=by
 refine zsc (by simp) ?_;refine zR ?_;refine(zEb 1048576).mono ?_;rintro v M1 (⟨h, -⟩|⟨-, p,b,rfl,h1⟩)
 ·omega
 refine zR ?_;by_cases hok:okS x
 ·obtain⟨hb,hs⟩:=hok;obtain⟨ld,m,m1,m2,hL,h0,hl,hp, -⟩:=(zFi (zfe x)).open (by omega) (CutD.refl zwI ⟨rfl,rfl⟩) hb hs;have hm:m=0:=by simpa using m2
  subst hm;refine(zoa (ld:=ld) h1 (fun f hf=>by cases hf) (me:=x.me) (qh:=x.qh) (qb:=x.qb) (qg:=x.qg) (seg:=x.seg) (fun _ _=>hL)).mono ?_;obtain⟨C,hC⟩:∃ C,C=zbF ⟨1048576,[], -1,false⟩ x.me x.qh x.qb x.qg x.seg ld:=⟨_,rfl⟩
  have hC2:zbF dsk0 (zfe x).me (zfe x).qh (zfe x).qb (zfe x).qg (zfe x).seg ld=C:=hC.symm;rw[hC2] at h0 hl hp;rw[←hC];rintro v M2 (⟨h, -⟩|⟨-, c,H,rfl,h2⟩)
  ·exact absurd h0 h
  refine zR ?_;refine new (fun b1 hb1=>?_);replace hb1:M2 b1=none:=hb1;have hle3:M2.le (M2.setCells b1 T.zhC zs5):=Mem.le_setCells hb1
  have hx3:(M2.setCells b1 T.zhC zs5).has b1 T.zhC zs5:=Mem.has_setCells;obtain⟨M3,hM3⟩:∃ M3,M3=M2.setCells b1 T.zhC zs5:=⟨_,rfl⟩
  rw[←hM3] at hle3 hx3;(conv=>whnf)
  erw [←hM3];refine new (fun r hr=>?_);replace hr:M3 r=none:=hr;have hle4:M3.le (M3.setCells r T.zK (zf8 p c (some ⟨b1,0,none⟩) 1 ⟨C.1,[bootX],1⟩)):=Mem.le_setCells hr
  have hx4:(M3.setCells r T.zK (zf8 p c (some ⟨b1,0,none⟩) 1 ⟨C.1,[bootX],1⟩)).has r T.zK (zf8 p c (some ⟨b1,0,none⟩) 1 ⟨C.1,[bootX],1⟩):=Mem.has_setCells;obtain⟨M4,hM4⟩:∃ M4,M4=M3.setCells r T.zK (zf8 p c (some ⟨b1,0,none⟩) 1 ⟨C.1,[bootX],1⟩):=⟨_,rfl⟩
  rw[←hM4] at hle4 hx4
  have fin:zCB x M M4 (ptr r):=by
   have h4:=h2.to (Mem.le_trans hle3 hle4)
   have hnone:∀ y,M3 y=none→M y=none:=fun y hy=>by
    cases e:M y with
    | none=>rfl
    | some o=>rw[hle3 y o (h2.le y o e)] at hy;cases hy
   have hnr:¬cuB c p H r:=fun hb=>(h2.to hle3).some hb hr
   have hnb:¬cuB c p H b1:=fun hb=>h2.some hb hb1
   have hb1r:b1≠r:=fun e=>by
    unfold Mem.has at hx3;rw[e,hr] at hx3;cases hx3
   refine⟨r,c,p,H,some ⟨b1,0,none⟩,1,C.1,rfl,⟨h4,hx4,hnone r hr,hnr,?_⟩,hl,hp⟩;unfold NewEls;refine⟨[zs5],newSl_iff.2 ⟨Mem.le_minus h4.le fun y hy=>?_,rfl,Nat.le_refl _,.inr ⟨b1,zs5,rfl,?_,?_,rfl,rfl⟩⟩,rfl,rfl,(fun cs hcs=>by rw[List.mem_singleton.1 hcs];rfl),fun i cs y hi hy=>?_⟩
   ·rcases hy with rfl|hy
    ·exact hnone _ hr
    ·exact h2.fresh hy
   ·cases e:M b1 with
    | none=>rfl
    | some o=>rw[h2.le b1 o e] at hb1;cases hb1
   ·have:=hx3.le hle4;unfold Mem.has at this ⊢;unfold Mem.minus;rw[if_neg (by rintro (e|e);exact hb1r e;exact hnb e)];exact this
   ·cases i with
    | zero=>
     simp at hi hy;subst hi;subst hy;exact⟨none,0,rfl,SrcOk.nil _ _,by decide⟩
    | succ i=>simp at hi
  (conv=>whnf);erw [←hM4];refine zR ?_;exact .inr ⟨⟨hb,hs⟩,fin⟩
 ·refine(zoa (ld:=none) h1 (fun f hf=>by cases hf) (me:=x.me) (qh:=x.qh) (qb:=x.qb) (qg:=x.qg) (seg:=x.seg) (fun _ _=>rfl)).mono ?_
  have hC:(zbF ⟨1048576,[], -1,false⟩ x.me x.qh x.qb x.qg x.seg none).2=1:=by
   unfold zbF;by_cases hb:zbr x.me x.qh x.qb x.qg
   ·rw[if_pos hb]
   ·rw[if_neg hb,if_pos];by_cases h1:x.seg<16
    ·exact .inl h1
    ·by_cases h2:1048576<x.seg
     ·exact .inr h2
     ·exact absurd ⟨hb,by omega,by omega⟩ hok
  obtain⟨C,hCe⟩:∃ C,C=zbF ⟨1048576,[], -1,false⟩ x.me x.qh x.qb x.qg x.seg none:=⟨_,rfl⟩
  rw[←hCe] at hC ⊢;rintro v M2 (⟨h,rfl, -, db,des,h2⟩|⟨h, -⟩)
  ·rw[hC];refine zR ?_;exact .inl ⟨hok,rfl,h2.le⟩
  ·rw[hC] at h;cases h
end
section
variable {A M M':Mem} {r c p:Nat} {N:Int} {H:CuH} {a:Option Addr} {cc:Nat} {R:zed}
def zfx (l:List (Int×Int)) (d:Int) (acc:Int):Int:=l.foldl (fun n x=>if x.1=d then x.2 else n) acc
theorem zr4:∀ {l:List (Int×Int)} {d acc:Int},(∀ x∈l,x.1≠d)→zfx l d acc=acc
 | [],_,_,_=>rfl
 | x::r,d,acc,h=>by
  show zfx r d (if x.1=d then x.2 else acc)=acc;rw[if_neg (h x (by simp))];exact zr4 fun y hy=>h y (by simp[hy])
theorem zqD (d:Int):∀ (u:List Int) (k:Nat) (acc:Int),zfx (zaB k u) d acc=acc∧(∀ x∈zaB k u,x.1≠d)∨zfx (zaB k u) d acc=zdV (zaB k u) d
 | [],k,acc => .inl ⟨rfl,by simp[zaB]⟩
 | n::r,k,acc=>by
  have hk:=zez r (k+1);unfold zaB;split
  ·show zfx (zaB (k+1) r) d (if (k:Int)=d then n else acc)=acc∧_∨zfx (zaB (k+1) r) d (if (k:Int)=d then n else acc)=if (k:Int)=d then n else zdV (zaB (k+1) r) d
   by_cases h:(k:Int)=d
   ·rw[if_pos h,if_pos h,zr4 fun x hx=>by have:=hk x hx;omega];exact .inr rfl
   ·rw[if_neg h,if_neg h];rcases zqD d r (k+1) acc with ⟨h1,h2⟩|h1
    ·exact .inl ⟨h1,fun x hx=>by
      rcases List.mem_cons.1 hx with rfl|hx
      ·exact h
      ·exact h2 x hx⟩
    ·exact .inr h1
  ·exact zqD d r (k+1) acc
theorem zzI (u:List Int) (d:Int):zfx (zG u) d 0=zdV (zG u) d:=by
 rcases zqD d u 0 0 with ⟨h1,h2⟩|h1
 ·have h3:zfx (zG u) d 0=0:=h1;rw[h3,zrH h2]
 ·exact h1
theorem zwJ (self epoch d:Int) {ua ha ma:Option Addr} {uc hn hc mn mc:Nat} {ul:List (Int×Int)} (hu:SrcOk M 2 ua ul.length (ul.flatMap zeJ)) (hun:ul.length≤4194000) (hr:∀ x∈ul,0≤x.2∧x.2≤65535) :
  CallsM Tryz.prog F.zjs [zhV self epoch ua ul.length uc ha hn hc ma mn mc,.int .i64 d] M fun v M'=>v=idA ⟨self,d,epoch,zfx ul d 0+1⟩∧M=M':=by
 refine ztY (by simp) ?_;(conv=>whnf)
 refine zdc [5,6] (fun (y:Nat×Int)=>[(5,.int .i64 y.2),(6,.int .i64 y.1)]) (fun y=>y.1≤ul.length∧zfx ul d 0=zfx (ul.drop y.1) d y.2∧0≤y.2∧y.2≤65535) (fun y=>ul.length - y.1) (0,0) ⟨by omega,by simp,by decide,by decide⟩ zS ?_;rintro ⟨i,n⟩ ⟨hi,hnx,hn0,hn1⟩;dsimp only at hi hnx hn0 hn1;(conv=>whnf);refine brn (fun g=>?_) (fun g=>?_)
 ·have hlt:i<ul.length:=by have:=Zd0 g;dsimp only at this;omega
  have hx:ul[i]? = some ul[i]:=List.getElem?_eq_getElem hlt;have hxr:=hr _ (List.getElem_mem hlt)
  obtain⟨b1,o1,ha',hcc⟩:=hu.fcells zcD (by decide) hx;rw[List.drop_eq_getElem_cons hlt] at hnx;generalize ul[i]=x at *;replace hnx:zfx ul d 0=zfx (ul.drop (i+1)) d (if x.1=d then x.2 else n):=hnx;(conv=>whnf);refine ob (by first|omega|(dsimp only;omega)) ?_;(conv=>whnf);refine atp ha' ?_;(conv=>whnf);refine on (hcc 0 _ rfl) ?_;(conv=>whnf);refine brn (fun g1=>?_) (fun g1=>?_)
  ·have e1:x.1=d:=Zd0 g1;rw[if_pos e1] at hnx;(conv=>whnf);refine ob (by first|omega|(dsimp only;omega)) ?_;(conv=>whnf);refine atp ha' ?_;(conv=>whnf);refine on (hcc 1 _ rfl) ?_;(conv=>whnf);refine ob (zd (by first|omega|(dsimp only;omega))) ?_;(conv=>whnf)
   exact⟨(i+1,x.2),⟨by dsimp only;omega,hnx,hxr.1,hxr.2⟩,by dsimp only;omega,zS⟩
  ·have e1:¬x.1=d:=Zd1 g1;rw[if_neg e1] at hnx;(conv=>whnf);refine ob (zd (by first|omega|(dsimp only;omega))) ?_;(conv=>whnf)
   exact⟨(i+1,n),⟨by dsimp only;omega,hnx,hn0,hn1⟩,by dsimp only;omega,zS⟩
 ·have hge:ul.length≤i:=by have:=Zd1 g;dsimp only at this;omega
  rw[List.drop_of_length_le hge] at hnx;(conv=>whnf);refine ob (zd (by first|omega|(dsimp only;omega))) ?_;refine zR ?_;exact⟨by rw[hnx];rfl,rfl⟩
def zff (R:zed) (e:EvX) (k:Int) (s:Bool):zed:=if k≠0∧k≠9 then R else { R with evs:=R.evs++[e],safe:=if k=0∧s=true then R.evs.length+1 else R.safe }
theorem zhI (h:RunAt A M r c p N H a cc R) (e:EvX) {a1:Option Addr} {c1:Nat} (hs:SrcOk A 1 a1 e.p.length (e.p.map zl)) (hn:e.p.length≤1048576) (k:Int) (s:Bool) (hl:R.evs.length≤1000) :
  CallsM Tryz.prog F.zdg [ptr r,evV e.kind e.id a1 e.p.length c1,.int .i64 k,.bool s] M fun v M'=>v = .tuple #[]∧∃ a' cc',RunAt A M' r c p N H a' cc' (zff R e k s):=by
 refine zou (by simp) ?_;refine zR ?_;refine brn (fun e0=>?_) (fun e0=>?_)
 ·have e1:k≠0:=by simpa using e0
  refine zR ?_;refine brn (fun e2=>?_) (fun e2=>?_)
  ·have e3:k≠9:=by simpa using e2
   refine zR ?_;rw[zff,if_pos ⟨e1,e3⟩];exact⟨rfl,a,cc,h⟩
  ·have e3:k=9:=by simpa using e2
   subst e3;refine zL (h.self) ?_;refine zCA h.row (Mem.minus_le _ _) (fun y hy=>Mem.minus_in hy) (fun y hy=>h.some hy) [.int .i64 e.kind,.int .i64 e.id.o,.int .i64 e.id.d,.int .i64 e.id.e,.int .i64 e.id.c,.slice a1 e.p.length c1] e ⟨a1,c1,rfl,hs,hn⟩ rfl (by simp[Value.oneCell']) (by omega) (by simp[maxLen];omega) fun a3 c3 M3 hN3 hk3 hab=>?_
   have hs3:M3.has r T.zK (zf8 p c a cc R):=hk3 _ _ (fun hb=>(hab r hb).2 (.inl rfl)) h.self;have h4:=h.put hk3 hab hN3
   have h4s:(M3.setCells r T.zK [ptr p,ptr c,.slice a3 (R.evs.length+1) c3,.int .i64 R.safe]).has r T.zK [ptr p,ptr c,.slice a3 (R.evs.length+1) c3,.int .i64 R.safe]:=Mem.has_setCells;refine zL (hs3) ?_;refine on hs3.cells ?_;(conv=>whnf);refine ob (by simp) ?_;obtain⟨M4,hM4⟩:∃ M4,M4=M3.setCells r T.zK [ptr p,ptr c,.slice a3 (R.evs.length+1) c3,.int .i64 R.safe]:=⟨_,rfl⟩
   rw[←hM4] at h4 h4s;(conv=>whnf)
   erw [←hM4];refine zR ?_;refine⟨rfl,a3,c3,?_⟩;have:zff R e 9 s={ R with evs:=R.evs++[e] }:=rfl
   rw[this];exact h4
 ·have e1:k=0:=by simpa using e0
  subst e1;refine zL (h.self) ?_;refine zCA h.row (Mem.minus_le _ _) (fun y hy=>Mem.minus_in hy) (fun y hy=>h.some hy) [.int .i64 e.kind,.int .i64 e.id.o,.int .i64 e.id.d,.int .i64 e.id.e,.int .i64 e.id.c,.slice a1 e.p.length c1] e ⟨a1,c1,rfl,hs,hn⟩ rfl (by simp[Value.oneCell']) (by omega) (by simp[maxLen];omega) fun a3 c3 M3 hN3 hk3 hab=>?_
  have hs3:M3.has r T.zK (zf8 p c a cc R):=hk3 _ _ (fun hb=>(hab r hb).2 (.inl rfl)) h.self;have h4:=h.put hk3 hab hN3
  have h4s:(M3.setCells r T.zK [ptr p,ptr c,.slice a3 (R.evs.length+1) c3,.int .i64 R.safe]).has r T.zK [ptr p,ptr c,.slice a3 (R.evs.length+1) c3,.int .i64 R.safe]:=Mem.has_setCells;refine zL (hs3) ?_;refine on hs3.cells ?_;(conv=>whnf);refine ob (by simp) ?_;obtain⟨M4,hM4⟩:∃ M4,M4=M3.setCells r T.zK [ptr p,ptr c,.slice a3 (R.evs.length+1) c3,.int .i64 R.safe]:=⟨_,rfl⟩
  rw[←hM4] at h4 h4s;(conv=>whnf)
  erw [←hM4];cases s
  ·refine zR ?_;refine⟨rfl,a3,c3,?_⟩;have:zff R e 0 false={ R with evs:=R.evs++[e] }:=rfl
   rw[this];exact h4
  ·refine zL (h4s) ?_;refine on h4s.cells ?_;(conv=>whnf);refine ob (by simp) ?_;refine zR ?_;refine⟨rfl,a3,c3,?_⟩;have h5:=h4.set ((R.evs.length+1:Nat):Int)
   have e5:zff R e 0 true={ R with evs:=R.evs++[e],safe:=((R.evs.length+1:Nat):Int) }:=rfl;rw[e5]
   have e6:(M4.setCells r T.zK (zf8 p c a3 c3 { R with evs:=R.evs++[e],safe:=((R.evs.length+1:Nat):Int) }))=M4.setCells r T.zK [ptr p,ptr c,.slice a3 (R.evs.length+1) c3,.int .i64 ((R.evs.length+1:Nat):Int)]:=by
    unfold zf8;dsimp only;rw[show (R.evs++[e]).length=R.evs.length+1 by simp]
   rw[e6] at h5;exact h5
end
section
variable {A M M':Mem} {r c p:Nat} {N:Int} {H:CuH} {a:Option Addr} {cc:Nat} {R:zed}
def zon (X:StW) (d:Int):IdT:=⟨X.S.self,d,X.S.epoch,zfx (zG X.S.used) d 0+1⟩
def zhJ (R:zed) (x:ziu):zed:=zff { R with C:=(zct R.C x.n x.p).1 } ⟨2,if (zct R.C x.n x.p).2.2=9 then zon R.C.X x.n else (zct R.C x.n x.p).2.1,x.p⟩ (zct R.C x.n x.p).2.2 true
def zgI (R:zed) (k:Int) (i:IdT) (q:List UInt8) (s:Bool):zed:=zff { R with C:=(zbg R.C k i q s).1 } ⟨k,i,q⟩ (zbg R.C k i q s).2 s
def ziv (R:zed):zed:={ R with C:=(zcZ R.C).1,safe:=if (zcZ R.C).2=0 then (R.evs.length:Int) else R.safe }
def zCC (R:zed) (k:Int):zed:={ R with C:={ R.C with D:=(zgg R.C.D k).1 } }
def zfg (R:zed) (x:ziu):zed:=
 if x.kind=0 then zhJ R x else if x.kind=1 then zgI R 2 x.id x.p true else if x.kind=2 then zgI R 3 x.id [] false else if x.kind=3 then zgI R 4 x.id [] true
 else if x.kind=4 then ziv R else if x.kind=5 then zCC R x.n else R
theorem RunAt.more {N':Int} (h:RunAt A M r c p N H a cc R) (hN:N≤N'):RunAt A M r c p N' H a cc R:=⟨h.cu.more hN,h.self,h.rf,h.rc,h.row⟩
theorem zob:∀ (u:List Int) (k:Nat) (x:Int×Int),x∈zaB k u→x.2∈u
 | [],k,x,h=>by cases h
 | n::r,k,x,h=>by
  unfold zaB at h;split at h
  ·rcases List.mem_cons.1 h with rfl|h
   ·simp
   ·exact List.mem_cons_of_mem _ (zob r (k+1) x h)
  ·exact List.mem_cons_of_mem _ (zob r (k+1) x h)
structure XAt (A:Mem) (x:ziu) (a1:Option Addr) (a2:Option Addr) (n2:Nat):Prop where
 p:SrcOk A 1 a1 x.p.length (x.p.map zl)
 pl:x.p.length≤1048576
 k:SrcOk A 1 a2 n2 (x.keep.map zaa)
 kl:n2≤1048576
 n : -9223372036854775808≤x.n∧x.n≤9223372036854775807
set_option maxHeartbeats 1000000 in
set_option maxRecDepth 10000 in
theorem zEt (h:RunAt A M r c p N H a cc R) (hN:N≤4611686018427387904) {x:ziu} {a1 a2:Option Addr} {c1 n2 c2:Nat} (hx:XAt A x a1 a2 n2) (hl:R.evs.length≤1000) (hm:R.C.X.sn.length≤65535) :
  CallsM Tryz.prog F.zg1 [ptr r,.agg (zB9 x a1 c1 a2 n2 c2).toArray] M fun v M'=>v = .tuple #[]∧∃ H' a' cc',RunAt A M' r c p (N+1) H' a' cc' (zfg R x):=by
 refine zpH (by simp) ?_;have hb:=h.cu.base
 have hrx:(M.minus (cuB c p H)).has r T.zK (zf8 p c a cc R):=h.self.minus h.rc;refine zR ?_;refine brn (fun e0=>?_) (fun e0=>?_)
 ·have e1:x.kind=0:=Zd0 e0;have hact:zfg R x=zhJ R x:=by unfold zfg;rw[if_pos e1]
  rw[hact];refine zL (h.self) ?_;refine(zs3 h.cu hN (by omega)).mono ?_;rintro v M1 ⟨hle1,hS⟩;obtain⟨ua,uc,ha,hc,ms,ma,mc,mk,rfl,hSt,hBig, -, -, hNu, -, -⟩:=hS.ex;have h1:=h.to hle1
  have hb1:=h1.cu.base;have hnx:SrcOk (M1.minus (cuB c p H)) 2 ua (zG R.C.X.S.used).length ((zG R.C.X.S.used).flatMap zeJ):=hNu.src.minus fun q hq hbb=>h.cu.some hbb (hNu.block hq).1
  have hI:=h.cu.st.st.inv;obtain⟨r0,hr0⟩:∃ r0,r0=zct R.C x.n x.p:=⟨_,rfl⟩
  have hsub:zhJ R x=zff { R with C:=r0.1 } ⟨2,if r0.2.2=9 then zon R.C.X x.n else r0.2.1,x.p⟩ r0.2.2 true:=by unfold zhJ;rw[hr0]
  have hrg:∀ y∈zG R.C.X.S.used,0≤y.2∧y.2≤65535:=fun y hy=>hI.used _ (zob _ _ _ hy)
  refine zL (h1.self) ?_;(conv=>whnf);refine⟨?_,?_,True.intro⟩
  ·(conv=>whnf);refine(zqB hb1.1 hN x.n (hx.p.le hb1.2) hx.pl).mono ?_;rw[←hr0];rintro v M2 ⟨H2,rfl,h2⟩;have h3:=h1.turn h2
   refine zR ?_;(conv=>whnf)
   refine brn (fun g=>?_) (fun g=>?_)
   ·have e9:r0.2.2=9:=Zd0 g;rw[if_pos e9] at hsub;refine zR ?_;refine(zwJ R.C.X.S.self R.C.X.S.epoch x.n (hnx.le h2.le) (by have:=hSt.short;omega) hrg).mono ?_;rintro v _ ⟨rfl,rfl⟩;refine zR ?_;refine(zhI h3 ⟨2,zon R.C.X x.n,x.p⟩ hx.p hx.pl r0.2.2 true hl).mono ?_;rintro v M3 ⟨rfl,a3,cc3,h4⟩;refine zR ?_;exact⟨rfl,_,_,_,by rw[hsub];exact h4⟩
   ·have e9:¬r0.2.2=9:=Zd1 g;rw[if_neg e9] at hsub;refine zR ?_;refine(zhI h3 ⟨2,r0.2.1,x.p⟩ hx.p hx.pl r0.2.2 true hl).mono ?_;rintro v M3 ⟨rfl,a3,cc3,h4⟩;refine zR ?_;exact⟨rfl,_,_,_,by rw[hsub];exact h4⟩
  ·refine zR ?_;refine(zqB hb1.1 hN x.n (hx.p.le hb1.2) hx.pl).mono ?_;rw[←hr0];rintro v M2 ⟨H2,rfl,h2⟩;have h3:=h1.turn h2
   refine zR ?_;(conv=>whnf)
   refine brn (fun g=>?_) (fun g=>?_)
   ·have e9:r0.2.2=9:=Zd0 g;rw[if_pos e9] at hsub;refine zR ?_;refine(zwJ R.C.X.S.self R.C.X.S.epoch x.n (hnx.le h2.le) (by have:=hSt.short;omega) hrg).mono ?_;rintro v _ ⟨rfl,rfl⟩;refine zR ?_;refine(zhI h3 ⟨2,zon R.C.X x.n,x.p⟩ hx.p hx.pl r0.2.2 true hl).mono ?_;rintro v M3 ⟨rfl,a3,cc3,h4⟩;refine zR ?_;exact⟨rfl,_,_,_,by rw[hsub];exact h4⟩
   ·have e9:¬r0.2.2=9:=Zd1 g;rw[if_neg e9] at hsub;refine zR ?_;refine(zhI h3 ⟨2,r0.2.1,x.p⟩ hx.p hx.pl r0.2.2 true hl).mono ?_;rintro v M3 ⟨rfl,a3,cc3,h4⟩;refine zR ?_;exact⟨rfl,_,_,_,by rw[hsub];exact h4⟩
 have k0:¬x.kind=0:=Zd1 e0;refine zR ?_;refine brn (fun e0=>?_) (fun e0=>?_)
 ·have e1:x.kind=1:=Zd0 e0;have hact:zfg R x=zgI R 2 x.id x.p true:=by unfold zfg;rw[if_neg k0,if_pos e1]
  rw[hact];refine zX ?_;refine⟨M.minus (cuB c p H),Mem.minus_le _ _,?_⟩;refine zX ?_;(conv=>whnf);refine on (hrx.c1 rfl) ?_;refine zX ?_;refine(zEk hb.1 hN x.id (hx.p.le hb.2) hx.pl).mono ?_;rintro v M1 ⟨H1,rfl,h1⟩;(conv=>whnf);refine ob rfl ?_;(conv=>whnf);refine grow_same h1.le ?_;refine zR ?_;refine(zhI (h.turn h1) ⟨2,x.id,x.p⟩ hx.p hx.pl (zbg R.C 2 x.id x.p true).2 true hl).mono ?_;rintro v M2 ⟨rfl,a3,cc3,h2⟩;refine zR ?_;exact⟨rfl,_,_,_,h2⟩
 have k1:¬x.kind=1:=Zd1 e0;refine zR ?_;refine brn (fun e0=>?_) (fun e0=>?_)
 ·have e1:x.kind=2:=Zd0 e0;have hact:zfg R x=zgI R 3 x.id [] false:=by unfold zfg;rw[if_neg k0,if_neg k1,if_pos e1]
  rw[hact];refine zX ?_;refine⟨M.minus (cuB c p H),Mem.minus_le _ _,?_⟩;refine zX ?_;(conv=>whnf);refine on (hrx.c1 rfl) ?_;refine zX ?_;refine(zAU hb.1 hN x.id).mono ?_;rintro v M1 ⟨H1,rfl,h1⟩;(conv=>whnf);refine ob rfl ?_;(conv=>whnf);refine grow_same h1.le ?_;refine zR ?_;refine(zhI (h.turn h1) ⟨3,x.id,[]⟩ (a1:=none) (c1:=0) (SrcOk.nil _ _) (by show (0:Nat)≤_;decide) (zbg R.C 3 x.id [] false).2 false hl).mono ?_;rintro v M2 ⟨rfl,a3,cc3,h2⟩;refine zR ?_;exact⟨rfl,_,_,_,h2⟩
 have k2:¬x.kind=2:=Zd1 e0;refine zR ?_;refine brn (fun e0=>?_) (fun e0=>?_)
 ·have e1:x.kind=3:=Zd0 e0;have hact:zfg R x=zgI R 4 x.id [] true:=by unfold zfg;rw[if_neg k0,if_neg k1,if_neg k2,if_pos e1]
  rw[hact];refine zX ?_;refine⟨M.minus (cuB c p H),Mem.minus_le _ _,?_⟩;refine zX ?_;(conv=>whnf);refine on (hrx.c1 rfl) ?_;refine zX ?_;refine(zAV hb.1 hN x.id).mono ?_;rintro v M1 ⟨H1,rfl,h1⟩;(conv=>whnf);refine ob rfl ?_;(conv=>whnf);refine grow_same h1.le ?_;refine zR ?_;refine(zhI (h.turn h1) ⟨4,x.id,[]⟩ (a1:=none) (c1:=0) (SrcOk.nil _ _) (by show (0:Nat)≤_;decide) (zbg R.C 4 x.id [] true).2 true hl).mono ?_;rintro v M2 ⟨rfl,a3,cc3,h2⟩;refine zR ?_;exact⟨rfl,_,_,_,h2⟩
 have k3:¬x.kind=3:=Zd1 e0;refine zR ?_;refine brn (fun e0=>?_) (fun e0=>?_)
 ·have e1:x.kind=4:=Zd0 e0;have hact:zfg R x=ziv R:=by unfold zfg;rw[if_neg k0,if_neg k1,if_neg k2,if_neg k3,if_pos e1]
  rw[hact];unfold ziv;refine zL (h.self) ?_;refine(zAY hb.1 hN hm).mono ?_;rintro v M1 ⟨es1,rfl,h1⟩;have h2:=(h.turn h1).more (N':=N+1) (by omega)
  refine zR ?_;refine brn (fun e0=>?_) (fun e0=>?_)
  ·have e2:(zcZ R.C).2=0:=Zd0 e0;rw[if_pos e2];refine zL (h2.self) ?_;refine on h2.self.cells ?_;(conv=>whnf);refine ob (by simp) ?_;refine zR ?_;exact⟨rfl,_,_,_,h2.set (R.evs.length:Int)⟩
  ·have e2:¬(zcZ R.C).2=0:=Zd1 e0;rw[if_neg e2];refine zR ?_;exact⟨rfl,_,_,_,h2⟩
 have k4:¬x.kind=4:=Zd1 e0;refine zR ?_;refine brn (fun e0=>?_) (fun e0=>?_)
 ·have e1:x.kind=5:=Zd0 e0;have hact:zfg R x=zCC R x.n:=by unfold zfg;rw[if_neg k0,if_neg k1,if_neg k2,if_neg k3,if_neg k4,if_pos e1]
  rw[hact];refine zL (h.self) ?_;refine(zE6 hb.1.disk.base.1 hx.n.2).mono ?_;rintro v M1 ⟨es1,rfl,h1⟩
  have hnm:NamesC (zgg R.C.D x.n).1:=by
   have:=h.cu.nm;unfold zgg;split
   ·exact this
   ·exact this
  have h2:=(h.turn (hb.1.turnD h1 hnm)).more (N':=N+1) (by omega);refine zR ?_;exact⟨rfl,_,_,_,h2⟩
 ·have k5:¬x.kind=5:=Zd1 e0;have hact:zfg R x=R:=by unfold zfg;rw[if_neg k0,if_neg k1,if_neg k2,if_neg k3,if_neg k4,if_neg k5]
  rw[hact];refine zR ?_;exact⟨rfl,_,_,_,h.more (by omega)⟩
end
end Go.Proofs.YtpdkkbpkplhdpaaGreat
