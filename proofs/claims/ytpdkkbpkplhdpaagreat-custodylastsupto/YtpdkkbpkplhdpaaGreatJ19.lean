/- Part of this proof;laid by program. -/
import Derived.Test.YtpdkkbpkplhdpaaGreatJ17
import Derived.Test.YtpdkkbpkplhdpaaGreatJ18
set_option linter.unusedVariables false
set_option linter.unusedSimpArgs false
namespace Go.Proofs.YtpdkkbpkplhdpaaGreat
open Go Go.Vm
attribute [local irreducible] Brn Ob Grow CallsM inR zax zav Mem.row Mem.cells Mem.setCells Mem.upd Go.Vm.Own zaD za5 zbc zaJ New SrcOk subA NewSl Mem.textAt Mem.mapAt Mem.iterAt zau zaj Wr NewEls Elems
set_option maxRecDepth 10000
variable {M:Mem}
def zdU (m:Mk) (c:Int):Mk:=if m.more=[]∧c=m.up+1 then ⟨m.o,m.e,m.up+1,[]⟩ else ⟨m.o,m.e,m.up,m.more++[c]⟩
def zkx (l:List Mk) (k:K):List Mk:=
 match l.getLast? with
 | some m=>if m.o=k.o∧m.e=k.e then l.dropLast++[zdU m k.c] else l++[zdU ⟨k.o,k.e,0,[]⟩ k.c]
 | none=>[zdU ⟨k.o,k.e,0,[]⟩ k.c]
def zb7 (L:List K):List Mk:=L.foldl zkx []
structure MarksW (M0:Mem) (a:Option Addr) (c:Nat) (l:List MkC) (M':Mem):Prop where
 row:NewSl M0 T.za2 4 a l.length c (l.flatMap zhF) M'
 more:∀ m∈l,NewSl M0 T.zr 1 m.a m.more.length m.c (m.more.map zaa) M'
 apart:l.Pairwise fun x y=>∀ z,z6 x.a z→¬z6 y.a z
theorem MarksW.snoc {M0 M1 M2:Mem} {a a':Option Addr} {c c':Nat} {l:List MkC} (h:MarksW M0 a c l M1) (o e:Int) (hN:NewSl M0 T.za2 4 a' (l.length+1) c' ((l++[(⟨o,e,0,none,0,[]⟩:MkC)]).flatMap zhF) M2) (hk:Mem.keep (z6 a) M1 M2):MarksW M0 a' c' (l++[(⟨o,e,0,none,0,[]⟩:MkC)]) M2:=by
 have hfr:∀ y,z6 a y→M0 y=none:=fun y ⟨q,hq,e⟩=>e▸(h.row.block hq).1
 refine⟨by simpa using hN,fun m hm=>?_,?_⟩
 ·rcases List.mem_append.1 hm with hm|hm
  ·exact(h.more m hm).keep hk hfr fun q hq ⟨q',hq',e⟩=>h.row.ne (h.more m hm) (by decide) hq' hq e
  ·simp only[List.mem_singleton] at hm;subst hm;exact(NewSl.none M0 _ _).up hN.le
 ·rw[List.pairwise_append];refine⟨h.apart,by simp,fun x _ y hy z _ ⟨q,hq,_⟩=>?_⟩;simp only[List.mem_singleton] at hy;subst hy;cases hq
theorem zdG {α:Type} (u:List α) (m m':α):(u++[m]).set u.length m'=u++[m']:=by
 rw[List.set_append_right _ _ (Nat.le_refl _)];simp
theorem MarksW.turn {M0 M1 M2:Mem} {a a':Option Addr} {c c':Nat} {u:List MkC} {m m':MkC} (h:MarksW M0 a c (u++[m]) M1) (hr:NewSl M0 T.za2 4 a' (u.length+1) c' ((u++[m']).flatMap zhF) M2) (hm:NewSl M0 T.zr 1 m'.a m'.more.length m'.c (m'.more.map zaa) M2)
  (hk:∀ x∈u,∀ q o,x.a=some q→M1 q.block=some o→M2 q.block=some o) (hap:∀ z,z6 m'.a z→z6 m.a z∨M1 z=none):MarksW M0 a' c' (u++[m']) M2:=by
 have hp:=List.pairwise_append.1 h.apart;refine⟨by simpa using hr,fun x hx=>?_,?_⟩
 ·rcases List.mem_append.1 hx with hx|hx
  ·have h1:=h.more x (by simp[hx]);rw[newSl_iff] at h1 ⊢;obtain⟨-, h2,h3,h4⟩:=h1;refine⟨hr.le,h2,h3,h4.imp id fun ⟨b,cs,e1,e2,e3,e4⟩=>⟨b,cs,e1,e2,hk x hx _ _ e1 e3,e4⟩⟩
  ·simp only[List.mem_singleton] at hx;subst hx;exact hm
 ·rw[List.pairwise_append];refine⟨hp.1,by simp,fun x hx y hy z hz hz'=>?_⟩;simp only[List.mem_singleton] at hy;subst hy;rcases hap z hz' with h1|h1
  ·exact hp.2.2 x hx m (by simp) z hz h1
  ·obtain⟨q,hq,e⟩:=hz;obtain⟨_,cs,hh⟩:=(h.more x (by simp[hx])).block hq;unfold Mem.has at hh;rw[e,h1] at hh;cases hh
theorem znZ {a:Option Addr} {n c:Nat} {L:List K} (hs:SrcOk M 3 a n (L.flatMap zfF)) (hn:n≤4194000) (room:Int) :
  CallsM Tryz.prog F.zfi [zmi room a n c] M fun v M'=>∃ a' c' l,v = .slice a' l.length c'∧MarksW M a' c' l M'∧l.map MkC.mk'=zb7 L∧l.length≤n∧∀ m∈l,(0≤m.up∧m.up≤n)∧m.more.length≤n:=by
 refine zsl (by simp) ?_;have hl:=hs.flen zhE (by decide)
 (conv=>whnf);refine new (fun b9 hb9=>?_);replace hb9:M b9=none:=hb9;have hN:NewSl M T.za2 4 (some ⟨b9,0,none⟩) 0 0 (([]:List MkC).flatMap zhF) _:=NewSl.lit hb9 T.za2 4 0 [] rfl
 obtain⟨M3,hM3⟩:∃ M3,M3=M.setCells b9 T.za2 []:=⟨_,rfl⟩
 rw[←hM3] at hN;(conv=>whnf)
 erw [←hM3]
 refine za6 (σ:=Nat×Mem×Option Addr×Nat×List MkC) [4,3] (fun y=>[(4,.int .i64 y.1),(3,.slice y.2.2.1 y.2.2.2.2.length y.2.2.2.1)]) (fun _=>[.live T.zno [.v (.int .i64 room),.v (.slice a n c)],.gone b9]) (fun y=>y.2.1)
  (fun|⟨i,M4,a4,c4,l⟩=>i≤n∧MarksW M a4 c4 l M4∧l.map MkC.mk'=zb7 (L.take i)∧l.length≤i∧∀ m∈l,(0≤m.up∧m.up≤i)∧m.more.length≤i) (fun y=>n - y.1) ⟨0,M3,_,_,[]⟩ ⟨by omega,⟨hN,by simp,by simp⟩,by simp[zb7],by simp,by simp⟩ zS ?_
 rintro ⟨i,M4,a4,c4,l⟩ ⟨hi,hW,hfold,hll,hfew⟩;(conv=>whnf);refine brn (fun g=>?_) (fun g=>?_)
 ·have hlt:i<n:=by have:=Zd0 g;dsimp only at this;omega
  have hx:L[i]? = some (L[i]'(by omega)):=List.getElem?_eq_getElem (by omega)
  have htk:zb7 (L.take (i+1))=zkx (zb7 (L.take i)) (L[i]'(by omega)):=by
   unfold zb7;rw[List.take_add_one,hx,List.foldl_append];rfl
  generalize L[i]'(by omega)=x at *;obtain⟨b1,o1,rfl,hrow⟩:=(hs.le hW.row.le).fall zhE (by decide) hx;(conv=>whnf);refine ob (by first|omega|(dsimp only;omega)) ?_;(conv=>whnf);refine on hrow ?_;(conv=>whnf);refine ob (zd (by first|omega|(dsimp only;omega))) ?_;refine zR ?_;refine brn (fun g1=>?_) (fun g1=>?_)
  ·have hl0:l=[]:=List.eq_nil_of_length_eq_zero (by have:=Zd0 g1;dsimp only at this;omega);have hnew:∀ k,k=x→zkx (l.map MkC.mk') k=l.map MkC.mk'++[zdU (MkC.mk' ⟨x.o,x.e,0,none,0,[]⟩) x.c]:=fun k e=>by subst e;subst hl0;rfl
   refine zR ?_;refine zdS M hW.row ⟨x.o,x.e,0,none,0,[]⟩ rfl (by first|omega|(dsimp only;omega)) (by simp[maxLen]<;>omega) (by simp[Value.oneCell']) fun aW cW MW hN6 hk6=>?_
   have hW1:=hW.snoc x.o x.e hN6 hk6;(conv=>whnf);refine ob (zd (by first|omega|(dsimp only;omega))) ?_;(conv=>whnf)
   erw [show ((l.length:Int) - 1+1)=((l.length:Nat):Int) from by omega];obtain⟨m,hm⟩:∃ m:MkC,m=⟨x.o,x.e,0,none,0,[]⟩:=⟨_,rfl⟩
   have hmo:m.o=x.o∧m.e=x.e∧0≤m.up∧m.up≤i∧m.more.length≤i:=by rw[hm];exact⟨rfl,rfl,by simp,by simp,by simp⟩
   rw[←hm] at hW1
   have hval:∀ m':MkC,m'.mk'=zdU m.mk' x.c→(l++[m']).map MkC.mk'=zb7 (L.take (i+1)):=fun m' e=>by
    rw[htk,←hfold,List.map_append,List.map_cons,e,hm];exact(hnew _ rfl).symm
   clear hnew hl0;obtain⟨u,rfl⟩:∃ u,u=l:=⟨_,rfl⟩
   have hfewu:∀ m∈u,(0≤m.up∧m.up≤i)∧m.more.length≤i:=hfew;have hlu:u.length≤i:=hll
   have hlast:(u++[m])[u.length]? = some m:=by simp
   obtain⟨bb,oo,hab,hcc⟩:=hW1.row.src.fcells zaS (by decide) hlast;have hlen1:(u++[m]).length=u.length+1:=by simp
   have hmm:=hW1.more m (by simp);have hfr:∀ y,z6 aW y→M y=none:=fun y ⟨q,hq,e⟩=>e▸(hW1.row.block hq).1
   have hneb:∀ z∈u++[m],∀ q,z.a=some q→¬z6 aW q.block:=fun z hz q hq ⟨q',hq',e⟩=>hW1.row.ne (hW1.more z hz) (by decide) hq' hq e
   (conv=>whnf);refine ob (by dsimp only;omega) ?_;(conv=>whnf);refine atp hab ?_;(conv=>whnf);refine on (hcc 3 _ rfl) ?_;(conv=>whnf);refine brn (fun k1=>?_) (fun k1=>?_)
   ·have hm0:m.more=[]:=List.eq_nil_of_length_eq_zero (by have:=Zd0 k1;omega);refine zR ?_;refine ob (by dsimp only;omega) ?_;(conv=>whnf);refine atp hab ?_;(conv=>whnf);refine on (hcc 2 _ rfl) ?_;(conv=>whnf);refine ob (zd (by omega)) ?_;refine zR ?_;refine brn (fun k2=>?_) (fun k2=>?_)
    ·have hc2:x.c=m.up+1:=Zd0 k2;obtain⟨b2,cs2,ha2,hcells,hle2,hst⟩:=hW1.row.fstore zaS hlast (p:=2) (by decide);obtain⟨hN7,hk7⟩:=hst ⟨m.o,m.e,m.up+1,m.a,m.c,m.more⟩ (.int .i64 (m.up+1)) rfl;rw[zdG,hlen1] at hN7;(conv=>whnf)
     refine ob (by dsimp only;omega) ?_;(conv=>whnf);refine atp hab ?_;(conv=>whnf);refine on (hcc 2 _ rfl) ?_;(conv=>whnf);refine ob (zd (by omega)) ?_;(conv=>whnf);refine ob (by dsimp only;omega) ?_;(conv=>whnf);refine atp ha2 ?_;(conv=>whnf);refine on hcells ?_;(conv=>whnf);refine ob hle2 ?_;obtain⟨M7,hM7⟩:∃ M7,M7=MW.setCells b2 T.za2 (ze cs2 (0+u.length*4+2) [.int .i64 (m.up+1)]):=⟨_,rfl⟩
     rw[←hM7] at hN7 hk7;(conv=>whnf)
     erw [←hM7];(conv=>whnf)
     refine ob (zd (by first|omega|(dsimp only;omega))) ?_;(conv=>whnf)
     refine⟨⟨i+1,M7,aW,cW,u++[⟨m.o,m.e,m.up+1,m.a,m.c,m.more⟩]⟩,⟨by omega,hW1.turn hN7 (hmm.keep hk7 hfr (hneb m (by simp))) (fun z hz q o hq ho=>hk7 _ _ (hneb z (by simp[hz]) q hq) ho) (fun z hz => .inl hz),hval _ (by simp[MkC.mk',zdU,hm0,hc2]),by simp;omega,fun z hz=>?_⟩,by dsimp only;omega,?_⟩
     ·rcases List.mem_append.1 hz with h9|h9
      ·have:=hfewu z h9;omega
      ·simp only[List.mem_singleton] at h9;subst h9;dsimp only;omega
     ·simp only[List.length_append,List.length_cons,List.length_nil];exact zS
    ·have hc2:¬(m.more=[]∧x.c=m.up+1):=fun e=>Zd1 k2 e.2
     refine zR ?_;refine ob (by dsimp only;omega) ?_;(conv=>whnf);refine atp hab ?_;(conv=>whnf);refine on (hcc 3 _ rfl) ?_;refine zR ?_;refine zge (MW.minus (z6 m.a)) _ (hmm.rebase2 (Mem.le_refl _) (fun _ h=>h)) (by omega) (by simp[maxLen]<;>omega) (by simp[Value.oneCell']) fun a7 c7 M7 hN7 hk7=>?_
     have hfm:∀ y,z6 m.a y→M y=none:=fun y ⟨q,hq,e⟩=>e▸(hmm.block hq).1
     have hrow7:=hW1.row.keep hk7 hfm fun q hq ⟨q',hq',e⟩=>hW1.row.ne hmm (by decide) hq hq' e.symm
     have hN7':NewSl M T.zr 1 a7 (m.more.length+1) c7 ((m.more++[x.c]).map zaa) M7:=by
      have:=hN7.mono (Mem.le_minus hW1.row.le hfm);simpa using this
     obtain⟨b2,cs2,ha2,hcells,hle2,hst⟩:=hrow7.fstore zaS hlast (p:=3) (by decide);obtain⟨hN8,hk8⟩:=hst ⟨m.o,m.e,m.up,a7,c7,m.more++[x.c]⟩ (.slice a7 (m.more.length+1) c7) (by simp);rw[zdG,hlen1] at hN8;refine zR ?_;refine ob (by dsimp only;omega) ?_;(conv=>whnf);refine atp ha2 ?_;refine zR ?_;refine on hcells ?_;(conv=>whnf);refine ob hle2 ?_;obtain⟨M8,hM8⟩:∃ M8,M8=M7.setCells b2 T.za2 (ze cs2 (0+u.length*4+3) [.slice a7 (m.more.length+1) c7]):=⟨_,rfl⟩
     rw[←hM8] at hN8 hk8;(conv=>whnf)
     erw [←hM8];refine zR ?_;refine ob (zd (by first|omega|(dsimp only;omega))) ?_;(conv=>whnf)
     have hap:=(List.pairwise_append.1 hW1.apart).2.2;have hl7:(m.more++[x.c]).length=m.more.length+1:=by simp
     refine⟨⟨i+1,M8,aW,cW,u++[⟨m.o,m.e,m.up,a7,c7,m.more++[x.c]⟩]⟩,⟨by omega,hW1.turn hN8 ?_ (fun z hz q o hq ho=>hk8 _ _ (hneb z (by simp[hz]) q hq) (hk7 _ _ (fun hb=>hap z hz m (by simp) _ ⟨q,hq,rfl⟩ hb) ho)) (fun z hz=>?_),hval _ ?_,by simp;omega,fun z hz=>?_⟩,by dsimp only;omega,?_⟩
     ·rw[hl7];exact hN7'.keep hk8 hfr fun q hq ⟨q',hq',e⟩=>hrow7.ne hN7' (by decide) hq' hq e
     ·obtain⟨q,hq,e⟩:=hz;have:=(hN7.block hq).1
      rw[e] at this;exact Mem.minus_none this
     ·exact(if_neg (c:=m.mk'.more=[]∧x.c=m.mk'.up+1) hc2).symm
     ·rcases List.mem_append.1 hz with h9|h9
      ·have:=hfewu z h9;omega
      ·simp only[List.mem_singleton] at h9;subst h9;dsimp only;rw[hl7];omega
     ·simp only[List.length_append,List.length_cons,List.length_nil];exact zS
   ·have hc2:¬(m.more=[]∧x.c=m.up+1):=fun e=>by rw[e.1] at k1;simp at k1
    refine zR ?_;refine zR ?_;refine ob (by dsimp only;omega) ?_;(conv=>whnf);refine atp hab ?_;(conv=>whnf);refine on (hcc 3 _ rfl) ?_;refine zR ?_;refine zge (MW.minus (z6 m.a)) _ (hmm.rebase2 (Mem.le_refl _) (fun _ h=>h)) (by omega) (by simp[maxLen]<;>omega) (by simp[Value.oneCell']) fun a7 c7 M7 hN7 hk7=>?_
    have hfm:∀ y,z6 m.a y→M y=none:=fun y ⟨q,hq,e⟩=>e▸(hmm.block hq).1
    have hrow7:=hW1.row.keep hk7 hfm fun q hq ⟨q',hq',e⟩=>hW1.row.ne hmm (by decide) hq hq' e.symm
    have hN7':NewSl M T.zr 1 a7 (m.more.length+1) c7 ((m.more++[x.c]).map zaa) M7:=by
     have:=hN7.mono (Mem.le_minus hW1.row.le hfm);simpa using this
    obtain⟨b2,cs2,ha2,hcells,hle2,hst⟩:=hrow7.fstore zaS hlast (p:=3) (by decide);obtain⟨hN8,hk8⟩:=hst ⟨m.o,m.e,m.up,a7,c7,m.more++[x.c]⟩ (.slice a7 (m.more.length+1) c7) (by simp);rw[zdG,hlen1] at hN8;refine zR ?_;refine ob (by dsimp only;omega) ?_;(conv=>whnf);refine atp ha2 ?_;refine zR ?_;refine on hcells ?_;(conv=>whnf);refine ob hle2 ?_;obtain⟨M8,hM8⟩:∃ M8,M8=M7.setCells b2 T.za2 (ze cs2 (0+u.length*4+3) [.slice a7 (m.more.length+1) c7]):=⟨_,rfl⟩
    rw[←hM8] at hN8 hk8;(conv=>whnf)
    erw [←hM8];refine zR ?_;refine ob (zd (by first|omega|(dsimp only;omega))) ?_;(conv=>whnf)
    have hap:=(List.pairwise_append.1 hW1.apart).2.2;have hl7:(m.more++[x.c]).length=m.more.length+1:=by simp
    refine⟨⟨i+1,M8,aW,cW,u++[⟨m.o,m.e,m.up,a7,c7,m.more++[x.c]⟩]⟩,⟨by omega,hW1.turn hN8 ?_ (fun z hz q o hq ho=>hk8 _ _ (hneb z (by simp[hz]) q hq) (hk7 _ _ (fun hb=>hap z hz m (by simp) _ ⟨q,hq,rfl⟩ hb) ho)) (fun z hz=>?_),hval _ ?_,by simp;omega,fun z hz=>?_⟩,by dsimp only;omega,?_⟩
    ·rw[hl7];exact hN7'.keep hk8 hfr fun q hq ⟨q',hq',e⟩=>hrow7.ne hN7' (by decide) hq' hq e
    ·obtain⟨q,hq,e⟩:=hz;have:=(hN7.block hq).1
     rw[e] at this;exact Mem.minus_none this
    ·exact(if_neg (c:=m.mk'.more=[]∧x.c=m.mk'.up+1) hc2).symm
    ·rcases List.mem_append.1 hz with h9|h9
     ·have:=hfewu z h9;omega
     ·simp only[List.mem_singleton] at h9;subst h9;dsimp only;rw[hl7];omega
    ·simp only[List.length_append,List.length_cons,List.length_nil];exact zS
  ·have hl0:l≠[]:=fun e=>by subst e;simp at g1
   obtain⟨u0,m0,hum⟩:∃ u0 m0,l=u0++[m0]:=⟨l.dropLast,l.getLast hl0,(List.dropLast_concat_getLast hl0).symm⟩
   have hlu0:l.length=u0.length+1:=by rw[hum];simp
   have hidx:((l.length:Int) - 1).toNat=u0.length:=by omega
   have hlast0:l[u0.length]? = some m0:=by rw[hum];simp
   have hget:(l.map MkC.mk').getLast? = some m0.mk':=by rw[hum];simp
   obtain⟨bb0,oo0,hab0,hcc0⟩:=hW.row.src.fcells zaS (by decide) hlast0;rw[←hidx] at hcc0
   have hnew:¬(m0.o=x.o∧m0.e=x.e)→∀ k,k=x→zkx (l.map MkC.mk') k=l.map MkC.mk'++[zdU (MkC.mk' ⟨x.o,x.e,0,none,0,[]⟩) x.c]:=fun hne k e=>by
    subst e;unfold zkx;rw[hget];exact if_neg hne
   refine zR ?_;refine ob (by dsimp only;omega) ?_;(conv=>whnf);refine atp hab0 ?_;(conv=>whnf);refine on (hcc0 0 _ rfl) ?_;(conv=>whnf);refine brn (fun g2=>?_) (fun g2=>?_)
   ·replace hnew:=hnew (fun e=>by simp[e.1] at g2);refine zR ?_;refine zdS M hW.row ⟨x.o,x.e,0,none,0,[]⟩ rfl (by first|omega|(dsimp only;omega)) (by simp[maxLen]<;>omega) (by simp[Value.oneCell']) fun aW cW MW hN6 hk6=>?_
    have hW1:=hW.snoc x.o x.e hN6 hk6;(conv=>whnf);refine ob (zd (by first|omega|(dsimp only;omega))) ?_;(conv=>whnf)
    erw [show ((l.length:Int) - 1+1)=((l.length:Nat):Int) from by omega];obtain⟨m,hm⟩:∃ m:MkC,m=⟨x.o,x.e,0,none,0,[]⟩:=⟨_,rfl⟩
    have hmo:m.o=x.o∧m.e=x.e∧0≤m.up∧m.up≤i∧m.more.length≤i:=by rw[hm];exact⟨rfl,rfl,by simp,by simp,by simp⟩
    rw[←hm] at hW1
    have hval:∀ m':MkC,m'.mk'=zdU m.mk' x.c→(l++[m']).map MkC.mk'=zb7 (L.take (i+1)):=fun m' e=>by
     rw[htk,←hfold,List.map_append,List.map_cons,e,hm];exact(hnew _ rfl).symm
    clear hnew hl0;obtain⟨u,rfl⟩:∃ u,u=l:=⟨_,rfl⟩
    have hfewu:∀ m∈u,(0≤m.up∧m.up≤i)∧m.more.length≤i:=hfew;have hlu:u.length≤i:=hll
    have hlast:(u++[m])[u.length]? = some m:=by simp
    obtain⟨bb,oo,hab,hcc⟩:=hW1.row.src.fcells zaS (by decide) hlast;have hlen1:(u++[m]).length=u.length+1:=by simp
    have hmm:=hW1.more m (by simp);have hfr:∀ y,z6 aW y→M y=none:=fun y ⟨q,hq,e⟩=>e▸(hW1.row.block hq).1
    have hneb:∀ z∈u++[m],∀ q,z.a=some q→¬z6 aW q.block:=fun z hz q hq ⟨q',hq',e⟩=>hW1.row.ne (hW1.more z hz) (by decide) hq' hq e
    (conv=>whnf);refine ob (by dsimp only;omega) ?_;(conv=>whnf);refine atp hab ?_;(conv=>whnf);refine on (hcc 3 _ rfl) ?_;(conv=>whnf);refine brn (fun k1=>?_) (fun k1=>?_)
    ·have hm0:m.more=[]:=List.eq_nil_of_length_eq_zero (by have:=Zd0 k1;omega);refine zR ?_;refine ob (by dsimp only;omega) ?_;(conv=>whnf);refine atp hab ?_;(conv=>whnf);refine on (hcc 2 _ rfl) ?_;(conv=>whnf);refine ob (zd (by omega)) ?_;refine zR ?_;refine brn (fun k2=>?_) (fun k2=>?_)
     ·have hc2:x.c=m.up+1:=Zd0 k2;obtain⟨b2,cs2,ha2,hcells,hle2,hst⟩:=hW1.row.fstore zaS hlast (p:=2) (by decide);obtain⟨hN7,hk7⟩:=hst ⟨m.o,m.e,m.up+1,m.a,m.c,m.more⟩ (.int .i64 (m.up+1)) rfl;rw[zdG,hlen1] at hN7;(conv=>whnf)
      refine ob (by dsimp only;omega) ?_;(conv=>whnf);refine atp hab ?_;(conv=>whnf);refine on (hcc 2 _ rfl) ?_;(conv=>whnf);refine ob (zd (by omega)) ?_;(conv=>whnf);refine ob (by dsimp only;omega) ?_;(conv=>whnf);refine atp ha2 ?_;(conv=>whnf);refine on hcells ?_;(conv=>whnf);refine ob hle2 ?_;obtain⟨M7,hM7⟩:∃ M7,M7=MW.setCells b2 T.za2 (ze cs2 (0+u.length*4+2) [.int .i64 (m.up+1)]):=⟨_,rfl⟩
      rw[←hM7] at hN7 hk7;(conv=>whnf)
      erw [←hM7];(conv=>whnf)
      refine ob (zd (by first|omega|(dsimp only;omega))) ?_;(conv=>whnf)
      refine⟨⟨i+1,M7,aW,cW,u++[⟨m.o,m.e,m.up+1,m.a,m.c,m.more⟩]⟩,⟨by omega,hW1.turn hN7 (hmm.keep hk7 hfr (hneb m (by simp))) (fun z hz q o hq ho=>hk7 _ _ (hneb z (by simp[hz]) q hq) ho) (fun z hz => .inl hz),hval _ (by simp[MkC.mk',zdU,hm0,hc2]),by simp;omega,fun z hz=>?_⟩,by dsimp only;omega,?_⟩
      ·rcases List.mem_append.1 hz with h9|h9
       ·have:=hfewu z h9;omega
       ·simp only[List.mem_singleton] at h9;subst h9;dsimp only;omega
      ·simp only[List.length_append,List.length_cons,List.length_nil];exact zS
     ·have hc2:¬(m.more=[]∧x.c=m.up+1):=fun e=>Zd1 k2 e.2
      refine zR ?_;refine ob (by dsimp only;omega) ?_;(conv=>whnf);refine atp hab ?_;(conv=>whnf);refine on (hcc 3 _ rfl) ?_;refine zR ?_;refine zge (MW.minus (z6 m.a)) _ (hmm.rebase2 (Mem.le_refl _) (fun _ h=>h)) (by omega) (by simp[maxLen]<;>omega) (by simp[Value.oneCell']) fun a7 c7 M7 hN7 hk7=>?_
      have hfm:∀ y,z6 m.a y→M y=none:=fun y ⟨q,hq,e⟩=>e▸(hmm.block hq).1
      have hrow7:=hW1.row.keep hk7 hfm fun q hq ⟨q',hq',e⟩=>hW1.row.ne hmm (by decide) hq hq' e.symm
      have hN7':NewSl M T.zr 1 a7 (m.more.length+1) c7 ((m.more++[x.c]).map zaa) M7:=by
       have:=hN7.mono (Mem.le_minus hW1.row.le hfm);simpa using this
      obtain⟨b2,cs2,ha2,hcells,hle2,hst⟩:=hrow7.fstore zaS hlast (p:=3) (by decide);obtain⟨hN8,hk8⟩:=hst ⟨m.o,m.e,m.up,a7,c7,m.more++[x.c]⟩ (.slice a7 (m.more.length+1) c7) (by simp);rw[zdG,hlen1] at hN8;refine zR ?_;refine ob (by dsimp only;omega) ?_;(conv=>whnf);refine atp ha2 ?_;refine zR ?_;refine on hcells ?_;(conv=>whnf);refine ob hle2 ?_;obtain⟨M8,hM8⟩:∃ M8,M8=M7.setCells b2 T.za2 (ze cs2 (0+u.length*4+3) [.slice a7 (m.more.length+1) c7]):=⟨_,rfl⟩
      rw[←hM8] at hN8 hk8;(conv=>whnf)
      erw [←hM8];refine zR ?_;refine ob (zd (by first|omega|(dsimp only;omega))) ?_;(conv=>whnf)
      have hap:=(List.pairwise_append.1 hW1.apart).2.2;have hl7:(m.more++[x.c]).length=m.more.length+1:=by simp
      refine⟨⟨i+1,M8,aW,cW,u++[⟨m.o,m.e,m.up,a7,c7,m.more++[x.c]⟩]⟩,⟨by omega,hW1.turn hN8 ?_ (fun z hz q o hq ho=>hk8 _ _ (hneb z (by simp[hz]) q hq) (hk7 _ _ (fun hb=>hap z hz m (by simp) _ ⟨q,hq,rfl⟩ hb) ho)) (fun z hz=>?_),hval _ ?_,by simp;omega,fun z hz=>?_⟩,by dsimp only;omega,?_⟩
      ·rw[hl7];exact hN7'.keep hk8 hfr fun q hq ⟨q',hq',e⟩=>hrow7.ne hN7' (by decide) hq' hq e
      ·obtain⟨q,hq,e⟩:=hz;have:=(hN7.block hq).1
       rw[e] at this;exact Mem.minus_none this
      ·exact(if_neg (c:=m.mk'.more=[]∧x.c=m.mk'.up+1) hc2).symm
      ·rcases List.mem_append.1 hz with h9|h9
       ·have:=hfewu z h9;omega
       ·simp only[List.mem_singleton] at h9;subst h9;dsimp only;rw[hl7];omega
      ·simp only[List.length_append,List.length_cons,List.length_nil];exact zS
    ·have hc2:¬(m.more=[]∧x.c=m.up+1):=fun e=>by rw[e.1] at k1;simp at k1
     refine zR ?_;refine zR ?_;refine ob (by dsimp only;omega) ?_;(conv=>whnf);refine atp hab ?_;(conv=>whnf);refine on (hcc 3 _ rfl) ?_;refine zR ?_;refine zge (MW.minus (z6 m.a)) _ (hmm.rebase2 (Mem.le_refl _) (fun _ h=>h)) (by omega) (by simp[maxLen]<;>omega) (by simp[Value.oneCell']) fun a7 c7 M7 hN7 hk7=>?_
     have hfm:∀ y,z6 m.a y→M y=none:=fun y ⟨q,hq,e⟩=>e▸(hmm.block hq).1
     have hrow7:=hW1.row.keep hk7 hfm fun q hq ⟨q',hq',e⟩=>hW1.row.ne hmm (by decide) hq hq' e.symm
     have hN7':NewSl M T.zr 1 a7 (m.more.length+1) c7 ((m.more++[x.c]).map zaa) M7:=by
      have:=hN7.mono (Mem.le_minus hW1.row.le hfm);simpa using this
     obtain⟨b2,cs2,ha2,hcells,hle2,hst⟩:=hrow7.fstore zaS hlast (p:=3) (by decide);obtain⟨hN8,hk8⟩:=hst ⟨m.o,m.e,m.up,a7,c7,m.more++[x.c]⟩ (.slice a7 (m.more.length+1) c7) (by simp);rw[zdG,hlen1] at hN8;refine zR ?_;refine ob (by dsimp only;omega) ?_;(conv=>whnf);refine atp ha2 ?_;refine zR ?_;refine on hcells ?_;(conv=>whnf);refine ob hle2 ?_;obtain⟨M8,hM8⟩:∃ M8,M8=M7.setCells b2 T.za2 (ze cs2 (0+u.length*4+3) [.slice a7 (m.more.length+1) c7]):=⟨_,rfl⟩
     rw[←hM8] at hN8 hk8;(conv=>whnf)
     erw [←hM8];refine zR ?_;refine ob (zd (by first|omega|(dsimp only;omega))) ?_;(conv=>whnf)
     have hap:=(List.pairwise_append.1 hW1.apart).2.2;have hl7:(m.more++[x.c]).length=m.more.length+1:=by simp
     refine⟨⟨i+1,M8,aW,cW,u++[⟨m.o,m.e,m.up,a7,c7,m.more++[x.c]⟩]⟩,⟨by omega,hW1.turn hN8 ?_ (fun z hz q o hq ho=>hk8 _ _ (hneb z (by simp[hz]) q hq) (hk7 _ _ (fun hb=>hap z hz m (by simp) _ ⟨q,hq,rfl⟩ hb) ho)) (fun z hz=>?_),hval _ ?_,by simp;omega,fun z hz=>?_⟩,by dsimp only;omega,?_⟩
     ·rw[hl7];exact hN7'.keep hk8 hfr fun q hq ⟨q',hq',e⟩=>hrow7.ne hN7' (by decide) hq' hq e
     ·obtain⟨q,hq,e⟩:=hz;have:=(hN7.block hq).1
      rw[e] at this;exact Mem.minus_none this
     ·exact(if_neg (c:=m.mk'.more=[]∧x.c=m.mk'.up+1) hc2).symm
     ·rcases List.mem_append.1 hz with h9|h9
      ·have:=hfewu z h9;omega
      ·simp only[List.mem_singleton] at h9;subst h9;dsimp only;rw[hl7];omega
     ·simp only[List.length_append,List.length_cons,List.length_nil];exact zS
   ·have e1:m0.o=x.o:=by simpa using g2
    refine zR ?_;refine ob (by dsimp only;omega) ?_;(conv=>whnf);refine atp hab0 ?_;(conv=>whnf);refine on (hcc0 1 _ rfl) ?_;(conv=>whnf);refine brn (fun g3=>?_) (fun g3=>?_)
    ·replace hnew:=hnew (fun e=>by simp[e.2] at g3);refine zR ?_;refine zdS M hW.row ⟨x.o,x.e,0,none,0,[]⟩ rfl (by first|omega|(dsimp only;omega)) (by simp[maxLen]<;>omega) (by simp[Value.oneCell']) fun aW cW MW hN6 hk6=>?_
     have hW1:=hW.snoc x.o x.e hN6 hk6;(conv=>whnf);refine ob (zd (by first|omega|(dsimp only;omega))) ?_;(conv=>whnf)
     erw [show ((l.length:Int) - 1+1)=((l.length:Nat):Int) from by omega];obtain⟨m,hm⟩:∃ m:MkC,m=⟨x.o,x.e,0,none,0,[]⟩:=⟨_,rfl⟩
     have hmo:m.o=x.o∧m.e=x.e∧0≤m.up∧m.up≤i∧m.more.length≤i:=by rw[hm];exact⟨rfl,rfl,by simp,by simp,by simp⟩
     rw[←hm] at hW1
     have hval:∀ m':MkC,m'.mk'=zdU m.mk' x.c→(l++[m']).map MkC.mk'=zb7 (L.take (i+1)):=fun m' e=>by
      rw[htk,←hfold,List.map_append,List.map_cons,e,hm];exact(hnew _ rfl).symm
     clear hnew hl0;obtain⟨u,rfl⟩:∃ u,u=l:=⟨_,rfl⟩
     have hfewu:∀ m∈u,(0≤m.up∧m.up≤i)∧m.more.length≤i:=hfew;have hlu:u.length≤i:=hll
     have hlast:(u++[m])[u.length]? = some m:=by simp
     obtain⟨bb,oo,hab,hcc⟩:=hW1.row.src.fcells zaS (by decide) hlast;have hlen1:(u++[m]).length=u.length+1:=by simp
     have hmm:=hW1.more m (by simp);have hfr:∀ y,z6 aW y→M y=none:=fun y ⟨q,hq,e⟩=>e▸(hW1.row.block hq).1
     have hneb:∀ z∈u++[m],∀ q,z.a=some q→¬z6 aW q.block:=fun z hz q hq ⟨q',hq',e⟩=>hW1.row.ne (hW1.more z hz) (by decide) hq' hq e
     (conv=>whnf);refine ob (by dsimp only;omega) ?_;(conv=>whnf);refine atp hab ?_;(conv=>whnf);refine on (hcc 3 _ rfl) ?_;(conv=>whnf);refine brn (fun k1=>?_) (fun k1=>?_)
     ·have hm0:m.more=[]:=List.eq_nil_of_length_eq_zero (by have:=Zd0 k1;omega);refine zR ?_;refine ob (by dsimp only;omega) ?_;(conv=>whnf);refine atp hab ?_;(conv=>whnf);refine on (hcc 2 _ rfl) ?_;(conv=>whnf);refine ob (zd (by omega)) ?_;refine zR ?_;refine brn (fun k2=>?_) (fun k2=>?_)
      ·have hc2:x.c=m.up+1:=Zd0 k2;obtain⟨b2,cs2,ha2,hcells,hle2,hst⟩:=hW1.row.fstore zaS hlast (p:=2) (by decide);obtain⟨hN7,hk7⟩:=hst ⟨m.o,m.e,m.up+1,m.a,m.c,m.more⟩ (.int .i64 (m.up+1)) rfl;rw[zdG,hlen1] at hN7;(conv=>whnf)
       refine ob (by dsimp only;omega) ?_;(conv=>whnf);refine atp hab ?_;(conv=>whnf);refine on (hcc 2 _ rfl) ?_;(conv=>whnf);refine ob (zd (by omega)) ?_;(conv=>whnf);refine ob (by dsimp only;omega) ?_;(conv=>whnf);refine atp ha2 ?_;(conv=>whnf);refine on hcells ?_;(conv=>whnf);refine ob hle2 ?_;obtain⟨M7,hM7⟩:∃ M7,M7=MW.setCells b2 T.za2 (ze cs2 (0+u.length*4+2) [.int .i64 (m.up+1)]):=⟨_,rfl⟩
       rw[←hM7] at hN7 hk7;(conv=>whnf)
       erw [←hM7];(conv=>whnf)
       refine ob (zd (by first|omega|(dsimp only;omega))) ?_;(conv=>whnf)
       refine⟨⟨i+1,M7,aW,cW,u++[⟨m.o,m.e,m.up+1,m.a,m.c,m.more⟩]⟩,⟨by omega,hW1.turn hN7 (hmm.keep hk7 hfr (hneb m (by simp))) (fun z hz q o hq ho=>hk7 _ _ (hneb z (by simp[hz]) q hq) ho) (fun z hz => .inl hz),hval _ (by simp[MkC.mk',zdU,hm0,hc2]),by simp;omega,fun z hz=>?_⟩,by dsimp only;omega,?_⟩
       ·rcases List.mem_append.1 hz with h9|h9
        ·have:=hfewu z h9;omega
        ·simp only[List.mem_singleton] at h9;subst h9;dsimp only;omega
       ·simp only[List.length_append,List.length_cons,List.length_nil];exact zS
      ·have hc2:¬(m.more=[]∧x.c=m.up+1):=fun e=>Zd1 k2 e.2
       refine zR ?_;refine ob (by dsimp only;omega) ?_;(conv=>whnf);refine atp hab ?_;(conv=>whnf);refine on (hcc 3 _ rfl) ?_;refine zR ?_;refine zge (MW.minus (z6 m.a)) _ (hmm.rebase2 (Mem.le_refl _) (fun _ h=>h)) (by omega) (by simp[maxLen]<;>omega) (by simp[Value.oneCell']) fun a7 c7 M7 hN7 hk7=>?_
       have hfm:∀ y,z6 m.a y→M y=none:=fun y ⟨q,hq,e⟩=>e▸(hmm.block hq).1
       have hrow7:=hW1.row.keep hk7 hfm fun q hq ⟨q',hq',e⟩=>hW1.row.ne hmm (by decide) hq hq' e.symm
       have hN7':NewSl M T.zr 1 a7 (m.more.length+1) c7 ((m.more++[x.c]).map zaa) M7:=by
        have:=hN7.mono (Mem.le_minus hW1.row.le hfm);simpa using this
       obtain⟨b2,cs2,ha2,hcells,hle2,hst⟩:=hrow7.fstore zaS hlast (p:=3) (by decide);obtain⟨hN8,hk8⟩:=hst ⟨m.o,m.e,m.up,a7,c7,m.more++[x.c]⟩ (.slice a7 (m.more.length+1) c7) (by simp);rw[zdG,hlen1] at hN8;refine zR ?_;refine ob (by dsimp only;omega) ?_;(conv=>whnf);refine atp ha2 ?_;refine zR ?_;refine on hcells ?_;(conv=>whnf);refine ob hle2 ?_;obtain⟨M8,hM8⟩:∃ M8,M8=M7.setCells b2 T.za2 (ze cs2 (0+u.length*4+3) [.slice a7 (m.more.length+1) c7]):=⟨_,rfl⟩
       rw[←hM8] at hN8 hk8;(conv=>whnf)
       erw [←hM8];refine zR ?_;refine ob (zd (by first|omega|(dsimp only;omega))) ?_;(conv=>whnf)
       have hap:=(List.pairwise_append.1 hW1.apart).2.2;have hl7:(m.more++[x.c]).length=m.more.length+1:=by simp
       refine⟨⟨i+1,M8,aW,cW,u++[⟨m.o,m.e,m.up,a7,c7,m.more++[x.c]⟩]⟩,⟨by omega,hW1.turn hN8 ?_ (fun z hz q o hq ho=>hk8 _ _ (hneb z (by simp[hz]) q hq) (hk7 _ _ (fun hb=>hap z hz m (by simp) _ ⟨q,hq,rfl⟩ hb) ho)) (fun z hz=>?_),hval _ ?_,by simp;omega,fun z hz=>?_⟩,by dsimp only;omega,?_⟩
       ·rw[hl7];exact hN7'.keep hk8 hfr fun q hq ⟨q',hq',e⟩=>hrow7.ne hN7' (by decide) hq' hq e
       ·obtain⟨q,hq,e⟩:=hz;have:=(hN7.block hq).1
        rw[e] at this;exact Mem.minus_none this
       ·exact(if_neg (c:=m.mk'.more=[]∧x.c=m.mk'.up+1) hc2).symm
       ·rcases List.mem_append.1 hz with h9|h9
        ·have:=hfewu z h9;omega
        ·simp only[List.mem_singleton] at h9;subst h9;dsimp only;rw[hl7];omega
       ·simp only[List.length_append,List.length_cons,List.length_nil];exact zS
     ·have hc2:¬(m.more=[]∧x.c=m.up+1):=fun e=>by rw[e.1] at k1;simp at k1
      refine zR ?_;refine zR ?_;refine ob (by dsimp only;omega) ?_;(conv=>whnf);refine atp hab ?_;(conv=>whnf);refine on (hcc 3 _ rfl) ?_;refine zR ?_;refine zge (MW.minus (z6 m.a)) _ (hmm.rebase2 (Mem.le_refl _) (fun _ h=>h)) (by omega) (by simp[maxLen]<;>omega) (by simp[Value.oneCell']) fun a7 c7 M7 hN7 hk7=>?_
      have hfm:∀ y,z6 m.a y→M y=none:=fun y ⟨q,hq,e⟩=>e▸(hmm.block hq).1
      have hrow7:=hW1.row.keep hk7 hfm fun q hq ⟨q',hq',e⟩=>hW1.row.ne hmm (by decide) hq hq' e.symm
      have hN7':NewSl M T.zr 1 a7 (m.more.length+1) c7 ((m.more++[x.c]).map zaa) M7:=by
       have:=hN7.mono (Mem.le_minus hW1.row.le hfm);simpa using this
      obtain⟨b2,cs2,ha2,hcells,hle2,hst⟩:=hrow7.fstore zaS hlast (p:=3) (by decide);obtain⟨hN8,hk8⟩:=hst ⟨m.o,m.e,m.up,a7,c7,m.more++[x.c]⟩ (.slice a7 (m.more.length+1) c7) (by simp);rw[zdG,hlen1] at hN8;refine zR ?_;refine ob (by dsimp only;omega) ?_;(conv=>whnf);refine atp ha2 ?_;refine zR ?_;refine on hcells ?_;(conv=>whnf);refine ob hle2 ?_;obtain⟨M8,hM8⟩:∃ M8,M8=M7.setCells b2 T.za2 (ze cs2 (0+u.length*4+3) [.slice a7 (m.more.length+1) c7]):=⟨_,rfl⟩
      rw[←hM8] at hN8 hk8;(conv=>whnf)
      erw [←hM8];refine zR ?_;refine ob (zd (by first|omega|(dsimp only;omega))) ?_;(conv=>whnf)
      have hap:=(List.pairwise_append.1 hW1.apart).2.2;have hl7:(m.more++[x.c]).length=m.more.length+1:=by simp
      refine⟨⟨i+1,M8,aW,cW,u++[⟨m.o,m.e,m.up,a7,c7,m.more++[x.c]⟩]⟩,⟨by omega,hW1.turn hN8 ?_ (fun z hz q o hq ho=>hk8 _ _ (hneb z (by simp[hz]) q hq) (hk7 _ _ (fun hb=>hap z hz m (by simp) _ ⟨q,hq,rfl⟩ hb) ho)) (fun z hz=>?_),hval _ ?_,by simp;omega,fun z hz=>?_⟩,by dsimp only;omega,?_⟩
      ·rw[hl7];exact hN7'.keep hk8 hfr fun q hq ⟨q',hq',e⟩=>hrow7.ne hN7' (by decide) hq' hq e
      ·obtain⟨q,hq,e⟩:=hz;have:=(hN7.block hq).1
       rw[e] at this;exact Mem.minus_none this
      ·exact(if_neg (c:=m.mk'.more=[]∧x.c=m.mk'.up+1) hc2).symm
      ·rcases List.mem_append.1 hz with h9|h9
       ·have:=hfewu z h9;omega
       ·simp only[List.mem_singleton] at h9;subst h9;dsimp only;rw[hl7];omega
      ·simp only[List.length_append,List.length_cons,List.length_nil];exact zS
    ·have e2:m0.e=x.e:=by simpa using g3
     have hval0:∀ m':MkC,m'.mk'=zdU m0.mk' x.c→(u0++[m']).map MkC.mk'=zb7 (L.take (i+1)):=fun m' e=>by
      rw[htk,←hfold];unfold zkx;rw[hget];refine Eq.trans ?_ (if_pos ⟨e1,e2⟩).symm;rw[hum];simp[e]
     (conv=>whnf);erw [show ((l.length:Int) - 1)=(u0.length:Int) from by omega];clear hnew hl0 hget hidx hcc0 hlast0 hab0 g1 g2 g3;obtain⟨u,rfl⟩:∃ u,u=u0:=⟨_,rfl⟩
     obtain⟨m,rfl⟩:∃ m,m=m0:=⟨_,rfl⟩
     subst hum;obtain⟨aW,rfl⟩:∃ aW,aW=a4:=⟨_,rfl⟩
     obtain⟨cW,rfl⟩:∃ cW,cW=c4:=⟨_,rfl⟩
     obtain⟨MW,rfl⟩:∃ MW,MW=M4:=⟨_,rfl⟩
     have hW1:=hW;have hval:=hval0
     have hm5:=hfew m (by simp);have hmo:m.o=x.o∧m.e=x.e∧0≤m.up∧m.up≤i∧m.more.length≤i:=⟨e1,e2,hm5.1.1,hm5.1.2,hm5.2⟩
     have hfewu:∀ m∈u,(0≤m.up∧m.up≤i)∧m.more.length≤i:=fun z hz=>hfew z (by simp[hz])
     have hlu:u.length≤i:=by omega
     have hlast:(u++[m])[u.length]? = some m:=by simp
     obtain⟨bb,oo,hab,hcc⟩:=hW1.row.src.fcells zaS (by decide) hlast;have hlen1:(u++[m]).length=u.length+1:=by simp
     have hmm:=hW1.more m (by simp);have hfr:∀ y,z6 aW y→M y=none:=fun y ⟨q,hq,e⟩=>e▸(hW1.row.block hq).1
     have hneb:∀ z∈u++[m],∀ q,z.a=some q→¬z6 aW q.block:=fun z hz q hq ⟨q',hq',e⟩=>hW1.row.ne (hW1.more z hz) (by decide) hq' hq e
     (conv=>whnf);refine ob (by dsimp only;omega) ?_;(conv=>whnf);refine atp hab ?_;(conv=>whnf);refine on (hcc 3 _ rfl) ?_;(conv=>whnf);refine brn (fun k1=>?_) (fun k1=>?_)
     ·have hm0:m.more=[]:=List.eq_nil_of_length_eq_zero (by have:=Zd0 k1;omega);refine zR ?_;refine ob (by dsimp only;omega) ?_;(conv=>whnf);refine atp hab ?_;(conv=>whnf);refine on (hcc 2 _ rfl) ?_;(conv=>whnf);refine ob (zd (by omega)) ?_;refine zR ?_;refine brn (fun k2=>?_) (fun k2=>?_)
      ·have hc2:x.c=m.up+1:=Zd0 k2;obtain⟨b2,cs2,ha2,hcells,hle2,hst⟩:=hW1.row.fstore zaS hlast (p:=2) (by decide);obtain⟨hN7,hk7⟩:=hst ⟨m.o,m.e,m.up+1,m.a,m.c,m.more⟩ (.int .i64 (m.up+1)) rfl;rw[zdG,hlen1] at hN7;(conv=>whnf)
       refine ob (by dsimp only;omega) ?_;(conv=>whnf);refine atp hab ?_;(conv=>whnf);refine on (hcc 2 _ rfl) ?_;(conv=>whnf);refine ob (zd (by omega)) ?_;(conv=>whnf);refine ob (by dsimp only;omega) ?_;(conv=>whnf);refine atp ha2 ?_;(conv=>whnf);refine on hcells ?_;(conv=>whnf);refine ob hle2 ?_;obtain⟨M7,hM7⟩:∃ M7,M7=MW.setCells b2 T.za2 (ze cs2 (0+u.length*4+2) [.int .i64 (m.up+1)]):=⟨_,rfl⟩
       rw[←hM7] at hN7 hk7;(conv=>whnf)
       erw [←hM7];(conv=>whnf)
       refine ob (zd (by first|omega|(dsimp only;omega))) ?_;(conv=>whnf)
       refine⟨⟨i+1,M7,aW,cW,u++[⟨m.o,m.e,m.up+1,m.a,m.c,m.more⟩]⟩,⟨by omega,hW1.turn hN7 (hmm.keep hk7 hfr (hneb m (by simp))) (fun z hz q o hq ho=>hk7 _ _ (hneb z (by simp[hz]) q hq) ho) (fun z hz => .inl hz),hval _ (by simp[MkC.mk',zdU,hm0,hc2]),by simp;omega,fun z hz=>?_⟩,by dsimp only;omega,?_⟩
       ·rcases List.mem_append.1 hz with h9|h9
        ·have:=hfewu z h9;omega
        ·simp only[List.mem_singleton] at h9;subst h9;dsimp only;omega
       ·simp only[List.length_append,List.length_cons,List.length_nil];exact zS
      ·have hc2:¬(m.more=[]∧x.c=m.up+1):=fun e=>Zd1 k2 e.2
       refine zR ?_;refine ob (by dsimp only;omega) ?_;(conv=>whnf);refine atp hab ?_;(conv=>whnf);refine on (hcc 3 _ rfl) ?_;refine zR ?_;refine zge (MW.minus (z6 m.a)) _ (hmm.rebase2 (Mem.le_refl _) (fun _ h=>h)) (by omega) (by simp[maxLen]<;>omega) (by simp[Value.oneCell']) fun a7 c7 M7 hN7 hk7=>?_
       have hfm:∀ y,z6 m.a y→M y=none:=fun y ⟨q,hq,e⟩=>e▸(hmm.block hq).1
       have hrow7:=hW1.row.keep hk7 hfm fun q hq ⟨q',hq',e⟩=>hW1.row.ne hmm (by decide) hq hq' e.symm
       have hN7':NewSl M T.zr 1 a7 (m.more.length+1) c7 ((m.more++[x.c]).map zaa) M7:=by
        have:=hN7.mono (Mem.le_minus hW1.row.le hfm);simpa using this
       obtain⟨b2,cs2,ha2,hcells,hle2,hst⟩:=hrow7.fstore zaS hlast (p:=3) (by decide);obtain⟨hN8,hk8⟩:=hst ⟨m.o,m.e,m.up,a7,c7,m.more++[x.c]⟩ (.slice a7 (m.more.length+1) c7) (by simp);rw[zdG,hlen1] at hN8;refine zR ?_;refine ob (by dsimp only;omega) ?_;(conv=>whnf);refine atp ha2 ?_;refine zR ?_;refine on hcells ?_;(conv=>whnf);refine ob hle2 ?_;obtain⟨M8,hM8⟩:∃ M8,M8=M7.setCells b2 T.za2 (ze cs2 (0+u.length*4+3) [.slice a7 (m.more.length+1) c7]):=⟨_,rfl⟩
       rw[←hM8] at hN8 hk8;(conv=>whnf)
       erw [←hM8];refine zR ?_;refine ob (zd (by first|omega|(dsimp only;omega))) ?_;(conv=>whnf)
       have hap:=(List.pairwise_append.1 hW1.apart).2.2;have hl7:(m.more++[x.c]).length=m.more.length+1:=by simp
       refine⟨⟨i+1,M8,aW,cW,u++[⟨m.o,m.e,m.up,a7,c7,m.more++[x.c]⟩]⟩,⟨by omega,hW1.turn hN8 ?_ (fun z hz q o hq ho=>hk8 _ _ (hneb z (by simp[hz]) q hq) (hk7 _ _ (fun hb=>hap z hz m (by simp) _ ⟨q,hq,rfl⟩ hb) ho)) (fun z hz=>?_),hval _ ?_,by simp;omega,fun z hz=>?_⟩,by dsimp only;omega,?_⟩
       ·rw[hl7];exact hN7'.keep hk8 hfr fun q hq ⟨q',hq',e⟩=>hrow7.ne hN7' (by decide) hq' hq e
       ·obtain⟨q,hq,e⟩:=hz;have:=(hN7.block hq).1
        rw[e] at this;exact Mem.minus_none this
       ·exact(if_neg (c:=m.mk'.more=[]∧x.c=m.mk'.up+1) hc2).symm
       ·rcases List.mem_append.1 hz with h9|h9
        ·have:=hfewu z h9;omega
        ·simp only[List.mem_singleton] at h9;subst h9;dsimp only;rw[hl7];omega
       ·simp only[List.length_append,List.length_cons,List.length_nil];exact zS
     ·have hc2:¬(m.more=[]∧x.c=m.up+1):=fun e=>by rw[e.1] at k1;simp at k1
      refine zR ?_;refine zR ?_;refine ob (by dsimp only;omega) ?_;(conv=>whnf);refine atp hab ?_;(conv=>whnf);refine on (hcc 3 _ rfl) ?_;refine zR ?_;refine zge (MW.minus (z6 m.a)) _ (hmm.rebase2 (Mem.le_refl _) (fun _ h=>h)) (by omega) (by simp[maxLen]<;>omega) (by simp[Value.oneCell']) fun a7 c7 M7 hN7 hk7=>?_
      have hfm:∀ y,z6 m.a y→M y=none:=fun y ⟨q,hq,e⟩=>e▸(hmm.block hq).1
      have hrow7:=hW1.row.keep hk7 hfm fun q hq ⟨q',hq',e⟩=>hW1.row.ne hmm (by decide) hq hq' e.symm
      have hN7':NewSl M T.zr 1 a7 (m.more.length+1) c7 ((m.more++[x.c]).map zaa) M7:=by
       have:=hN7.mono (Mem.le_minus hW1.row.le hfm);simpa using this
      obtain⟨b2,cs2,ha2,hcells,hle2,hst⟩:=hrow7.fstore zaS hlast (p:=3) (by decide);obtain⟨hN8,hk8⟩:=hst ⟨m.o,m.e,m.up,a7,c7,m.more++[x.c]⟩ (.slice a7 (m.more.length+1) c7) (by simp);rw[zdG,hlen1] at hN8;refine zR ?_;refine ob (by dsimp only;omega) ?_;(conv=>whnf);refine atp ha2 ?_;refine zR ?_;refine on hcells ?_;(conv=>whnf);refine ob hle2 ?_;obtain⟨M8,hM8⟩:∃ M8,M8=M7.setCells b2 T.za2 (ze cs2 (0+u.length*4+3) [.slice a7 (m.more.length+1) c7]):=⟨_,rfl⟩
      rw[←hM8] at hN8 hk8;(conv=>whnf)
      erw [←hM8];refine zR ?_;refine ob (zd (by first|omega|(dsimp only;omega))) ?_;(conv=>whnf)
      have hap:=(List.pairwise_append.1 hW1.apart).2.2;have hl7:(m.more++[x.c]).length=m.more.length+1:=by simp
      refine⟨⟨i+1,M8,aW,cW,u++[⟨m.o,m.e,m.up,a7,c7,m.more++[x.c]⟩]⟩,⟨by omega,hW1.turn hN8 ?_ (fun z hz q o hq ho=>hk8 _ _ (hneb z (by simp[hz]) q hq) (hk7 _ _ (fun hb=>hap z hz m (by simp) _ ⟨q,hq,rfl⟩ hb) ho)) (fun z hz=>?_),hval _ ?_,by simp;omega,fun z hz=>?_⟩,by dsimp only;omega,?_⟩
      ·rw[hl7];exact hN7'.keep hk8 hfr fun q hq ⟨q',hq',e⟩=>hrow7.ne hN7' (by decide) hq' hq e
      ·obtain⟨q,hq,e⟩:=hz;have:=(hN7.block hq).1
       rw[e] at this;exact Mem.minus_none this
      ·exact(if_neg (c:=m.mk'.more=[]∧x.c=m.mk'.up+1) hc2).symm
      ·rcases List.mem_append.1 hz with h9|h9
       ·have:=hfewu z h9;omega
       ·simp only[List.mem_singleton] at h9;subst h9;dsimp only;rw[hl7];omega
      ·simp only[List.length_append,List.length_cons,List.length_nil];exact zS
 have hge:i=n:=by have:=Zd1 g;dsimp only at this;omega
 subst hge;rw[List.take_of_length_le (by omega)] at hfold;refine zR ?_;exact⟨a4,c4,l,rfl,hW,hfold,hll,hfew⟩
end Go.Proofs.YtpdkkbpkplhdpaaGreat
namespace Go.Proofs.YtpdkkbpkplhdpaaGreat
open Go Go.Vm
theorem zwe (m:Mk) (c:Int):(zdU m c).o=m.o∧(zdU m c).e=m.e:=by
 unfold zdU;split<;>exact⟨rfl,rfl⟩
theorem zx7 {m:Mk} {c:Int} (h:CanR m.up m.more) (hc:1≤c) (hlt:∀ c',inM m.up m.more c'→c'<c) :
  CanR (zdU m c).up (zdU m c).more∧(0<(zdU m c).up∨(zdU m c).more≠[])∧∀ c',inM (zdU m c).up (zdU m c).more c'↔inM m.up m.more c'∨c'=c:=by
 obtain⟨h0,h1,h2⟩:=h
 have hup:m.up<c:=by
  by_cases e:m.up=0
  ·omega
  ·exact hlt _ (.inl ⟨by omega,Int.le_refl _⟩)
 unfold zdU;split
 ·rename_i e;obtain⟨e1,e2⟩:=e;refine⟨⟨by dsimp only;omega,by simp,by simp⟩,.inl (by dsimp only;omega),fun c'=>?_⟩;simp only[inM,e1,List.not_mem_nil,or_false];omega
 ·rename_i e;refine⟨⟨h0,?_,fun c' hc'=>?_⟩,.inr (by simp),fun c'=>?_⟩
  ·rw[List.pairwise_append];refine⟨h1,by simp,fun a ha b hb=>?_⟩;simp only[List.mem_singleton] at hb;subst hb;exact hlt a (.inr ha)
  ·rcases List.mem_append.1 hc' with h3|h3
   ·exact h2 c' h3
   ·simp only[List.mem_singleton] at h3;subst h3;cases hm:m.more with
    | nil=>
     have:¬c'=m.up+1:=fun e1=>e ⟨hm,e1⟩
     dsimp only;omega
    | cons y r=>
     have h4:=h2 y (by rw[hm];simp);have h5:=hlt y (.inr (by rw[hm];simp))
     dsimp only;omega
  ·unfold inM;dsimp only;rw[List.mem_append,List.mem_singleton,or_assoc]
theorem zfG (a b:K):zfw a b=true↔a.o<b.o∨(a.o=b.o∧(a.e<b.e∨(a.e=b.e∧a.c<b.c))):=by
 unfold zfw;split
 ·rw[decide_eq_true_eq];omega
 ·split
  ·rw[decide_eq_true_eq];omega
  ·rw[decide_eq_true_eq];omega
def zit (L:List K) (o e c:Int):Prop:=(⟨o,e,c⟩:K)∈L
theorem zzo {L:List K} {l:List Mk} (h:Canon (zit L) l) {k:K} (hk:1≤k.c) (hlt:∀ y∈L,zfw y k=true):Canon (zit (L++[k])) (zkx l k):=by
 have hS:∀ o e c,zit (L++[k]) o e c↔zit L o e c∨(o=k.o∧e=k.e∧c=k.c):=fun o e c=>by
  unfold zit;rw[List.mem_append,List.mem_singleton];obtain⟨ko,ke,kc⟩:=k;simp
 have hb:∀ m∈l,∀ c',inM m.up m.more c'→zfw ⟨m.o,m.e,c'⟩ k=true:=fun m hm c' hc'=>hlt _ ((h.mem _ _ _).2 ⟨m,hm,rfl,rfl,hc'⟩)
 have hnew:=zx7 (m:=⟨k.o,k.e,0,[]⟩) (c:=k.c) ⟨Int.le_refl _,by simp,by simp⟩ hk (fun c' hc'=>by simp only[inM,List.not_mem_nil,or_false] at hc';omega);have hnk:=zwe ⟨k.o,k.e,0,[]⟩ k.c
 have hfresh:(∀ m∈l,m.o<k.o∨(m.o=k.o∧m.e<k.e))→Canon (zit (L++[k])) (l++[zdU ⟨k.o,k.e,0,[]⟩ k.c]):=fun hall=>by
  obtain⟨n1,n2,n3⟩:=hnew;refine⟨?_,fun m hm=>?_,fun o e c=>?_⟩
  ·rw[List.pairwise_append];refine⟨h.sorted,by simp,fun a ha b hb=>?_⟩;simp only[List.mem_singleton] at hb;subst hb;have:=hall a ha
   unfold zbJ;rw[hnk.1,hnk.2];exact this
  ·rcases List.mem_append.1 hm with h1|h1
   ·exact h.can m h1
   ·simp only[List.mem_singleton] at h1;subst h1;exact⟨n1,n2⟩
  ·rw[hS,h.mem];constructor
   ·rintro (⟨m,hm,e1,e2,e3⟩|⟨rfl,rfl,rfl⟩)
    ·exact⟨m,by simp[hm],e1,e2,e3⟩
    ·exact⟨_,by simp,hnk.1,hnk.2,(n3 _).2 (.inr rfl)⟩
   ·rintro ⟨m,hm,e1,e2,e3⟩;rcases List.mem_append.1 hm with h1|h1
    ·exact .inl ⟨m,h1,e1,e2,e3⟩
    ·simp only[List.mem_singleton] at h1;subst h1;right;rw[hnk.1] at e1;rw[hnk.2] at e2;refine⟨e1.symm,e2.symm,?_⟩;rcases(n3 _).1 e3 with h2|h2
     ·simp only[inM,List.not_mem_nil,or_false] at h2;omega
     ·exact h2
 unfold zkx;cases hl:l.getLast? with
 | none=>
  have:l=[]:=List.getLast?_eq_none_iff.1 hl;subst this;exact hfresh (by simp)
 | some m=>
  obtain⟨u,rfl⟩:∃ u,l=u++[m]:=⟨l.dropLast,by
   obtain⟨hne,he⟩:=List.getLast?_eq_some_iff.1 hl
   rw[he];simp⟩
  have hmm:m∈u++[m]:=by simp
  dsimp only;have hps:=List.pairwise_append.1 h.sorted
  split
  ·rename_i e;obtain⟨e1,e2⟩:=e
   obtain⟨n1,n2,n3⟩:=zx7 (h.can m hmm).1 hk (fun c' hc'=>by
    have:=(zfG _ _).1 (hb m hmm c' hc');dsimp only at this
    omega)
   have hk':=zwe m k.c;rw[List.dropLast_concat];refine⟨?_,fun m' hm=>?_,fun o e c=>?_⟩
   ·rw[List.pairwise_append];refine⟨hps.1,by simp,fun a ha b hb=>?_⟩;simp only[List.mem_singleton] at hb;subst hb;have:=hps.2.2 a ha m (by simp)
    unfold zbJ at this ⊢;rw[hk'.1,hk'.2];exact this
   ·rcases List.mem_append.1 hm with h1|h1
    ·exact h.can m' (by simp[h1])
    ·simp only[List.mem_singleton] at h1;subst h1;exact⟨n1,n2⟩
   ·rw[hS,h.mem];constructor
    ·rintro (⟨m',hm,f1,f2,f3⟩|⟨rfl,rfl,rfl⟩)
     ·rcases List.mem_append.1 hm with h1|h1
      ·exact⟨m',by simp[h1],f1,f2,f3⟩
      ·simp only[List.mem_singleton] at h1;subst h1;exact⟨_,by simp,hk'.1.trans f1,hk'.2.trans f2,(n3 _).2 (.inl f3)⟩
     ·exact⟨_,by simp,hk'.1.trans e1,hk'.2.trans e2,(n3 _).2 (.inr rfl)⟩
    ·rintro ⟨m',hm,f1,f2,f3⟩;rcases List.mem_append.1 hm with h1|h1
     ·exact .inl ⟨m',by simp[h1],f1,f2,f3⟩
     ·simp only[List.mem_singleton] at h1;subst h1;rw[hk'.1] at f1;rw[hk'.2] at f2;rcases(n3 _).1 f3 with h2|h2
      ·exact .inl ⟨m,by simp,f1,f2,h2⟩
      ·exact .inr ⟨by omega,by omega,h2⟩
  ·rename_i e;obtain⟨c0,hc0⟩:=CanR.some (h.can m hmm).2;have h1:=(zfG _ _).1 (hb m hmm c0 hc0)
   dsimp only at h1;refine hfresh fun m' hm'=>?_
   rcases List.mem_append.1 hm' with h2|h2
   ·have:=hps.2.2 m' h2 m (by simp);unfold zbJ at this;omega
   ·simp only[List.mem_singleton] at h2;subst h2;omega
def zCt (L:List K):Prop:=L.Pairwise (fun a b=>zfw a b=true)∧∀ k∈L,1≤k.c
theorem zwf {L:List K} (h:zCt L):Canon (zit L) (zb7 L):=by
 have:∀ i,i≤L.length→Canon (zit (L.take i)) (zb7 (L.take i)):=fun i=>by
  induction i with
  | zero=>intro _;exact⟨by simp[zb7],by simp[zb7],by simp[zb7,zit]⟩
  | succ i ih=>
   intro hi;have e:L.take (i+1)=L.take i++[L[i]]:=by rw[List.take_add_one,List.getElem?_eq_getElem (by omega)];rfl
   rw[e]
   have:=zzo (ih (by omega)) (k:=L[i]) (h.2 _ (List.getElem_mem _)) fun y hy=>by
    obtain⟨j,hj,rfl⟩:=List.getElem_of_mem hy;rw[List.getElem_take];exact List.pairwise_iff_getElem.1 h.1 j i _ _ (by simp at hj;omega)
   unfold zb7 at this ⊢;rw[List.foldl_append];exact this
 have h1:=this L.length (Nat.le_refl _);rw[List.take_length] at h1;exact h1
theorem zmn (k:K):∀ (L:List K) (x:K),x∈putK k L↔x=k∨x∈L
 | [],x=>by simp[putK]
 | y::r,x=>by
  simp only[putK];split
  ·simp only[List.mem_cons]
  ·simp only[List.mem_cons,zmn k r x];constructor
   ·rintro (h|h|h)<;>simp[h]
   ·rintro (h|h|h)<;>simp[h]
theorem zpn (k:K):∀ {L:List K},L.Pairwise (fun a b=>zfw a b=true)→k∉L→(putK k L).Pairwise (fun a b=>zfw a b=true)
 | [],_,_=>by simp[putK]
 | y::r,h,hn=>by
  obtain⟨h1,h2⟩:=List.pairwise_cons.1 h;simp only[List.mem_cons,not_or] at hn;simp only[putK];split
  ·rename_i e;refine List.pairwise_cons.2 ⟨fun z hz=>?_,h⟩;rcases List.mem_cons.1 hz with e1|e1
   ·subst e1;exact e
   ·have h3:=(zfG _ _).1 (h1 z e1);have h4:=(zfG _ _).1 e
    exact(zfG _ _).2 (by omega)
  ·rename_i e;refine List.pairwise_cons.2 ⟨fun z hz=>?_,zpn k h2 hn.2⟩;rcases(zmn k r z).1 hz with e1|e1
   ·subst e1
    have h5:¬(z.o=y.o∧z.e=y.e∧z.c=y.c):=fun ⟨a1,a2,a3⟩=>hn.1 (by
     obtain⟨z1,z2,z3⟩:=z;obtain⟨y1,y2,y3⟩:=y;simp only at a1 a2 a3
     rw[a1,a2,a3])
    rw[zfG] at e;exact(zfG _ _).2 (by omega)
   ·exact h1 z e1
end Go.Proofs.YtpdkkbpkplhdpaaGreat
