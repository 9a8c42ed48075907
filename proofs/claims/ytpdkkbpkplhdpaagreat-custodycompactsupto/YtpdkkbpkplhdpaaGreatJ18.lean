/- Part of this proof;laid by program. -/
import Derived.Test.YtpdkkbpkplhdpaaGreatJ17
import Derived.Test.YtpdkkbpkplhdpaaGreatJ10
import Derived.Test.YtpdkkbpkplhdpaaGreatJ16
set_option linter.unusedVariables false
set_option linter.unusedSimpArgs false
namespace Go.Proofs.YtpdkkbpkplhdpaaGreat
open Go Go.Vm
attribute [local irreducible] Brn Ob Grow CallsM inR zay zax Mem.row Mem.cells Mem.setCells Mem.upd Go.Vm.Own zaG za5 za6 zaO New SrcOk subA NewSl Mem.textAt Mem.mapAt Mem.iterAt zaw zai Wr NewEls Elems
set_option maxRecDepth 10000
variable {M:Mem}
structure MarksR (M:Mem) (a:Option Addr) (n:Nat) (l:List MkC):Prop where
 row:SrcOk M 4 a n (l.flatMap zkG)
 more:∀ m∈l,SrcOk M 1 m.a m.more.length (m.more.map zaj)
theorem MarksAt.r {M0 M':Mem} {a:Option Addr} {n c:Nat} {l:List MkC} (h:MarksAt M0 a n c l M'):MarksR M' a n l:=⟨h.row.src,fun m hm=>(h.more m hm).src⟩
theorem MarksR.le {M M':Mem} {a:Option Addr} {n:Nat} {l:List MkC} (h:MarksR M a n l) (hle:M.le M'):MarksR M' a n l:=⟨h.row.le hle,fun m hm=>(h.more m hm).le hle⟩
theorem MarksR.len {M:Mem} {a:Option Addr} {n:Nat} {l:List MkC} (h:MarksR M a n l):l.length=n:=h.row.flen zek (by decide)
def zBn (l:List MkC):Prop:=∀ m∈l,m.more.length≤4194304
theorem zCJ {a b:Option Addr} {n m c d:Nat} {l r:List MkC} (ha:MarksR M a n l) (hb:MarksR M b m r) (fl:zBn l) (hn:n≤4194304) (hm:m≤4194304) :
  CallsM Tryz.prog F.zfC [.slice a n c,.slice b m d] M fun v M'=>v = .bool (decide (l.map MkC.mk'=r.map MkC.mk'))∧M=M':=by
 refine zmX (by simp) ?_
 have hl:=ha.len
 have hr:=hb.len
 (conv=>whnf);refine brn (fun h=>?_) (fun h=>?_)
 ·refine zR ?_
  have h':¬(n:Int)=m:=by simpa using h
  refine⟨?_,rfl⟩
  have:¬l.map MkC.mk'=r.map MkC.mk':=fun e=>h' (by have:=congrArg List.length e;simp at this;omega)
  simp[this]
 have hnm:n=m:=by have h':(n:Int)=m:=by simpa using h
                  omega
 subst hnm
 (conv=>whnf)
 refine zeo [5] (fun (i:Nat)=>[(5,.int .i64 i)]) (fun i=>i≤n∧(l.map MkC.mk').take i=(r.map MkC.mk').take i) (fun i=>n - i) 0 ⟨by omega,by simp⟩ zS ?_
 intro i ⟨hi,hsame⟩
 (conv=>whnf);refine brn (fun g=>?_) (fun g=>?_)
 ·have hlt:i<n:=by have:=Zd0 g;omega
  have hx:l[i]? = some (l[i]'(by omega)):=List.getElem?_eq_getElem (by omega)
  have hy:r[i]? = some (r[i]'(by omega)):=List.getElem?_eq_getElem (by omega)
  generalize l[i]'(by omega)=x at *
  generalize r[i]'(by omega)=y at *
  obtain⟨b1,o1,rfl,hc1⟩:=ha.row.fcells zek (by decide) hx
  obtain⟨b2,o2,rfl,hc2⟩:=hb.row.fcells zek (by decide) hy
  have hxm:=ha.more x (List.mem_of_getElem? hx)
  have hym:=hb.more y (List.mem_of_getElem? hy)
  have no:¬x.mk'=y.mk'→¬l.map MkC.mk'=r.map MkC.mk':=fun hne e=>by
   have:=congrArg (·[i]?) e
   simp[hx,hy] at this
   exact hne this
  refine zR ?_
  refine ob (by omega) ?_
  (conv=>whnf);refine on (hc1 0 _ rfl) ?_
  (conv=>whnf);refine ob (by omega) ?_
  (conv=>whnf);refine on (hc2 0 _ rfl) ?_
  (conv=>whnf);refine brn (fun g1=>?_) (fun g1=>?_)
  ·refine zR ?_
   exact⟨by simp[no (fun e=>by simp at g1;exact g1 (congrArg Mk.o e))],rfl⟩
  have e1:x.o=y.o:=by simpa using g1
  (conv=>whnf);refine ob (by omega) ?_
  (conv=>whnf);refine on (hc1 1 _ rfl) ?_
  (conv=>whnf);refine ob (by omega) ?_
  (conv=>whnf);refine on (hc2 1 _ rfl) ?_
  (conv=>whnf);refine brn (fun g2=>?_) (fun g2=>?_)
  ·refine zR ?_
   exact⟨by simp[no (fun e=>by simp at g2;exact g2 (congrArg Mk.e e))],rfl⟩
  have e2:x.e=y.e:=by simpa using g2
  (conv=>whnf);refine ob (by omega) ?_
  (conv=>whnf);refine on (hc1 2 _ rfl) ?_
  (conv=>whnf);refine ob (by omega) ?_
  (conv=>whnf);refine on (hc2 2 _ rfl) ?_
  (conv=>whnf);refine brn (fun g3=>?_) (fun g3=>?_)
  ·refine zR ?_
   exact⟨by simp[no (fun e=>by simp at g3;exact g3 (congrArg Mk.up e))],rfl⟩
  have e3:x.up=y.up:=by simpa using g3
  (conv=>whnf);refine ob (by omega) ?_
  (conv=>whnf);refine on (hc1 3 _ rfl) ?_
  (conv=>whnf);refine ob (by omega) ?_
  (conv=>whnf);refine on (hc2 3 _ rfl) ?_
  (conv=>whnf);refine brn (fun g4=>?_) (fun g4=>?_)
  ·refine zR ?_
   exact⟨by simp[no (fun e=>by simp at g4;exact g4 (congrArg (fun m:Mk=>(m.more.length:Int)) e))],rfl⟩
  have e4:x.more.length=y.more.length:=by
   have:(x.more.length:Int)=y.more.length:=by simpa using g4
   omega
  have hfx:=fl x (List.mem_of_getElem? hx)
  (conv=>whnf)
  refine zeo [6] (fun (k:Nat)=>[(6,.int .i64 k)]) (fun k=>k≤x.more.length∧x.more.take k=y.more.take k) (fun k=>x.more.length - k) 0 ⟨by omega,by simp⟩ zS ?_
  intro k ⟨hk,hsk⟩
  (conv=>whnf);refine ob (by omega) ?_
  (conv=>whnf);refine on (hc1 3 _ rfl) ?_
  (conv=>whnf);refine brn (fun g5=>?_) (fun g5=>?_)
  ·have hlk:k<x.more.length:=by have:=Zd0 g5;omega
   obtain⟨hkx,bx,ox,hax,hrx⟩:=hxm.at (i:=k) hlk
   obtain⟨hky,by',oy,hay,hry⟩:=hym.at (i:=k) (by omega)
   refine zR ?_
   refine ob (by omega) ?_
   (conv=>whnf);refine on (hc1 3 _ rfl) ?_
   (conv=>whnf);refine ob (by omega) ?_
   (conv=>whnf);refine atp hax ?_
   (conv=>whnf);refine on hrx ?_
   (conv=>whnf);refine ob (by omega) ?_
   (conv=>whnf);refine on (hc2 3 _ rfl) ?_
   (conv=>whnf);refine ob (by omega) ?_
   (conv=>whnf);refine atp hay ?_
   (conv=>whnf);refine on hry ?_
   (conv=>whnf);refine brn (fun g6=>?_) (fun g6=>?_)
   ·refine zR ?_
    refine⟨?_,rfl⟩
    have:¬x.mk'=y.mk':=fun e=>by
     have e5:x.more=y.more:=congrArg Mk.more e
     simp[e5] at g6
    simp[no this]
   ·(conv=>whnf);refine ob (ze (by omega)) ?_
    (conv=>whnf)
    refine⟨k+1,⟨by omega,?_⟩,by omega,zS⟩
    have e6:x.more[k]=y.more[k]:=by simpa using g6
    rw[List.take_add_one,List.take_add_one,hsk,List.getElem?_eq_getElem hkx,List.getElem?_eq_getElem hky,e6]
  ·have hge:x.more.length≤k:=by have:=Zd1 g5;omega
   rw[List.take_of_length_le hge,List.take_of_length_le (by omega)] at hsk
   (conv=>whnf);refine ob (ze (by omega)) ?_
   (conv=>whnf)
   refine⟨i+1,⟨by omega,?_⟩,by omega,zS⟩
   rw[List.take_add_one,List.take_add_one,hsame]
   simp[hx,hy,MkC.mk',e1,e2,e3,hsk]
 ·have hge:i=n:=by have:=Zd1 g;omega
  subst hge
  refine zR ?_
  refine⟨?_,rfl⟩
  rw[List.take_of_length_le (by simp;omega),List.take_of_length_le (by simp;omega)] at hsame
  simp[hsame]
end Go.Proofs.YtpdkkbpkplhdpaaGreat
namespace Go.Proofs.YtpdkkbpkplhdpaaGreat
open Go Go.Vm
section
def CanR (up:Int) (more:List Int):Prop:=0≤up∧more.Pairwise (· < ·)∧∀ c∈more,up+1<c
def inM (up:Int) (more:List Int) (c:Int):Prop:=(1≤c∧c≤up)∨c∈more
theorem zlM {α:Type} {R:α→α→Prop} (irr:∀ x,¬R x x) (asym:∀ x y,R x y→¬R y x):∀ {l l':List α},l.Pairwise R→l'.Pairwise R→(∀ x,x∈l↔x∈l')→l=l'
 | [],[],_,_,_=>rfl
 | [],y::s,_,_,h=>absurd ((h y).2 (by simp)) (by simp)
 | x::r,[],_,_,h=>absurd ((h x).1 (by simp)) (by simp)
 | x::r,y::s,h1,h2,h=>by
  obtain⟨h3,h4⟩:=List.pairwise_cons.1 h1
  obtain⟨h5,h6⟩:=List.pairwise_cons.1 h2
  have hxy:x=y:=by
   rcases List.mem_cons.1 ((h x).1 (by simp)) with e|e
   ·exact e
   ·rcases List.mem_cons.1 ((h y).2 (by simp)) with e'|e'
    ·exact e'.symm
    ·exact absurd (h5 x e) (asym _ _ (h3 y e'))
  subst hxy
  rw[zlM irr asym h4 h6 fun z=>?_]
  constructor
  ·intro hz
   rcases List.mem_cons.1 ((h z).1 (by simp[hz])) with e|e
   ·subst e;exact absurd (h3 z hz) (irr z)
   ·exact e
  ·intro hz
   rcases List.mem_cons.1 ((h z).2 (by simp[hz])) with e|e
   ·subst e;exact absurd (h5 z hz) (irr z)
   ·exact e
theorem CanR.up_le {up up':Int} {more more':List Int} (h':CanR up' more') (he:∀ c,inM up more c↔inM up' more' c):up≤up':=by
 apply Classical.byContradiction
 intro hn
 have h1:inM up' more' (up'+1):=(he _).1 (.inl ⟨by have:=h'.1;omega,by omega⟩)
 rcases h1 with h1|h1
 ·omega
 ·have:=h'.2.2 _ h1;omega
theorem CanR.uniq {up up':Int} {more more':List Int} (h:CanR up more) (h':CanR up' more') (he:∀ c,inM up more c↔inM up' more' c):up=up'∧more=more':=by
 have e:up=up':=Int.le_antisymm (CanR.up_le h' he) (CanR.up_le h fun c=>(he c).symm)
 subst e
 refine⟨rfl,zlM (R:=(· < ·)) (fun x=>by omega) (fun x y=>by omega) h.2.1 h'.2.1 fun c=>⟨fun hc=>?_,fun hc=>?_⟩⟩
 ·have h1:=h.2.2 c hc
  rcases(he c).1 (.inr hc) with h2|h2
  ·omega
  ·exact h2
 ·have h1:=h'.2.2 c hc
  rcases(he c).2 (.inr hc) with h2|h2
  ·omega
  ·exact h2
def zbO (x y:Mk):Prop:=x.o<y.o∨(x.o=y.o∧x.e<y.e)
theorem zlN:∀ {l:List Mk},l.Pairwise zbO→∀ {x y:Mk},x∈l→y∈l→x.o=y.o→x.e=y.e→x=y
 | [],_,x,y,hx,_,_,_=>by cases hx
 | z::r,h,x,y,hx,hy,h1,h2=>by
  obtain⟨h3,h4⟩:=List.pairwise_cons.1 h
  rcases List.mem_cons.1 hx with e|e
  ·rcases List.mem_cons.1 hy with e'|e'
   ·rw[e,e']
   ·subst e;have:=h3 y e';unfold zbO at this;omega
  ·rcases List.mem_cons.1 hy with e'|e'
   ·subst e';have:=h3 x e;unfold zbO at this;omega
   ·exact zlN h4 e e' h1 h2
structure Canon (S:Int→Int→Int→Prop) (l:List Mk):Prop where
 sorted:l.Pairwise zbO
 can:∀ m∈l,CanR m.up m.more∧(0<m.up∨m.more≠[])
 mem:∀ o e c,S o e c↔∃ m∈l,m.o=o∧m.e=e∧inM m.up m.more c
theorem CanR.some {up:Int} {more:List Int} (h:0<up∨more≠[]):∃ c,inM up more c:=by
 rcases h with h|h
 ·exact⟨up,.inl ⟨by omega,Int.le_refl _⟩⟩
 ·obtain⟨x,r,rfl⟩:=List.exists_cons_of_ne_nil h
  exact⟨x,.inr (by simp)⟩
theorem Canon.sub {S:Int→Int→Int→Prop} {l l':List Mk} (h:Canon S l) (h':Canon S l') {m:Mk} (hm:m∈l):m∈l':=by
 obtain⟨h1,h2⟩:=h.can m hm
 obtain⟨c0,hc0⟩:=CanR.some h2
 obtain⟨m',hm',e1,e2, -⟩:=(h'.mem _ _ _).1 ((h.mem _ _ _).2 ⟨m,hm,rfl,rfl,hc0⟩)
 have he:∀ c,inM m.up m.more c↔inM m'.up m'.more c:=fun c=>by
  constructor
  ·intro hc
   obtain⟨m2,hm2,e3,e4,hc2⟩:=(h'.mem _ _ _).1 ((h.mem _ _ _).2 ⟨m,hm,rfl,rfl,hc⟩)
   rw[zlN h'.sorted hm' hm2 (by omega) (by omega)];exact hc2
  ·intro hc
   obtain⟨m2,hm2,e3,e4,hc2⟩:=(h.mem _ _ _).1 ((h'.mem _ _ _).2 ⟨m',hm',rfl,rfl,hc⟩)
   rw[zlN h.sorted hm hm2 (by omega) (by omega)];exact hc2
 obtain⟨e3,e4⟩:=h1.uniq (h'.can m' hm').1 he
 have:m=m':=by
  obtain⟨a,b,c,d⟩:=m
  obtain⟨a',b',c',d'⟩:=m'
  simp only at e1 e2 e3 e4
  rw[e1,e2,e3,e4]
 rw[this];exact hm'
theorem Canon.uniq {S:Int→Int→Int→Prop} {l l':List Mk} (h:Canon S l) (h':Canon S l'):l=l':=
 zlM (R:=zbO) (fun x=>by unfold zbO;omega) (fun x y=>by unfold zbO;omega) h.sorted h'.sorted fun _=>⟨fun hm=>h.sub h' hm,fun hm=>h'.sub h hm⟩
theorem zlO (c:Int):∀ (l:List Int) (x:Int),x∈zdJ c l↔x=c∨x∈l
 | [],x=>by simp[zdJ]
 | y::r,x=>by
  simp only[zdJ]
  split
  ·simp only[List.mem_cons,zlO c r x]
   constructor
   ·rintro (h|h|h)<;>simp[h]
   ·rintro (h|h|h)<;>simp[h]
  ·simp only[List.mem_cons]
theorem zo5 (c:Int):∀ (l:List Int),l.Pairwise (· < ·)→c∉l→(zdJ c l).Pairwise (· < ·)
 | [],_,_=>by simp[zdJ]
 | y::r,h,hn=>by
  obtain⟨h1,h2⟩:=List.pairwise_cons.1 h
  simp only[List.mem_cons,not_or] at hn
  simp only[zdJ]
  split
  ·refine List.pairwise_cons.2 ⟨fun z hz=>?_,zo5 c r h2 hn.2⟩
   rcases(zlO c r z).1 hz with e|e
   ·omega
   ·exact h1 z e
  ·refine List.pairwise_cons.2 ⟨fun z hz=>?_,h⟩
   rcases List.mem_cons.1 hz with e|e
   ·omega
   ·have:=h1 z e;omega
theorem zqe:∀ (l:List Int) (up:Int),0≤up→l.Pairwise (· < ·)→(∀ x∈l,up<x)→CanR (normC up l).1 (normC up l).2∧(∀ c,inM (normC up l).1 (normC up l).2 c↔inM up l c)∧(normC up l).2.length≤l.length
 | [],up,h0,_,_=>by simp[normC,CanR,h0]
 | y::r,up,h0,h1,h2=>by
  obtain⟨h3,h4⟩:=List.pairwise_cons.1 h1
  simp only[normC]
  split
  ·rename_i e
   obtain⟨i1,i2,i3⟩:=zqe r (up+1) (by omega) h4 (fun x hx=>by have:=h3 x hx;omega)
   refine⟨i1,fun c=>(i2 c).trans ?_,by simp;omega⟩
   unfold inM
   simp only[List.mem_cons]
   constructor
   ·rintro (h|h)
    ·by_cases h5:c=up+1
     ·exact .inr (.inl (by omega))
     ·exact .inl (by omega)
    ·exact .inr (.inr h)
   ·rintro (h|h|h)
    ·exact .inl (by omega)
    ·exact .inl (by omega)
    ·exact .inr h
  ·rename_i e
   refine⟨⟨h0,h1,fun x hx=>?_⟩,fun c => .rfl,by simp⟩
   have hy:=h2 y (by simp)
   rcases List.mem_cons.1 hx with e'|e'
   ·omega
   ·have:=h3 x e';omega
theorem zAh (up:Int) (r:List Int) (h0:0≤up) (h:((up+1)::r).Pairwise (· < ·)):(normC up ((up+1)::r)).2.length≤r.length:=by
 obtain⟨h3,h4⟩:=List.pairwise_cons.1 h
 simp only[normC,if_true]
 exact(zqe r (up+1) (by omega) h4 h3).2.2
end
section
abbrev EsT:=List ((Int×Int)×Ent)
def inE (es:EsT) (o e c:Int):Prop:=inM (zcz es (o,e)) (zbY es (o,e)) c
def zvT (o e:Int):Prop:=0≤o∧o≤63∧1≤e∧e≤65535
structure InvE (es:EsT):Prop where
 nodup:(es.map (·.1)).Nodup
 can:∀ q∈es,CanR q.2.up q.2.more∧(0<q.2.up∨q.2.more≠[])
 range:∀ q∈es,zvT q.1.1 q.1.2∧∀ c,inM q.2.up q.2.more c→c≤65535
theorem InvE.nil:InvE []:=⟨by simp,by simp,by simp⟩
theorem InvE.good {es:EsT} (h:InvE es):zuD es:=fun q hq=>by
 obtain⟨h1,_⟩:=h.can q hq
 have h0:=h1.1
 refine⟨h0,?_⟩
 by_cases e:q.2.up=0
 ·omega
 ·exact(h.range q hq).2 _ (.inl ⟨by omega,Int.le_refl _⟩)
theorem InvE.sorted {es:EsT} (h:InvE es):∀ q∈es,q.2.more.Pairwise (· < ·):=fun q hq=>(h.can q hq).1.2.1
theorem zsU {es:EsT} (h:InvE es) (o e c:Int):inE es o e c↔∃ q∈es,q.1.1=o∧q.1.2=e∧inM q.2.up q.2.more c:=by
 unfold inE zcz zbY
 cases hx:zB es (o,e) with
 | none=>
  refine⟨fun hc=>?_,fun ⟨q,hq,e1,e2,_⟩=>?_⟩
  ·simp only[inM,List.not_mem_nil,or_false] at hc;omega
  ·have:=aget_none.1 hx
   exact absurd (List.mem_map.2 ⟨q,hq,by obtain⟨⟨a,b⟩,z⟩:=q;simp only at e1 e2 ⊢; rw[e1,e2]⟩) this
 | some x=>
  refine⟨fun hc=>⟨((o,e),x),zN hx,rfl,rfl,hc⟩,fun ⟨q,hq,e1,e2,hc⟩=>?_⟩
  have:zB es (o,e)=some q.2:=zc6 h.nodup (by obtain⟨⟨a,b⟩,z⟩:=q;simp only at e1 e2 ⊢; rw[←e1,←e2];exact hq)
  rw[hx] at this
  cases this
  exact hc
theorem zCK {es:EsT} (h:InvE es) (k:Int×Int):CanR (zcz es k) (zbY es k):=by
 unfold zcz zbY
 cases hx:zB es k with
 | none=>simp[CanR]
 | some x=>exact(h.can _ (zN hx)).1
theorem zkH {es:EsT} (h:InvE es) {l:List MkC} (hp:(l.map MkC.mk').Perm (es.map zbu)) (hs:l.Pairwise (fun x y=>¬zje y x<0)):Canon (inE es) (l.map MkC.mk'):=by
 have hkeys:((l.map MkC.mk').map fun m=>(m.o,m.e)).Nodup:=by
  rw[(hp.map _).nodup_iff,List.map_map]
  exact h.nodup
 refine⟨?_,fun m hm=>?_,fun o e c=>?_⟩
 ·rw[List.map_map,List.Nodup,List.pairwise_map] at hkeys
  rw[List.pairwise_map]
  refine(hs.and hkeys).imp fun {x y} ⟨h1,h2⟩=>?_
  rw[ziw] at h1
  have h3:¬(x.o=y.o∧x.e=y.e):=fun ⟨e1,e2⟩=>h2 (by simp[MkC.mk',e1,e2])
  show x.o<y.o∨(x.o=y.o∧x.e<y.e)
  omega
 ·obtain⟨q,hq,rfl⟩:=List.mem_map.1 (hp.mem_iff.1 hm)
  exact h.can q hq
 ·rw[zsU h]
  constructor
  ·rintro ⟨q,hq,e1,e2,hc⟩
   exact⟨zbu q,hp.mem_iff.2 (List.mem_map.2 ⟨q,hq,rfl⟩),e1,e2,hc⟩
  ·rintro ⟨m,hm,e1,e2,hc⟩
   obtain⟨q,hq,rfl⟩:=List.mem_map.1 (hp.mem_iff.1 hm)
   exact⟨q,hq,e1,e2,hc⟩
theorem zvU:∀ (es:EsT) (k:Int×Int) (x x0:Ent),zB es k=some x0→zaC (zcn es k x)+x0.more.length=zaC es+x.more.length
 | [],k,x,x0,h=>by simp[zB] at h
 | (k1,y)::r,k,x,x0,h=>by
  simp only[zB] at h
  by_cases e:k1=k
  ·subst e
   simp only[if_true,Option.some.injEq] at h
   subst h
   simp only[zcn,if_true,zaC,List.map_cons,List.sum_cons]
   omega
  ·rw[if_neg e] at h
   have ih:=zvU r k x x0 h
   simp only[zcn,if_neg e,zaC,List.map_cons,List.sum_cons] at ih ⊢
   omega
theorem zAi (es:EsT) (k:Int×Int) (x:Ent):zaC (zQ es k x)+(zbY es k).length=zaC es+x.more.length:=by
 unfold zbY zQ
 cases hx:zB es k with
 | none=>simp[zaC]
 | some x0=>exact zvU es k x x0 hx
theorem zlP {es:EsT} (hn:(es.map (·.1)).Nodup) {k:Int×Int} {x:Ent} {q:(Int×Int)×Ent} (hq:q∈zQ es k x):q=(k,x)∨(q∈es∧q.1≠k):=by
 unfold zQ at hq
 cases hx:zB es k with
 | none=>
  rw[hx] at hq
  rcases List.mem_append.1 hq with h|h
  ·refine .inr ⟨h,fun e=>aget_none.1 hx (List.mem_map.2 ⟨q,h,e⟩)⟩
  ·exact .inl (by simpa using h)
 | some x0=>
  rw[hx] at hq
  obtain⟨u,v,h1,h2,h3,h4⟩:=zie hn hx x
  rw[h2] at hq
  rcases List.mem_append.1 hq with h|h
  ·exact .inr ⟨by rw[h1];simp[h],h3 q h⟩
  ·rcases List.mem_cons.1 h with h|h
   ·exact .inl h
   ·exact .inr ⟨by rw[h1];simp[h],h4 q h⟩
theorem zlQ {o d e c:Int} (h:zbw o d e c=0):zvT o e∧1≤c∧c≤65535:=by
 unfold zbw at h
 split at h
 ·unfold zvT;omega
 ·omega
theorem zBo {es:EsT} {o d e c:Int} (h:zbw o d e c=0):zg4 es o d e c=true↔inE es o e c:=by
 obtain⟨_,h1,_⟩:=zlQ h
 simp only[zg4,h,decide_true,Bool.true_and,Bool.or_eq_true,decide_eq_true_eq,inE,inM]
 constructor
 ·rintro (h2|h2)
  ·exact .inl ⟨h1,h2⟩
  ·exact .inr h2
 ·rintro (h2|h2)
  ·exact .inl h2.2
  ·exact .inr h2
theorem ztl {gaps:Int} {es:EsT} {o d e c:Int} (h:zdj gaps es o d e c=0):zbw o d e c=0∧¬inE es o e c∧(c=zcz es (o,e)+1∨(zaC es:Int)<gaps):=by
 have hid:zbw o d e c=0:=by
  apply Classical.byContradiction
  intro hn
  simp[zdj,hn] at h
 refine⟨hid,fun hi=>?_,?_⟩
 ·have:=(zBo hid).2 hi
  simp[zdj,hid,this] at h
 ·by_cases e1:c=zcz es (o,e)+1
  ·exact .inl e1
  ·right
   by_cases e2:gaps≤(zaC es:Int)
   ·by_cases hh:zg4 es o d e c=true<;>simp[zdj,hid,e1,e2,hh] at h
   ·omega
theorem zCL {gaps:Int} {es:EsT} (h:InvE es) {o d e c:Int} (hz:zdj gaps es o d e c=0) {x:Ent} (hx:(x.up,x.more)=zfa es o e c) :
  InvE (zQ es (o,e) x)∧(∀ o' e' c',inE (zQ es (o,e) x) o' e' c'↔(o'=o∧e'=e∧c'=c)∨inE es o' e' c')∧((zaC es:Int)≤gaps→(zaC (zQ es (o,e) x):Int)≤gaps)∧zaC (zQ es (o,e) x)≤zaC es+1:=by
 obtain⟨hid,hni,hroom⟩:=ztl hz
 obtain⟨hrk,hc1,hc2⟩:=zlQ hid
 have hcan:=zCK h (o,e)
 obtain⟨h0,h1,h2⟩:=hcan
 have hni':¬c≤zcz es (o,e)∧c∉zbY es (o,e):=by
  unfold inE inM at hni
  exact⟨fun hh=>hni (.inl ⟨hc1,hh⟩),fun hh=>hni (.inr hh)⟩
 have hso:=zo5 c _ h1 hni'.2
 have hab:∀ y∈zdJ c (zbY es (o,e)),zcz es (o,e)<y:=fun y hy=>by
  rcases(zlO c _ y).1 hy with e1|e1
  ·omega
  ·have:=h2 y e1;omega
 obtain⟨n1,n2,n3⟩:=zqe _ _ h0 hso hab
 have hup:x.up=(zfa es o e c).1:=congrArg Prod.fst hx
 have hmo:x.more=(zfa es o e c).2:=congrArg Prod.snd hx
 unfold zfa at hup hmo
 rw[←hup,←hmo] at n1 n2
 rw[←hmo] at n3
 rw[zqc] at n3
 have hin:∀ c',inM x.up x.more c'↔c'=c∨inE es o e c':=fun c'=>by
  rw[n2]
  unfold inE inM
  rw[zlO]
  constructor
  ·rintro (h|h|h)<;>simp[h]
  ·rintro (h|h|h)<;>simp[h]
 have hg:=zAi es (o,e) x
 refine⟨⟨zd6 h.nodup _ _,fun q hq=>?_,fun q hq=>?_⟩,fun o' e' c'=>?_,fun hle=>?_,by omega⟩
 ·rcases zlP h.nodup hq with rfl|⟨hq,_⟩
  ·refine⟨n1,?_⟩
   by_cases e1:x.more=[]
   ·left
    rcases(hin c).2 (.inl rfl) with h5|h5
    ·show 0<x.up
     omega
    ·rw[e1] at h5;cases h5
   ·exact .inr e1
  ·exact h.can q hq
 ·rcases zlP h.nodup hq with rfl|⟨hq,_⟩
  ·refine⟨hrk,fun c' hc'=>?_⟩
   rcases(hin c').1 hc' with e1|e1
   ·omega
   ·obtain⟨q,hq,_,_,hm⟩:=(zsU h _ _ _).1 e1
    exact(h.range q hq).2 _ hm
  ·exact h.range q hq
 ·unfold inE zcz zbY
  rw[zdv]
  by_cases e1:(o',e')=(o,e)
  ·rw[if_pos e1]
   obtain⟨rfl,rfl⟩:=Prod.mk.injEq .. ▸ e1
   dsimp only
   rw[hin]
   unfold inE zcz zbY
   simp
  ·rw[if_neg e1]
   have:¬(o'=o∧e'=e∧c'=c):=fun ⟨a1,a2,_⟩=>e1 (by rw[a1,a2])
   simp[this]
 ·rcases hroom with e1|e1
  ·have hins:zdJ c (zbY es (o,e))=c::zbY es (o,e):=by
    cases hm:zbY es (o,e) with
    | nil=>rfl
    | cons y r=>
     simp only[zdJ]
     rw[if_neg]
     have:=h2 y (by rw[hm];simp)
     omega
   rw[hins,e1] at hmo hso
   have:=zAh _ _ h0 hso
   rw[←hmo] at this
   omega
  ·omega
end
end Go.Proofs.YtpdkkbpkplhdpaaGreat
namespace Go.Proofs.YtpdkkbpkplhdpaaGreat
open Go Go.Vm
attribute [local irreducible] Brn Ob Grow CallsM inR zay zax Mem.row Mem.cells Mem.setCells Mem.upd Go.Vm.Own zaG za5 za6 zaO New SrcOk subA NewSl Mem.textAt Mem.mapAt Mem.iterAt zaw zai Wr NewEls Elems
set_option maxRecDepth 10000
section
variable {M M0:Mem} {p b:Nat} {gaps:Int} {es:EsT}
structure FreshS (M0 M:Mem) (p b:Nat) (gaps:Int) (es:EsT):Prop where
 le:M0.le M
 at':SetAt M p b gaps es
 inv:InvE es
 room:(zaC es:Int)≤gaps∧gaps≤256
 fresh:∀ y,setB p b es y→M0 y=none
theorem FreshS.few (h:FreshS M0 M p b gaps es):zaC es≤256:=by have:=h.room;omega
theorem FreshS.to (h:FreshS M0 M p b gaps es) {M':Mem} (hle:M.le M'):FreshS M0 M' p b gaps es:=⟨Mem.le_trans h.le hle,h.at'.le hle,h.inv,h.room,h.fresh⟩
theorem FreshS.some (h:FreshS M0 M p b gaps es) {y:Nat} (hy:setB p b es y):M y≠none:=by
 rcases hy with rfl|rfl|⟨q,hq,hy⟩
 ·have:=h.at'.self;unfold Mem.has at this;rw[this];simp
 ·obtain⟨l,c,hh,_⟩:=h.at'.map;rw[hh];simp
 ·exact(h.at'.ents q hq).some hy
theorem newS (gaps:Int):CallsM Tryz.prog F.zgq [.int .i64 gaps] M fun v M'=>
  ((gaps<0∨256<gaps)∧v = .tuple #[.pointer none,.int .i64 1]∧M'=M) ∨
  (¬(gaps<0∨256<gaps)∧∃ p b,v = .tuple #[ptr p,.int .i64 0]∧FreshS M M' p b gaps []):=
 (zAg gaps).mono fun v M' h=>by
  rcases h with h|⟨h1,p,b,h2,h3,h4,h5,h6⟩
  ·exact .inl h
  ·refine .inr ⟨h1,p,b,h2,h5,h6,InvE.nil,⟨by simp[zaC];omega,by omega⟩,fun y hy=>?_⟩
   rcases hy with rfl|rfl|⟨q,hq,_⟩
   ·exact h3
   ·exact h4
   ·cases hq
def zyZ (gaps:Int) (es es':EsT) (o d e c:Int):Prop:=(zdj gaps es o d e c≠0∧es'=es)∨(zdj gaps es o d e c=0∧∃ x:Ent,es'=zQ es (o,e) x∧(x.up,x.more)=zfa es o e c)
theorem zEM (h:FreshS M0 M p b gaps es) (o d e c:Int):CallsM Tryz.prog F.zfm [ptr p,idV o d e c] M fun v M'=>
  ∃ es',v = .int .i64 (zdj gaps es o d e c)∧FreshS M0 M' p b gaps es'∧zyZ gaps es es' o d e c:=
 (zDT h.at' (by have:=h.few;omega) h.inv.good h.inv.sorted o d e c).mono fun v M' hv=>by
  obtain⟨rfl,⟨hn,hle⟩|⟨hz,hk,x,h1,hx,hown⟩⟩:=hv
  ·exact⟨es,rfl,h.to hle,.inl ⟨hn,rfl⟩⟩
  ·obtain⟨i1,i2,i3,i4⟩:=zCL h.inv hz hx
   refine⟨zQ es (o,e) x,rfl,⟨hk.le h.le h.fresh,h1,i1,⟨i3 h.room.1,h.room.2⟩,fun y hy=>?_⟩,.inr ⟨hz,x,rfl,hx⟩⟩
   have lo:∀ y,M y=none→M0 y=none:=fun y hy=>by
    cases e1:M0 y with
    | none=>rfl
    | some z=>rw[h.le _ _ e1] at hy;cases hy
   rcases hy with rfl|rfl|⟨q,hq,hy⟩
   ·exact h.fresh _ (.inl rfl)
   ·exact h.fresh _ (.inr (.inl rfl))
   ·rcases zlP h.inv.nodup hq with rfl|⟨hq,_⟩
    ·rcases hown y hy with h2|h2
     ·exact h.fresh _ h2
     ·exact lo _ h2
    ·exact h.fresh _ (.inr (.inr ⟨q,hq,hy⟩))
end
section
variable {M:Mem}
structure zE3 (M0:Mem) (a:Option Addr) (c:Nat) (l:List MkC) (M':Mem):Prop where
 row:NewSl M0 T.zhU 4 a l.length c (l.flatMap zkG) M'
 more:∀ m∈l,NewSl M0 T.zu 1 m.a m.more.length m.c (m.more.map zaj) M'
 apart:l.Pairwise fun x y=>∀ z,blk x.a z→¬blk y.a z
end
end Go.Proofs.YtpdkkbpkplhdpaaGreat
namespace Go.Proofs.YtpdkkbpkplhdpaaGreat
open Go Go.Vm
section
def zEN (L:List K) (o e c:Int):Prop:=(⟨o,e,c⟩:K)∈L
def zEm (L:List K):Prop:=L.Pairwise (fun a b=>zB2 a b=true)∧∀ k∈L,1≤k.c
end
section
structure zEO (es:EsT) (L:List K):Prop where
 inv:InvE es
 sort:zEm L
 same:∀ o e c,inE es o e c↔zEN L o e c
end
end Go.Proofs.YtpdkkbpkplhdpaaGreat
namespace Go.Proofs.YtpdkkbpkplhdpaaGreat
open Go Go.Vm
attribute [local irreducible] Brn Ob Grow CallsM inR zay Mem.row Mem.cells Mem.setCells Mem.upd Go.Vm.Own zaG za5 za6 zaO New SrcOk subA
def zfN (a b c d:Int) (n:Nat):Int:=if zbw a b c d≠0 then zbw a b c d else if n=0 then 2 else if 48<n then 3 else 0
set_option maxRecDepth 10000 in
theorem zkI (a b c d:Int) (p:Option Addr) (n k:Nat) (M:Mem):CallsM Tryz.prog F.zeu [.agg #[.int .i64 a,.int .i64 b,.int .i64 c,.int .i64 d,.slice p n k]] M fun v M'=>v = .int .i64 (zfN a b c d n)∧M=M':=by
 refine zra (by simp) ?_
 (conv=>whnf)
 repeat' ((conv=>whnf);first
  | (refine(zf2 _ _ _ _ _).mono ?_;rintro v M' ⟨rfl,rfl⟩)
  | refine brn (fun h=>?_) (fun h=>?_))
 all_goals (conv=>whnf)
 all_goals (refine⟨?_,rfl⟩;simp_all [zfN])
 all_goals omega
set_option maxRecDepth 10000 in
theorem zw9 (a b c d a' b' c' d':Int) (p p':Option Addr) (n k n' k':Nat) (M:Mem) (l l':List UInt8) (h1:SrcOk M 1 p n (l.map zh)) (h2:SrcOk M 1 p' n' (l'.map zh)) :
  CallsM Tryz.prog F.ziH [.agg #[.int .i64 a,.int .i64 b,.int .i64 c,.int .i64 d,.slice p n k],.agg #[.int .i64 a',.int .i64 b',.int .i64 c',.int .i64 d',.slice p' n' k']] M fun v M'=>
   v = .bool (decide ((a=a'∧b=b'∧c=c'∧d=d')∧l=l'))∧M=M':=by
 refine ztQ (by simp) ?_
 (conv=>whnf)
 repeat' ((conv=>whnf);first
  | refine zx6 h1 ?_
  | refine zx6 h2 ?_
  | refine brn (fun h=>?_) (fun h=>?_))
 all_goals (conv=>whnf)
 all_goals (refine⟨?_,rfl⟩;simp_all)
end Go.Proofs.YtpdkkbpkplhdpaaGreat
namespace Go.Proofs.YtpdkkbpkplhdpaaGreat
open Go Go.Vm
attribute [local irreducible] Brn Ob Grow CallsM inR zay zax Mem.row Mem.cells Mem.setCells Mem.upd Go.Vm.Own zaG za5 za6 zaO New SrcOk subA NewSl Mem.textAt Mem.mapAt Mem.iterAt zaw zai Wr NewEls Elems
set_option maxRecDepth 10000
section
structure zbo where
 id:IdT
 p:List UInt8
deriving DecidableEq
structure StR where
 self:Int
 qh:Int
 qb:Int
 qg:Int
 epoch:Int
 used:List Int
 l:List zbo
structure EvD where
 kind:Int
 id:IdT
 p:List UInt8
@[reducible] def zd7 (i:IdT):Int:=zbw i.o i.d i.e i.c
@[reducible] def zc0 (i:IdT) (n:Nat):Int:=zfN i.o i.d i.e i.c n
def zfO (i:IdT):Prop:=i.o=0∧i.d=0∧i.e=0∧i.c=0
instance (i:IdT):Decidable (zfO i):=by unfold zfO;infer_instance
def za8 (k:Int) (i:IdT) (n:Nat):Int:=
 if k=1 then (if ¬zfO i∨0<n then 2 else 0)
 else if k=2 then zc0 i n
 else if k=3∨k=4 then (if zd7 i≠0 then zd7 i else if 0<n then 2 else 0)
 else 1
def zo (l:List zbo):Nat:=(l.map fun m=>m.p.length).sum
def zeK (l:List zbo) (i:IdT):Bool:=l.any fun m=>decide (m.id=i)
def za0 (S:StR) (set:IdT→Int) (k:Int) (i:IdT) (n:Nat):Int:=
 if za8 k i n≠0 then za8 k i n
 else if k=1 then (if S.epoch=65535 then 10 else 0)
 else if k=2 then (if i.d=S.self∨(i.o=S.self∧S.epoch<i.e) then 2 else if zeK S.l i then 5 else if S.qh≤S.l.length∨S.qb<zo S.l+n then 6 else 0)
 else if k=3 then (if zeK S.l i then 0 else 4)
 else (if i.d≠S.self then 2 else set i)
def zdt (S:StR) (d:Int):Int:=S.used.getD d.toNat 0
def zad (S:StR) (k:Int) (i:IdT) (p:List UInt8):StR:=
 if k=1 then { S with epoch:=S.epoch+1,used:=List.replicate 64 0 }
 else if k=2 then { S with l:=S.l++[⟨i,p⟩],used:=if i.o=S.self∧i.e=S.epoch then S.used.set i.d.toNat (max (zdt S i.d) i.c) else S.used }
 else if k=3 then { S with l:=S.l.filter fun m=>decide (m.id≠i) }
 else S
structure zfF (S:StR):Prop where
 self:0≤S.self∧S.self≤63
 epoch:0≤S.epoch∧S.epoch≤65535
 ulen:S.used.length=64
 used:∀ n∈S.used,0≤n∧n≤65535
 qh:(S.l.length:Int)≤S.qh∧S.qh≤2097152
 qb:(zo S.l:Int)≤S.qb∧S.qb≤134217728
 msgs:∀ m∈S.l,zc0 m.id m.p.length=0∧m.id.d≠S.self∧(m.id.o=S.self→m.id.e≤S.epoch)
 nodup:(S.l.map (·.id)).Nodup
structure PX where
 id:IdT
 a:Option Addr
 c:Nat
 p:List UInt8
 n:Int
@[reducible] def PX.msg (x:PX):zbo:=⟨x.id,x.p⟩
abbrev HsT:=List (IdT×PX)
@[reducible] def idA (i:IdT):Value := .agg #[.int .i64 i.o,.int .i64 i.d,.int .i64 i.e,.int .i64 i.c]
@[reducible] def pxV (x:PX):Value := .agg #[.int .i64 x.id.o,.int .i64 x.id.d,.int .i64 x.id.e,.int .i64 x.id.c,.slice x.a x.p.length x.c,.int .i64 x.n]
theorem idK:zjT idA:=by
 intro a b
 obtain⟨a1,a2,a3,a4⟩:=a
 obtain⟨b1,b2,b3,b4⟩:=b
 simp only[zfg,zbS,if_true,IdT.mk.injEq]
 (repeat' split)<;>simp_all
@[reducible] def zD (S:StR) (b:Nat) (came:Int) (bytes:Int) (sp:Nat):List Value:=
 [.int .i64 S.self,.int .i64 S.qh,.int .i64 S.qb,.int .i64 S.qg,.int .i64 S.epoch]++S.used.map zaj++[.map (some b),.int .i64 came,.int .i64 bytes,ptr sp]
structure StAt (M:Mem) (p b sp sb:Nat) (S:StR) (came:Int) (xs:HsT) (es:EsT):Prop where
 self:M.has p T.zl (zD S b came (zo S.l) sp)
 map:MapAt idA pxV M b xs
 data:∀ q∈xs,Wr M T.zm 1 q.2.a q.2.p.length q.2.c (q.2.p.map zh)
 set:SetAt M sp sb S.qg es
 held:xs.map (fun q=>q.2.msg)=S.l
 keys:∀ q∈xs,q.2.id=q.1
 ord:xs.Pairwise fun x y=>x.2.n<y.2.n
 came:0≤came∧∀ q∈xs,0≤q.2.n∧q.2.n<came
 ne:b≠sb
def stB (p b sp sb:Nat) (xs:HsT) (es:EsT):Nat→Prop:=fun y=>y=p∨y=b∨(∃ q∈xs,blk q.2.a y)∨setB sp sb es y
variable {M:Mem} {p b sp sb:Nat} {S:StR} {came:Int} {xs:HsT} {es:EsT}
theorem SetAt.mono {M':Mem} {gaps:Int} (h:SetAt M sp sb gaps es) (hk:∀ y o,setB sp sb es y→M y=some o→M' y=some o):SetAt M' sp sb gaps es:=
 ⟨hk _ _ (.inl rfl) h.self,h.map.mono fun o ho=>hk _ _ (.inr (.inl rfl)) ho,fun q hq=>(h.ents q hq).mono fun y o hy ho=>hk y o (.inr (.inr ⟨q,hq,hy⟩)) ho,h.apart⟩
theorem StAt.mono {M':Mem} (h:StAt M p b sp sb S came xs es) (hk:∀ y o,stB p b sp sb xs es y→M y=some o→M' y=some o):StAt M' p b sp sb S came xs es:=
 ⟨hk _ _ (.inl rfl) h.self,h.map.mono fun o ho=>hk _ _ (.inr (.inl rfl)) ho,fun q hq=>(h.data q hq).mono fun y o hy ho=>hk _ o (.inr (.inr (.inl ⟨q,hq,_,hy,rfl⟩))) ho,h.set.mono fun y o hy ho=>hk y o (.inr (.inr (.inr hy))) ho,h.held,h.keys,h.ord,h.came,h.ne⟩
theorem StAt.le {M':Mem} (h:StAt M p b sp sb S came xs es) (hle:M.le M'):StAt M' p b sp sb S came xs es:=h.mono fun y o _=>hle y o
theorem zcG (hu:S.used.length=64) (b:Nat) (came bytes:Int) (sp:Nat):(zD S b came bytes sp).length=73:=by simp[hu]
theorem zeL (hu:S.used.length=64) (b:Nat) (came bytes:Int) (sp:Nat):(zD S b came bytes sp)[69]? = some (.map (some b)):=by
 simp[hu]
theorem ztn (hu:S.used.length=64) (b:Nat) (came bytes:Int) (sp:Nat):(zD S b came bytes sp)[70]? = some (.int .i64 came):=by
 simp[hu]
theorem zgI (hu:S.used.length=64) (b:Nat) (came bytes:Int) (sp:Nat):(zD S b came bytes sp)[71]? = some (.int .i64 bytes):=by
 simp[hu]
theorem zlR (hu:S.used.length=64) (b:Nat) (came bytes:Int) (sp:Nat):(zD S b came bytes sp)[72]? = some (ptr sp):=by
 simp[hu]
theorem zto (hu:S.used.length=64) (b:Nat) (came bytes:Int) (sp:Nat) {d:Nat} (hd:d<64):(zD S b came bytes sp)[5+d]? = some (.int .i64 (S.used.getD d 0)):=by
 have h:d<S.used.length:=by omega
 rw[Nat.add_comm 5 d]
 simp[List.getElem?_append,h]
end
section
variable {M:Mem} {p b sp sb:Nat} {S:StR} {came:Int} {xs:HsT} {es:EsT}
theorem zjf (n most:Int):CallsM Tryz.prog F.zdo [.int .i64 n,.int .i64 most] M fun v M'=>v = .bool (decide (0≤n∧n≤most))∧M=M':=by
 refine zwM (by simp) ?_
 (conv=>whnf);refine brn (fun h=>?_) (fun h=>?_)
 all_goals (conv=>whnf)
 ·exact⟨by have:=Zd0 h;simp_all,rfl⟩
 ·exact⟨by have:=Zd1 h;simp_all;omega,rfl⟩
theorem zxB (k:Int) (i:IdT) (a:Option Addr) (n c:Nat):CallsM Tryz.prog F.zgt [.agg #[.int .i64 k,.int .i64 i.o,.int .i64 i.d,.int .i64 i.e,.int .i64 i.c,.slice a n c]] M fun v M'=>v = .int .i64 (za8 k i n)∧M=M':=by
 refine zuc (by simp) ?_
 (conv=>whnf);refine brn (fun h=>?_) (fun h=>?_)
 ·have h':k=1:=Zd0 h
  subst h'
  refine zR ?_
  refine brn (fun g=>?_) (fun g=>?_)
  ·have g1:¬zfO i:=by unfold zfO;simp at g;omega
   refine zR ?_
   exact⟨by unfold za8;rw[if_pos rfl,if_pos (.inl g1)],rfl⟩
  have g1:zfO i:=by unfold zfO;simp at g;omega
  (conv=>whnf);refine brn (fun g2=>?_) (fun g2=>?_)
  ·have g3:0<n:=by have:=Zd0 g2;omega
   refine zR ?_
   exact⟨by unfold za8;rw[if_pos rfl,if_pos (.inr g3)],rfl⟩
  ·have g3:¬0<n:=by have:=Zd1 g2;omega
   refine zR ?_
   exact⟨by unfold za8;rw[if_pos rfl,if_neg (by simp[g1,g3])],rfl⟩
 (conv=>whnf);refine brn (fun h2=>?_) (fun h2=>?_)
 ·have h':k=2:=Zd0 h2
  subst h'
  refine zR ?_
  refine(zkI _ _ _ _ _ _ _ _).mono ?_
  rintro v _ ⟨rfl,rfl⟩
  refine zR ?_
  exact⟨rfl,rfl⟩
 have e1:¬k=1:=Zd1 h
 have e2:¬k=2:=Zd1 h2
 (conv=>whnf);refine brn (fun h3=>?_) (fun h3=>?_)
 ·have e3:k=3:=Zd0 h3
  (conv=>whnf);refine brn_t h3 ?_
  (conv=>whnf)
  refine zR ?_
  refine(zf2 _ _ _ _ _).mono ?_
  rintro v _ ⟨rfl,rfl⟩
  (conv=>whnf);refine brn (fun g=>?_) (fun g=>?_)
  ·have g':¬zd7 i=0:=by simpa using g
   refine zR ?_
   exact⟨by unfold za8;rw[if_neg e1,if_neg e2,if_pos (by omega),if_pos g'],rfl⟩
  have g':zd7 i=0:=by simpa using g
  (conv=>whnf);refine brn (fun g2=>?_) (fun g2=>?_)
  ·have g3:0<n:=by have:=Zd0 g2;omega
   refine zR ?_
   exact⟨by unfold za8;rw[if_neg e1,if_neg e2,if_pos (by omega),if_neg (by simp[g']),if_pos g3],rfl⟩
  ·have g3:¬0<n:=by have:=Zd1 g2;omega
   refine zR ?_
   exact⟨by unfold za8;rw[if_neg e1,if_neg e2,if_pos (by omega),if_neg (by simp[g']),if_neg g3],rfl⟩
 have e3:¬k=3:=Zd1 h3
 (conv=>whnf);refine brn (fun h4=>?_) (fun h4=>?_)
 ·have e4:k=4:=Zd0 h4
  (conv=>whnf)
  refine zR ?_
  refine(zf2 _ _ _ _ _).mono ?_
  rintro v _ ⟨rfl,rfl⟩
  (conv=>whnf);refine brn (fun g=>?_) (fun g=>?_)
  ·have g':¬zd7 i=0:=by simpa using g
   refine zR ?_
   exact⟨by unfold za8;rw[if_neg e1,if_neg e2,if_pos (by omega),if_pos g'],rfl⟩
  have g':zd7 i=0:=by simpa using g
  (conv=>whnf);refine brn (fun g2=>?_) (fun g2=>?_)
  ·have g3:0<n:=by have:=Zd0 g2;omega
   refine zR ?_
   exact⟨by unfold za8;rw[if_neg e1,if_neg e2,if_pos (by omega),if_neg (by simp[g']),if_pos g3],rfl⟩
  ·have g3:¬0<n:=by have:=Zd1 g2;omega
   refine zR ?_
   exact⟨by unfold za8;rw[if_neg e1,if_neg e2,if_pos (by omega),if_neg (by simp[g']),if_neg g3],rfl⟩
 ·have e4:¬k=4:=Zd1 h4
  refine zR ?_
  exact⟨by unfold za8;rw[if_neg e1,if_neg e2,if_neg (by omega)],rfl⟩
structure FreshSt (M0 M:Mem) (p b sp sb:Nat) (S:StR) (came:Int) (xs:HsT) (es:EsT):Prop where
 le:M0.le M
 at':StAt M p b sp sb S came xs es
 inv:zfF S
 invE:InvE es
 room:(zaC es:Int)≤S.qg∧S.qg≤256
 fresh:∀ y,stB p b sp sb xs es y→M0 y=none
def zbp (self qh qb qg:Int):Prop:=¬(0≤self∧self≤63)∨¬(0≤qh∧qh≤256)∨¬(0≤qb∧qb≤1048576)∨¬(0≤qg∧qg≤256)
def zfb (self qh qb qg:Int):StR:=⟨self,qh,qb,qg,0,List.replicate 64 0,[]⟩
theorem zBp {self qh qb qg:Int} (h:¬zbp self qh qb qg):zfF (zfb self qh qb qg):=by
 unfold zbp at h
 refine⟨?_,?_,?_,?_,?_,?_,?_,?_⟩<;>simp[zfb,zo]<;>omega
theorem zvW (self qh qb qg:Int):CallsM Tryz.prog F.zfK [.int .i64 self,.agg #[.int .i64 qh,.int .i64 qb,.int .i64 qg]] M fun v M'=>
  (zbp self qh qb qg∧v = .tuple #[.pointer none,.int .i64 1]∧M=M') ∨
  (¬zbp self qh qb qg∧∃ p b sp sb,v = .tuple #[ptr p,.int .i64 0]∧FreshSt M M' p b sp sb (zfb self qh qb qg) 0 [] []):=by
 refine zu8 (by simp) ?_
 refine zR ?_
 refine(zjf _ _).mono ?_
 rintro v _ ⟨rfl,rfl⟩
 (conv=>whnf);refine brn (fun g=>?_) (fun g=>?_)
 ·(conv=>whnf)
  refine zR ?_
  exact .inl ⟨by unfold zbp;simp only[Bool.not_eq_true',decide_eq_false_iff_not] at *; omega,rfl,rfl⟩
 (conv=>whnf);refine(zjf _ _).mono ?_
 rintro v _ ⟨rfl,rfl⟩
 (conv=>whnf);refine brn (fun g1=>?_) (fun g1=>?_)
 ·(conv=>whnf)
  refine zR ?_
  exact .inl ⟨by unfold zbp;simp only[Bool.not_eq_true',decide_eq_false_iff_not] at *; omega,rfl,rfl⟩
 (conv=>whnf);refine(zjf _ _).mono ?_
 rintro v _ ⟨rfl,rfl⟩
 (conv=>whnf);refine brn (fun g2=>?_) (fun g2=>?_)
 ·(conv=>whnf)
  refine zR ?_
  exact .inl ⟨by unfold zbp;simp only[Bool.not_eq_true',decide_eq_false_iff_not] at *; omega,rfl,rfl⟩
 (conv=>whnf);refine(zjf _ _).mono ?_
 rintro v _ ⟨rfl,rfl⟩
 (conv=>whnf);refine brn (fun g3=>?_) (fun g3=>?_)
 ·(conv=>whnf)
  refine zR ?_
  exact .inl ⟨by unfold zbp;simp only[Bool.not_eq_true',decide_eq_false_iff_not] at *; omega,rfl,rfl⟩
 have hn:¬zbp self qh qb qg:=by
  unfold zbp
  simp only[Bool.not_eq_false',decide_eq_true_eq] at *
  omega
 refine zR ?_
 refine(newS qg).mono ?_
 rintro v M1 (⟨h, -⟩|⟨-, sp,sb,rfl,h1⟩)
 ·unfold zbp at hn;omega
 refine zR ?_
 refine new (fun b hb=>?_)
 replace hb:M1 b=none:=hb
 (conv=>whnf);refine new (fun p hp=>?_)
 replace hp:(M1.upd b (.map #[] 0)) p=none:=hp
 have hne:p≠b:=fun e=>by subst e;rw[Mem.upd_same] at hp;cases hp
 rw[Mem.upd_ne _ _ hne] at hp
 (conv=>whnf)
 refine .inr ⟨hn,p,b,sp,sb,rfl,?_⟩
 have hq:M1.le (M1.upd b (.map #[] 0)):=Mem.le_upd hb
 have hp':(M1.upd b (.map #[] 0)) p=none:=by rw[Mem.upd_ne _ _ hne];exact hp
 have hq2:(M1.upd b (.map #[] 0)).le ((M1.upd b (.map #[] 0)).setCells p T.zl (zD (zfb self qh qb qg) b 0 0 sp)):=Mem.le_setCells hp'
 have hsl:=h1.at'.le (Mem.le_trans hq hq2)
 have hnb:b≠sb:=fun e=>by
  subst e
  obtain⟨l,c,hh,_⟩:=h1.at'.map
  rw[hh] at hb;cases hb
 have lo:∀ y,M1 y=none→M y=none:=fun y hy=>by
  cases e:M y with
  | none=>rfl
  | some o=>rw[h1.le y o e] at hy;cases hy
 refine⟨Mem.le_trans h1.le (Mem.le_trans hq hq2),⟨Mem.has_setCells,(MapAt.new M1 b).mono fun o ho=>hq2 _ _ ho,by simp,hsl,rfl,by simp,by simp,by simp,hnb⟩,zBp hn,InvE.nil,h1.room,fun y hy=>?_⟩
 rcases hy with rfl|rfl|⟨q,hq,_⟩|hy
 ·exact lo _ hp
 ·exact lo _ hb
 ·cases hq
 ·exact h1.fresh y hy
end
section
variable {M:Mem} {p b sp sb:Nat} {S:StR} {came:Int} {xs:HsT} {es:EsT}
def zaS (S:StR) (d:Int):IdT×Int:=
 if S.epoch=0 then (⟨0,0,0,0⟩,7) else if ¬(0≤d∧d≤63) then (⟨0,0,0,0⟩,1) else if d=S.self then (⟨0,0,0,0⟩,2)
 else if zdt S d=65535 then (⟨0,0,0,0⟩,10) else (⟨S.self,d,S.epoch,zdt S d+1⟩,0)
theorem zo6 (hI:zfF S) (d:Int):0≤zdt S d∧zdt S d≤65535:=by
 unfold zdt
 rw[List.getD_eq_getElem?_getD]
 cases h:S.used[d.toNat]? with
 | none=>simp
 | some x=>exact hI.used x (List.mem_of_getElem? h)
theorem zBq (h:StAt M p b sp sb S came xs es) (hI:zfF S) (d:Int):CallsM Tryz.prog F.zdM [ptr p,.int .i64 d] M fun v M'=>
  v = .tuple #[idA (zaS S d).1,.int .i64 (zaS S d).2]∧M=M':=by
 refine zlt (by simp) ?_
 have hr:=zo6 hI d
 refine zR ?_
 refine on (h.self.c1 rfl) ?_
 (conv=>whnf);refine brn (fun g=>?_) (fun g=>?_)
 ·have g1:S.epoch=0:=Zd0 g
  refine zR ?_
  exact⟨by unfold zaS;rw[if_pos g1],rfl⟩
 have g1:¬S.epoch=0:=Zd1 g
 refine zR ?_
 refine(zjf _ _).mono ?_
 rintro v _ ⟨rfl,rfl⟩
 (conv=>whnf);refine brn (fun g2=>?_) (fun g2=>?_)
 ·have g3:¬(0≤d∧d≤63):=by simp at g2;omega
  refine zR ?_
  exact⟨by unfold zaS;rw[if_neg g1,if_pos g3],rfl⟩
 have g3:0≤d∧d≤63:=by simpa using g2
 (conv=>whnf);refine on (h.self.c1 rfl) ?_
 (conv=>whnf);refine brn (fun g4=>?_) (fun g4=>?_)
 ·have g5:d=S.self:=Zd0 g4
  refine zR ?_
  exact⟨by unfold zaS;rw[if_neg g1,if_neg (by omega),if_pos g5],rfl⟩
 have g5:¬d=S.self:=Zd1 g4
 obtain⟨k,rfl⟩:∃ k:Nat,d=k:=⟨d.toNat,by omega⟩
 have hk:M.row p (0+0+5+((k:Int)).toNat*1) 1=some [.int .i64 (zdt S k)]:=by
  have:=h.self.c1 (zto hI.ulen b came (zo S.l) sp (d:=k) (by omega))
  rw[show 0+0+5+((k:Int)).toNat*1=5+k by omega];exact this
 (conv=>whnf);refine ob (by omega) ?_
 (conv=>whnf);refine on hk ?_
 (conv=>whnf);refine brn (fun g6=>?_) (fun g6=>?_)
 ·have g7:zdt S k=65535:=Zd0 g6
  refine zR ?_
  exact⟨by unfold zaS;rw[if_neg g1,if_neg (by omega),if_neg g5,if_pos g7],rfl⟩
 have g7:¬zdt S k=65535:=Zd1 g6
 (conv=>whnf);refine on (h.self.c1 rfl) ?_
 (conv=>whnf);refine on (h.self.c1 rfl) ?_
 (conv=>whnf);refine ob (by omega) ?_
 (conv=>whnf);refine on hk ?_
 (conv=>whnf);refine ob (ze (by omega)) ?_
 refine zR ?_
 exact⟨by unfold zaS;rw[if_neg g1,if_neg (by omega),if_neg g5,if_neg g7],rfl⟩
theorem zgd (h:StAt M p b sp sb S came xs es) (i:IdT):(zB xs i=none∧zeK S.l i=false∧∀ m∈S.l,m.id≠i)∨(∃ x,zB xs i=some x∧x.id=i∧zeK S.l i=true∧x.msg∈S.l):=by
 cases e:zB xs i with
 | none=>
  have hn:∀ m∈S.l,m.id≠i:=fun m hm he=>by
   rw[←h.held] at hm
   obtain⟨q,hq,rfl⟩:=List.mem_map.1 hm
   exact aget_none.1 e (List.mem_map.2 ⟨q,hq,by rw[←h.keys q hq];exact he⟩)
  refine .inl ⟨rfl,?_,hn⟩
  unfold zeK
  rw[List.any_eq_false]
  intro m hm
  simpa using hn m hm
 | some x=>
  have hm:=zN e
  have hx:x.id=i:=h.keys _ hm
  have hl:x.msg∈S.l:=by rw[←h.held];exact List.mem_map.2 ⟨_,hm,rfl⟩
  refine .inr ⟨x,rfl,hx,?_,hl⟩
  unfold zeK
  rw[List.any_eq_true]
  exact⟨_,hl,by simp[hx]⟩
theorem zCM (h:StAt M p b sp sb S came xs es) (hI:zfF S) (i:IdT):CallsM Tryz.prog F.zd0 [ptr p,idA i] M fun v M'=>
  (v = .tuple #[.agg #[.int .i64 0,.int .i64 0,.int .i64 0,.int .i64 0,.slice none 0 0],.bool false]∧zeK S.l i=false∧M=M') ∨
  (∃ a n c l,v = .tuple #[.agg #[.int .i64 i.o,.int .i64 i.d,.int .i64 i.e,.int .i64 i.c,.slice a n c],.bool true]∧zeK S.l i=true∧⟨i,l⟩∈S.l∧NewSl M T.zm 1 a n c (l.map zh) M'):=by
 refine zmp (by simp) ?_
 refine zR ?_
 refine on (h.self.c1 (zeL hI.ulen ..)) ?_
 (conv=>whnf)
 refine h.map.get idK i (fun hn=>?_) (fun x j hx=>?_)
 ·rcases zgd h i with ⟨_,h0,_⟩|⟨x,hx,_⟩
  rotate_left
  ·rw[hn] at hx;cases hx
  refine zR ?_
  exact .inl ⟨rfl,h0,rfl⟩
 ·rcases zgd h i with ⟨hn,_⟩|⟨x',hx',hxi,h0,hm⟩
  ·rw[hx] at hn;cases hn
  rw[hx] at hx'
  cases hx'
  have hd:=h.data _ (zN hx)
  have hpl:x.p.length≤48:=by
   have:zc0 x.id x.p.length=0:=(hI.msgs _ hm).1
   unfold zc0 zfN at this
   repeat' split at this
   all_goals omega
  refine zR ?_
  refine new (fun b2 hb2=>?_)
  replace hb2:M b2=none:=hb2
  have hN1:NewSl M T.zm 1 (some ⟨b2,0,none⟩) 0 0 (([]:List UInt8).map zh) _:=NewSl.lit hb2 T.zm 1 0 [] rfl
  obtain⟨M5,hM5⟩:∃ M5,M5=M.setCells b2 T.zm []:=⟨_,rfl⟩
  rw[←hM5] at hN1
  (conv=>whnf)
  erw [←hM5]
  refine zT (hN1.le) ?_
  (conv=>whnf)
  refine zdQ (hd.src.le hN1.le) ?_
  (conv=>whnf);refine ze4 M _ hN1 (by first|omega|(dsimp only;omega)) (by simp[maxLen];omega) (by simp[Value.oneCell',zh]) fun a5 c5 M6 hN6=>?_
  refine zT (hN6.le) ?_
  refine zR ?_
  (conv=>whnf)
  exact .inr ⟨a5,_,c5,x.p,rfl,h0,by rw[←hxi];exact hm,by simpa using hN6⟩
end
section
variable {M M0:Mem} {p b sp sb:Nat} {S:StR} {came:Int} {xs:HsT} {es:EsT}
@[reducible] def zdl (S:StR) (es:EsT) (i:IdT):Int:=zdj S.qg es i.o i.d i.e i.c
@[reducible] def evV (k:Int) (i:IdT) (a:Option Addr) (n c:Nat):Value := .agg #[.int .i64 k,.int .i64 i.o,.int .i64 i.d,.int .i64 i.e,.int .i64 i.c,.slice a n c]
theorem zvX (h:FreshSt M0 M p b sp sb S came xs es) (k:Int) (i:IdT) (a:Option Addr) (n c:Nat) (hn:n≤1048576):CallsM Tryz.prog F.zcN [ptr p,evV k i a n c] M fun v M'=>
  v = .int .i64 (za0 S (zdl S es) k i n)∧M.le M':=by
 refine zne (by simp) ?_
 have hI:=h.inv
 have hA:=h.at'
 have hqb:=hI.qb
 have hqh:=hI.qh
 have hxl:xs.length=S.l.length:=by rw[←hA.held,List.length_map]
 refine zR ?_
 refine(zxB k i a n c).mono ?_
 rintro v _ ⟨rfl,rfl⟩
 (conv=>whnf);refine brn (fun g=>?_) (fun g=>?_)
 ·have g1:¬za8 k i n=0:=by simpa using g
  refine zR ?_
  exact⟨by unfold za0;rw[if_pos g1],Mem.le_refl _⟩
 have g1:za8 k i n=0:=by simpa using g
 have hk:k=1∨k=2∨k=3∨k=4:=by
  unfold za8 at g1
  repeat' split at g1
  all_goals omega
 refine zR ?_
 refine on (hA.self.c1 (zeL hI.ulen ..)) ?_
 (conv=>whnf)
 refine hA.map.get idK i (fun hn=>?_) (fun x j hx=>?_)
 ·rcases zgd hA i with ⟨_,h0,_⟩|⟨x,hx,_⟩
  rotate_left
  ·rw[hn] at hx;cases hx
  rcases hk with rfl|rfl|rfl|rfl
  ·(conv=>whnf)
   refine zR ?_
   refine on (hA.self.c1 rfl) ?_
   (conv=>whnf);refine brn (fun g2=>?_) (fun g2=>?_)
   ·have g3:S.epoch=65535:=Zd0 g2
    refine zR ?_
    exact⟨by unfold za0;rw[if_neg (by simp[g1]),if_pos rfl,if_pos g3],Mem.le_refl _⟩
   ·have g3:¬S.epoch=65535:=Zd1 g2
    refine zR ?_
    exact⟨by unfold za0;rw[if_neg (by simp[g1]),if_pos rfl,if_neg g3],Mem.le_refl _⟩
  ·refine zR ?_
   refine on (hA.self.c1 rfl) ?_
   (conv=>whnf);refine brn (fun a1=>?_) (fun a1=>?_)
   ·have a2:i.d=S.self:=Zd0 a1
    refine zR ?_
    exact⟨by unfold za0;rw[if_neg (by simp[g1]),if_neg (by decide),if_pos rfl,if_pos (.inl a2)],Mem.le_refl _⟩
   have a2:¬i.d=S.self:=Zd1 a1
   (conv=>whnf);refine on (hA.self.c1 rfl) ?_
   (conv=>whnf);refine brn (fun a3=>?_) (fun a3=>?_)
   ·have a4:i.o=S.self:=Zd0 a3
    (conv=>whnf);refine on (hA.self.c1 rfl) ?_
    (conv=>whnf);refine brn (fun a5=>?_) (fun a5=>?_)
    ·have a6:S.epoch<i.e:=Zd0 a5
     (conv=>whnf);refine brn_t a5 ?_
     refine zR ?_
     exact⟨by unfold za0;rw[if_neg (by simp[g1]),if_neg (by decide),if_pos rfl,if_pos (.inr ⟨a4,a6⟩)],Mem.le_refl _⟩
    ·have a6:¬S.epoch<i.e:=Zd1 a5
     have a7:¬(i.d=S.self∨(i.o=S.self∧S.epoch<i.e)):=by omega
     refine zR ?_
     refine on (hA.self.c1 (zeL hI.ulen ..)) ?_
     (conv=>whnf)
     refine hA.map.len fun e2 c2 hsz=>?_
     (conv=>whnf);refine on (hA.self.c1 rfl) ?_
     (conv=>whnf);refine brn (fun a8=>?_) (fun a8=>?_)
     ·have a9:S.qh≤S.l.length:=by have:=Zd0 a8;dsimp only at this;rw[hsz] at this;omega
      refine zR ?_
      exact⟨by unfold za0;rw[if_neg (by simp[g1]),if_neg (by decide),if_pos rfl,if_neg a7,h0,if_neg (by decide),if_pos (.inl a9)],Mem.le_refl _⟩
     have a9:¬S.qh≤S.l.length:=by have:=Zd1 a8;dsimp only at this;rw[hsz] at this;omega
     (conv=>whnf);refine on (hA.self.c1 rfl) ?_
     (conv=>whnf);refine on (hA.self.c1 (zgI hI.ulen ..)) ?_
     (conv=>whnf);refine ob (ze (by omega)) ?_
     (conv=>whnf);refine brn (fun b8=>?_) (fun b8=>?_)
     ·have b9:S.qb<zo S.l+n:=by have:=Zd0 b8;omega
      refine zR ?_
      exact⟨by unfold za0;rw[if_neg (by simp[g1]),if_neg (by decide),if_pos rfl,if_neg a7,h0,if_neg (by decide),if_pos (.inr b9)],Mem.le_refl _⟩
     have b9:¬S.qb<zo S.l+n:=by have:=Zd1 b8;omega
     refine zR ?_
     (conv=>whnf)
     exact⟨by unfold za0;rw[if_neg (by simp[g1]),if_neg (by decide),if_pos rfl,if_neg a7,h0,if_neg (by decide),if_neg (by omega)],Mem.le_refl _⟩
   ·have a4:¬i.o=S.self:=Zd1 a3
    have a7:¬(i.d=S.self∨(i.o=S.self∧S.epoch<i.e)):=by omega
    refine zR ?_
    refine on (hA.self.c1 (zeL hI.ulen ..)) ?_
    (conv=>whnf)
    refine hA.map.len fun e2 c2 hsz=>?_
    (conv=>whnf);refine on (hA.self.c1 rfl) ?_
    (conv=>whnf);refine brn (fun a8=>?_) (fun a8=>?_)
    ·have a9:S.qh≤S.l.length:=by have:=Zd0 a8;dsimp only at this;rw[hsz] at this;omega
     refine zR ?_
     exact⟨by unfold za0;rw[if_neg (by simp[g1]),if_neg (by decide),if_pos rfl,if_neg a7,h0,if_neg (by decide),if_pos (.inl a9)],Mem.le_refl _⟩
    have a9:¬S.qh≤S.l.length:=by have:=Zd1 a8;dsimp only at this;rw[hsz] at this;omega
    (conv=>whnf);refine on (hA.self.c1 rfl) ?_
    (conv=>whnf);refine on (hA.self.c1 (zgI hI.ulen ..)) ?_
    (conv=>whnf);refine ob (ze (by omega)) ?_
    (conv=>whnf);refine brn (fun b8=>?_) (fun b8=>?_)
    ·have b9:S.qb<zo S.l+n:=by have:=Zd0 b8;omega
     refine zR ?_
     exact⟨by unfold za0;rw[if_neg (by simp[g1]),if_neg (by decide),if_pos rfl,if_neg a7,h0,if_neg (by decide),if_pos (.inr b9)],Mem.le_refl _⟩
    have b9:¬S.qb<zo S.l+n:=by have:=Zd1 b8;omega
    refine zR ?_
    (conv=>whnf)
    exact⟨by unfold za0;rw[if_neg (by simp[g1]),if_neg (by decide),if_pos rfl,if_neg a7,h0,if_neg (by decide),if_neg (by omega)],Mem.le_refl _⟩
  ·(conv=>whnf)
   refine zR ?_
   (conv=>whnf)
   exact⟨by unfold za0;rw[if_neg (by simp[g1]),if_neg (by decide),if_neg (by decide),if_pos rfl,h0];rfl,Mem.le_refl _⟩
  ·(conv=>whnf)
   refine zR ?_
   refine on (hA.self.c1 rfl) ?_
   (conv=>whnf);refine brn (fun g2=>?_) (fun g2=>?_)
   ·have g3:i.d≠S.self:=by simpa using g2
    refine zR ?_
    exact⟨by unfold za0;rw[if_neg (by simp[g1]),if_neg (by decide),if_neg (by decide),if_neg (by decide),if_pos g3],Mem.le_refl _⟩
   ·have g3:¬i.d≠S.self:=by simpa using g2
    refine zR ?_
    refine on (hA.self.c1 (zlR hI.ulen ..)) ?_
    refine zR ?_
    refine(zvS hA.set (by have:=h.room;omega) h.invE.good i.o i.d i.e i.c).mono ?_
    rintro v M1 ⟨rfl,h1⟩
    refine zR ?_
    exact⟨by unfold za0;rw[if_neg (by simp[g1]),if_neg (by decide),if_neg (by decide),if_neg (by decide),if_neg g3],h1⟩
 ·rcases zgd hA i with ⟨hn,_⟩|⟨x',hx',hxi,h0,hm⟩
  ·rw[hx] at hn;cases hn
  rcases hk with rfl|rfl|rfl|rfl
  ·(conv=>whnf)
   refine zR ?_
   refine on (hA.self.c1 rfl) ?_
   (conv=>whnf);refine brn (fun g2=>?_) (fun g2=>?_)
   ·have g3:S.epoch=65535:=Zd0 g2
    refine zR ?_
    exact⟨by unfold za0;rw[if_neg (by simp[g1]),if_pos rfl,if_pos g3],Mem.le_refl _⟩
   ·have g3:¬S.epoch=65535:=Zd1 g2
    refine zR ?_
    exact⟨by unfold za0;rw[if_neg (by simp[g1]),if_pos rfl,if_neg g3],Mem.le_refl _⟩
  ·refine zR ?_
   refine on (hA.self.c1 rfl) ?_
   (conv=>whnf);refine brn (fun a1=>?_) (fun a1=>?_)
   ·have a2:i.d=S.self:=Zd0 a1
    refine zR ?_
    exact⟨by unfold za0;rw[if_neg (by simp[g1]),if_neg (by decide),if_pos rfl,if_pos (.inl a2)],Mem.le_refl _⟩
   have a2:¬i.d=S.self:=Zd1 a1
   (conv=>whnf);refine on (hA.self.c1 rfl) ?_
   (conv=>whnf);refine brn (fun a3=>?_) (fun a3=>?_)
   ·have a4:i.o=S.self:=Zd0 a3
    (conv=>whnf);refine on (hA.self.c1 rfl) ?_
    (conv=>whnf);refine brn (fun a5=>?_) (fun a5=>?_)
    ·have a6:S.epoch<i.e:=Zd0 a5
     (conv=>whnf);refine brn_t a5 ?_
     refine zR ?_
     exact⟨by unfold za0;rw[if_neg (by simp[g1]),if_neg (by decide),if_pos rfl,if_pos (.inr ⟨a4,a6⟩)],Mem.le_refl _⟩
    ·have a6:¬S.epoch<i.e:=Zd1 a5
     have a7:¬(i.d=S.self∨(i.o=S.self∧S.epoch<i.e)):=by omega
     refine zR ?_
     exact⟨by unfold za0;rw[if_neg (by simp[g1]),if_neg (by decide),if_pos rfl,if_neg a7,h0];rfl,Mem.le_refl _⟩
   ·have a4:¬i.o=S.self:=Zd1 a3
    have a7:¬(i.d=S.self∨(i.o=S.self∧S.epoch<i.e)):=by omega
    refine zR ?_
    exact⟨by unfold za0;rw[if_neg (by simp[g1]),if_neg (by decide),if_pos rfl,if_neg a7,h0];rfl,Mem.le_refl _⟩
  ·(conv=>whnf)
   refine zR ?_
   (conv=>whnf)
   exact⟨by unfold za0;rw[if_neg (by simp[g1]),if_neg (by decide),if_neg (by decide),if_pos rfl,h0];rfl,Mem.le_refl _⟩
  ·(conv=>whnf)
   refine zR ?_
   refine on (hA.self.c1 rfl) ?_
   (conv=>whnf);refine brn (fun g2=>?_) (fun g2=>?_)
   ·have g3:i.d≠S.self:=by simpa using g2
    refine zR ?_
    exact⟨by unfold za0;rw[if_neg (by simp[g1]),if_neg (by decide),if_neg (by decide),if_neg (by decide),if_pos g3],Mem.le_refl _⟩
   ·have g3:¬i.d≠S.self:=by simpa using g2
    refine zR ?_
    refine on (hA.self.c1 (zlR hI.ulen ..)) ?_
    refine zR ?_
    refine(zvS hA.set (by have:=h.room;omega) h.invE.good i.o i.d i.e i.c).mono ?_
    rintro v M1 ⟨rfl,h1⟩
    refine zR ?_
    exact⟨by unfold za0;rw[if_neg (by simp[g1]),if_neg (by decide),if_neg (by decide),if_neg (by decide),if_neg g3],h1⟩
end
end Go.Proofs.YtpdkkbpkplhdpaaGreat
