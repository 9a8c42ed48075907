/- Part of this proof;laid by program. -/
import Derived.Test.YtpdkkbpkplhdpaaGreatJ17
import Derived.Test.YtpdkkbpkplhdpaaGreatJ16
set_option linter.unusedVariables false
set_option linter.unusedSimpArgs false
namespace Go.Proofs.YtpdkkbpkplhdpaaGreat
open Go Go.Vm
section
def CanR (up:Int) (more:List Int):Prop:=0≤up∧more.Pairwise (· < ·)∧∀ c∈more,up+1<c
def inM (up:Int) (more:List Int) (c:Int):Prop:=(1≤c∧c≤up)∨c∈more
theorem zlH {α:Type} {R:α→α→Prop} (irr:∀ x,¬R x x) (asym:∀ x y,R x y→¬R y x):∀ {l l':List α},l.Pairwise R→l'.Pairwise R→(∀ x,x∈l↔x∈l')→l=l'
 | [],[],_,_,_=>rfl
 | [],y::s,_,_,h=>absurd ((h y).2 (by simp)) (by simp)
 | x::r,[],_,_,h=>absurd ((h x).1 (by simp)) (by simp)
 | x::r,y::s,h1,h2,h=>by
  obtain⟨h3,h4⟩:=List.pairwise_cons.1 h1
  obtain⟨h5,h6⟩:=List.pairwise_cons.1 h2
  have hxy:x=y:=by
   rcases List.mem_cons.1 ((h x).1 (by simp)) with e|e
   ·exact e
   ·rcases List.mem_cons.1 ((h y).2 (by simp)) with e'|e'
    ·exact e'.symm
    ·exact absurd (h5 x e) (asym _ _ (h3 y e'))
  subst hxy
  rw[zlH irr asym h4 h6 fun z=>?_]
  constructor
  ·intro hz
   rcases List.mem_cons.1 ((h z).1 (by simp[hz])) with e|e
   ·subst e;exact absurd (h3 z hz) (irr z)
   ·exact e
  ·intro hz
   rcases List.mem_cons.1 ((h z).2 (by simp[hz])) with e|e
   ·subst e;exact absurd (h5 z hz) (irr z)
   ·exact e
theorem CanR.up_le {up up':Int} {more more':List Int} (h':CanR up' more') (he:∀ c,inM up more c↔inM up' more' c):up≤up':=by
 apply Classical.byContradiction
 intro hn
 have h1:inM up' more' (up'+1):=(he _).1 (.inl ⟨by have:=h'.1;omega,by omega⟩)
 rcases h1 with h1|h1
 ·omega
 ·have:=h'.2.2 _ h1;omega
theorem CanR.uniq {up up':Int} {more more':List Int} (h:CanR up more) (h':CanR up' more') (he:∀ c,inM up more c↔inM up' more' c):up=up'∧more=more':=by
 have e:up=up':=Int.le_antisymm (CanR.up_le h' he) (CanR.up_le h fun c=>(he c).symm)
 subst e
 refine⟨rfl,zlH (R:=(· < ·)) (fun x=>by omega) (fun x y=>by omega) h.2.1 h'.2.1 fun c=>⟨fun hc=>?_,fun hc=>?_⟩⟩
 ·have h1:=h.2.2 c hc
  rcases(he c).1 (.inr hc) with h2|h2
  ·omega
  ·exact h2
 ·have h1:=h'.2.2 c hc
  rcases(he c).2 (.inr hc) with h2|h2
  ·omega
  ·exact h2
def zbQ (x y:Mk):Prop:=x.o<y.o∨(x.o=y.o∧x.e<y.e)
theorem zlI:∀ {l:List Mk},l.Pairwise zbQ→∀ {x y:Mk},x∈l→y∈l→x.o=y.o→x.e=y.e→x=y
 | [],_,x,y,hx,_,_,_=>by cases hx
 | z::r,h,x,y,hx,hy,h1,h2=>by
  obtain⟨h3,h4⟩:=List.pairwise_cons.1 h
  rcases List.mem_cons.1 hx with e|e
  ·rcases List.mem_cons.1 hy with e'|e'
   ·rw[e,e']
   ·subst e;have:=h3 y e';unfold zbQ at this;omega
  ·rcases List.mem_cons.1 hy with e'|e'
   ·subst e';have:=h3 x e;unfold zbQ at this;omega
   ·exact zlI h4 e e' h1 h2
structure Canon (S:Int→Int→Int→Prop) (l:List Mk):Prop where
 sorted:l.Pairwise zbQ
 can:∀ m∈l,CanR m.up m.more∧(0<m.up∨m.more≠[])
 mem:∀ o e c,S o e c↔∃ m∈l,m.o=o∧m.e=e∧inM m.up m.more c
theorem CanR.some {up:Int} {more:List Int} (h:0<up∨more≠[]):∃ c,inM up more c:=by
 rcases h with h|h
 ·exact⟨up,.inl ⟨by omega,Int.le_refl _⟩⟩
 ·obtain⟨x,r,rfl⟩:=List.exists_cons_of_ne_nil h
  exact⟨x,.inr (by simp)⟩
theorem Canon.sub {S:Int→Int→Int→Prop} {l l':List Mk} (h:Canon S l) (h':Canon S l') {m:Mk} (hm:m∈l):m∈l':=by
 obtain⟨h1,h2⟩:=h.can m hm
 obtain⟨c0,hc0⟩:=CanR.some h2
 obtain⟨m',hm',e1,e2, -⟩:=(h'.mem _ _ _).1 ((h.mem _ _ _).2 ⟨m,hm,rfl,rfl,hc0⟩)
 have he:∀ c,inM m.up m.more c↔inM m'.up m'.more c:=fun c=>by
  constructor
  ·intro hc
   obtain⟨m2,hm2,e3,e4,hc2⟩:=(h'.mem _ _ _).1 ((h.mem _ _ _).2 ⟨m,hm,rfl,rfl,hc⟩)
   rw[zlI h'.sorted hm' hm2 (by omega) (by omega)];exact hc2
  ·intro hc
   obtain⟨m2,hm2,e3,e4,hc2⟩:=(h.mem _ _ _).1 ((h'.mem _ _ _).2 ⟨m',hm',rfl,rfl,hc⟩)
   rw[zlI h.sorted hm hm2 (by omega) (by omega)];exact hc2
 obtain⟨e3,e4⟩:=h1.uniq (h'.can m' hm').1 he
 have:m=m':=by
  obtain⟨a,b,c,d⟩:=m
  obtain⟨a',b',c',d'⟩:=m'
  simp only at e1 e2 e3 e4
  rw[e1,e2,e3,e4]
 rw[this];exact hm'
theorem Canon.uniq {S:Int→Int→Int→Prop} {l l':List Mk} (h:Canon S l) (h':Canon S l'):l=l':=
 zlH (R:=zbQ) (fun x=>by unfold zbQ;omega) (fun x y=>by unfold zbQ;omega) h.sorted h'.sorted fun _=>⟨fun hm=>h.sub h' hm,fun hm=>h'.sub h hm⟩
theorem zlJ (c:Int):∀ (l:List Int) (x:Int),x∈zdQ c l↔x=c∨x∈l
 | [],x=>by simp[zdQ]
 | y::r,x=>by
  simp only[zdQ]
  split
  ·simp only[List.mem_cons,zlJ c r x]
   constructor
   ·rintro (h|h|h)<;>simp[h]
   ·rintro (h|h|h)<;>simp[h]
  ·simp only[List.mem_cons]
theorem zoW (c:Int):∀ (l:List Int),l.Pairwise (· < ·)→c∉l→(zdQ c l).Pairwise (· < ·)
 | [],_,_=>by simp[zdQ]
 | y::r,h,hn=>by
  obtain⟨h1,h2⟩:=List.pairwise_cons.1 h
  simp only[List.mem_cons,not_or] at hn
  simp only[zdQ]
  split
  ·refine List.pairwise_cons.2 ⟨fun z hz=>?_,zoW c r h2 hn.2⟩
   rcases(zlJ c r z).1 hz with e|e
   ·omega
   ·exact h1 z e
  ·refine List.pairwise_cons.2 ⟨fun z hz=>?_,h⟩
   rcases List.mem_cons.1 hz with e|e
   ·omega
   ·have:=h1 z e;omega
theorem zp6:∀ (l:List Int) (up:Int),0≤up→l.Pairwise (· < ·)→(∀ x∈l,up<x)→CanR (normC up l).1 (normC up l).2∧(∀ c,inM (normC up l).1 (normC up l).2 c↔inM up l c)∧(normC up l).2.length≤l.length
 | [],up,h0,_,_=>by simp[normC,CanR,h0]
 | y::r,up,h0,h1,h2=>by
  obtain⟨h3,h4⟩:=List.pairwise_cons.1 h1
  simp only[normC]
  split
  ·rename_i e
   obtain⟨i1,i2,i3⟩:=zp6 r (up+1) (by omega) h4 (fun x hx=>by have:=h3 x hx;omega)
   refine⟨i1,fun c=>(i2 c).trans ?_,by simp;omega⟩
   unfold inM
   simp only[List.mem_cons]
   constructor
   ·rintro (h|h)
    ·by_cases h5:c=up+1
     ·exact .inr (.inl (by omega))
     ·exact .inl (by omega)
    ·exact .inr (.inr h)
   ·rintro (h|h|h)
    ·exact .inl (by omega)
    ·exact .inl (by omega)
    ·exact .inr h
  ·rename_i e
   refine⟨⟨h0,h1,fun x hx=>?_⟩,fun c => .rfl,by simp⟩
   have hy:=h2 y (by simp)
   rcases List.mem_cons.1 hx with e'|e'
   ·omega
   ·have:=h3 x e';omega
theorem zz0 (up:Int) (r:List Int) (h0:0≤up) (h:((up+1)::r).Pairwise (· < ·)):(normC up ((up+1)::r)).2.length≤r.length:=by
 obtain⟨h3,h4⟩:=List.pairwise_cons.1 h
 simp only[normC,if_true]
 exact(zp6 r (up+1) (by omega) h4 h3).2.2
end
section
abbrev EsT:=List ((Int×Int)×Ent)
def inE (es:EsT) (o e c:Int):Prop:=inM (zcC es (o,e)) (zbY es (o,e)) c
def zvD (o e:Int):Prop:=0≤o∧o≤63∧1≤e∧e≤65535
structure InvE (es:EsT):Prop where
 nodup:(es.map (·.1)).Nodup
 can:∀ q∈es,CanR q.2.up q.2.more∧(0<q.2.up∨q.2.more≠[])
 range:∀ q∈es,zvD q.1.1 q.1.2∧∀ c,inM q.2.up q.2.more c→c≤65535
theorem InvE.nil:InvE []:=⟨by simp,by simp,by simp⟩
theorem InvE.good {es:EsT} (h:InvE es):zur es:=fun q hq=>by
 obtain⟨h1,_⟩:=h.can q hq
 have h0:=h1.1
 refine⟨h0,?_⟩
 by_cases e:q.2.up=0
 ·omega
 ·exact(h.range q hq).2 _ (.inl ⟨by omega,Int.le_refl _⟩)
theorem InvE.sorted {es:EsT} (h:InvE es):∀ q∈es,q.2.more.Pairwise (· < ·):=fun q hq=>(h.can q hq).1.2.1
theorem zsI {es:EsT} (h:InvE es) (o e c:Int):inE es o e c↔∃ q∈es,q.1.1=o∧q.1.2=e∧inM q.2.up q.2.more c:=by
 unfold inE zcC zbY
 cases hx:zF es (o,e) with
 | none=>
  refine⟨fun hc=>?_,fun ⟨q,hq,e1,e2,_⟩=>?_⟩
  ·simp only[inM,List.not_mem_nil,or_false] at hc;omega
  ·have:=aget_none.1 hx
   exact absurd (List.mem_map.2 ⟨q,hq,by obtain⟨⟨a,b⟩,z⟩:=q;simp only at e1 e2 ⊢; rw[e1,e2]⟩) this
 | some x=>
  refine⟨fun hc=>⟨((o,e),x),zQ hx,rfl,rfl,hc⟩,fun ⟨q,hq,e1,e2,hc⟩=>?_⟩
  have:zF es (o,e)=some q.2:=zdc h.nodup (by obtain⟨⟨a,b⟩,z⟩:=q;simp only at e1 e2 ⊢; rw[←e1,←e2];exact hq)
  rw[hx] at this
  cases this
  exact hc
theorem zCt {es:EsT} (h:InvE es) (k:Int×Int):CanR (zcC es k) (zbY es k):=by
 unfold zcC zbY
 cases hx:zF es k with
 | none=>simp[CanR]
 | some x=>exact(h.can _ (zQ hx)).1
theorem zkB {es:EsT} (h:InvE es) {l:List MkC} (hp:(l.map MkC.mk').Perm (es.map zby)) (hs:l.Pairwise (fun x y=>¬zjb y x<0)):Canon (inE es) (l.map MkC.mk'):=by
 have hkeys:((l.map MkC.mk').map fun m=>(m.o,m.e)).Nodup:=by
  rw[(hp.map _).nodup_iff,List.map_map]
  exact h.nodup
 refine⟨?_,fun m hm=>?_,fun o e c=>?_⟩
 ·rw[List.map_map,List.Nodup,List.pairwise_map] at hkeys
  rw[List.pairwise_map]
  refine(hs.and hkeys).imp fun {x y} ⟨h1,h2⟩=>?_
  rw[ziv] at h1
  have h3:¬(x.o=y.o∧x.e=y.e):=fun ⟨e1,e2⟩=>h2 (by simp[MkC.mk',e1,e2])
  show x.o<y.o∨(x.o=y.o∧x.e<y.e)
  omega
 ·obtain⟨q,hq,rfl⟩:=List.mem_map.1 (hp.mem_iff.1 hm)
  exact h.can q hq
 ·rw[zsI h]
  constructor
  ·rintro ⟨q,hq,e1,e2,hc⟩
   exact⟨zby q,hp.mem_iff.2 (List.mem_map.2 ⟨q,hq,rfl⟩),e1,e2,hc⟩
  ·rintro ⟨m,hm,e1,e2,hc⟩
   obtain⟨q,hq,rfl⟩:=List.mem_map.1 (hp.mem_iff.1 hm)
   exact⟨q,hq,e1,e2,hc⟩
theorem zvE:∀ (es:EsT) (k:Int×Int) (x x0:Ent),zF es k=some x0→zaH (zco es k x)+x0.more.length=zaH es+x.more.length
 | [],k,x,x0,h=>by simp[zF] at h
 | (k1,y)::r,k,x,x0,h=>by
  simp only[zF] at h
  by_cases e:k1=k
  ·subst e
   simp only[if_true,Option.some.injEq] at h
   subst h
   simp only[zco,if_true,zaH,List.map_cons,List.sum_cons]
   omega
  ·rw[if_neg e] at h
   have ih:=zvE r k x x0 h
   simp only[zco,if_neg e,zaH,List.map_cons,List.sum_cons] at ih ⊢
   omega
theorem zz1 (es:EsT) (k:Int×Int) (x:Ent):zaH (zY es k x)+(zbY es k).length=zaH es+x.more.length:=by
 unfold zbY zY
 cases hx:zF es k with
 | none=>simp[zaH]
 | some x0=>exact zvE es k x x0 hx
theorem zlK {es:EsT} (hn:(es.map (·.1)).Nodup) {k:Int×Int} {x:Ent} {q:(Int×Int)×Ent} (hq:q∈zY es k x):q=(k,x)∨(q∈es∧q.1≠k):=by
 unfold zY at hq
 cases hx:zF es k with
 | none=>
  rw[hx] at hq
  rcases List.mem_append.1 hq with h|h
  ·refine .inr ⟨h,fun e=>aget_none.1 hx (List.mem_map.2 ⟨q,h,e⟩)⟩
  ·exact .inl (by simpa using h)
 | some x0=>
  rw[hx] at hq
  obtain⟨u,v,h1,h2,h3,h4⟩:=zie hn hx x
  rw[h2] at hq
  rcases List.mem_append.1 hq with h|h
  ·exact .inr ⟨by rw[h1];simp[h],h3 q h⟩
  ·rcases List.mem_cons.1 h with h|h
   ·exact .inl h
   ·exact .inr ⟨by rw[h1];simp[h],h4 q h⟩
theorem zlL {o d e c:Int} (h:zbz o d e c=0):zvD o e∧1≤c∧c≤65535:=by
 unfold zbz at h
 split at h
 ·unfold zvD;omega
 ·omega
theorem zA7 {es:EsT} {o d e c:Int} (h:zbz o d e c=0):zg8 es o d e c=true↔inE es o e c:=by
 obtain⟨_,h1,_⟩:=zlL h
 simp only[zg8,h,decide_true,Bool.true_and,Bool.or_eq_true,decide_eq_true_eq,inE,inM]
 constructor
 ·rintro (h2|h2)
  ·exact .inl ⟨h1,h2⟩
  ·exact .inr h2
 ·rintro (h2|h2)
  ·exact .inl h2.2
  ·exact .inr h2
theorem zs9 {gaps:Int} {es:EsT} {o d e c:Int} (h:zdn gaps es o d e c=0):zbz o d e c=0∧¬inE es o e c∧(c=zcC es (o,e)+1∨(zaH es:Int)<gaps):=by
 have hid:zbz o d e c=0:=by
  apply Classical.byContradiction
  intro hn
  simp[zdn,hn] at h
 refine⟨hid,fun hi=>?_,?_⟩
 ·have:=(zA7 hid).2 hi
  simp[zdn,hid,this] at h
 ·by_cases e1:c=zcC es (o,e)+1
  ·exact .inl e1
  ·right
   by_cases e2:gaps≤(zaH es:Int)
   ·by_cases hh:zg8 es o d e c=true<;>simp[zdn,hid,e1,e2,hh] at h
   ·omega
theorem zCu {gaps:Int} {es:EsT} (h:InvE es) {o d e c:Int} (hz:zdn gaps es o d e c=0) {x:Ent} (hx:(x.up,x.more)=zfe es o e c) :
  InvE (zY es (o,e) x)∧(∀ o' e' c',inE (zY es (o,e) x) o' e' c'↔(o'=o∧e'=e∧c'=c)∨inE es o' e' c')∧((zaH es:Int)≤gaps→(zaH (zY es (o,e) x):Int)≤gaps)∧zaH (zY es (o,e) x)≤zaH es+1:=by
 obtain⟨hid,hni,hroom⟩:=zs9 hz
 obtain⟨hrk,hc1,hc2⟩:=zlL hid
 have hcan:=zCt h (o,e)
 obtain⟨h0,h1,h2⟩:=hcan
 have hni':¬c≤zcC es (o,e)∧c∉zbY es (o,e):=by
  unfold inE inM at hni
  exact⟨fun hh=>hni (.inl ⟨hc1,hh⟩),fun hh=>hni (.inr hh)⟩
 have hso:=zoW c _ h1 hni'.2
 have hab:∀ y∈zdQ c (zbY es (o,e)),zcC es (o,e)<y:=fun y hy=>by
  rcases(zlJ c _ y).1 hy with e1|e1
  ·omega
  ·have:=h2 y e1;omega
 obtain⟨n1,n2,n3⟩:=zp6 _ _ h0 hso hab
 have hup:x.up=(zfe es o e c).1:=congrArg Prod.fst hx
 have hmo:x.more=(zfe es o e c).2:=congrArg Prod.snd hx
 unfold zfe at hup hmo
 rw[←hup,←hmo] at n1 n2
 rw[←hmo] at n3
 rw[zp4] at n3
 have hin:∀ c',inM x.up x.more c'↔c'=c∨inE es o e c':=fun c'=>by
  rw[n2]
  unfold inE inM
  rw[zlJ]
  constructor
  ·rintro (h|h|h)<;>simp[h]
  ·rintro (h|h|h)<;>simp[h]
 have hg:=zz1 es (o,e) x
 refine⟨⟨zed h.nodup _ _,fun q hq=>?_,fun q hq=>?_⟩,fun o' e' c'=>?_,fun hle=>?_,by omega⟩
 ·rcases zlK h.nodup hq with rfl|⟨hq,_⟩
  ·refine⟨n1,?_⟩
   by_cases e1:x.more=[]
   ·left
    rcases(hin c).2 (.inl rfl) with h5|h5
    ·show 0<x.up
     omega
    ·rw[e1] at h5;cases h5
   ·exact .inr e1
  ·exact h.can q hq
 ·rcases zlK h.nodup hq with rfl|⟨hq,_⟩
  ·refine⟨hrk,fun c' hc'=>?_⟩
   rcases(hin c').1 hc' with e1|e1
   ·omega
   ·obtain⟨q,hq,_,_,hm⟩:=(zsI h _ _ _).1 e1
    exact(h.range q hq).2 _ hm
  ·exact h.range q hq
 ·unfold inE zcC zbY
  rw[zdC]
  by_cases e1:(o',e')=(o,e)
  ·rw[if_pos e1]
   obtain⟨rfl,rfl⟩:=Prod.mk.injEq .. ▸ e1
   dsimp only
   rw[hin]
   unfold inE zcC zbY
   simp
  ·rw[if_neg e1]
   have:¬(o'=o∧e'=e∧c'=c):=fun ⟨a1,a2,_⟩=>e1 (by rw[a1,a2])
   simp[this]
 ·rcases hroom with e1|e1
  ·have hins:zdQ c (zbY es (o,e))=c::zbY es (o,e):=by
    cases hm:zbY es (o,e) with
    | nil=>rfl
    | cons y r=>
     simp only[zdQ]
     rw[if_neg]
     have:=h2 y (by rw[hm];simp)
     omega
   rw[hins,e1] at hmo hso
   have:=zz0 _ _ h0 hso
   rw[←hmo] at this
   omega
  ·omega
end
end Go.Proofs.YtpdkkbpkplhdpaaGreat
namespace Go.Proofs.YtpdkkbpkplhdpaaGreat
open Go Go.Vm
attribute [local irreducible] Brn Ob Grow CallsM inR zaD zaC Mem.row Mem.cells Mem.setCells Mem.upd Go.Vm.Own zaG za7 za9 zaR New SrcOk subA NewSl Mem.textAt Mem.mapAt Mem.iterAt zaB zam Wr NewEls Elems
set_option maxRecDepth 10000
section
variable {M M0:Mem} {p b:Nat} {gaps:Int} {es:EsT}
structure FreshS (M0 M:Mem) (p b:Nat) (gaps:Int) (es:EsT):Prop where
 le:M0.le M
 at':SetAt M p b gaps es
 inv:InvE es
 room:(zaH es:Int)≤gaps∧gaps≤256
 fresh:∀ y,setB p b es y→M0 y=none
theorem FreshS.few (h:FreshS M0 M p b gaps es):zaH es≤256:=by have:=h.room;omega
theorem FreshS.to (h:FreshS M0 M p b gaps es) {M':Mem} (hle:M.le M'):FreshS M0 M' p b gaps es:=⟨Mem.le_trans h.le hle,h.at'.le hle,h.inv,h.room,h.fresh⟩
theorem FreshS.some (h:FreshS M0 M p b gaps es) {y:Nat} (hy:setB p b es y):M y≠none:=by
 rcases hy with rfl|rfl|⟨q,hq,hy⟩
 ·have:=h.at'.self;unfold Mem.has at this;rw[this];simp
 ·obtain⟨l,c,hh,_⟩:=h.at'.map;rw[hh];simp
 ·exact(h.at'.ents q hq).some hy
theorem newS (gaps:Int):CallsM Tryz.prog F.zgy [.int .i64 gaps] M fun v M'=>
  ((gaps<0∨256<gaps)∧v = .tuple #[.pointer none,.int .i64 1]∧M'=M) ∨
  (¬(gaps<0∨256<gaps)∧∃ p b,v = .tuple #[ptr p,.int .i64 0]∧FreshS M M' p b gaps []):=
 (zzZ gaps).mono fun v M' h=>by
  rcases h with h|⟨h1,p,b,h2,h3,h4,h5,h6⟩
  ·exact .inl h
  ·refine .inr ⟨h1,p,b,h2,h5,h6,InvE.nil,⟨by simp[zaH];omega,by omega⟩,fun y hy=>?_⟩
   rcases hy with rfl|rfl|⟨q,hq,_⟩
   ·exact h3
   ·exact h4
   ·cases hq
def zyG (gaps:Int) (es es':EsT) (o d e c:Int):Prop:=(zdn gaps es o d e c≠0∧es'=es)∨(zdn gaps es o d e c=0∧∃ x:Ent,es'=zY es (o,e) x∧(x.up,x.more)=zfe es o e c)
theorem zEE (h:FreshS M0 M p b gaps es) (o d e c:Int):CallsM Tryz.prog F.zfs [ptr p,idV o d e c] M fun v M'=>
  ∃ es',v = .int .i64 (zdn gaps es o d e c)∧FreshS M0 M' p b gaps es'∧zyG gaps es es' o d e c:=
 (zDE h.at' (by have:=h.few;omega) h.inv.good h.inv.sorted o d e c).mono fun v M' hv=>by
  obtain⟨rfl,⟨hn,hle⟩|⟨hz,hk,x,h1,hx,hown⟩⟩:=hv
  ·exact⟨es,rfl,h.to hle,.inl ⟨hn,rfl⟩⟩
  ·obtain⟨i1,i2,i3,i4⟩:=zCu h.inv hz hx
   refine⟨zY es (o,e) x,rfl,⟨hk.le h.le h.fresh,h1,i1,⟨i3 h.room.1,h.room.2⟩,fun y hy=>?_⟩,.inr ⟨hz,x,rfl,hx⟩⟩
   have lo:∀ y,M y=none→M0 y=none:=fun y hy=>by
    cases e1:M0 y with
    | none=>rfl
    | some z=>rw[h.le _ _ e1] at hy;cases hy
   rcases hy with rfl|rfl|⟨q,hq,hy⟩
   ·exact h.fresh _ (.inl rfl)
   ·exact h.fresh _ (.inr (.inl rfl))
   ·rcases zlK h.inv.nodup hq with rfl|⟨hq,_⟩
    ·rcases hown y hy with h2|h2
     ·exact h.fresh _ h2
     ·exact lo _ h2
    ·exact h.fresh _ (.inr (.inr ⟨q,hq,hy⟩))
end
section
variable {M:Mem}
structure zEV (M0:Mem) (a:Option Addr) (c:Nat) (l:List MkC) (M':Mem):Prop where
 row:NewSl M0 T.zhU 4 a l.length c (l.flatMap zkA) M'
 more:∀ m∈l,NewSl M0 T.zw 1 m.a m.more.length m.c (m.more.map zan) M'
 apart:l.Pairwise fun x y=>∀ z,blk x.a z→¬blk y.a z
end
end Go.Proofs.YtpdkkbpkplhdpaaGreat
namespace Go.Proofs.YtpdkkbpkplhdpaaGreat
open Go Go.Vm
section
def zEF (L:List K) (o e c:Int):Prop:=(⟨o,e,c⟩:K)∈L
def zEc (L:List K):Prop:=L.Pairwise (fun a b=>zBO a b=true)∧∀ k∈L,1≤k.c
end
section
structure zEG (es:EsT) (L:List K):Prop where
 inv:InvE es
 sort:zEc L
 same:∀ o e c,inE es o e c↔zEF L o e c
end
end Go.Proofs.YtpdkkbpkplhdpaaGreat
namespace Go.Proofs.YtpdkkbpkplhdpaaGreat
open Go Go.Vm
attribute [local irreducible] Brn Ob Grow CallsM inR zaD Mem.row Mem.cells Mem.setCells Mem.upd Go.Vm.Own zaG za7 za9 zaR New SrcOk subA
def zfS (a b c d:Int) (n:Nat):Int:=if zbz a b c d≠0 then zbz a b c d else if n=0 then 2 else if 48<n then 3 else 0
set_option maxRecDepth 10000 in
theorem zkC (a b c d:Int) (p:Option Addr) (n k:Nat) (M:Mem):CallsM Tryz.prog F.zex [.agg #[.int .i64 a,.int .i64 b,.int .i64 c,.int .i64 d,.slice p n k]] M fun v M'=>v = .int .i64 (zfS a b c d n)∧M=M':=by
 refine zqZ (by simp) ?_
 (conv=>whnf)
 repeat' ((conv=>whnf);first
  | (refine(zf8 _ _ _ _ _).mono ?_;rintro v M' ⟨rfl,rfl⟩)
  | refine brn (fun h=>?_) (fun h=>?_))
 all_goals (conv=>whnf)
 all_goals (refine⟨?_,rfl⟩;simp_all [zfS])
 all_goals omega
end Go.Proofs.YtpdkkbpkplhdpaaGreat
namespace Go.Proofs.YtpdkkbpkplhdpaaGreat
open Go Go.Vm
attribute [local irreducible] Brn Ob Grow CallsM inR zaD zaC Mem.row Mem.cells Mem.setCells Mem.upd Go.Vm.Own zaG za7 za9 zaR New SrcOk subA NewSl Mem.textAt Mem.mapAt Mem.iterAt zaB zam Wr NewEls Elems
set_option maxRecDepth 10000
section
structure zbs where
 id:IdT
 p:List UInt8
deriving DecidableEq
structure StR where
 self:Int
 qh:Int
 qb:Int
 qg:Int
 epoch:Int
 used:List Int
 l:List zbs
structure EvD where
 kind:Int
 id:IdT
 p:List UInt8
@[reducible] def zee (i:IdT):Int:=zbz i.o i.d i.e i.c
@[reducible] def zc5 (i:IdT) (n:Nat):Int:=zfS i.o i.d i.e i.c n
def zfT (i:IdT):Prop:=i.o=0∧i.d=0∧i.e=0∧i.c=0
instance (i:IdT):Decidable (zfT i):=by unfold zfT;infer_instance
def zbb (k:Int) (i:IdT) (n:Nat):Int:=
 if k=1 then (if ¬zfT i∨0<n then 2 else 0)
 else if k=2 then zc5 i n
 else if k=3∨k=4 then (if zee i≠0 then zee i else if 0<n then 2 else 0)
 else 1
def zp (l:List zbs):Nat:=(l.map fun m=>m.p.length).sum
def zeN (l:List zbs) (i:IdT):Bool:=l.any fun m=>decide (m.id=i)
def za3 (S:StR) (set:IdT→Int) (k:Int) (i:IdT) (n:Nat):Int:=
 if zbb k i n≠0 then zbb k i n
 else if k=1 then (if S.epoch=65535 then 10 else 0)
 else if k=2 then (if i.d=S.self∨(i.o=S.self∧S.epoch<i.e) then 2 else if zeN S.l i then 5 else if S.qh≤S.l.length∨S.qb<zp S.l+n then 6 else 0)
 else if k=3 then (if zeN S.l i then 0 else 4)
 else (if i.d≠S.self then 2 else set i)
def zcg (S:StR) (d:Int):Int:=S.used.getD d.toNat 0
def zP (S:StR) (k:Int) (i:IdT) (p:List UInt8):StR:=
 if k=1 then { S with epoch:=S.epoch+1,used:=List.replicate 64 0 }
 else if k=2 then { S with l:=S.l++[⟨i,p⟩],used:=if i.o=S.self∧i.e=S.epoch then S.used.set i.d.toNat (max (zcg S i.d) i.c) else S.used }
 else if k=3 then { S with l:=S.l.filter fun m=>decide (m.id≠i) }
 else S
structure zdA (S:StR):Prop where
 self:0≤S.self∧S.self≤63
 epoch:0≤S.epoch∧S.epoch≤65535
 ulen:S.used.length=64
 used:∀ n∈S.used,0≤n∧n≤65535
 qh:(S.l.length:Int)≤S.qh∧S.qh≤2097152
 qb:(zp S.l:Int)≤S.qb∧S.qb≤134217728
 msgs:∀ m∈S.l,zc5 m.id m.p.length=0∧m.id.d≠S.self∧(m.id.o=S.self→m.id.e≤S.epoch)
 nodup:(S.l.map (·.id)).Nodup
structure PX where
 id:IdT
 a:Option Addr
 c:Nat
 p:List UInt8
 n:Int
@[reducible] def PX.msg (x:PX):zbs:=⟨x.id,x.p⟩
abbrev HsT:=List (IdT×PX)
@[reducible] def idA (i:IdT):Value := .agg #[.int .i64 i.o,.int .i64 i.d,.int .i64 i.e,.int .i64 i.c]
@[reducible] def pxV (x:PX):Value := .agg #[.int .i64 x.id.o,.int .i64 x.id.d,.int .i64 x.id.e,.int .i64 x.id.c,.slice x.a x.p.length x.c,.int .i64 x.n]
theorem idK:zjM idA:=by
 intro a b
 obtain⟨a1,a2,a3,a4⟩:=a
 obtain⟨b1,b2,b3,b4⟩:=b
 simp only[zfm,zbU,if_true,IdT.mk.injEq]
 (repeat' split)<;>simp_all
@[reducible] def zH (S:StR) (b:Nat) (came:Int) (bytes:Int) (sp:Nat):List Value:=
 [.int .i64 S.self,.int .i64 S.qh,.int .i64 S.qb,.int .i64 S.qg,.int .i64 S.epoch]++S.used.map zan++[.map (some b),.int .i64 came,.int .i64 bytes,ptr sp]
structure StAt (M:Mem) (p b sp sb:Nat) (S:StR) (came:Int) (xs:HsT) (es:EsT):Prop where
 self:M.has p T.zk (zH S b came (zp S.l) sp)
 map:MapAt idA pxV M b xs
 data:∀ q∈xs,Wr M T.zm 1 q.2.a q.2.p.length q.2.c (q.2.p.map zh)
 set:SetAt M sp sb S.qg es
 held:xs.map (fun q=>q.2.msg)=S.l
 keys:∀ q∈xs,q.2.id=q.1
 ord:xs.Pairwise fun x y=>x.2.n<y.2.n
 came:0≤came∧∀ q∈xs,0≤q.2.n∧q.2.n<came
 ne:b≠sb
def stB (p b sp sb:Nat) (xs:HsT) (es:EsT):Nat→Prop:=fun y=>y=p∨y=b∨(∃ q∈xs,blk q.2.a y)∨setB sp sb es y
variable {M:Mem} {p b sp sb:Nat} {S:StR} {came:Int} {xs:HsT} {es:EsT}
theorem SetAt.mono {M':Mem} {gaps:Int} (h:SetAt M sp sb gaps es) (hk:∀ y o,setB sp sb es y→M y=some o→M' y=some o):SetAt M' sp sb gaps es:=
 ⟨hk _ _ (.inl rfl) h.self,h.map.mono fun o ho=>hk _ _ (.inr (.inl rfl)) ho,fun q hq=>(h.ents q hq).mono fun y o hy ho=>hk y o (.inr (.inr ⟨q,hq,hy⟩)) ho,h.apart⟩
theorem StAt.mono {M':Mem} (h:StAt M p b sp sb S came xs es) (hk:∀ y o,stB p b sp sb xs es y→M y=some o→M' y=some o):StAt M' p b sp sb S came xs es:=
 ⟨hk _ _ (.inl rfl) h.self,h.map.mono fun o ho=>hk _ _ (.inr (.inl rfl)) ho,fun q hq=>(h.data q hq).mono fun y o hy ho=>hk _ o (.inr (.inr (.inl ⟨q,hq,_,hy,rfl⟩))) ho,h.set.mono fun y o hy ho=>hk y o (.inr (.inr (.inr hy))) ho,h.held,h.keys,h.ord,h.came,h.ne⟩
theorem StAt.le {M':Mem} (h:StAt M p b sp sb S came xs es) (hle:M.le M'):StAt M' p b sp sb S came xs es:=h.mono fun y o _=>hle y o
theorem zcK (hu:S.used.length=64) (b:Nat) (came bytes:Int) (sp:Nat):(zH S b came bytes sp).length=73:=by simp[hu]
theorem zeO (hu:S.used.length=64) (b:Nat) (came bytes:Int) (sp:Nat):(zH S b came bytes sp)[69]? = some (.map (some b)):=by
 simp[hu]
theorem ztb (hu:S.used.length=64) (b:Nat) (came bytes:Int) (sp:Nat):(zH S b came bytes sp)[70]? = some (.int .i64 came):=by
 simp[hu]
theorem zgQ (hu:S.used.length=64) (b:Nat) (came bytes:Int) (sp:Nat):(zH S b came bytes sp)[71]? = some (.int .i64 bytes):=by
 simp[hu]
theorem zlM (hu:S.used.length=64) (b:Nat) (came bytes:Int) (sp:Nat):(zH S b came bytes sp)[72]? = some (ptr sp):=by
 simp[hu]
theorem ztc (hu:S.used.length=64) (b:Nat) (came bytes:Int) (sp:Nat) {d:Nat} (hd:d<64):(zH S b came bytes sp)[5+d]? = some (.int .i64 (S.used.getD d 0)):=by
 have h:d<S.used.length:=by omega
 rw[Nat.add_comm 5 d]
 simp[List.getElem?_append,h]
end
section
variable {M:Mem} {p b sp sb:Nat} {S:StR} {came:Int} {xs:HsT} {es:EsT}
theorem zjc (n most:Int):CallsM Tryz.prog F.zdv [.int .i64 n,.int .i64 most] M fun v M'=>v = .bool (decide (0≤n∧n≤most))∧M=M':=by
 refine zwv (by simp) ?_
 (conv=>whnf);refine brn (fun h=>?_) (fun h=>?_)
 all_goals (conv=>whnf)
 ·exact⟨by have:=Zd0 h;simp_all,rfl⟩
 ·exact⟨by have:=Zd1 h;simp_all;omega,rfl⟩
theorem zxi (k:Int) (i:IdT) (a:Option Addr) (n c:Nat):CallsM Tryz.prog F.zgB [.agg #[.int .i64 k,.int .i64 i.o,.int .i64 i.d,.int .i64 i.e,.int .i64 i.c,.slice a n c]] M fun v M'=>v = .int .i64 (zbb k i n)∧M=M':=by
 refine zt0 (by simp) ?_
 (conv=>whnf);refine brn (fun h=>?_) (fun h=>?_)
 ·have h':k=1:=Zd0 h
  subst h'
  refine zR ?_
  refine brn (fun g=>?_) (fun g=>?_)
  ·have g1:¬zfT i:=by unfold zfT;simp at g;omega
   refine zR ?_
   exact⟨by unfold zbb;rw[if_pos rfl,if_pos (.inl g1)],rfl⟩
  have g1:zfT i:=by unfold zfT;simp at g;omega
  (conv=>whnf);refine brn (fun g2=>?_) (fun g2=>?_)
  ·have g3:0<n:=by have:=Zd0 g2;omega
   refine zR ?_
   exact⟨by unfold zbb;rw[if_pos rfl,if_pos (.inr g3)],rfl⟩
  ·have g3:¬0<n:=by have:=Zd1 g2;omega
   refine zR ?_
   exact⟨by unfold zbb;rw[if_pos rfl,if_neg (by simp[g1,g3])],rfl⟩
 (conv=>whnf);refine brn (fun h2=>?_) (fun h2=>?_)
 ·have h':k=2:=Zd0 h2
  subst h'
  refine zR ?_
  refine(zkC _ _ _ _ _ _ _ _).mono ?_
  rintro v _ ⟨rfl,rfl⟩
  refine zR ?_
  exact⟨rfl,rfl⟩
 have e1:¬k=1:=Zd1 h
 have e2:¬k=2:=Zd1 h2
 (conv=>whnf);refine brn (fun h3=>?_) (fun h3=>?_)
 ·have e3:k=3:=Zd0 h3
  (conv=>whnf);refine brn_t h3 ?_
  (conv=>whnf)
  refine zR ?_
  refine(zf8 _ _ _ _ _).mono ?_
  rintro v _ ⟨rfl,rfl⟩
  (conv=>whnf);refine brn (fun g=>?_) (fun g=>?_)
  ·have g':¬zee i=0:=by simpa using g
   refine zR ?_
   exact⟨by unfold zbb;rw[if_neg e1,if_neg e2,if_pos (by omega),if_pos g'],rfl⟩
  have g':zee i=0:=by simpa using g
  (conv=>whnf);refine brn (fun g2=>?_) (fun g2=>?_)
  ·have g3:0<n:=by have:=Zd0 g2;omega
   refine zR ?_
   exact⟨by unfold zbb;rw[if_neg e1,if_neg e2,if_pos (by omega),if_neg (by simp[g']),if_pos g3],rfl⟩
  ·have g3:¬0<n:=by have:=Zd1 g2;omega
   refine zR ?_
   exact⟨by unfold zbb;rw[if_neg e1,if_neg e2,if_pos (by omega),if_neg (by simp[g']),if_neg g3],rfl⟩
 have e3:¬k=3:=Zd1 h3
 (conv=>whnf);refine brn (fun h4=>?_) (fun h4=>?_)
 ·have e4:k=4:=Zd0 h4
  (conv=>whnf)
  refine zR ?_
  refine(zf8 _ _ _ _ _).mono ?_
  rintro v _ ⟨rfl,rfl⟩
  (conv=>whnf);refine brn (fun g=>?_) (fun g=>?_)
  ·have g':¬zee i=0:=by simpa using g
   refine zR ?_
   exact⟨by unfold zbb;rw[if_neg e1,if_neg e2,if_pos (by omega),if_pos g'],rfl⟩
  have g':zee i=0:=by simpa using g
  (conv=>whnf);refine brn (fun g2=>?_) (fun g2=>?_)
  ·have g3:0<n:=by have:=Zd0 g2;omega
   refine zR ?_
   exact⟨by unfold zbb;rw[if_neg e1,if_neg e2,if_pos (by omega),if_neg (by simp[g']),if_pos g3],rfl⟩
  ·have g3:¬0<n:=by have:=Zd1 g2;omega
   refine zR ?_
   exact⟨by unfold zbb;rw[if_neg e1,if_neg e2,if_pos (by omega),if_neg (by simp[g']),if_neg g3],rfl⟩
 ·have e4:¬k=4:=Zd1 h4
  refine zR ?_
  exact⟨by unfold zbb;rw[if_neg e1,if_neg e2,if_neg (by omega)],rfl⟩
structure FreshSt (M0 M:Mem) (p b sp sb:Nat) (S:StR) (came:Int) (xs:HsT) (es:EsT):Prop where
 le:M0.le M
 at':StAt M p b sp sb S came xs es
 inv:zdA S
 invE:InvE es
 room:(zaH es:Int)≤S.qg∧S.qg≤256
 fresh:∀ y,stB p b sp sb xs es y→M0 y=none
def zbn (self qh qb qg:Int):Prop:=¬(0≤self∧self≤63)∨¬(0≤qh∧qh≤256)∨¬(0≤qb∧qb≤1048576)∨¬(0≤qg∧qg≤256)
def zfg (self qh qb qg:Int):StR:=⟨self,qh,qb,qg,0,List.replicate 64 0,[]⟩
theorem zA8 {self qh qb qg:Int} (h:¬zbn self qh qb qg):zdA (zfg self qh qb qg):=by
 unfold zbn at h
 refine⟨?_,?_,?_,?_,?_,?_,?_,?_⟩<;>simp[zfg,zp]<;>omega
theorem zvG (self qh qb qg:Int):CallsM Tryz.prog F.zfP [.int .i64 self,.agg #[.int .i64 qh,.int .i64 qb,.int .i64 qg]] M fun v M'=>
  (zbn self qh qb qg∧v = .tuple #[.pointer none,.int .i64 1]∧M=M') ∨
  (¬zbn self qh qb qg∧∃ p b sp sb,v = .tuple #[ptr p,.int .i64 0]∧FreshSt M M' p b sp sb (zfg self qh qb qg) 0 [] []):=by
 refine zuT (by simp) ?_
 refine zR ?_
 refine(zjc _ _).mono ?_
 rintro v _ ⟨rfl,rfl⟩
 (conv=>whnf);refine brn (fun g=>?_) (fun g=>?_)
 ·(conv=>whnf)
  refine zR ?_
  exact .inl ⟨by unfold zbn;simp only[Bool.not_eq_true',decide_eq_false_iff_not] at *; omega,rfl,rfl⟩
 (conv=>whnf);refine(zjc _ _).mono ?_
 rintro v _ ⟨rfl,rfl⟩
 (conv=>whnf);refine brn (fun g1=>?_) (fun g1=>?_)
 ·(conv=>whnf)
  refine zR ?_
  exact .inl ⟨by unfold zbn;simp only[Bool.not_eq_true',decide_eq_false_iff_not] at *; omega,rfl,rfl⟩
 (conv=>whnf);refine(zjc _ _).mono ?_
 rintro v _ ⟨rfl,rfl⟩
 (conv=>whnf);refine brn (fun g2=>?_) (fun g2=>?_)
 ·(conv=>whnf)
  refine zR ?_
  exact .inl ⟨by unfold zbn;simp only[Bool.not_eq_true',decide_eq_false_iff_not] at *; omega,rfl,rfl⟩
 (conv=>whnf);refine(zjc _ _).mono ?_
 rintro v _ ⟨rfl,rfl⟩
 (conv=>whnf);refine brn (fun g3=>?_) (fun g3=>?_)
 ·(conv=>whnf)
  refine zR ?_
  exact .inl ⟨by unfold zbn;simp only[Bool.not_eq_true',decide_eq_false_iff_not] at *; omega,rfl,rfl⟩
 have hn:¬zbn self qh qb qg:=by
  unfold zbn
  simp only[Bool.not_eq_false',decide_eq_true_eq] at *
  omega
 refine zR ?_
 refine(newS qg).mono ?_
 rintro v M1 (⟨h, -⟩|⟨-, sp,sb,rfl,h1⟩)
 ·unfold zbn at hn;omega
 refine zR ?_
 refine new (fun b hb=>?_)
 replace hb:M1 b=none:=hb
 (conv=>whnf);refine new (fun p hp=>?_)
 replace hp:(M1.upd b (.map #[] 0)) p=none:=hp
 have hne:p≠b:=fun e=>by subst e;rw[Mem.upd_same] at hp;cases hp
 rw[Mem.upd_ne _ _ hne] at hp
 (conv=>whnf)
 refine .inr ⟨hn,p,b,sp,sb,rfl,?_⟩
 have hq:M1.le (M1.upd b (.map #[] 0)):=Mem.le_upd hb
 have hp':(M1.upd b (.map #[] 0)) p=none:=by rw[Mem.upd_ne _ _ hne];exact hp
 have hq2:(M1.upd b (.map #[] 0)).le ((M1.upd b (.map #[] 0)).setCells p T.zk (zH (zfg self qh qb qg) b 0 0 sp)):=Mem.le_setCells hp'
 have hsl:=h1.at'.le (Mem.le_trans hq hq2)
 have hnb:b≠sb:=fun e=>by
  subst e
  obtain⟨l,c,hh,_⟩:=h1.at'.map
  rw[hh] at hb;cases hb
 have lo:∀ y,M1 y=none→M y=none:=fun y hy=>by
  cases e:M y with
  | none=>rfl
  | some o=>rw[h1.le y o e] at hy;cases hy
 refine⟨Mem.le_trans h1.le (Mem.le_trans hq hq2),⟨Mem.has_setCells,(MapAt.new M1 b).mono fun o ho=>hq2 _ _ ho,by simp,hsl,rfl,by simp,by simp,by simp,hnb⟩,zA8 hn,InvE.nil,h1.room,fun y hy=>?_⟩
 rcases hy with rfl|rfl|⟨q,hq,_⟩|hy
 ·exact lo _ hp
 ·exact lo _ hb
 ·cases hq
 ·exact h1.fresh y hy
end
section
variable {M:Mem} {p b sp sb:Nat} {S:StR} {came:Int} {xs:HsT} {es:EsT}
def z7 (S:StR) (d:Int):IdT×Int:=
 if S.epoch=0 then (⟨0,0,0,0⟩,7) else if ¬(0≤d∧d≤63) then (⟨0,0,0,0⟩,1) else if d=S.self then (⟨0,0,0,0⟩,2)
 else if zcg S d=65535 then (⟨0,0,0,0⟩,10) else (⟨S.self,d,S.epoch,zcg S d+1⟩,0)
theorem zoX (hI:zdA S) (d:Int):0≤zcg S d∧zcg S d≤65535:=by
 unfold zcg
 rw[List.getD_eq_getElem?_getD]
 cases h:S.used[d.toNat]? with
 | none=>simp
 | some x=>exact hI.used x (List.mem_of_getElem? h)
theorem zA9 (h:StAt M p b sp sb S came xs es) (hI:zdA S) (d:Int):CallsM Tryz.prog F.zdS [ptr p,.int .i64 d] M fun v M'=>
  v = .tuple #[idA (z7 S d).1,.int .i64 (z7 S d).2]∧M=M':=by
 refine zln (by simp) ?_
 have hr:=zoX hI d
 refine zR ?_
 refine on (h.self.c1 rfl) ?_
 (conv=>whnf);refine brn (fun g=>?_) (fun g=>?_)
 ·have g1:S.epoch=0:=Zd0 g
  refine zR ?_
  exact⟨by unfold z7;rw[if_pos g1],rfl⟩
 have g1:¬S.epoch=0:=Zd1 g
 refine zR ?_
 refine(zjc _ _).mono ?_
 rintro v _ ⟨rfl,rfl⟩
 (conv=>whnf);refine brn (fun g2=>?_) (fun g2=>?_)
 ·have g3:¬(0≤d∧d≤63):=by simp at g2;omega
  refine zR ?_
  exact⟨by unfold z7;rw[if_neg g1,if_pos g3],rfl⟩
 have g3:0≤d∧d≤63:=by simpa using g2
 (conv=>whnf);refine on (h.self.c1 rfl) ?_
 (conv=>whnf);refine brn (fun g4=>?_) (fun g4=>?_)
 ·have g5:d=S.self:=Zd0 g4
  refine zR ?_
  exact⟨by unfold z7;rw[if_neg g1,if_neg (by omega),if_pos g5],rfl⟩
 have g5:¬d=S.self:=Zd1 g4
 obtain⟨k,rfl⟩:∃ k:Nat,d=k:=⟨d.toNat,by omega⟩
 have hk:M.row p (0+0+5+((k:Int)).toNat*1) 1=some [.int .i64 (zcg S k)]:=by
  have:=h.self.c1 (ztc hI.ulen b came (zp S.l) sp (d:=k) (by omega))
  rw[show 0+0+5+((k:Int)).toNat*1=5+k by omega];exact this
 (conv=>whnf);refine ob (by omega) ?_
 (conv=>whnf);refine on hk ?_
 (conv=>whnf);refine brn (fun g6=>?_) (fun g6=>?_)
 ·have g7:zcg S k=65535:=Zd0 g6
  refine zR ?_
  exact⟨by unfold z7;rw[if_neg g1,if_neg (by omega),if_neg g5,if_pos g7],rfl⟩
 have g7:¬zcg S k=65535:=Zd1 g6
 (conv=>whnf);refine on (h.self.c1 rfl) ?_
 (conv=>whnf);refine on (h.self.c1 rfl) ?_
 (conv=>whnf);refine ob (by omega) ?_
 (conv=>whnf);refine on hk ?_
 (conv=>whnf);refine ob (ze (by omega)) ?_
 refine zR ?_
 exact⟨by unfold z7;rw[if_neg g1,if_neg (by omega),if_neg g5,if_neg g7],rfl⟩
theorem zgl (h:StAt M p b sp sb S came xs es) (i:IdT):(zF xs i=none∧zeN S.l i=false∧∀ m∈S.l,m.id≠i)∨(∃ x,zF xs i=some x∧x.id=i∧zeN S.l i=true∧x.msg∈S.l):=by
 cases e:zF xs i with
 | none=>
  have hn:∀ m∈S.l,m.id≠i:=fun m hm he=>by
   rw[←h.held] at hm
   obtain⟨q,hq,rfl⟩:=List.mem_map.1 hm
   exact aget_none.1 e (List.mem_map.2 ⟨q,hq,by rw[←h.keys q hq];exact he⟩)
  refine .inl ⟨rfl,?_,hn⟩
  unfold zeN
  rw[List.any_eq_false]
  intro m hm
  simpa using hn m hm
 | some x=>
  have hm:=zQ e
  have hx:x.id=i:=h.keys _ hm
  have hl:x.msg∈S.l:=by rw[←h.held];exact List.mem_map.2 ⟨_,hm,rfl⟩
  refine .inr ⟨x,rfl,hx,?_,hl⟩
  unfold zeN
  rw[List.any_eq_true]
  exact⟨_,hl,by simp[hx]⟩
theorem zCv (h:StAt M p b sp sb S came xs es) (hI:zdA S) (i:IdT):CallsM Tryz.prog F.zd6 [ptr p,idA i] M fun v M'=>
  (v = .tuple #[.agg #[.int .i64 0,.int .i64 0,.int .i64 0,.int .i64 0,.slice none 0 0],.bool false]∧zeN S.l i=false∧M=M') ∨
  (∃ a n c l,v = .tuple #[.agg #[.int .i64 i.o,.int .i64 i.d,.int .i64 i.e,.int .i64 i.c,.slice a n c],.bool true]∧zeN S.l i=true∧⟨i,l⟩∈S.l∧NewSl M T.zm 1 a n c (l.map zh) M'):=by
 refine zmn (by simp) ?_
 refine zR ?_
 refine on (h.self.c1 (zeO hI.ulen ..)) ?_
 (conv=>whnf)
 refine h.map.get idK i (fun hn=>?_) (fun x j hx=>?_)
 ·rcases zgl h i with ⟨_,h0,_⟩|⟨x,hx,_⟩
  rotate_left
  ·rw[hn] at hx;cases hx
  refine zR ?_
  exact .inl ⟨rfl,h0,rfl⟩
 ·rcases zgl h i with ⟨hn,_⟩|⟨x',hx',hxi,h0,hm⟩
  ·rw[hx] at hn;cases hn
  rw[hx] at hx'
  cases hx'
  have hd:=h.data _ (zQ hx)
  have hpl:x.p.length≤48:=by
   have:zc5 x.id x.p.length=0:=(hI.msgs _ hm).1
   unfold zc5 zfS at this
   repeat' split at this
   all_goals omega
  refine zR ?_
  refine new (fun b2 hb2=>?_)
  replace hb2:M b2=none:=hb2
  have hN1:NewSl M T.zm 1 (some ⟨b2,0,none⟩) 0 0 (([]:List UInt8).map zh) _:=NewSl.lit hb2 T.zm 1 0 [] rfl
  obtain⟨M5,hM5⟩:∃ M5,M5=M.setCells b2 T.zm []:=⟨_,rfl⟩
  rw[←hM5] at hN1
  (conv=>whnf)
  erw [←hM5]
  refine zT (hN1.le) ?_
  (conv=>whnf)
  refine zdW (hd.src.le hN1.le) ?_
  (conv=>whnf);refine ze8 M _ hN1 (by first|omega|(dsimp only;omega)) (by simp[maxLen];omega) (by simp[Value.oneCell',zh]) fun a5 c5 M6 hN6=>?_
  refine zT (hN6.le) ?_
  refine zR ?_
  (conv=>whnf)
  exact .inr ⟨a5,_,c5,x.p,rfl,h0,by rw[←hxi];exact hm,by simpa using hN6⟩
end
section
variable {M M0:Mem} {p b sp sb:Nat} {S:StR} {came:Int} {xs:HsT} {es:EsT}
@[reducible] def zdr (S:StR) (es:EsT) (i:IdT):Int:=zdn S.qg es i.o i.d i.e i.c
@[reducible] def evV (k:Int) (i:IdT) (a:Option Addr) (n c:Nat):Value := .agg #[.int .i64 k,.int .i64 i.o,.int .i64 i.d,.int .i64 i.e,.int .i64 i.c,.slice a n c]
theorem zvH (h:FreshSt M0 M p b sp sb S came xs es) (k:Int) (i:IdT) (a:Option Addr) (n c:Nat) (hn:n≤1048576):CallsM Tryz.prog F.zcQ [ptr p,evV k i a n c] M fun v M'=>
  v = .int .i64 (za3 S (zdr S es) k i n)∧M.le M':=by
 refine znc (by simp) ?_
 have hI:=h.inv
 have hA:=h.at'
 have hqb:=hI.qb
 have hqh:=hI.qh
 have hxl:xs.length=S.l.length:=by rw[←hA.held,List.length_map]
 refine zR ?_
 refine(zxi k i a n c).mono ?_
 rintro v _ ⟨rfl,rfl⟩
 (conv=>whnf);refine brn (fun g=>?_) (fun g=>?_)
 ·have g1:¬zbb k i n=0:=by simpa using g
  refine zR ?_
  exact⟨by unfold za3;rw[if_pos g1],Mem.le_refl _⟩
 have g1:zbb k i n=0:=by simpa using g
 have hk:k=1∨k=2∨k=3∨k=4:=by
  unfold zbb at g1
  repeat' split at g1
  all_goals omega
 refine zR ?_
 refine on (hA.self.c1 (zeO hI.ulen ..)) ?_
 (conv=>whnf)
 refine hA.map.get idK i (fun hn=>?_) (fun x j hx=>?_)
 ·rcases zgl hA i with ⟨_,h0,_⟩|⟨x,hx,_⟩
  rotate_left
  ·rw[hn] at hx;cases hx
  rcases hk with rfl|rfl|rfl|rfl
  ·(conv=>whnf)
   refine zR ?_
   refine on (hA.self.c1 rfl) ?_
   (conv=>whnf);refine brn (fun g2=>?_) (fun g2=>?_)
   ·have g3:S.epoch=65535:=Zd0 g2
    refine zR ?_
    exact⟨by unfold za3;rw[if_neg (by simp[g1]),if_pos rfl,if_pos g3],Mem.le_refl _⟩
   ·have g3:¬S.epoch=65535:=Zd1 g2
    refine zR ?_
    exact⟨by unfold za3;rw[if_neg (by simp[g1]),if_pos rfl,if_neg g3],Mem.le_refl _⟩
  ·refine zR ?_
   refine on (hA.self.c1 rfl) ?_
   (conv=>whnf);refine brn (fun a1=>?_) (fun a1=>?_)
   ·have a2:i.d=S.self:=Zd0 a1
    refine zR ?_
    exact⟨by unfold za3;rw[if_neg (by simp[g1]),if_neg (by decide),if_pos rfl,if_pos (.inl a2)],Mem.le_refl _⟩
   have a2:¬i.d=S.self:=Zd1 a1
   (conv=>whnf);refine on (hA.self.c1 rfl) ?_
   (conv=>whnf);refine brn (fun a3=>?_) (fun a3=>?_)
   ·have a4:i.o=S.self:=Zd0 a3
    (conv=>whnf);refine on (hA.self.c1 rfl) ?_
    (conv=>whnf);refine brn (fun a5=>?_) (fun a5=>?_)
    ·have a6:S.epoch<i.e:=Zd0 a5
     (conv=>whnf);refine brn_t a5 ?_
     refine zR ?_
     exact⟨by unfold za3;rw[if_neg (by simp[g1]),if_neg (by decide),if_pos rfl,if_pos (.inr ⟨a4,a6⟩)],Mem.le_refl _⟩
    ·have a6:¬S.epoch<i.e:=Zd1 a5
     have a7:¬(i.d=S.self∨(i.o=S.self∧S.epoch<i.e)):=by omega
     refine zR ?_
     refine on (hA.self.c1 (zeO hI.ulen ..)) ?_
     (conv=>whnf)
     refine hA.map.len fun e2 c2 hsz=>?_
     (conv=>whnf);refine on (hA.self.c1 rfl) ?_
     (conv=>whnf);refine brn (fun a8=>?_) (fun a8=>?_)
     ·have a9:S.qh≤S.l.length:=by have:=Zd0 a8;dsimp only at this;rw[hsz] at this;omega
      refine zR ?_
      exact⟨by unfold za3;rw[if_neg (by simp[g1]),if_neg (by decide),if_pos rfl,if_neg a7,h0,if_neg (by decide),if_pos (.inl a9)],Mem.le_refl _⟩
     have a9:¬S.qh≤S.l.length:=by have:=Zd1 a8;dsimp only at this;rw[hsz] at this;omega
     (conv=>whnf);refine on (hA.self.c1 rfl) ?_
     (conv=>whnf);refine on (hA.self.c1 (zgQ hI.ulen ..)) ?_
     (conv=>whnf);refine ob (ze (by omega)) ?_
     (conv=>whnf);refine brn (fun b8=>?_) (fun b8=>?_)
     ·have b9:S.qb<zp S.l+n:=by have:=Zd0 b8;omega
      refine zR ?_
      exact⟨by unfold za3;rw[if_neg (by simp[g1]),if_neg (by decide),if_pos rfl,if_neg a7,h0,if_neg (by decide),if_pos (.inr b9)],Mem.le_refl _⟩
     have b9:¬S.qb<zp S.l+n:=by have:=Zd1 b8;omega
     refine zR ?_
     (conv=>whnf)
     exact⟨by unfold za3;rw[if_neg (by simp[g1]),if_neg (by decide),if_pos rfl,if_neg a7,h0,if_neg (by decide),if_neg (by omega)],Mem.le_refl _⟩
   ·have a4:¬i.o=S.self:=Zd1 a3
    have a7:¬(i.d=S.self∨(i.o=S.self∧S.epoch<i.e)):=by omega
    refine zR ?_
    refine on (hA.self.c1 (zeO hI.ulen ..)) ?_
    (conv=>whnf)
    refine hA.map.len fun e2 c2 hsz=>?_
    (conv=>whnf);refine on (hA.self.c1 rfl) ?_
    (conv=>whnf);refine brn (fun a8=>?_) (fun a8=>?_)
    ·have a9:S.qh≤S.l.length:=by have:=Zd0 a8;dsimp only at this;rw[hsz] at this;omega
     refine zR ?_
     exact⟨by unfold za3;rw[if_neg (by simp[g1]),if_neg (by decide),if_pos rfl,if_neg a7,h0,if_neg (by decide),if_pos (.inl a9)],Mem.le_refl _⟩
    have a9:¬S.qh≤S.l.length:=by have:=Zd1 a8;dsimp only at this;rw[hsz] at this;omega
    (conv=>whnf);refine on (hA.self.c1 rfl) ?_
    (conv=>whnf);refine on (hA.self.c1 (zgQ hI.ulen ..)) ?_
    (conv=>whnf);refine ob (ze (by omega)) ?_
    (conv=>whnf);refine brn (fun b8=>?_) (fun b8=>?_)
    ·have b9:S.qb<zp S.l+n:=by have:=Zd0 b8;omega
     refine zR ?_
     exact⟨by unfold za3;rw[if_neg (by simp[g1]),if_neg (by decide),if_pos rfl,if_neg a7,h0,if_neg (by decide),if_pos (.inr b9)],Mem.le_refl _⟩
    have b9:¬S.qb<zp S.l+n:=by have:=Zd1 b8;omega
    refine zR ?_
    (conv=>whnf)
    exact⟨by unfold za3;rw[if_neg (by simp[g1]),if_neg (by decide),if_pos rfl,if_neg a7,h0,if_neg (by decide),if_neg (by omega)],Mem.le_refl _⟩
  ·(conv=>whnf)
   refine zR ?_
   (conv=>whnf)
   exact⟨by unfold za3;rw[if_neg (by simp[g1]),if_neg (by decide),if_neg (by decide),if_pos rfl,h0];rfl,Mem.le_refl _⟩
  ·(conv=>whnf)
   refine zR ?_
   refine on (hA.self.c1 rfl) ?_
   (conv=>whnf);refine brn (fun g2=>?_) (fun g2=>?_)
   ·have g3:i.d≠S.self:=by simpa using g2
    refine zR ?_
    exact⟨by unfold za3;rw[if_neg (by simp[g1]),if_neg (by decide),if_neg (by decide),if_neg (by decide),if_pos g3],Mem.le_refl _⟩
   ·have g3:¬i.d≠S.self:=by simpa using g2
    refine zR ?_
    refine on (hA.self.c1 (zlM hI.ulen ..)) ?_
    refine zR ?_
    refine(zvC hA.set (by have:=h.room;omega) h.invE.good i.o i.d i.e i.c).mono ?_
    rintro v M1 ⟨rfl,h1⟩
    refine zR ?_
    exact⟨by unfold za3;rw[if_neg (by simp[g1]),if_neg (by decide),if_neg (by decide),if_neg (by decide),if_neg g3],h1⟩
 ·rcases zgl hA i with ⟨hn,_⟩|⟨x',hx',hxi,h0,hm⟩
  ·rw[hx] at hn;cases hn
  rcases hk with rfl|rfl|rfl|rfl
  ·(conv=>whnf)
   refine zR ?_
   refine on (hA.self.c1 rfl) ?_
   (conv=>whnf);refine brn (fun g2=>?_) (fun g2=>?_)
   ·have g3:S.epoch=65535:=Zd0 g2
    refine zR ?_
    exact⟨by unfold za3;rw[if_neg (by simp[g1]),if_pos rfl,if_pos g3],Mem.le_refl _⟩
   ·have g3:¬S.epoch=65535:=Zd1 g2
    refine zR ?_
    exact⟨by unfold za3;rw[if_neg (by simp[g1]),if_pos rfl,if_neg g3],Mem.le_refl _⟩
  ·refine zR ?_
   refine on (hA.self.c1 rfl) ?_
   (conv=>whnf);refine brn (fun a1=>?_) (fun a1=>?_)
   ·have a2:i.d=S.self:=Zd0 a1
    refine zR ?_
    exact⟨by unfold za3;rw[if_neg (by simp[g1]),if_neg (by decide),if_pos rfl,if_pos (.inl a2)],Mem.le_refl _⟩
   have a2:¬i.d=S.self:=Zd1 a1
   (conv=>whnf);refine on (hA.self.c1 rfl) ?_
   (conv=>whnf);refine brn (fun a3=>?_) (fun a3=>?_)
   ·have a4:i.o=S.self:=Zd0 a3
    (conv=>whnf);refine on (hA.self.c1 rfl) ?_
    (conv=>whnf);refine brn (fun a5=>?_) (fun a5=>?_)
    ·have a6:S.epoch<i.e:=Zd0 a5
     (conv=>whnf);refine brn_t a5 ?_
     refine zR ?_
     exact⟨by unfold za3;rw[if_neg (by simp[g1]),if_neg (by decide),if_pos rfl,if_pos (.inr ⟨a4,a6⟩)],Mem.le_refl _⟩
    ·have a6:¬S.epoch<i.e:=Zd1 a5
     have a7:¬(i.d=S.self∨(i.o=S.self∧S.epoch<i.e)):=by omega
     refine zR ?_
     exact⟨by unfold za3;rw[if_neg (by simp[g1]),if_neg (by decide),if_pos rfl,if_neg a7,h0];rfl,Mem.le_refl _⟩
   ·have a4:¬i.o=S.self:=Zd1 a3
    have a7:¬(i.d=S.self∨(i.o=S.self∧S.epoch<i.e)):=by omega
    refine zR ?_
    exact⟨by unfold za3;rw[if_neg (by simp[g1]),if_neg (by decide),if_pos rfl,if_neg a7,h0];rfl,Mem.le_refl _⟩
  ·(conv=>whnf)
   refine zR ?_
   (conv=>whnf)
   exact⟨by unfold za3;rw[if_neg (by simp[g1]),if_neg (by decide),if_neg (by decide),if_pos rfl,h0];rfl,Mem.le_refl _⟩
  ·(conv=>whnf)
   refine zR ?_
   refine on (hA.self.c1 rfl) ?_
   (conv=>whnf);refine brn (fun g2=>?_) (fun g2=>?_)
   ·have g3:i.d≠S.self:=by simpa using g2
    refine zR ?_
    exact⟨by unfold za3;rw[if_neg (by simp[g1]),if_neg (by decide),if_neg (by decide),if_neg (by decide),if_pos g3],Mem.le_refl _⟩
   ·have g3:¬i.d≠S.self:=by simpa using g2
    refine zR ?_
    refine on (hA.self.c1 (zlM hI.ulen ..)) ?_
    refine zR ?_
    refine(zvC hA.set (by have:=h.room;omega) h.invE.good i.o i.d i.e i.c).mono ?_
    rintro v M1 ⟨rfl,h1⟩
    refine zR ?_
    exact⟨by unfold za3;rw[if_neg (by simp[g1]),if_neg (by decide),if_neg (by decide),if_neg (by decide),if_neg g3],h1⟩
end
end Go.Proofs.YtpdkkbpkplhdpaaGreat
namespace Go.Proofs.YtpdkkbpkplhdpaaGreat
open Go Go.Vm
variable {S:StR} {set:IdT→Int} {k:Int} {i:IdT} {p:List UInt8}
theorem zl9 (l r:List zbs):zp (l++r)=zp l+zp r:=by simp[zp]
theorem zuc (l:List zbs) (f:zbs→Bool):zp (l.filter f)≤zp l:=by
 induction l with
 | nil=>simp
 | cons x r ih=>
  simp only[List.filter_cons]
  split
  ·simp only[zp,List.map_cons,List.sum_cons] at ih ⊢; omega
  ·simp only[zp,List.map_cons,List.sum_cons] at ih ⊢; omega
theorem zyH {l:List zbs} (h:zeN l i=false):∀ m∈l,m.id≠i:=fun m hm=>by
 unfold zeN at h
 rw[List.any_eq_false] at h
 simpa using h m hm
theorem zgm {a b c d:Int} (h:zbz a b c d=0):(0≤a∧a≤63)∧(0≤b∧b≤63)∧(1≤c∧c≤65535)∧(1≤d∧d≤65535)∧a≠b:=by
 unfold zbz at h
 repeat' split at h
 all_goals omega
theorem za6 {n:Nat} (h:zc5 i n=0):zee i=0∧0<n∧n≤48:=by
 unfold zc5 zfS at h
 unfold zee
 repeat' split at h
 all_goals omega
theorem zsJ (h:za3 S set 2 i p.length=0):zc5 i p.length=0∧i.d≠S.self∧¬(i.o=S.self∧S.epoch<i.e)∧zeN S.l i=false∧(S.l.length:Int)<S.qh∧(zp S.l:Int)+p.length≤S.qb:=by
 unfold za3 at h
 split at h
 ·rename_i g;exact absurd h g
 rename_i g
 have g0:zbb 2 i p.length=0:=by simpa using g
 rw[if_neg (by decide),if_pos rfl] at h
 have g1:zc5 i p.length=0:=by unfold zbb at g0;rwa [if_neg (by decide),if_pos rfl] at g0
 split at h
 ·cases h
 rename_i g2
 split at h
 ·cases h
 rename_i g3
 split at h
 ·cases h
 rename_i g4
 exact⟨g1,by omega,by omega,by simpa using g3,by omega,by omega⟩
theorem zyI (hI:zdA S) (hm:za3 S set k i p.length=0):zdA (zP S k i p):=by
 by_cases h1:k=1
 ·subst h1
  have he:S.epoch<65535:=by
   have:=hI.epoch
   unfold za3 at hm
   split at hm
   ·rename_i g;exact absurd hm g
   rw[if_pos rfl] at hm
   split at hm
   ·cases hm
   ·omega
  have e:zP S 1 i p={ S with epoch:=S.epoch+1,used:=List.replicate 64 0 }:=by unfold zP;rw[if_pos rfl]
  rw[e]
  refine⟨hI.self,?_,by simp,?_,hI.qh,hI.qb,fun m h=>?_,hI.nodup⟩
  ·have:=hI.epoch;dsimp only;omega
  ·intro n hn
   dsimp only at hn
   have:=List.eq_of_mem_replicate hn
   omega
  ·obtain⟨a,b,c⟩:=hI.msgs m h
   exact⟨a,b,fun h=>by have:=c h;dsimp only;omega⟩
 by_cases h2:k=2
 ·subst h2
  obtain⟨g1,g2,g3,g4,g5,g6⟩:=zsJ hm
  obtain⟨u1,u2,u3⟩:=za6 g1
  have hc:=(zlL u1).2
  have e:zP S 2 i p={ S with l:=S.l++[⟨i,p⟩],used:=if i.o=S.self∧i.e=S.epoch then S.used.set i.d.toNat (max (zcg S i.d) i.c) else S.used }:=by unfold zP;rw[if_neg (by decide),if_pos rfl]
  rw[e]
  refine⟨hI.self,hI.epoch,?_,?_,?_,?_,fun m h=>?_,?_⟩
  ·dsimp only;split
   ·rw[List.length_set];exact hI.ulen
   ·exact hI.ulen
  ·intro n hn
   dsimp only at hn
   split at hn
   ·rcases List.mem_or_eq_of_mem_set hn with h|h
    ·exact hI.used n h
    ·have:=zoX hI i.d;omega
   ·exact hI.used n hn
  ·have:=hI.qh;simp only[List.length_append,List.length_singleton];omega
  ·have:=hI.qb;rw[zl9];simp only[zp,List.map_cons,List.map_nil,List.sum_cons,List.sum_nil] at *; omega
  ·rcases List.mem_append.1 h with h|h
   ·exact hI.msgs m h
   ·simp at h;subst h;exact⟨g1,g2,fun h=>by dsimp only at h ⊢; omega⟩
  ·rw[List.map_append,List.nodup_append]
   refine⟨hI.nodup,by simp,fun a ha b hb=>?_⟩
   simp at hb
   subst hb
   obtain⟨m,hm,rfl⟩:=List.mem_map.1 ha
   exact zyH g4 m hm
 by_cases h3:k=3
 ·subst h3
  have e:zP S 3 i p={ S with l:=S.l.filter fun m=>decide (m.id≠i) }:=by unfold zP;rw[if_neg (by decide),if_neg (by decide),if_pos rfl]
  rw[e]
  refine⟨hI.self,hI.epoch,hI.ulen,hI.used,?_,?_,fun m h=>hI.msgs m (List.mem_filter.1 h).1,?_⟩
  ·have:=hI.qh;have h4:=List.length_filter_le (fun m:zbs=>decide (m.id≠i)) S.l;dsimp only;omega
  ·have:=hI.qb;have h4:=zuc S.l (fun m:zbs=>decide (m.id≠i));dsimp only;omega
  ·exact hI.nodup.sublist (List.Sublist.map _ List.filter_sublist)
 ·have e:zP S k i p=S:=by unfold zP;rw[if_neg h1,if_neg h2,if_neg h3]
  rw[e];exact hI
end Go.Proofs.YtpdkkbpkplhdpaaGreat
