/- Part of this proof;laid by program. -/
import Derived.Test.YtpdkkbpkplhdpaaGreatJ17
import Derived.Test.YtpdkkbpkplhdpaaGreatJ10
set_option linter.unusedVariables false
set_option linter.unusedSimpArgs false
namespace Go.Proofs.YtpdkkbpkplhdpaaGreat
open Go Go.Vm
attribute [local irreducible] Brn Ob Grow CallsM inR zax zav Mem.row Mem.cells Mem.setCells Mem.upd Go.Vm.Own zaD za5 zbc zaJ New SrcOk subA NewSl Mem.textAt Mem.mapAt Mem.iterAt zau zaj Wr NewEls Elems
set_option maxRecDepth 10000
section
variable {M:Mem} {p b:Nat} {gaps:Int} {es:List ((Int×Int)×Ent)}
structure Mk where
 o:Int
 e:Int
 up:Int
 more:List Int
deriving DecidableEq
def MkC.mk' (m:MkC):Mk:=⟨m.o,m.e,m.up,m.more⟩
def zbe (q:(Int×Int)×Ent):Mk:=⟨q.1.1,q.1.2,q.2.up,q.2.more⟩
structure MarksAt (M0:Mem) (a:Option Addr) (n c:Nat) (l:List MkC) (M':Mem):Prop where
 row:NewSl M0 T.za2 4 a n c (l.flatMap zhF) M'
 more:∀ m∈l,NewSl M0 T.zr 1 m.a m.more.length m.c (m.more.map zaa) M'
theorem MarksAt.len {M0 M':Mem} {a:Option Addr} {n c:Nat} {l:List MkC} (h:MarksAt M0 a n c l M'):l.length=n:=h.row.src.flen zaS (by decide)
theorem zBL (x:MkC):∀ v∈zhF x,v.oneCell'=true:=by
 intro v hv;simp only[zhF,List.mem_cons,List.not_mem_nil,or_false] at hv;rcases hv with rfl|rfl|rfl|rfl<;>rfl
theorem zqr (h:SetAt M p b gaps es) (hg:zaI es≤4194304) (hn:es.length≤4194000):CallsM Tryz.prog F.zd4 [ptr p] M fun v M'=>
  ∃ a n c l,v = .slice a n c∧MarksAt M a n c l M'∧(l.map MkC.mk').Perm (es.map zbe)∧l.Pairwise (fun x y=>¬zjX y x<0):=by
 refine zoC (by simp) ?_;(conv=>whnf);refine brn_f rfl ?_;(conv=>whnf);refine on (h.self.c1 rfl) ?_;(conv=>whnf)
 refine h.map.range fun q bi hbi hI=>?_
 replace hbi:M bi=none:=hbi;(conv=>whnf)
 refine za6 (σ:=Mem×(Option Addr×Nat×Nat)×List MkC×List ((Int×Int)×Ent)) [3] (fun x=>[(3,.slice x.2.1.1 x.2.1.2.1 x.2.1.2.2)]) (fun _=>[]) (fun x=>x.1)
  (fun|⟨M1,(a,n,c),l,todo⟩=>MarksAt M a n c l M1∧Iter keyV zfE M1 bi b es todo∧(l.map MkC.mk'++todo.map zbe).Perm (es.map zbe)) (fun x=>x.2.2.2.length) ⟨_,(none,0,0),[],es⟩
  ⟨⟨(NewSl.none M _ _).up (Mem.le_upd hbi),by simp⟩,hI,.refl _⟩ zS ?_
 rintro ⟨M1,⟨a,n,c⟩,l,todo⟩ ⟨hMk,hI1,hperm⟩;(conv=>whnf)
 refine hI1.next (fun h0=>?_) (fun i k todo' o' hperm2 hI2 hent=>?_)
 ·subst h0;refine zR ?_;have hlen:=hMk.len
  refine(zv9 Tryz.laysF (by kernel_rfl) (k:=4) (by decide) Tryz.isAgg161 Tryz.sizeOf161 zaS zBL zBK (g:=F.zes) (fun args w=>ziD (by kernel_rfl) args w) (fun x y=>zC9 x y) hMk.row.wr (by have:=hperm.length_eq;simp at this;omega)).mono ?_;rintro v M5 ⟨rfl,l',hp',hs',hw',hk'⟩;(conv=>whnf)
  refine⟨a,n,c,l',rfl,⟨hMk.row.ofWr hw' hk' rfl,fun m hm=>(hMk.more m (hp'.mem_iff.1 hm)).keep hk' (fun y ⟨q,hq,e⟩=>e▸(hMk.row.block hq).1) fun q hq ⟨q',hq',e⟩=>?_⟩,?_,hs'⟩
  ·exact hMk.row.ne (hMk.more m (hp'.mem_iff.1 hm)) (by decide) hq' hq e
  ·simpa using (hp'.map MkC.mk').trans (by simpa using hperm)
 ·have hk2:Mem.keep (fun y=>y=bi) M1 (M1.upd bi o'):=Mem.keep_upd _ _ rfl
  have hle2:M.le (M1.upd bi o'):=fun y o hb=>by
   rw[Mem.upd_ne _ _ (fun e=>by subst e;rw[hbi] at hb;cases hb)];exact hMk.row.le _ _ hb
  have hMk2:MarksAt M a n c l (M1.upd bi o'):=⟨hMk.row.keep hk2 (fun y e=>e▸hbi) (fun q hq e=>by
    obtain⟨_,cs,hh⟩:=hMk.row.block hq
    exact(hI1.nb hh).1 e),fun m hm=>(hMk.more m hm).keep hk2 (fun y e=>e▸hbi) (fun q hq e=>by
    obtain⟨_,cs,hh⟩:=(hMk.more m hm).block hq
    exact(hI1.nb hh).1 e)⟩
  obtain⟨M2,hM2⟩:∃ M2,M2=M1.upd bi o':=⟨_,rfl⟩
  rw[←hM2] at hI2 hent hle2 hMk2;have hmem:(i,k)∈es:=hI1.todo_sub _ (hperm2.mem_iff.2 (by simp))
  have hke:=(h.le hle2).ents _ hmem;have hkl:k.more.length≤4194304:=Nat.le_trans (zjV hmem) hg
  (conv=>whnf);erw [←hM2];refine zR ?_;refine on hent ?_;refine zR ?_;refine on (hke.self.c1 rfl) ?_;refine zR ?_;refine on (hke.self.c1 rfl) ?_;refine zR ?_;refine new (fun b1 hb1=>?_);replace hb1:M2 b1=none:=hb1;have hN1:NewSl M2 T.zr 1 (some ⟨b1,0,none⟩) 0 0 (([]:List Int).map zaa) _:=NewSl.lit hb1 T.zr 1 0 [] rfl
  obtain⟨M3,hM3⟩:∃ M3,M3=M2.setCells b1 T.zr []:=⟨_,rfl⟩
  rw[←hM3] at hN1;(conv=>whnf)
  erw [←hM3];refine zT (hN1.le) ?_;(conv=>whnf)
  refine zdR (hke.more.src.le hN1.le) ?_;(conv=>whnf);refine ze6 M2 _ hN1 (by dsimp only;omega) (by dsimp only;simp[maxLen];omega) (by simp[Value.oneCell']) fun a5 c5 M4 hN4=>?_
  have hMk4:MarksAt M a n c l M4:=⟨hMk2.row.up hN4.le,fun m hm=>(hMk2.more m hm).up hN4.le⟩
  have hnew:NewSl M T.zr 1 a5 k.more.length c5 (k.more.map zaa) M4:=by
   have:=hN4.mono hle2;simpa using this
  have hlen:=hMk.len;have hlt:l.length<es.length:=by have:=hperm.length_eq;have:=hperm2.length_eq;simp at *; omega
  refine zT (hN4.le) ?_;(conv=>whnf)
  refine zdS M hMk4.row ⟨i.1,i.2,k.up,a5,c5,k.more⟩ (by simp) (by dsimp only;omega) (by dsimp only;simp[maxLen];omega) (by simp[Value.oneCell']) fun a6 c6 M6 hN6 hk6=>?_
  (conv=>whnf);have hfr:∀ y,z6 a y→M y=none:=fun y ⟨q,hq,e⟩=>e▸(hMk4.row.block hq).1
  have hI4:=hI2.le hN4.le
  have hnb:∀ y,z6 a y→y≠bi∧y≠b:=fun y ⟨q,hq,e⟩=>by
   obtain⟨_,cs,hh⟩:=hMk4.row.block hq;exact e▸hI4.nb hh
  have hI6:=hI4.keep hk6 (fun hb=>(hnb _ hb).1 rfl) (fun hb=>(hnb _ hb).2 rfl);refine⟨⟨M6,(a6,n+1,c6),l++[⟨i.1,i.2,k.up,a5,c5,k.more⟩],todo'⟩,⟨⟨hN6,fun m hm=>?_⟩,hI6,?_⟩,by have:=hperm2.length_eq;simp at this ⊢; omega,zS⟩
  ·rcases List.mem_append.1 hm with hm|hm
   ·exact(hMk4.more m hm).keep hk6 hfr fun q hq ⟨q',hq',e⟩=>hMk4.row.ne (hMk4.more m hm) (by decide) hq' hq e
   ·simp only[List.mem_singleton] at hm;subst hm;exact hnew.keep hk6 hfr fun q hq ⟨q',hq',e⟩=>hMk4.row.ne hnew (by decide) hq' hq e
  ·refine List.Perm.trans ?_ hperm;rw[List.map_append,List.append_assoc];refine List.Perm.append_left _ ?_;have:=hperm2.map zbe
   simpa[MkC.mk',zbe] using this.symm
end
section
variable {M:Mem}
structure MarksR (M:Mem) (a:Option Addr) (n:Nat) (l:List MkC):Prop where
 row:SrcOk M 4 a n (l.flatMap zhF)
 more:∀ m∈l,SrcOk M 1 m.a m.more.length (m.more.map zaa)
theorem MarksAt.r {M0 M':Mem} {a:Option Addr} {n c:Nat} {l:List MkC} (h:MarksAt M0 a n c l M'):MarksR M' a n l:=⟨h.row.src,fun m hm=>(h.more m hm).src⟩
theorem MarksR.le {M M':Mem} {a:Option Addr} {n:Nat} {l:List MkC} (h:MarksR M a n l) (hle:M.le M'):MarksR M' a n l:=⟨h.row.le hle,fun m hm=>(h.more m hm).le hle⟩
theorem MarksR.len {M:Mem} {a:Option Addr} {n:Nat} {l:List MkC} (h:MarksR M a n l):l.length=n:=h.row.flen zaS (by decide)
def zzn (l:List MkC):Prop:=∀ m∈l,m.more.length≤4194304
theorem zDa {a b:Option Addr} {n m c d:Nat} {l r:List MkC} (ha:MarksR M a n l) (hb:MarksR M b m r) (fl:zzn l) (hn:n≤4194304) (hm:m≤4194304) :
  CallsM Tryz.prog F.zgc [.slice a n c,.slice b m d] M fun v M'=>v = .bool (decide (l.map MkC.mk'=r.map MkC.mk'))∧M=M':=by
 refine zns (by simp) ?_;have hl:=ha.len
 have hr:=hb.len;(conv=>whnf);refine brn (fun h=>?_) (fun h=>?_)
 ·refine zR ?_;have h':¬(n:Int)=m:=by simpa using h
  refine⟨?_,rfl⟩;have:¬l.map MkC.mk'=r.map MkC.mk':=fun e=>h' (by have:=congrArg List.length e;simp at this;omega)
  simp[this]
 have hnm:n=m:=by have h':(n:Int)=m:=by simpa using h
                  omega
 subst hnm;(conv=>whnf)
 refine zdc [5] (fun (i:Nat)=>[(5,.int .i64 i)]) (fun i=>i≤n∧(l.map MkC.mk').take i=(r.map MkC.mk').take i) (fun i=>n - i) 0 ⟨by omega,by simp⟩ zS ?_;intro i ⟨hi,hsame⟩;(conv=>whnf);refine brn (fun g=>?_) (fun g=>?_)
 ·have hlt:i<n:=by have:=Zd0 g;omega
  have hx:l[i]? = some (l[i]'(by omega)):=List.getElem?_eq_getElem (by omega);have hy:r[i]? = some (r[i]'(by omega)):=List.getElem?_eq_getElem (by omega)
  generalize l[i]'(by omega)=x at *;generalize r[i]'(by omega)=y at *;obtain⟨b1,o1,rfl,hc1⟩:=ha.row.fcells zaS (by decide) hx;obtain⟨b2,o2,rfl,hc2⟩:=hb.row.fcells zaS (by decide) hy;have hxm:=ha.more x (List.mem_of_getElem? hx)
  have hym:=hb.more y (List.mem_of_getElem? hy)
  have no:¬x.mk'=y.mk'→¬l.map MkC.mk'=r.map MkC.mk':=fun hne e=>by
   have:=congrArg (·[i]?) e;simp[hx,hy] at this;exact hne this
  refine zR ?_;refine ob (by omega) ?_;(conv=>whnf);refine on (hc1 0 _ rfl) ?_;(conv=>whnf);refine ob (by omega) ?_;(conv=>whnf);refine on (hc2 0 _ rfl) ?_;(conv=>whnf);refine brn (fun g1=>?_) (fun g1=>?_)
  ·refine zR ?_;exact⟨by simp[no (fun e=>by simp at g1;exact g1 (congrArg Mk.o e))],rfl⟩
  have e1:x.o=y.o:=by simpa using g1
  (conv=>whnf);refine ob (by omega) ?_;(conv=>whnf);refine on (hc1 1 _ rfl) ?_;(conv=>whnf);refine ob (by omega) ?_;(conv=>whnf);refine on (hc2 1 _ rfl) ?_;(conv=>whnf);refine brn (fun g2=>?_) (fun g2=>?_)
  ·refine zR ?_;exact⟨by simp[no (fun e=>by simp at g2;exact g2 (congrArg Mk.e e))],rfl⟩
  have e2:x.e=y.e:=by simpa using g2
  (conv=>whnf);refine ob (by omega) ?_;(conv=>whnf);refine on (hc1 2 _ rfl) ?_;(conv=>whnf);refine ob (by omega) ?_;(conv=>whnf);refine on (hc2 2 _ rfl) ?_;(conv=>whnf);refine brn (fun g3=>?_) (fun g3=>?_)
  ·refine zR ?_;exact⟨by simp[no (fun e=>by simp at g3;exact g3 (congrArg Mk.up e))],rfl⟩
  have e3:x.up=y.up:=by simpa using g3
  (conv=>whnf);refine ob (by omega) ?_;(conv=>whnf);refine on (hc1 3 _ rfl) ?_;(conv=>whnf);refine ob (by omega) ?_;(conv=>whnf);refine on (hc2 3 _ rfl) ?_;(conv=>whnf);refine brn (fun g4=>?_) (fun g4=>?_)
  ·refine zR ?_;exact⟨by simp[no (fun e=>by simp at g4;exact g4 (congrArg (fun m:Mk=>(m.more.length:Int)) e))],rfl⟩
  have e4:x.more.length=y.more.length:=by
   have:(x.more.length:Int)=y.more.length:=by simpa using g4
   omega
  have hfx:=fl x (List.mem_of_getElem? hx);(conv=>whnf)
  refine zdc [6] (fun (k:Nat)=>[(6,.int .i64 k)]) (fun k=>k≤x.more.length∧x.more.take k=y.more.take k) (fun k=>x.more.length - k) 0 ⟨by omega,by simp⟩ zS ?_;intro k ⟨hk,hsk⟩;(conv=>whnf);refine ob (by omega) ?_;(conv=>whnf);refine on (hc1 3 _ rfl) ?_;(conv=>whnf);refine brn (fun g5=>?_) (fun g5=>?_)
  ·have hlk:k<x.more.length:=by have:=Zd0 g5;omega
   obtain⟨hkx,bx,ox,hax,hrx⟩:=hxm.at (i:=k) hlk;obtain⟨hky,by',oy,hay,hry⟩:=hym.at (i:=k) (by omega);refine zR ?_;refine ob (by omega) ?_;(conv=>whnf);refine on (hc1 3 _ rfl) ?_;(conv=>whnf);refine ob (by omega) ?_;(conv=>whnf);refine atp hax ?_;(conv=>whnf);refine on hrx ?_;(conv=>whnf);refine ob (by omega) ?_;(conv=>whnf);refine on (hc2 3 _ rfl) ?_;(conv=>whnf);refine ob (by omega) ?_;(conv=>whnf);refine atp hay ?_;(conv=>whnf);refine on hry ?_;(conv=>whnf);refine brn (fun g6=>?_) (fun g6=>?_)
   ·refine zR ?_;refine⟨?_,rfl⟩
    have:¬x.mk'=y.mk':=fun e=>by
     have e5:x.more=y.more:=congrArg Mk.more e;simp[e5] at g6
    simp[no this]
   ·(conv=>whnf);refine ob (zd (by omega)) ?_;(conv=>whnf)
    refine⟨k+1,⟨by omega,?_⟩,by omega,zS⟩;have e6:x.more[k]=y.more[k]:=by simpa using g6
    rw[List.take_add_one,List.take_add_one,hsk,List.getElem?_eq_getElem hkx,List.getElem?_eq_getElem hky,e6]
  ·have hge:x.more.length≤k:=by have:=Zd1 g5;omega
   rw[List.take_of_length_le hge,List.take_of_length_le (by omega)] at hsk;(conv=>whnf);refine ob (zd (by omega)) ?_;(conv=>whnf)
   refine⟨i+1,⟨by omega,?_⟩,by omega,zS⟩;rw[List.take_add_one,List.take_add_one,hsame];simp[hx,hy,MkC.mk',e1,e2,e3,hsk]
 ·have hge:i=n:=by have:=Zd1 g;omega
  subst hge;refine zR ?_;refine⟨?_,rfl⟩;rw[List.take_of_length_le (by simp;omega),List.take_of_length_le (by simp;omega)] at hsame;simp[hsame]
end
end Go.Proofs.YtpdkkbpkplhdpaaGreat
namespace Go.Proofs.YtpdkkbpkplhdpaaGreat
open Go Go.Vm
section
def CanR (up:Int) (more:List Int):Prop:=0≤up∧more.Pairwise (· < ·)∧∀ c∈more,up+1<c
def inM (up:Int) (more:List Int) (c:Int):Prop:=(1≤c∧c≤up)∨c∈more
theorem zmk {α:Type} {R:α→α→Prop} (irr:∀ x,¬R x x) (asym:∀ x y,R x y→¬R y x):∀ {l l':List α},l.Pairwise R→l'.Pairwise R→(∀ x,x∈l↔x∈l')→l=l'
 | [],[],_,_,_=>rfl
 | [],y::s,_,_,h=>absurd ((h y).2 (by simp)) (by simp)
 | x::r,[],_,_,h=>absurd ((h x).1 (by simp)) (by simp)
 | x::r,y::s,h1,h2,h=>by
  obtain⟨h3,h4⟩:=List.pairwise_cons.1 h1;obtain⟨h5,h6⟩:=List.pairwise_cons.1 h2
  have hxy:x=y:=by
   rcases List.mem_cons.1 ((h x).1 (by simp)) with e|e
   ·exact e
   ·rcases List.mem_cons.1 ((h y).2 (by simp)) with e'|e'
    ·exact e'.symm
    ·exact absurd (h5 x e) (asym _ _ (h3 y e'))
  subst hxy;rw[zmk irr asym h4 h6 fun z=>?_];constructor
  ·intro hz;rcases List.mem_cons.1 ((h z).1 (by simp[hz])) with e|e
   ·subst e;exact absurd (h3 z hz) (irr z)
   ·exact e
  ·intro hz;rcases List.mem_cons.1 ((h z).2 (by simp[hz])) with e|e
   ·subst e;exact absurd (h5 z hz) (irr z)
   ·exact e
theorem CanR.up_le {up up':Int} {more more':List Int} (h':CanR up' more') (he:∀ c,inM up more c↔inM up' more' c):up≤up':=by
 apply Classical.byContradiction;intro hn;have h1:inM up' more' (up'+1):=(he _).1 (.inl ⟨by have:=h'.1;omega,by omega⟩)
 rcases h1 with h1|h1
 ·omega
 ·have:=h'.2.2 _ h1;omega
theorem CanR.uniq {up up':Int} {more more':List Int} (h:CanR up more) (h':CanR up' more') (he:∀ c,inM up more c↔inM up' more' c):up=up'∧more=more':=by
 have e:up=up':=Int.le_antisymm (CanR.up_le h' he) (CanR.up_le h fun c=>(he c).symm);subst e;refine⟨rfl,zmk (R:=(· < ·)) (fun x=>by omega) (fun x y=>by omega) h.2.1 h'.2.1 fun c=>⟨fun hc=>?_,fun hc=>?_⟩⟩
 ·have h1:=h.2.2 c hc;rcases(he c).1 (.inr hc) with h2|h2
  ·omega
  ·exact h2
 ·have h1:=h'.2.2 c hc;rcases(he c).2 (.inr hc) with h2|h2
  ·omega
  ·exact h2
def zbJ (x y:Mk):Prop:=x.o<y.o∨(x.o=y.o∧x.e<y.e)
theorem zjY:∀ {l:List Mk},l.Pairwise zbJ→∀ {x y:Mk},x∈l→y∈l→x.o=y.o→x.e=y.e→x=y
 | [],_,x,y,hx,_,_,_=>by cases hx
 | z::r,h,x,y,hx,hy,h1,h2=>by
  obtain⟨h3,h4⟩:=List.pairwise_cons.1 h;rcases List.mem_cons.1 hx with e|e
  ·rcases List.mem_cons.1 hy with e'|e'
   ·rw[e,e']
   ·subst e;have:=h3 y e';unfold zbJ at this;omega
  ·rcases List.mem_cons.1 hy with e'|e'
   ·subst e';have:=h3 x e;unfold zbJ at this;omega
   ·exact zjY h4 e e' h1 h2
structure Canon (S:Int→Int→Int→Prop) (l:List Mk):Prop where
 sorted:l.Pairwise zbJ
 can:∀ m∈l,CanR m.up m.more∧(0<m.up∨m.more≠[])
 mem:∀ o e c,S o e c↔∃ m∈l,m.o=o∧m.e=e∧inM m.up m.more c
theorem CanR.some {up:Int} {more:List Int} (h:0<up∨more≠[]):∃ c,inM up more c:=by
 rcases h with h|h
 ·exact⟨up,.inl ⟨by omega,Int.le_refl _⟩⟩
 ·obtain⟨x,r,rfl⟩:=List.exists_cons_of_ne_nil h;exact⟨x,.inr (by simp)⟩
theorem Canon.sub {S:Int→Int→Int→Prop} {l l':List Mk} (h:Canon S l) (h':Canon S l') {m:Mk} (hm:m∈l):m∈l':=by
 obtain⟨h1,h2⟩:=h.can m hm;obtain⟨c0,hc0⟩:=CanR.some h2;obtain⟨m',hm',e1,e2, -⟩:=(h'.mem _ _ _).1 ((h.mem _ _ _).2 ⟨m,hm,rfl,rfl,hc0⟩)
 have he:∀ c,inM m.up m.more c↔inM m'.up m'.more c:=fun c=>by
  constructor
  ·intro hc;obtain⟨m2,hm2,e3,e4,hc2⟩:=(h'.mem _ _ _).1 ((h.mem _ _ _).2 ⟨m,hm,rfl,rfl,hc⟩);rw[zjY h'.sorted hm' hm2 (by omega) (by omega)];exact hc2
  ·intro hc;obtain⟨m2,hm2,e3,e4,hc2⟩:=(h.mem _ _ _).1 ((h'.mem _ _ _).2 ⟨m',hm',rfl,rfl,hc⟩);rw[zjY h.sorted hm hm2 (by omega) (by omega)];exact hc2
 obtain⟨e3,e4⟩:=h1.uniq (h'.can m' hm').1 he
 have:m=m':=by
  obtain⟨a,b,c,d⟩:=m;obtain⟨a',b',c',d'⟩:=m';simp only at e1 e2 e3 e4;rw[e1,e2,e3,e4]
 rw[this];exact hm'
theorem Canon.uniq {S:Int→Int→Int→Prop} {l l':List Mk} (h:Canon S l) (h':Canon S l'):l=l':=
 zmk (R:=zbJ) (fun x=>by unfold zbJ;omega) (fun x y=>by unfold zbJ;omega) h.sorted h'.sorted fun _=>⟨fun hm=>h.sub h' hm,fun hm=>h'.sub h hm⟩
theorem Canon.of {S S':Int→Int→Int→Prop} {l:List Mk} (h:Canon S l) (he:∀ o e c,S' o e c↔S o e c):Canon S' l:=⟨h.sorted,h.can,fun o e c=>(he o e c).trans (h.mem o e c)⟩
theorem zml (c:Int):∀ (l:List Int) (x:Int),x∈zeb c l↔x=c∨x∈l
 | [],x=>by simp[zeb]
 | y::r,x=>by
  simp only[zeb];split
  ·simp only[List.mem_cons,zml c r x];constructor
   ·rintro (h|h|h)<;>simp[h]
   ·rintro (h|h|h)<;>simp[h]
  ·simp only[List.mem_cons]
theorem zpm (c:Int):∀ (l:List Int),l.Pairwise (· < ·)→c∉l→(zeb c l).Pairwise (· < ·)
 | [],_,_=>by simp[zeb]
 | y::r,h,hn=>by
  obtain⟨h1,h2⟩:=List.pairwise_cons.1 h;simp only[List.mem_cons,not_or] at hn;simp only[zeb];split
  ·refine List.pairwise_cons.2 ⟨fun z hz=>?_,zpm c r h2 hn.2⟩;rcases(zml c r z).1 hz with e|e
   ·omega
   ·exact h1 z e
  ·refine List.pairwise_cons.2 ⟨fun z hz=>?_,h⟩;rcases List.mem_cons.1 hz with e|e
   ·omega
   ·have:=h1 z e;omega
theorem zqs:∀ (l:List Int) (up:Int),0≤up→l.Pairwise (· < ·)→(∀ x∈l,up<x)→CanR (normC up l).1 (normC up l).2∧(∀ c,inM (normC up l).1 (normC up l).2 c↔inM up l c)∧(normC up l).2.length≤l.length
 | [],up,h0,_,_=>by simp[normC,CanR,h0]
 | y::r,up,h0,h1,h2=>by
  obtain⟨h3,h4⟩:=List.pairwise_cons.1 h1;simp only[normC];split
  ·rename_i e;obtain⟨i1,i2,i3⟩:=zqs r (up+1) (by omega) h4 (fun x hx=>by have:=h3 x hx;omega);refine⟨i1,fun c=>(i2 c).trans ?_,by simp;omega⟩;unfold inM;simp only[List.mem_cons];constructor
   ·rintro (h|h)
    ·by_cases h5:c=up+1
     ·exact .inr (.inl (by omega))
     ·exact .inl (by omega)
    ·exact .inr (.inr h)
   ·rintro (h|h|h)
    ·exact .inl (by omega)
    ·exact .inl (by omega)
    ·exact .inr h
  ·rename_i e;refine⟨⟨h0,h1,fun x hx=>?_⟩,fun c => .rfl,by simp⟩;have hy:=h2 y (by simp)
   rcases List.mem_cons.1 hx with e'|e'
   ·omega
   ·have:=h3 x e';omega
theorem zAF (up:Int) (r:List Int) (h0:0≤up) (h:((up+1)::r).Pairwise (· < ·)):(normC up ((up+1)::r)).2.length≤r.length:=by
 obtain⟨h3,h4⟩:=List.pairwise_cons.1 h;simp only[normC,if_true];exact(zqs r (up+1) (by omega) h4 h3).2.2
end
section
abbrev EsT:=List ((Int×Int)×Ent)
def inE (es:EsT) (o e c:Int):Prop:=inM (zck es (o,e)) (zbZ es (o,e)) c
def zwc (o e:Int):Prop:=0≤o∧o≤63∧1≤e∧e≤65535
structure InvE (es:EsT):Prop where
 nodup:(es.map (·.1)).Nodup
 can:∀ q∈es,CanR q.2.up q.2.more∧(0<q.2.up∨q.2.more≠[])
 range:∀ q∈es,zwc q.1.1 q.1.2∧∀ c,inM q.2.up q.2.more c→c≤65535
theorem InvE.nil:InvE []:=⟨by simp,by simp,by simp⟩
theorem InvE.good {es:EsT} (h:InvE es):zuO es:=fun q hq=>by
 obtain⟨h1,_⟩:=h.can q hq;have h0:=h1.1
 refine⟨h0,?_⟩;by_cases e:q.2.up=0
 ·omega
 ·exact(h.range q hq).2 _ (.inl ⟨by omega,Int.le_refl _⟩)
theorem InvE.sorted {es:EsT} (h:InvE es):∀ q∈es,q.2.more.Pairwise (· < ·):=fun q hq=>(h.can q hq).1.2.1
theorem zsV {es:EsT} (h:InvE es) (o e c:Int):inE es o e c↔∃ q∈es,q.1.1=o∧q.1.2=e∧inM q.2.up q.2.more c:=by
 unfold inE zck zbZ;cases hx:zD es (o,e) with
 | none=>
  refine⟨fun hc=>?_,fun ⟨q,hq,e1,e2,_⟩=>?_⟩
  ·simp only[inM,List.not_mem_nil,or_false] at hc;omega
  ·have:=aget_none.1 hx;exact absurd (List.mem_map.2 ⟨q,hq,by obtain⟨⟨a,b⟩,z⟩:=q;simp only at e1 e2 ⊢; rw[e1,e2]⟩) this
 | some x=>
  refine⟨fun hc=>⟨((o,e),x),zN hx,rfl,rfl,hc⟩,fun ⟨q,hq,e1,e2,hc⟩=>?_⟩;have:zD es (o,e)=some q.2:=zdt h.nodup (by obtain⟨⟨a,b⟩,z⟩:=q;simp only at e1 e2 ⊢; rw[←e1,←e2];exact hq)
  rw[hx] at this;cases this;exact hc
theorem zDb {es:EsT} (h:InvE es) (k:Int×Int):CanR (zck es k) (zbZ es k):=by
 unfold zck zbZ;cases hx:zD es k with
 | none=>simp[CanR]
 | some x=>exact(h.can _ (zN hx)).1
theorem zhS {es:EsT} (h:InvE es) {l:List MkC} (hp:(l.map MkC.mk').Perm (es.map zbe)) (hs:l.Pairwise (fun x y=>¬zjX y x<0)):Canon (inE es) (l.map MkC.mk'):=by
 have hkeys:((l.map MkC.mk').map fun m=>(m.o,m.e)).Nodup:=by
  rw[(hp.map _).nodup_iff,List.map_map];exact h.nodup
 refine⟨?_,fun m hm=>?_,fun o e c=>?_⟩
 ·rw[List.map_map,List.Nodup,List.pairwise_map] at hkeys;rw[List.pairwise_map];refine(hs.and hkeys).imp fun {x y} ⟨h1,h2⟩=>?_
  rw[zhG] at h1;have h3:¬(x.o=y.o∧x.e=y.e):=fun ⟨e1,e2⟩=>h2 (by simp[MkC.mk',e1,e2])
  show x.o<y.o∨(x.o=y.o∧x.e<y.e)
  omega
 ·obtain⟨q,hq,rfl⟩:=List.mem_map.1 (hp.mem_iff.1 hm);exact h.can q hq
 ·rw[zsV h];constructor
  ·rintro ⟨q,hq,e1,e2,hc⟩;exact⟨zbe q,hp.mem_iff.2 (List.mem_map.2 ⟨q,hq,rfl⟩),e1,e2,hc⟩
  ·rintro ⟨m,hm,e1,e2,hc⟩;obtain⟨q,hq,rfl⟩:=List.mem_map.1 (hp.mem_iff.1 hm);exact⟨q,hq,e1,e2,hc⟩
theorem zwd:∀ (es:EsT) (k:Int×Int) (x x0:Ent),zD es k=some x0→zaI (zcA es k x)+x0.more.length=zaI es+x.more.length
 | [],k,x,x0,h=>by simp[zD] at h
 | (k1,y)::r,k,x,x0,h=>by
  simp only[zD] at h;by_cases e:k1=k
  ·subst e;simp only[if_true,Option.some.injEq] at h;subst h;simp only[zcA,if_true,zaI,List.map_cons,List.sum_cons];omega
  ·rw[if_neg e] at h;have ih:=zwd r k x x0 h
   simp only[zcA,if_neg e,zaI,List.map_cons,List.sum_cons] at ih ⊢;omega
theorem zAG (es:EsT) (k:Int×Int) (x:Ent):zaI (zQ es k x)+(zbZ es k).length=zaI es+x.more.length:=by
 unfold zbZ zQ;cases hx:zD es k with
 | none=>simp[zaI]
 | some x0=>exact zwd es k x x0 hx
theorem zmm {es:EsT} (hn:(es.map (·.1)).Nodup) {k:Int×Int} {x:Ent} {q:(Int×Int)×Ent} (hq:q∈zQ es k x):q=(k,x)∨(q∈es∧q.1≠k):=by
 unfold zQ at hq;cases hx:zD es k with
 | none=>
  rw[hx] at hq;rcases List.mem_append.1 hq with h|h
  ·refine .inr ⟨h,fun e=>aget_none.1 hx (List.mem_map.2 ⟨q,h,e⟩)⟩
  ·exact .inl (by simpa using h)
 | some x0=>
  rw[hx] at hq;obtain⟨u,v,h1,h2,h3,h4⟩:=ziW hn hx x;rw[h2] at hq;rcases List.mem_append.1 hq with h|h
  ·exact .inr ⟨by rw[h1];simp[h],h3 q h⟩
  ·rcases List.mem_cons.1 h with h|h
   ·exact .inl h
   ·exact .inr ⟨by rw[h1];simp[h],h4 q h⟩
theorem zi2 {o d e c:Int} (h:za4 o d e c=0):zwc o e∧1≤c∧c≤65535:=by
 unfold za4 at h;split at h
 ·unfold zwc;omega
 ·omega
theorem zqt {es:EsT} {o d e c:Int} (h:za4 o d e c=0):zgh es o d e c=true↔inE es o e c:=by
 obtain⟨_,h1,_⟩:=zi2 h;simp only[zgh,h,decide_true,Bool.true_and,Bool.or_eq_true,decide_eq_true_eq,inE,inM];constructor
 ·rintro (h2|h2)
  ·exact .inl ⟨h1,h2⟩
  ·exact .inr h2
 ·rintro (h2|h2)
  ·exact .inl h2.2
  ·exact .inr h2
theorem znY {gaps:Int} {es:EsT} {o d e c:Int} (h:zc9 gaps es o d e c=0):za4 o d e c=0∧¬inE es o e c∧(c=zck es (o,e)+1∨(zaI es:Int)<gaps):=by
 have hid:za4 o d e c=0:=by
  apply Classical.byContradiction;intro hn;simp[zc9,hn] at h
 refine⟨hid,fun hi=>?_,?_⟩
 ·have:=(zqt hid).2 hi;simp[zc9,hid,this] at h
 ·by_cases e1:c=zck es (o,e)+1
  ·exact .inl e1
  ·right;by_cases e2:gaps≤(zaI es:Int)
   ·by_cases hh:zgh es o d e c=true<;>simp[zc9,hid,e1,e2,hh] at h
   ·omega
theorem zx6 {gaps:Int} {es:EsT} (h:InvE es) {o d e c:Int} (hz:zc9 gaps es o d e c=0) {x:Ent} (hx:(x.up,x.more)=ze7 es o e c) :
  InvE (zQ es (o,e) x)∧(∀ o' e' c',inE (zQ es (o,e) x) o' e' c'↔(o'=o∧e'=e∧c'=c)∨inE es o' e' c')∧((zaI es:Int)≤gaps→(zaI (zQ es (o,e) x):Int)≤gaps)∧zaI (zQ es (o,e) x)≤zaI es+1:=by
 obtain⟨hid,hni,hroom⟩:=znY hz;obtain⟨hrk,hc1,hc2⟩:=zi2 hid;have hcan:=zDb h (o,e)
 obtain⟨h0,h1,h2⟩:=hcan
 have hni':¬c≤zck es (o,e)∧c∉zbZ es (o,e):=by
  unfold inE inM at hni;exact⟨fun hh=>hni (.inl ⟨hc1,hh⟩),fun hh=>hni (.inr hh)⟩
 have hso:=zpm c _ h1 hni'.2
 have hab:∀ y∈zeb c (zbZ es (o,e)),zck es (o,e)<y:=fun y hy=>by
  rcases(zml c _ y).1 hy with e1|e1
  ·omega
  ·have:=h2 y e1;omega
 obtain⟨n1,n2,n3⟩:=zqs _ _ h0 hso hab;have hup:x.up=(ze7 es o e c).1:=congrArg Prod.fst hx
 have hmo:x.more=(ze7 es o e c).2:=congrArg Prod.snd hx;unfold ze7 at hup hmo;rw[←hup,←hmo] at n1 n2;rw[←hmo] at n3;rw[zqq] at n3
 have hin:∀ c',inM x.up x.more c'↔c'=c∨inE es o e c':=fun c'=>by
  rw[n2];unfold inE inM;rw[zml];constructor
  ·rintro (h|h|h)<;>simp[h]
  ·rintro (h|h|h)<;>simp[h]
 have hg:=zAG es (o,e) x;refine⟨⟨zew h.nodup _ _,fun q hq=>?_,fun q hq=>?_⟩,fun o' e' c'=>?_,fun hle=>?_,by omega⟩
 ·rcases zmm h.nodup hq with rfl|⟨hq,_⟩
  ·refine⟨n1,?_⟩;by_cases e1:x.more=[]
   ·left;rcases(hin c).2 (.inl rfl) with h5|h5
    ·show 0<x.up;omega
    ·rw[e1] at h5;cases h5
   ·exact .inr e1
  ·exact h.can q hq
 ·rcases zmm h.nodup hq with rfl|⟨hq,_⟩
  ·refine⟨hrk,fun c' hc'=>?_⟩;rcases(hin c').1 hc' with e1|e1
   ·omega
   ·obtain⟨q,hq,_,_,hm⟩:=(zsV h _ _ _).1 e1;exact(h.range q hq).2 _ hm
  ·exact h.range q hq
 ·unfold inE zck zbZ;rw[zdX];by_cases e1:(o',e')=(o,e)
  ·rw[if_pos e1];obtain⟨rfl,rfl⟩:=Prod.mk.injEq .. ▸ e1;dsimp only;rw[hin];unfold inE zck zbZ;simp
  ·rw[if_neg e1];have:¬(o'=o∧e'=e∧c'=c):=fun ⟨a1,a2,_⟩=>e1 (by rw[a1,a2])
   simp[this]
 ·rcases hroom with e1|e1
  ·have hins:zeb c (zbZ es (o,e))=c::zbZ es (o,e):=by
    cases hm:zbZ es (o,e) with
    | nil=>rfl
    | cons y r=>
     simp only[zeb];rw[if_neg];have:=h2 y (by rw[hm];simp)
     omega
   rw[hins,e1] at hmo hso;have:=zAF _ _ h0 hso
   rw[←hmo] at this;omega
  ·omega
end
end Go.Proofs.YtpdkkbpkplhdpaaGreat
namespace Go.Proofs.YtpdkkbpkplhdpaaGreat
open Go Go.Vm
attribute [local irreducible] Brn Ob Grow CallsM inR zax zav Mem.row Mem.cells Mem.setCells Mem.upd Go.Vm.Own zaD za5 zbc zaJ New SrcOk subA NewSl Mem.textAt Mem.mapAt Mem.iterAt zau zaj Wr NewEls Elems
set_option maxRecDepth 10000
variable {M M0:Mem} {p b:Nat} {gaps:Int} {es:EsT}
structure FreshS (M0 M:Mem) (p b:Nat) (gaps:Int) (es:EsT):Prop where
 le:M0.le M
 at':SetAt M p b gaps es
 inv:InvE es
 room:(zaI es:Int)≤gaps∧gaps≤256
 fresh:∀ y,setB p b es y→M0 y=none
theorem FreshS.few (h:FreshS M0 M p b gaps es):zaI es≤256:=by have:=h.room;omega
theorem FreshS.to (h:FreshS M0 M p b gaps es) {M':Mem} (hle:M.le M'):FreshS M0 M' p b gaps es:=⟨Mem.le_trans h.le hle,h.at'.le hle,h.inv,h.room,h.fresh⟩
theorem FreshS.some (h:FreshS M0 M p b gaps es) {y:Nat} (hy:setB p b es y):M y≠none:=by
 rcases hy with rfl|rfl|⟨q,hq,hy⟩
 ·have:=h.at'.self;unfold Mem.has at this;rw[this];simp
 ·obtain⟨l,c,hh,_⟩:=h.at'.map;rw[hh];simp
 ·exact(h.at'.ents q hq).some hy
theorem newS (gaps:Int):CallsM Tryz.prog F.zg5 [.int .i64 gaps] M fun v M'=>
  ((gaps<0∨256<gaps)∧v = .tuple #[.pointer none,.int .i64 1]∧M'=M) ∨
  (¬(gaps<0∨256<gaps)∧∃ p b,v = .tuple #[ptr p,.int .i64 0]∧FreshS M M' p b gaps []):=
 (zAC gaps).mono fun v M' h=>by
  rcases h with h|⟨h1,p,b,h2,h3,h4,h5,h6⟩
  ·exact .inl h
  ·refine .inr ⟨h1,p,b,h2,h5,h6,InvE.nil,⟨by simp[zaI];omega,by omega⟩,fun y hy=>?_⟩;rcases hy with rfl|rfl|⟨q,hq,_⟩
   ·exact h3
   ·exact h4
   ·cases hq
def zuP (gaps:Int) (es es':EsT) (o d e c:Int):Prop:=(zc9 gaps es o d e c≠0∧es'=es)∨(zc9 gaps es o d e c=0∧∃ x:Ent,es'=zQ es (o,e) x∧(x.up,x.more)=ze7 es o e c)
theorem zE9 (h:FreshS M0 M p b gaps es) (o d e c:Int):CallsM Tryz.prog F.zfT [ptr p,idV o d e c] M fun v M'=>
  ∃ es',v = .int .i64 (zc9 gaps es o d e c)∧FreshS M0 M' p b gaps es'∧zuP gaps es es' o d e c:=
 (zEf h.at' (by have:=h.few;omega) h.inv.good h.inv.sorted o d e c).mono fun v M' hv=>by
  obtain⟨rfl,⟨hn,hle⟩|⟨hz,hk,x,h1,hx,hown⟩⟩:=hv
  ·exact⟨es,rfl,h.to hle,.inl ⟨hn,rfl⟩⟩
  ·obtain⟨i1,i2,i3,i4⟩:=zx6 h.inv hz hx;refine⟨zQ es (o,e) x,rfl,⟨hk.le h.le h.fresh,h1,i1,⟨i3 h.room.1,h.room.2⟩,fun y hy=>?_⟩,.inr ⟨hz,x,rfl,hx⟩⟩
   have lo:∀ y,M y=none→M0 y=none:=fun y hy=>by
    cases e1:M0 y with
    | none=>rfl
    | some z=>rw[h.le _ _ e1] at hy;cases hy
   rcases hy with rfl|rfl|⟨q,hq,hy⟩
   ·exact h.fresh _ (.inl rfl)
   ·exact h.fresh _ (.inr (.inl rfl))
   ·rcases zmm h.inv.nodup hq with rfl|⟨hq,_⟩
    ·rcases hown y hy with h2|h2
     ·exact h.fresh _ h2
     ·exact lo _ h2
    ·exact h.fresh _ (.inr (.inr ⟨q,hq,hy⟩))
end Go.Proofs.YtpdkkbpkplhdpaaGreat
