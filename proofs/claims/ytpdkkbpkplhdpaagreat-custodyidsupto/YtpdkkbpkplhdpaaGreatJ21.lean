/- Part of this proof;laid by program. -/
import Derived.Test.YtpdkkbpkplhdpaaGreatJ20
import Derived.Test.YtpdkkbpkplhdpaaGreatJ19
set_option linter.unusedVariables false
set_option linter.unusedSimpArgs false
namespace Go.Proofs.YtpdkkbpkplhdpaaGreat
open Go Go.Vm
abbrev NxT:=List (Int×Int)
structure Nx (me epoch:Int) (ul:NxT):Prop where
 each:∀ n∈ul,(0≤n.1∧n.1≤63)∧n.1≠me∧1≤n.2∧n.2≤65535
 sort:ul.Pairwise fun x y=>x.1<y.1
 some:ul≠[]→epoch≠0
def zrq (self epoch:Int) (ul:NxT):Prop:=Nx self epoch ul∧0≤epoch∧epoch≤65535
def okM (self epoch:Int) (ul:NxT) (m:zbs):Prop:=zc5 m.id m.p.length=0∧m.id.d≠self∧(m.id.o=self→m.id.e<epoch∨(m.id.e=epoch∧m.id.c≤ze4 ul m.id.d))
def zrr (self epoch:Int) (ul:NxT) (hs:List zbs):Prop:=(∀ m∈hs,okM self epoch ul m)∧(hs.map (·.id)).Nodup
def zjP (self epoch:Int) (ul:NxT) (hs:List zbs) (mks:List Mk):Prop:=zrq self epoch ul∧zrr self epoch ul hs∧(∀ m∈mks,m.o≠self)∧FormP mks
def zeP (qh qb qg:Int) (hs:List zbs) (mks:List Mk):Prop:=qg<zcr mks∨qh<hs.length∨qb<zp hs
def CheckS (qh qb qg self epoch:Int) (ul:NxT) (hs:List zbs) (mks:List Mk) (e:Int):Prop:=
 (zbn self qh qb qg∧e=1)∨(¬zbn self qh qb qg∧¬zjP self epoch ul hs mks∧e=2)∨(¬zbn self qh qb qg∧zjP self epoch ul hs mks∧zeP qh qb qg hs mks∧e=6) ∨
 (¬zbn self qh qb qg∧zjP self epoch ul hs mks∧¬zeP qh qb qg hs mks∧e=0)
theorem CheckS.uniq {qh qb qg self epoch:Int} {ul:NxT} {hs:List zbs} {mks:List Mk} {e e':Int} (h:CheckS qh qb qg self epoch ul hs mks e) (h':CheckS qh qb qg self epoch ul hs mks e'):e=e':=by
 rcases h with ⟨h1,h2⟩|⟨h1,h2,h3⟩|⟨h1,h2,h3,h4⟩|⟨h1,h2,h3,h4⟩<;>rcases h' with ⟨g1,g2⟩|⟨g1,g2,g3⟩|⟨g1,g2,g3,g4⟩|⟨g1,g2,g3,g4⟩<;>first|omega|exact absurd h1 g1|exact absurd g1 h1|exact absurd h2 g2|exact absurd g2 h2|exact absurd h3 g3|exact absurd g3 h3
def zaF (ul:NxT):List Int:=ul.foldl (fun u n=>u.set n.1.toNat n.2) (List.replicate 64 0)
theorem ztg (ul:NxT) (n:Int×Int):zaF (ul++[n])=(zaF ul).set n.1.toNat n.2:=by simp[zaF]
theorem zth:∀ (ul:NxT) (u:List Int),(ul.foldl (fun u n=>u.set n.1.toNat n.2) u).length=u.length
 | [],_=>rfl
 | n::r,u=>by rw[List.foldl_cons,zth r,List.length_set]
theorem zbZ (ul:NxT):(zaF ul).length=64:=by unfold zaF;rw[zth];simp
theorem zrs {n:Int×Int}:∀ {l:NxT},(∀ x∈l,x.1<n.1)→zf0 n false l=l++[n]
 | [],_=>rfl
 | x::r,h=>by
  have h1:=h x (by simp)
  rw[zf0,if_neg (by omega),if_neg (by omega),zrs fun y hy=>h y (by simp[hy])]
  rfl
theorem zrt {self epoch:Int} {ul:NxT} (h:Nx self epoch ul):∀ k,k≤ul.length→zad (zaF (ul.take k))=ul.take k
 | 0,_=>zyJ
 | k+1,hk=>by
  have hx:ul[k]? = some ul[k]:=List.getElem?_eq_getElem (by omega)
  have htk:ul.take (k+1)=ul.take k++[ul[k]]:=by rw[List.take_add_one,hx];rfl
  have ih:=zrt h k (by omega)
  have he:=h.each ul[k] (List.getElem_mem _)
  have hlt:∀ x∈ul.take k,x.1<ul[k].1:=fun x hx=>by
   obtain⟨j,hj,rfl⟩:=List.getElem_of_mem hx
   rw[List.getElem_take]
   simp at hj
   exact List.pairwise_iff_getElem.1 h.sort j k (by omega) (by omega) (by omega)
  generalize ul[k]=n at *
  rw[htk,ztg]
  have:=zrp (c:=n.2) (by omega) (zaF (ul.take k)) 0 n.1.toNat (by rw[zbZ];omega)
  rw[Nat.zero_add] at this
  show zau 0 ((zaF (ul.take k)).set n.1.toNat n.2)=_
  rw[←this,show zau 0 (zaF (ul.take k))=ul.take k from ih,show ((n.1.toNat:Int),n.2)=n from Prod.ext (by show (n.1.toNat:Int)=n.1;omega) rfl]
  exact zrs hlt
theorem zlQ {self epoch:Int} {ul:NxT} (h:Nx self epoch ul):zad (zaF ul)=ul:=by
 have:=zrt h ul.length (by omega)
 rwa [List.take_of_length_le (by omega)] at this
theorem zti:∀ (ul:NxT) (u:List Int) (x:Int),x∈ul.foldl (fun u n=>u.set n.1.toNat n.2) u→x∈u∨∃ n∈ul,x=n.2
 | [],_,_,h => .inl h
 | n::r,u,x,h=>by
  rw[List.foldl_cons] at h
  rcases zti r _ x h with h|⟨m,hm,e⟩
  ·rcases List.mem_or_eq_of_mem_set h with h|h
   ·exact .inl h
   ·exact .inr ⟨n,by simp,h⟩
  ·exact .inr ⟨m,by simp[hm],e⟩
theorem zp9 {self epoch:Int} {ul:NxT} (h:Nx self epoch ul):∀ x∈zaF ul,0≤x∧x≤65535:=fun x hx=>by
 rcases zti ul _ x hx with h1|⟨n,hn,rfl⟩
 ·have:=List.eq_of_mem_replicate h1;omega
 ·have:=h.each n hn;omega
theorem zlR {self epoch:Int} {ul:NxT} (h:Nx self epoch ul) {d:Int} (hd:0≤d):ze4 ul d=(zaF ul).getD d.toNat 0:=by
 have:=zkD (zaF ul) 0 d.toNat (fun n hn=>(zp9 h n hn).1)
 rw[Nat.zero_add,show zau 0 (zaF ul)=ul from zlQ h,show ((d.toNat:Nat):Int)=d by omega] at this
 exact this
def zcL (self epoch:Int) (u:List Int) (hs:List zbs):List Int:=hs.foldl (fun u m=>if m.id.o=self∧m.id.e=epoch then u.set m.id.d.toNat (max (u.getD m.id.d.toNat 0) m.id.c) else u) u
theorem zyN (self epoch:Int) (u:List Int) (hs:List zbs) (m:zbs):zcL self epoch u (hs++[m])=if m.id.o=self∧m.id.e=epoch then (zcL self epoch u hs).set m.id.d.toNat (max ((zcL self epoch u hs).getD m.id.d.toNat 0) m.id.c) else zcL self epoch u hs:=by simp[zcL]
theorem zje {u:List Int} {i j:Nat} {v:Int} (hi:i<u.length):(u.set i v).getD j 0=if j=i then v else u.getD j 0:=by
 rw[List.getD_eq_getElem?_getD,List.getD_eq_getElem?_getD,List.getElem?_set]
 by_cases h:j=i
 ·subst h;rw[if_pos rfl,if_pos hi,if_pos rfl];rfl
 ·rw[if_neg (by omega),if_neg h]
theorem zyO {self epoch:Int} {u:List Int} {m:zbs} (hd:m.id.o=self∧m.id.e=epoch→m.id.d.toNat<u.length) :
  let u':=(if m.id.o=self∧m.id.e=epoch then u.set m.id.d.toNat (max (u.getD m.id.d.toNat 0) m.id.c) else u)
  u'.length=u.length∧(∀ j,u.getD j 0≤u'.getD j 0)∧(m.id.o=self∧m.id.e=epoch→m.id.c≤u'.getD m.id.d.toNat 0):=by
 dsimp only
 split
 ·rename_i h
  have:=hd h
  refine⟨by simp,fun j=>?_,fun _=>?_⟩
  ·rw[zje this];split
   ·rename_i e;subst e;omega
   ·omega
  ·rw[zje this,if_pos rfl];omega
 ·rename_i h
  exact⟨rfl,fun j=>by omega,fun h'=>absurd h' h⟩
theorem zvM {self epoch:Int}:∀ (hs:List zbs) (u:List Int),(∀ m∈hs,m.id.o=self∧m.id.e=epoch→m.id.d.toNat<u.length) →
  (∀ j,u.getD j 0≤(zcL self epoch u hs).getD j 0)∧∀ m∈hs,m.id.o=self∧m.id.e=epoch→m.id.c≤(zcL self epoch u hs).getD m.id.d.toNat 0
 | [],u,_=>⟨fun j=>by simp[zcL],by simp⟩
 | x::r,u,h=>by
  obtain⟨h1,h2,h3⟩:=zyO (self:=self) (epoch:=epoch) (u:=u) (m:=x) (h x (by simp))
  have e:zcL self epoch u (x::r)=zcL self epoch (if x.id.o=self∧x.id.e=epoch then u.set x.id.d.toNat (max (u.getD x.id.d.toNat 0) x.id.c) else u) r:=rfl
  rw[e]
  generalize (if x.id.o=self∧x.id.e=epoch then u.set x.id.d.toNat (max (u.getD x.id.d.toNat 0) x.id.c) else u)=u' at *
  obtain⟨g1,g2⟩:=zvM r u' (fun m hm hc=>by rw[h1];exact h m (by simp[hm]) hc)
  refine⟨fun j=>Int.le_trans (h2 j) (g1 j),fun m hm hc=>?_⟩
  rcases List.mem_cons.1 hm with rfl|hm
  ·exact Int.le_trans (h3 hc) (g1 _)
  ·exact g2 m hm hc
theorem zru {self epoch:Int}:∀ (hs:List zbs) (u:List Int),(∀ m∈hs,m.id.o=self∧m.id.e=epoch→m.id.d.toNat<u.length∧m.id.c≤u.getD m.id.d.toNat 0)→zcL self epoch u hs=u
 | [],_,_=>rfl
 | x::r,u,h=>by
  have e:zcL self epoch u (x::r)=zcL self epoch (if x.id.o=self∧x.id.e=epoch then u.set x.id.d.toNat (max (u.getD x.id.d.toNat 0) x.id.c) else u) r:=rfl
  have e2:(if x.id.o=self∧x.id.e=epoch then u.set x.id.d.toNat (max (u.getD x.id.d.toNat 0) x.id.c) else u)=u:=by
   split
   ·rename_i hc
    obtain⟨h1,h2⟩:=h x (by simp) hc
    exact zBb h2 h1
   ·rfl
  rw[e,e2]
  exact zru r u fun m hm=>h m (by simp[hm])
end Go.Proofs.YtpdkkbpkplhdpaaGreat
namespace Go.Proofs.YtpdkkbpkplhdpaaGreat
open Go Go.Vm
attribute [local irreducible] Brn Ob Grow CallsM inR zaD zaC Mem.row Mem.cells Mem.setCells Mem.upd Go.Vm.Own zaG za7 za9 zaR New SrcOk subA NewSl Mem.textAt Mem.mapAt Mem.iterAt zaB zam Wr NewEls Elems
set_option maxRecDepth 10000
set_option linter.unusedSimpArgs false
section
variable {M:Mem} {self epoch:Int} {ul:NxT}
theorem Nx.snoc {me ep:Int} {l:NxT} {n:Int×Int} (h:Nx me ep l) (h1:0≤n.1∧n.1≤63) (h2:n.1≠me) (h3:1≤n.2∧n.2≤65535) (h4:ep≠0) (h5:∀ x∈l,x.1<n.1):Nx me ep (l++[n]):=by
 refine⟨fun x hx=>?_,?_,fun _=>h4⟩
 ·rcases List.mem_append.1 hx with hx|hx
  ·exact h.each x hx
  ·simp only[List.mem_singleton] at hx;subst hx;exact⟨h1,h2,h3⟩
 ·rw[List.pairwise_append]
  exact⟨h.sort,by simp,fun x hx y hy=>by simp only[List.mem_singleton] at hy;subst hy;exact h5 x hx⟩
theorem zBh {ua ha ma:Option Addr} {un uc hn hc mn mc:Nat} (hu:SrcOk M 2 ua un (ul.flatMap zg9)) (hun:un≤4194000) :
  CallsM Tryz.prog F.zhA [znS self epoch ua un uc ha hn hc ma mn mc] M fun v M'=>∃ b:Bool,v = .bool b∧(b=true↔zrq self epoch ul)∧M=M':=by
 refine zsg (by simp) ?_
 have hl:=hu.flen zf9 (by decide)
 (conv=>whnf)
 refine zbh (σ:=Nat×Int) [9,3] (fun y=>[(9,.int .i64 y.1),(3,.int .i64 y.2)]) (fun _=>[.live T.zaL [.v (.int .i64 self),.v (.int .i64 epoch),.v (.slice ua un uc),.v (.slice ha hn hc),.v (.slice ma mn mc)]]) (fun _=>M)
  (fun|⟨i,last⟩=>i≤un∧Nx self epoch (ul.take i)∧(∀ x∈ul.take i,x.1≤last)∧((i=0∧last = -1)∨∃ x∈ul.take i,x.1=last)) (fun y=>un - y.1) ⟨0, -1⟩ ⟨by omega,⟨by simp,by simp,by simp⟩,by simp,.inl ⟨rfl,rfl⟩⟩ zS ?_
 rintro ⟨i,last⟩ ⟨hi,hN,hlast,hmax⟩
 (conv=>whnf);refine brn (fun g=>?_) (fun g=>?_)
 rotate_left
 ·have hge:un≤i:=by have:=Zd1 g;dsimp only at this;omega
  rw[List.take_of_length_le (by omega)] at hN
  refine zR ?_
  refine(zjc _ _).mono ?_
  rintro v _ ⟨rfl,rfl⟩
  refine zR ?_
  exact⟨_,rfl,by rw[decide_eq_true_iff];exact⟨fun h=>⟨hN,h⟩,fun h=>h.2⟩,rfl⟩
 have hlt:i<ul.length:=by have:=Zd0 g;dsimp only at this;omega
 have hx:ul[i]? = some ul[i]:=List.getElem?_eq_getElem hlt
 obtain⟨b1,o1,ha1,hc1⟩:=hu.fparts zf9 (by decide) hx
 have htk:ul.take (i+1)=ul.take i++[ul[i]]:=by rw[List.take_add_one,hx];rfl
 have hmem:ul[i]∈ul:=List.getElem_mem _
 have hord:zrq self epoch ul→∀ x∈ul.take i,x.1<ul[i].1:=fun h x hx=>by
  obtain⟨j,hj,rfl⟩:=List.getElem_of_mem hx
  rw[List.getElem_take]
  simp at hj
  exact List.pairwise_iff_getElem.1 h.1.sort j i (by omega) (by omega) (by omega)
 generalize ul[i]=n at *
 (conv=>whnf);refine ob (by first|omega|(dsimp only;omega)) ?_
 (conv=>whnf);refine atp ha1 ?_
 (conv=>whnf);refine on (hc1 0 2 (by decide)) ?_
 (conv=>whnf);refine brn (fun gg=>?_) (fun g1=>?_)
 ·refine zR ?_
  refine⟨false,rfl,⟨by simp,fun h=>?_⟩,rfl⟩
  exfalso
  have he:=h.1.each n hmem
  have ho:=hord h
  have hs:=h.1.some (fun e=>by rw[e] at hmem;cases hmem)
  first
  | (simp only[decide_eq_true_eq,Bool.not_eq_true',decide_eq_false_iff_not] at gg;omega)
  | (rcases hmax with ⟨_,rfl⟩|⟨x,hx,rfl⟩
     ·simp only[decide_eq_true_eq] at gg;omega
     ·have:=ho x hx;simp only[decide_eq_true_eq] at gg;omega)
 refine zR ?_
 refine(zjc _ _).mono ?_
 rintro v _ ⟨rfl,rfl⟩
 (conv=>whnf);refine brn (fun gg=>?_) (fun g2=>?_)
 ·refine zR ?_
  refine⟨false,rfl,⟨by simp,fun h=>?_⟩,rfl⟩
  exfalso
  have he:=h.1.each n hmem
  have ho:=hord h
  have hs:=h.1.some (fun e=>by rw[e] at hmem;cases hmem)
  first
  | (simp only[decide_eq_true_eq,Bool.not_eq_true',decide_eq_false_iff_not] at gg;omega)
  | (rcases hmax with ⟨_,rfl⟩|⟨x,hx,rfl⟩
     ·simp only[decide_eq_true_eq] at gg;omega
     ·have:=ho x hx;simp only[decide_eq_true_eq] at gg;omega)
 (conv=>whnf);refine brn (fun gg=>?_) (fun g3=>?_)
 ·refine zR ?_
  refine⟨false,rfl,⟨by simp,fun h=>?_⟩,rfl⟩
  exfalso
  have he:=h.1.each n hmem
  have ho:=hord h
  have hs:=h.1.some (fun e=>by rw[e] at hmem;cases hmem)
  first
  | (simp only[decide_eq_true_eq,Bool.not_eq_true',decide_eq_false_iff_not] at gg;omega)
  | (rcases hmax with ⟨_,rfl⟩|⟨x,hx,rfl⟩
     ·simp only[decide_eq_true_eq] at gg;omega
     ·have:=ho x hx;simp only[decide_eq_true_eq] at gg;omega)
 (conv=>whnf);refine brn (fun gg=>?_) (fun g4=>?_)
 ·refine zR ?_
  refine⟨false,rfl,⟨by simp,fun h=>?_⟩,rfl⟩
  exfalso
  have he:=h.1.each n hmem
  have ho:=hord h
  have hs:=h.1.some (fun e=>by rw[e] at hmem;cases hmem)
  first
  | (simp only[decide_eq_true_eq,Bool.not_eq_true',decide_eq_false_iff_not] at gg;omega)
  | (rcases hmax with ⟨_,rfl⟩|⟨x,hx,rfl⟩
     ·simp only[decide_eq_true_eq] at gg;omega
     ·have:=ho x hx;simp only[decide_eq_true_eq] at gg;omega)
 (conv=>whnf);refine brn (fun gg=>?_) (fun g5=>?_)
 ·refine zR ?_
  refine⟨false,rfl,⟨by simp,fun h=>?_⟩,rfl⟩
  exfalso
  have he:=h.1.each n hmem
  have ho:=hord h
  have hs:=h.1.some (fun e=>by rw[e] at hmem;cases hmem)
  first
  | (simp only[decide_eq_true_eq,Bool.not_eq_true',decide_eq_false_iff_not] at gg;omega)
  | (rcases hmax with ⟨_,rfl⟩|⟨x,hx,rfl⟩
     ·simp only[decide_eq_true_eq] at gg;omega
     ·have:=ho x hx;simp only[decide_eq_true_eq] at gg;omega)
 (conv=>whnf);refine brn (fun gg=>?_) (fun g6=>?_)
 ·refine zR ?_
  refine⟨false,rfl,⟨by simp,fun h=>?_⟩,rfl⟩
  exfalso
  have he:=h.1.each n hmem
  have ho:=hord h
  have hs:=h.1.some (fun e=>by rw[e] at hmem;cases hmem)
  first
  | (simp only[decide_eq_true_eq,Bool.not_eq_true',decide_eq_false_iff_not] at gg;omega)
  | (rcases hmax with ⟨_,rfl⟩|⟨x,hx,rfl⟩
     ·simp only[decide_eq_true_eq] at gg;omega
     ·have:=ho x hx;simp only[decide_eq_true_eq] at gg;omega)
 simp only[decide_eq_false_iff_not,Bool.not_eq_false',decide_eq_true_eq] at g1 g2 g3 g4 g5 g6
 refine zR ?_
 refine ob (ze (by first|omega|(dsimp only;omega))) ?_
 (conv=>whnf)
 have hlt':∀ x∈ul.take i,x.1<n.1:=fun x hx=>by have:=hlast x hx;omega
 refine⟨⟨i+1,n.1⟩,⟨by omega,htk▸hN.snoc g2 g3 (by omega) g6 hlt',fun x hx=>?_,.inr ⟨n,by rw[htk];simp,rfl⟩⟩,by dsimp only;omega,zS⟩
 rw[htk] at hx
 rcases List.mem_append.1 hx with hx|hx
 ·have:=hlt' x hx;omega
 ·simp only[List.mem_singleton] at hx;subst hx;omega
end
section
variable {M:Mem} {self epoch:Int} {ul:NxT} {ms:List MX} {mk:List MkC}
theorem zBi {l:List zbs} {i:IdT}:zeN l i=true↔i∈l.map (·.id):=by
 unfold zeN
 rw[List.any_eq_true]
 constructor
 ·rintro ⟨m,hm,h⟩;exact List.mem_map.2 ⟨m,hm,by simpa using h⟩
 ·intro h;obtain⟨m,hm,e⟩:=List.mem_map.1 h;exact⟨m,hm,by simpa using e⟩
structure zBj (ms:List MX) (mk:List MkC) (un hn hc mn:Nat):Prop where
 b1:un≤1048576
 b2:hn≤1048576
 b3:hn≤hc
 b4:mn≤1048576
 msgs:∀ m∈ms,m.p.length≤1048576
 marks:∀ m∈mk,m.more.length≤1048576
end
end Go.Proofs.YtpdkkbpkplhdpaaGreat
namespace Go.Proofs.YtpdkkbpkplhdpaaGreat
open Go Go.Vm
attribute [local irreducible] Brn Ob Grow CallsM inR zaD zaC Mem.row Mem.cells Mem.setCells Mem.upd Go.Vm.Own zaG za7 za9 zaR New SrcOk subA NewSl Mem.textAt Mem.mapAt Mem.iterAt zaB zam Wr NewEls Elems
set_option maxRecDepth 10000
variable {M:Mem} {self epoch:Int} {ul:NxT} {ms:List MX} {mk:List MkC}
@[reducible] def mkS (self qh qb qg epoch:Int) (u:List Int) (l:List zbs):StR:=⟨self,qh,qb,qg,epoch,u,l⟩
theorem Nx.take {me ep:Int} {l:NxT} (h:Nx me ep l) (k:Nat):Nx me ep (l.take k):=
 ⟨fun n hn=>h.each n (List.mem_of_mem_take hn),h.sort.sublist (List.take_sublist _ _),fun hne=>h.some (fun e=>hne (by simp[e]))⟩
theorem zsM (S:StR) (b:Nat) (came bytes:Int) (sp:Nat) (v:Int):zg (zH S b came bytes sp) 4 [.int .i64 v]=zH { S with epoch:=v } b came bytes sp:=by simp[zg,zH]
theorem zwR (S:StR) (b:Nat) (came bytes:Int) (sp:Nat) (v:Int):zg (zH S b came bytes sp) 1 [.int .i64 v]=zH { S with qh:=v } b came bytes sp:=by simp[zg,zH]
theorem zwS (S:StR) (b:Nat) (came bytes:Int) (sp:Nat) (v:Int):zg (zH S b came bytes sp) 2 [.int .i64 v]=zH { S with qb:=v } b came bytes sp:=by simp[zg,zH]
theorem zyP (S:StR) (b:Nat) (came bytes:Int) (sp:Nat) (x y z:Int):zg (zH S b came bytes sp) 1 [.int .i64 x,.int .i64 y,.int .i64 z]=zH { S with qh:=x,qb:=y,qg:=z } b came bytes sp:=by simp[zg,zH]
theorem zvN {S:StR} (hu:S.used.length=64) (b:Nat) (came bytes:Int) (sp sp':Nat):zg (zH S b came bytes sp) 72 [ptr sp']=zH S b came bytes sp':=by
 have e:∀ w,zH S b came bytes w=([.int .i64 S.self,.int .i64 S.qh,.int .i64 S.qb,.int .i64 S.qg,.int .i64 S.epoch]++S.used.map zan++[.map (some b),.int .i64 came,.int .i64 bytes])++ptr w::[]:=fun w=>by simp[zH]
 rw[e,e,znR (by simp[hu])]
theorem zrv:∀ {l:List zbs},(∀ m∈l,m.p.length≤48)→zp l≤48*l.length
 | [],_=>by simp[zp]
 | x::r,h=>by
  have ih:=zrv (l:=r) fun m hm=>h m (by simp[hm])
  have hx:=h x (by simp)
  simp only[zp,List.map_cons,List.sum_cons,List.length_cons] at ih ⊢
  omega
theorem zz7 {S:StR} {set:IdT→Int} {i:IdT} {n:Nat} (h1:zc5 i n=0) (h2:i.d≠S.self) (h3:¬(i.o=S.self∧S.epoch<i.e)) (h4:zeN S.l i=false) (h5:(S.l.length:Int)<S.qh) (h6:(zp S.l:Int)+n≤S.qb):za3 S set 2 i n=0:=by
 have hf:zbb 2 i n=0:=by unfold zbb;rw[if_neg (by decide),if_pos rfl];exact h1
 unfold za3
 rw[if_neg (by simp[hf]),if_neg (by decide),if_pos rfl,if_neg (by omega),h4,if_neg (by decide),if_neg (by omega)]
theorem zwT (self qh qb qg epoch:Int) (u:List Int) (l:List zbs) (m:zbs):zP (mkS self qh qb qg epoch (zcL self epoch u l) l) 2 m.id m.p=mkS self qh qb qg epoch (zcL self epoch u (l++[m])) (l++[m]):=by
 unfold zP
 rw[if_neg (by decide),if_pos rfl,zyN]
 rfl
theorem zz8 {self epoch:Int} {ul:NxT} {hs:List zbs} (h:zrr self epoch ul hs) {k:Nat} (hk:k<hs.length):zeN (hs.take k) hs[k].id=false:=by
 rw[←Bool.not_eq_true,zBi]
 intro hm
 have h2:=h.2
 have hsplit:hs=hs.take k++hs[k]::hs.drop (k+1):=by conv=>lhs;rw[←List.take_append_drop k hs,List.drop_eq_getElem_cons hk]
 rw[hsplit,List.map_append,List.nodup_append] at h2
 exact h2.2.2 _ hm hs[k].id (List.mem_map.2 ⟨hs[k],List.mem_cons_self .., rfl⟩) rfl
theorem zz9 {p b sp sb:Nat} {S:StR} {came:Int} {xs:HsT} {es:EsT} (hA:StAt M p b sp sb S came xs es) (hu:S.used.length=64):M.row p 5 64=some (zyL (fun i=>S.used.getD i 0)):=by
 rw[hA.self.row (by rw[zcK hu];omega),←zz5 hu]
 congr 1
 unfold zH
 rw[List.append_assoc,List.drop_append]
 simp[hu]
theorem zBQ {u w:List Int} (hu:u.length=64) (hw:w.length=64):(List.range 64).all (fun i=>decide (u.getD i 0=w.getD i 0))=true↔u=w:=by
 rw[List.all_eq_true]
 constructor
 ·intro h
  apply List.ext_getElem (by omega)
  intro i h1 h2
  have:=Zd0 (h i (List.mem_range.2 (by omega)))
  rw[List.getD_eq_getElem?_getD,List.getD_eq_getElem?_getD,List.getElem?_eq_getElem h1,List.getElem?_eq_getElem h2] at this
  exact this
 ·rintro rfl i _
  exact decide_eq_true rfl
theorem ztj (self epoch:Int):∀ (hs:List zbs) (u:List Int),(zcL self epoch u hs).length=u.length
 | [],_=>rfl
 | x::r,u=>by
  have e:zcL self epoch u (x::r)=zcL self epoch (if x.id.o=self∧x.id.e=epoch then u.set x.id.d.toNat (max (u.getD x.id.d.toNat 0) x.id.c) else u) r:=rfl
  rw[e,ztj self epoch r]
  split<;>simp
theorem zAa {self epoch:Int} {ul:NxT} {hs:List zbs} (hN:Nx self epoch ul) (hI:∀ m∈hs,zc5 m.id m.p.length=0∧m.id.d≠self∧(m.id.o=self→m.id.e≤epoch)) (hn:(hs.map (·.id)).Nodup):zrr self epoch ul hs↔zcL self epoch (zaF ul) hs=zaF ul:=by
 have hd:∀ m∈hs,0≤m.id.d∧m.id.d.toNat<(zaF ul).length:=fun m hm=>by
  have:=zgm (za6 (hI m hm).1).1
  rw[zbZ];omega
 constructor
 ·intro h
  refine zru hs _ fun m hm hc=>⟨(hd m hm).2,?_⟩
  rw[←zlR hN (hd m hm).1]
  rcases(h.1 m hm).2.2 hc.1 with h1|h1
  ·omega
  ·exact h1.2
 ·intro h
  refine⟨fun m hm=>⟨(hI m hm).1,(hI m hm).2.1,fun ho=>?_⟩,hn⟩
  have h1:=(hI m hm).2.2 ho
  by_cases he:m.id.e=epoch
  ·refine .inr ⟨he,?_⟩
   have:=(zvM hs (zaF ul) (fun m hm _=>(hd m hm).2)).2 m hm ⟨ho,he⟩
   rw[h] at this
   rw[zlR hN (hd m hm).1];exact this
  ·exact .inl (by omega)
def zsN (qh qb qg self epoch:Int) (ul:NxT) (hs:List zbs) (mks:List Mk) (M:Mem) (v:Value) (M':Mem):Prop:=
 ∃ e,CheckS qh qb qg self epoch ul hs mks e∧((e≠0∧v = .tuple #[.pointer none,.int .i64 e]∧M.le M') ∨
  (e=0∧∃ p b sp sb came xs es,v = .tuple #[ptr p,.int .i64 0]∧FreshSt M M' p b sp sb (mkS self qh qb qg epoch (zaF ul) hs) came xs es∧came≤hs.length∧es.map zby=mks))
theorem ztk (qh qb qg:Int) {ua ha ma:Option Addr} {un uc hn hc mn mc:Nat} (h:StatR M ua un ha hn ma mn ul ms mk) (hB:zBj ms mk un hn hc mn) :
  CallsM Tryz.prog F.zgz [.agg #[.int .i64 qh,.int .i64 qb,.int .i64 qg],znS self epoch ua un uc ha hn hc ma mn mc] M (zsN qh qb qg self epoch ul (ms.map MX.msg) (mk.map MkC.mk') M):=by
 refine ztK (by simp) ?_
 have hb1:=hB.b1
 have hb2:=hB.b2
 have hb4:=hB.b4
 have hhl:=h.held.len
 have hml:=h.seen.len
 have hul:=h.used.flen zf9 (by decide)
 refine zR ?_
 refine(zvG self qh qb qg).mono ?_
 rintro v M1 (⟨hg,rfl,rfl⟩|⟨hg,p,b,sp,sb,rfl,h1⟩)
 ·refine zR ?_
  exact⟨1,.inl ⟨hg,rfl⟩,.inl ⟨by decide,rfl,Mem.le_refl _⟩⟩
 have bad:∀ {M':Mem},M.le M'→¬zjP self epoch ul (ms.map MX.msg) (mk.map MkC.mk')→zsN qh qb qg self epoch ul (ms.map MX.msg) (mk.map MkC.mk') M (.tuple #[.pointer none,.int .i64 2]) M':=fun hle hh=>⟨2,.inr (.inl ⟨hg,hh,rfl⟩),.inl ⟨by decide,rfl,hle⟩⟩
 refine zR ?_
 refine(zBh (h.used.le h1.le) (by omega)).mono ?_
 rintro v _ ⟨bn,rfl,hbn,rfl⟩
 (conv=>whnf);refine brn (fun g1=>?_) (fun g1=>?_)
 ·have e1:bn=false:=by simpa using g1
  refine zR ?_
  exact bad h1.le (fun hF=>by have:=hbn.2 hF.1;rw[e1] at this;cases this)
 have hN:=hbn.1 (by simpa using g1)
 have hep:=hN.2
 have hsf:=h1.inv.self
 refine zR ?_
 refine on h1.at'.self.cells ?_
 (conv=>whnf);refine ob (by dsimp only;rw[zcK h1.inv.ulen];omega) ?_
 have hs2:(M1.setCells p T.zk (zg (zH (zfg self qh qb qg) b 0 (zp (zfg self qh qb qg).l) sp) 4 [.int .i64 epoch])).has p T.zk (zH (mkS self qh qb qg epoch (zaF []) []) b 0 0 sp):=by
  rw[zsM];exact Mem.has_setCells
 have hk2:Mem.keep (fun y=>y=p) M1 (M1.setCells p T.zk (zg (zH (zfg self qh qb qg) b 0 (zp (zfg self qh qb qg).l) sp) 4 [.int .i64 epoch])):=keepS rfl
 obtain⟨M2,hM2⟩:∃ M2,M2=M1.setCells p T.zk (zg (zH (zfg self qh qb qg) b 0 (zp (zfg self qh qb qg).l) sp) 4 [.int .i64 epoch]):=⟨_,rfl⟩
 rw[←hM2] at hs2 hk2
 have invU:∀ k,zdA (mkS self qh qb qg epoch (zaF (ul.take k)) []):=fun k=>⟨hsf,hep,zbZ _,fun n hn=>zp9 (hN.1.take k) n hn,h1.inv.qh,h1.inv.qb,by simp,by simp⟩
 have h2:FreshSt M M2 p b sp sb (mkS self qh qb qg epoch (zaF (ul.take 0)) []) 0 [] []:=by
  refine⟨hk2.le h1.le fun y hy=>h1.fresh y (.inl hy),h1.at'.head (S':=mkS self qh qb qg epoch (zaF []) []) hk2 hs2 rfl rfl (Int.le_refl _),invU 0,h1.invE,h1.room,h1.fresh⟩
 (conv=>whnf)
 erw [←hM2]
 (conv=>whnf)
 refine zbh (σ:=Nat×Mem) [37] (fun y=>[(37,.int .i64 y.1)]) (fun _=>[.live T.zfQ [.v (.int .i64 qh),.v (.int .i64 qb),.v (.int .i64 qg)],.live T.zaL [.v (.int .i64 self),.v (.int .i64 epoch),.v (.slice ua un uc),.v (.slice ha hn hc),.v (.slice ma mn mc)]]) (fun y=>y.2)
  (fun|⟨i,Mx⟩=>i≤un∧FreshSt M Mx p b sp sb (mkS self qh qb qg epoch (zaF (ul.take i)) []) 0 [] []) (fun y=>un - y.1) ⟨0,M2⟩ ⟨by omega,h2⟩ zS ?_
 rintro ⟨i,Mx⟩ ⟨hi,hx⟩
 (conv=>whnf);refine brn (fun g2=>?_) (fun g2=>?_)
 ·have hlt:i<ul.length:=by have:=Zd0 g2;dsimp only at this;omega
  have hxx:ul[i]? = some ul[i]:=List.getElem?_eq_getElem hlt
  obtain⟨bx,ox,ha1,hc1⟩:=(h.used.le hx.le).fparts zf9 (by decide) hxx
  have htk:ul.take (i+1)=ul.take i++[ul[i]]:=by rw[List.take_add_one,hxx];rfl
  have hen:=hN.1.each ul[i] (List.getElem_mem _)
  generalize ul[i]=n at *
  (conv=>whnf);refine ob (by first|omega|(dsimp only;omega)) ?_
  (conv=>whnf);refine atp ha1 ?_
  (conv=>whnf);refine on (hc1 0 2 (by decide)) ?_
  refine zR ?_
  refine ob (by omega) ?_
  refine zR ?_
  refine on hx.at'.self.cells ?_
  (conv=>whnf);refine ob (by dsimp only;rw[zcK hx.inv.ulen];omega) ?_
  have hputu:zg (zH (mkS self qh qb qg epoch (zaF (ul.take i)) []) b 0 (zp []) sp) (0+0+5+n.1.toNat*1) [.int .i64 n.2]=zH (mkS self qh qb qg epoch (zaF (ul.take (i+1))) []) b 0 (zp []) sp:=by
   rw[show 0+0+5+n.1.toNat*1=5+n.1.toNat by omega,zma (zbZ _) _ _ _ (by omega),htk,ztg]
  have hs3:(Mx.setCells p T.zk (zg (zH (mkS self qh qb qg epoch (zaF (ul.take i)) []) b 0 (zp []) sp) (0+0+5+n.1.toNat*1) [.int .i64 n.2])).has p T.zk (zH (mkS self qh qb qg epoch (zaF (ul.take (i+1))) []) b 0 (zp []) sp):=by
   rw[←hputu];exact Mem.has_setCells
  refine zR ?_
  refine ob (ze (by first|omega|(dsimp only;omega))) ?_
  (conv=>whnf)
  refine⟨⟨i+1,_⟩,⟨by omega,?_⟩,by dsimp only;omega,zS⟩
  exact⟨(keepS (X:=fun y=>y=p) rfl).le hx.le fun y hy=>hx.fresh y (.inl hy),hx.at'.head (S':=mkS self qh qb qg epoch (zaF (ul.take (i+1))) []) (keepS rfl) hs3 rfl rfl (Int.le_refl _),invU _,hx.invE,hx.room,hx.fresh⟩
 have hge:un≤i:=by have:=Zd1 g2;dsimp only at this;omega
 rw[List.take_of_length_le (by omega)] at hx
 have hrow:=zlP hx.at' hx.inv
 refine zR ?_
 refine on hrow ?_
 refine zX ?_
 refine⟨Mx.minus (fun y=>y=p),Mem.minus_le _ _,?_⟩
 refine zX ?_
 refine ob (ze (by first|omega|(dsimp only;omega))) ?_
 refine zX ?_
 refine on hx.at'.self.cells ?_
 (conv=>whnf);refine ob (by dsimp only;rw[zcK hx.inv.ulen];omega) ?_
 have hs4:(Mx.setCells p T.zk (zg (zH (mkS self qh qb qg epoch (zaF ul) []) b 0 (zp []) sp) (0+0+1+0) [.int .i64 hn])).has p T.zk (zH (mkS self hn qb qg epoch (zaF ul) []) b 0 0 sp):=by
  rw[show 0+0+1+0=1 from rfl,zwR];exact Mem.has_setCells
 have hk4:Mem.keep (fun y=>y=p) Mx (Mx.setCells p T.zk (zg (zH (mkS self qh qb qg epoch (zaF ul) []) b 0 (zp []) sp) (0+0+1+0) [.int .i64 hn])):=keepS rfl
 obtain⟨M4,hM4⟩:∃ M4,M4=Mx.setCells p T.zk (zg (zH (mkS self qh qb qg epoch (zaF ul) []) b 0 (zp []) sp) (0+0+1+0) [.int .i64 hn]):=⟨_,rfl⟩
 rw[←hM4] at hs4 hk4
 have hm4:(Mx.minus (fun y=>y=p)).le M4:=fun y o ho=>by
  unfold Mem.minus at ho
  split at ho
  ·cases ho
  ·exact hk4 y o (by assumption) ho
 (conv=>whnf)
 erw [←hM4]
 refine zT (hm4) ?_
 refine zX ?_
 refine on hs4.cells ?_
 (conv=>whnf);refine ob (by dsimp only;rw[zcK (S:=mkS self hn qb qg epoch (zaF ul) []) (zbZ ul)];omega) ?_
 have hs5:(M4.setCells p T.zk (zg (zH (mkS self hn qb qg epoch (zaF ul) []) b 0 0 sp) (0+0+1+1) [.int .i64 (48*hn)])).has p T.zk (zH (mkS self hn (48*hn) qg epoch (zaF ul) []) b 0 0 sp):=by
  rw[show 0+0+1+1=2 from rfl,zwS];exact Mem.has_setCells
 have hk5:Mem.keep (fun y=>y=p) Mx (M4.setCells p T.zk (zg (zH (mkS self hn qb qg epoch (zaF ul) []) b 0 0 sp) (0+0+1+1) [.int .i64 (48*hn)])):=Mem.keep_trans hk4 (keepS rfl)
 obtain⟨M5,hM5⟩:∃ M5,M5=M4.setCells p T.zk (zg (zH (mkS self hn qb qg epoch (zaF ul) []) b 0 0 sp) (0+0+1+1) [.int .i64 (48*hn)]):=⟨_,rfl⟩
 rw[←hM5] at hs5 hk5
 (conv=>whnf)
 erw [←hM5]
 have h5:FreshSt M M5 p b sp sb (mkS self hn (48*hn) qg epoch (zaF ul) []) 0 [] []:=by
  refine⟨hk5.le hx.le fun y hy=>hx.fresh y (.inl hy),hx.at'.head (S':=mkS self hn (48*hn) qg epoch (zaF ul) []) hk5 hs5 rfl rfl (Int.le_refl _),?_,hx.invE,hx.room,hx.fresh⟩
  have hi2:=hx.inv
  exact⟨hi2.self,hi2.epoch,hi2.ulen,hi2.used,by dsimp only;simp;omega,by dsimp only;simp[zp];omega,by simp,by simp⟩
 obtain⟨hs,hhs⟩:∃ hs,hs=ms.map MX.msg:=⟨_,rfl⟩
 have hsl:hs.length=hn:=by rw[hhs,List.length_map];exact hhl
 rw[←hhs] at bad ⊢
 refine zR ?_
 refine zbh (σ:=Nat×Mem×Int×HsT) [72] (fun y=>[(72,.int .i64 y.1)]) (fun _=>[.live T.zfQ [.v (.int .i64 qh),.v (.int .i64 qb),.v (.int .i64 qg)],.live T.zaL [.v (.int .i64 self),.v (.int .i64 epoch),.v (.slice ua un uc),.v (.slice ha hn hc),.v (.slice ma mn mc)],.live T.zzt (zyM fun i=>(zaF ul).getD i 0)]) (fun y=>y.2.1)
  (fun|⟨k,My,came,xs⟩=>k≤hn∧FreshSt M My p b sp sb (mkS self hn (48*hn) qg epoch (zcL self epoch (zaF ul) (hs.take k)) (hs.take k)) came xs []∧came≤k) (fun y=>hn - y.1) ⟨0,M5,0,[]⟩ ⟨by omega,h5,by simp⟩ zS ?_
 rintro ⟨k,My,came,xs⟩ ⟨hk,hy,hcame⟩
 (conv=>whnf);refine brn (fun g3=>?_) (fun g3=>?_)
 ·have hlt:k<hs.length:=by have:=Zd0 g3;dsimp only at this;omega
  have hxx:ms[k]? = some ms[k]:=List.getElem?_eq_getElem (by omega)
  have hmk:hs[k]=ms[k].msg:=by simp[hhs]
  obtain⟨bx,ox,ha1,hc1⟩:=(h.held.row.le hy.le).fparts zlN (by decide) hxx
  have hd:=(h.held.data ms[k] (List.getElem_mem _)).le hy.le
  have hdl:=hB.msgs ms[k] (List.getElem_mem _)
  have htk:hs.take (k+1)=hs.take k++[hs[k]]:=by rw[List.take_add_one,List.getElem?_eq_getElem hlt];rfl
  have hlk:(hs.take k).length=k:=by simp;omega
  have h48:zp (hs.take k)≤48*k:=by
   have:=zrv (l:=hs.take k) (fun m hm=>(za6 (hy.inv.msgs m hm).1).2.2)
   omega
  have hno:za3 (mkS self hn (48*hn) qg epoch (zcL self epoch (zaF ul) (hs.take k)) (hs.take k)) (zdr (mkS self hn (48*hn) qg epoch (zcL self epoch (zaF ul) (hs.take k)) (hs.take k)) []) 2 ms[k].id ms[k].p.length≠0→¬zrr self epoch ul hs:=fun hne hH=>hne (by
   have hok:=hH.1 hs[k] (List.getElem_mem _)
   have htake:=zz8 hH hlt
   rw[hmk] at hok htake
   obtain⟨o1,o2,o3⟩:=hok
   have h48':ms[k].p.length≤48:=(za6 o1).2.2
   have o3':ms[k].id.o=self→ms[k].id.e<epoch∨(ms[k].id.e=epoch∧ms[k].id.c≤ze4 ul ms[k].id.d):=o3
   refine zz7 o1 o2 (fun ⟨q1,q2⟩=>?_) htake (by dsimp only;omega) (by dsimp only;omega)
   have q2':epoch<ms[k].id.e:=q2
   rcases o3' q1 with h|h
   ·omega
   ·omega)
  generalize ms[k]=m at *
  (conv=>whnf);refine ob (by first|omega|(dsimp only;omega)) ?_
  (conv=>whnf);refine atp ha1 ?_
  (conv=>whnf);refine on (hc1 0 5 (by decide)) ?_
  refine zR ?_
  refine(zrm hy 2 m.id hd hdl (by omega)).mono ?_
  rintro v M6 ⟨came6,xs6,es6,rfl,hcc6,h6,hst6⟩
  rw[if_neg (by omega)] at hst6
  subst hst6
  (conv=>whnf);refine brn (fun g4=>?_) (fun g4=>?_)
  ·refine zR ?_
   exact bad h6.le (fun hF=>hno (by simpa using g4) hF.2.1)
  ·rw[if_pos (by simpa using g4),show m.id=m.msg.id from rfl,show m.p=m.msg.p from rfl,zwT,←hmk,←htk] at h6
   refine zR ?_
   refine ob (ze (by first|omega|(dsimp only;omega))) ?_
   (conv=>whnf)
   exact⟨⟨k+1,M6,came6,xs6⟩,⟨by omega,h6,by omega⟩,by dsimp only;omega,zS⟩
 have hge3:hn≤k:=by have:=Zd1 g3;dsimp only at this;omega
 rw[List.take_of_length_le (by omega)] at hy
 obtain⟨uH,huH⟩:∃ uH,uH=zcL self epoch (zaF ul) hs:=⟨_,rfl⟩
 have huHl:uH.length=64:=by rw[huH,ztj,zbZ]
 have hiff:=zAa (hs:=hs) hN.1 hy.inv.msgs hy.inv.nodup
 rw[←huH] at hy hiff
 refine zR ?_
 refine on hy.at'.self.cells ?_
 (conv=>whnf);refine ob (by dsimp only;rw[zcK (S:=mkS self hn (48*hn) qg epoch uH hs) huHl];omega) ?_
 have hs7:(My.setCells p T.zk (zg (zH (mkS self hn (48*hn) qg epoch uH hs) b came (zp hs) sp) (0+0+1) [.int .i64 qh,.int .i64 qb,.int .i64 qg])).has p T.zk (zH (mkS self qh qb qg epoch uH hs) b came (zp hs) sp):=by
  rw[show 0+0+1=1 from rfl,zyP];exact Mem.has_setCells
 have hk7:Mem.keep (fun y=>y=p) My (My.setCells p T.zk (zg (zH (mkS self hn (48*hn) qg epoch uH hs) b came (zp hs) sp) (0+0+1) [.int .i64 qh,.int .i64 qb,.int .i64 qg])):=keepS rfl
 obtain⟨M7,hM7⟩:∃ M7,M7=My.setCells p T.zk (zg (zH (mkS self hn (48*hn) qg epoch uH hs) b came (zp hs) sp) (0+0+1) [.int .i64 qh,.int .i64 qb,.int .i64 qg]):=⟨_,rfl⟩
 rw[←hM7] at hs7 hk7
 (conv=>whnf)
 erw [←hM7]
 have hle7:M.le M7:=hk7.le hy.le fun y hy'=>hy.fresh y (.inl hy')
 have hA7:StAt M7 p b sp sb (mkS self qh qb qg epoch uH hs) came xs []:=hy.at'.head (S':=mkS self qh qb qg epoch uH hs) hk7 hs7 rfl rfl (Int.le_refl _)
 refine zR ?_
 refine on (zz9 hA7 huHl) ?_
 (conv=>whnf);refine brn (fun g5=>?_) (fun g5=>?_)
 ·have g6:(!(List.range 64).all (fun i=>decide (uH.getD i 0=(zaF ul).getD i 0)))=true:=g5
  refine zR ?_
  refine bad hle7 (fun hF=>?_)
  have:=(zBQ huHl (zbZ ul)).2 (hiff.1 hF.2.1)
  rw[this] at g6
  cases g6
 have g6:(!(List.range 64).all (fun i=>decide (uH.getD i 0=(zaF ul).getD i 0)))=false:=g5
 have huA:uH=zaF ul:=(zBQ huHl (zbZ ul)).1 (by simpa using g6)
 have hH:=hiff.2 huA
 rw[huA] at hA7
 refine zR ?_
 refine zbh (σ:=Nat) [95] (fun k=>[(95,.int .i64 k)]) (fun _=>[.live T.zfQ [.v (.int .i64 qh),.v (.int .i64 qb),.v (.int .i64 qg)],.live T.zaL [.v (.int .i64 self),.v (.int .i64 epoch),.v (.slice ua un uc),.v (.slice ha hn hc),.v (.slice ma mn mc)]]) (fun _=>M7)
  (fun k=>k≤mn∧∀ m∈(mk.map MkC.mk').take k,m.o≠self) (fun k=>mn - k) 0 ⟨by omega,by simp⟩ zS ?_
 rintro k2 ⟨hk2',hall⟩
 (conv=>whnf);refine brn (fun g7=>?_) (fun g7=>?_)
 ·have hlt:k2<mk.length:=by have:=Zd0 g7;omega
  have hxx:mk[k2]? = some mk[k2]:=List.getElem?_eq_getElem hlt
  obtain⟨b1,o1,ha1,hcc⟩:=(h.seen.row.le hle7).fparts zff (by decide) hxx
  have htk:(mk.map MkC.mk').take (k2+1)=(mk.map MkC.mk').take k2++[mk[k2].mk']:=by rw[List.take_add_one,List.getElem?_map,hxx];rfl
  have hmem:mk[k2]∈mk:=List.getElem_mem _
  generalize mk[k2]=x at *
  (conv=>whnf);refine ob (by first|omega|(dsimp only;omega)) ?_
  (conv=>whnf);refine atp ha1 ?_
  (conv=>whnf);refine on (hcc 0 4 (by decide)) ?_
  (conv=>whnf);refine brn (fun g8=>?_) (fun g8=>?_)
  ·refine zR ?_
   exact bad hle7 (fun hF=>hF.2.2.1 x.mk' (List.mem_map.2 ⟨x,hmem,rfl⟩) (Zd0 g8))
  ·refine zR ?_
   refine ob (ze (by first|omega|(dsimp only;omega))) ?_
   (conv=>whnf)
   refine⟨k2+1,⟨by omega,fun m hm=>?_⟩,by omega,zS⟩
   rw[htk] at hm
   rcases List.mem_append.1 hm with hm|hm
   ·exact hall m hm
   ·simp only[List.mem_singleton] at hm;subst hm;exact Zd1 g8
 have hge7:mn≤k2:=by have:=Zd1 g7;omega
 rw[List.take_of_length_le (by simp;omega)] at hall
 refine zR ?_
 refine(zCz qg (h.seen.le hle7) h.few (by omega) hB.marks).mono ?_
 have hgg:¬(qg<0∨256<qg):=by unfold zbn at hg;omega
 rintro v M8 ⟨f,hf,hout⟩
 have hP:f=2∧¬FormP (mk.map MkC.mk')∨FormP (mk.map MkC.mk')∧((f=6∧qg<zcr (mk.map MkC.mk'))∨(f=0∧(zcr (mk.map MkC.mk'):Int)≤qg)):=by
  rcases hf with ⟨h1,h2⟩|⟨h1,h2,h3⟩|⟨h1,h2,h3,h4⟩|⟨h1,h2,h3,h4⟩
  ·exact absurd h1 hgg
  ·exact .inl ⟨h3,h2⟩
  ·exact .inr ⟨h2,.inl ⟨h4,h3⟩⟩
  ·exact .inr ⟨h2,.inr ⟨h4,h3⟩⟩
 have full:∀ {M':Mem},M.le M'→FormP (mk.map MkC.mk')→zeP qh qb qg hs (mk.map MkC.mk')→zsN qh qb qg self epoch ul hs (mk.map MkC.mk') M (.tuple #[.pointer none,.int .i64 6]) M':=fun hle h1 h2=>⟨6,.inr (.inr (.inl ⟨hg,⟨hN,hH,hall,h1⟩,h2,rfl⟩)),.inl ⟨by decide,rfl,hle⟩⟩
 rcases hout with ⟨hf0,rfl,hle8⟩|⟨hf0,p2,b2,es2,rfl,h8,hes⟩
 ·(conv=>whnf);refine brn (fun g8=>?_) (fun g8=>?_)
  ·have e8:f=2:=Zd0 g8
   subst e8
   refine zR ?_
   refine bad (Mem.le_trans hle7 hle8) (fun hF=>?_)
   rcases hP with ⟨_,h2⟩|⟨_,⟨h3,_⟩|⟨h3,_⟩⟩
   ·exact h2 hF.2.2.2
   ·omega
   ·omega
  ·have e8:¬f=2:=Zd1 g8
   have h6:FormP (mk.map MkC.mk')∧qg<zcr (mk.map MkC.mk'):=by
    rcases hP with ⟨h1,_⟩|⟨h2,⟨_,h3⟩|⟨h3,_⟩⟩
    ·exact absurd h1 e8
    ·exact⟨h2,h3⟩
    ·exact absurd h3 hf0
   refine zR ?_
   refine brn_t (by simp[hf0]) ?_
   refine zR ?_
   exact full (Mem.le_trans hle7 hle8) h6.1 (.inl h6.2)
 subst hf0
 have hFP:FormP (mk.map MkC.mk')∧(zcr (mk.map MkC.mk'):Int)≤qg:=by
  rcases hP with ⟨h1,_⟩|⟨h2,⟨h1,_⟩|⟨_,h3⟩⟩
  ·cases h1
  ·cases h1
  ·exact⟨h2,h3⟩
 have hle8:=Mem.le_trans hle7 h8.le
 have hA8:=hA7.le h8.le
 have hxl:xs.length=hs.length:=by have:=congrArg List.length hA8.held;simpa using this
 refine zR ?_
 refine on (hA8.self.c1 (zeO (S:=mkS self qh qb qg epoch (zaF ul) hs) (zbZ ul) ..)) ?_
 (conv=>whnf)
 refine hA8.map.len fun e9 c9 hsz=>?_
 (conv=>whnf);refine brn (fun g8=>?_) (fun g8=>?_)
 ·have e8:qh<hs.length:=by have:=Zd0 g8;dsimp only at this;rw[hsz] at this;omega
  refine zR ?_
  exact full hle8 hFP.1 (.inr (.inl e8))
 have e8:¬qh<hs.length:=by have:=Zd1 g8;dsimp only at this;rw[hsz] at this;omega
 refine zR ?_
 refine on (hA8.self.c1 (zgQ (S:=mkS self qh qb qg epoch (zaF ul) hs) (zbZ ul) ..)) ?_
 (conv=>whnf);refine brn (fun g9=>?_) (fun g9=>?_)
 ·refine zR ?_
  exact full hle8 hFP.1 (.inr (.inr (Zd0 g9)))
 have e9':¬qb<zp hs:=Zd1 g9
 refine zR ?_
 refine on hA8.self.cells ?_
 (conv=>whnf);refine ob (by dsimp only;rw[zcK (S:=mkS self qh qb qg epoch (zaF ul) hs) (zbZ ul)];omega) ?_
 (conv=>whnf)
 have hpM:M p=none:=hy.fresh p (.inl rfl)
 have hbp:b≠p:=(hA8.map.nb hA8.self).symm
 have hk9:Mem.keep (fun y=>y=p) M8 (M8.setCells p T.zk (zg (zH (mkS self qh qb qg epoch (zaF ul) hs) b came (zp hs) sp) (0+0+72) [ptr p2])):=keepS rfl
 have hs9:(M8.setCells p T.zk (zg (zH (mkS self qh qb qg epoch (zaF ul) hs) b came (zp hs) sp) (0+0+72) [ptr p2])).has p T.zk (zH (mkS self qh qb qg epoch (zaF ul) hs) b came (zp hs) p2):=by
  rw[show 0+0+72=72 from rfl,zvN (S:=mkS self qh qb qg epoch (zaF ul) hs) (zbZ ul)];exact Mem.has_setCells
 have hnp:∀ y,setB p2 b2 es2 y→y≠p:=fun y hy' e=>by
  have:=h8.fresh y hy'
  have h7:=hA7.self
  unfold Mem.has at h7
  rw[e,h7] at this
  cases this
 have hbad:(0≤self∧self≤63)∧(0≤qh∧qh≤256)∧(0≤qb∧qb≤1048576):=by unfold zbn at hg;omega
 refine⟨0,.inr (.inr (.inr ⟨hg,⟨hN,hH,hall,hFP.1⟩,fun hh=>?_,rfl⟩)),.inr ⟨rfl,p,b,p2,b2,came,xs,es2,rfl,⟨?_,?_,?_,h8.inv,h8.room,fun y hy'=>?_⟩,by omega,hes⟩⟩
 ·rcases hh with hh|hh|hh
  ·have:=hFP.2;omega
  ·exact e8 hh
  ·exact e9' hh
 ·exact hk9.le hle8 fun y e=>e▸hpM
 ·refine⟨hs9,hA8.map.mono fun o ho=>hk9 b o hbp ho,fun q hq=>(hA8.data q hq).mono fun a o ha ho=>hk9 _ o (hA8.dset hq ⟨a,ha,rfl⟩).2.1 ho,h8.at'.mono fun y o hy' ho=>hk9 y o (hnp y hy') ho,hA8.held,hA8.keys,hA8.ord,hA8.came,fun e=>?_⟩
  have:=h8.fresh b2 (.inr (.inl rfl))
  obtain⟨l',c',hh,_⟩:=hA7.map
  rw[←e,hh] at this
  cases this
 ·exact⟨hbad.1,hep,zbZ _,fun n hn=>zp9 hN.1 n hn,by dsimp only;omega,by dsimp only;omega,hy.inv.msgs,hy.inv.nodup⟩
 ·rcases hy' with hy'|hy'|hy'|hy'
  ·exact hy.fresh y (.inl hy')
  ·exact hy.fresh y (.inr (.inl hy'))
  ·exact hy.fresh y (.inr (.inr (.inl hy')))
  ·have:=h8.fresh y hy'
   cases e:M y with
   | none=>rfl
   | some o=>rw[hle7 y o e] at this;cases this
end Go.Proofs.YtpdkkbpkplhdpaaGreat
namespace Go.Proofs.YtpdkkbpkplhdpaaGreat
open Go Go.Vm
structure GoS (S:StR) (es:EsT):Prop where
 none:S.epoch=0→∀ n∈S.used,n=0
 own:S.used.getD S.self.toNat 0=0
 held:∀ m∈S.l,m.id.o=S.self→m.id.e=S.epoch→m.id.c≤S.used.getD m.id.d.toNat 0
 seen:∀ q∈es,q.1.1≠S.self
theorem GoS.new (self qh qb qg:Int):GoS (zfg self qh qb qg) []:=by
 refine⟨fun _ n hn=>List.eq_of_mem_replicate hn,?_,fun m hm=>(by cases hm),fun q hq=>(by cases hq)⟩
 unfold zfg
 dsimp only
 rw[List.getD_eq_getElem?_getD,List.getElem?_replicate]
 split<;>rfl
theorem zBk {es:EsT} {k:Int×Int} {x:Ent} {q:(Int×Int)×Ent} (h:q∈zY es k x):q.1=k∨∃ r∈es,r.1=q.1:=by
 have h1:q.1∈(zY es k x).map (·.1):=List.mem_map.2 ⟨q,h,rfl⟩
 rw[zs2] at h1
 split at h1
 ·exact .inr (List.mem_map.1 h1)
 ·rcases List.mem_append.1 h1 with h1|h1
  ·exact .inr (List.mem_map.1 h1)
  ·exact .inl (by simpa using h1)
theorem zrw {S:StR} {set:IdT→Int} {i:IdT} {n:Nat} (h:za3 S set 4 i n=0):i.d=S.self∧set i=0:=by
 unfold za3 at h
 split at h
 ·rename_i g;exact absurd h g
 rw[if_neg (by decide),if_neg (by decide),if_neg (by decide)] at h
 split at h
 ·cases h
 ·rename_i g;exact⟨by omega,h⟩
theorem GoS.step:zEe GoS:=by
 intro S es es' k i p hI hE h hst
 by_cases hm:za3 S (zdr S es) k i p.length=0
 rotate_left
 ·rw[if_neg hm]
  rw[if_neg (fun h=>hm h.1)] at hst
  rw[hst];exact h
 rw[if_pos hm]
 by_cases h1:k=1
 ·subst h1
  rw[if_neg (fun h=>by omega)] at hst
  subst hst
  have e:zP S 1 i p={ S with epoch:=S.epoch+1,used:=List.replicate 64 0 }:=by unfold zP;rw[if_pos rfl]
  rw[e]
  have he:=hI.epoch
  refine⟨fun _ n hn=>List.eq_of_mem_replicate hn,?_,fun m hm ho he'=>?_,h.seen⟩
  ·dsimp only
   rw[List.getD_eq_getElem?_getD,List.getElem?_replicate]
   split<;>rfl
  ·have:=(hI.msgs m hm).2.2 ho
   dsimp only at he'
   omega
 by_cases h2:k=2
 ·subst h2
  rw[if_neg (fun h=>by omega)] at hst
  subst hst
  obtain⟨g1,g2,g3,g4,g5,g6⟩:=zsJ hm
  obtain⟨r1,r2,r3,r4,r5⟩:=zgm (za6 g1).1
  have e:zP S 2 i p={ S with l:=S.l++[⟨i,p⟩],used:=if i.o=S.self∧i.e=S.epoch then S.used.set i.d.toNat (max (zcg S i.d) i.c) else S.used }:=by unfold zP;rw[if_neg (by decide),if_pos rfl]
  rw[e]
  have hs:=hI.self
  have hu:=hI.ulen
  refine⟨fun h0 n hn=>?_,?_,fun m hm ho he'=>?_,h.seen⟩
  ·dsimp only at h0 hn
   rw[if_neg (fun hh=>by omega)] at hn
   exact h.none h0 n hn
  ·dsimp only
   split
   ·rw[zje (by omega),if_neg (by omega)];exact h.own
   ·exact h.own
  ·dsimp only at hm ho he' ⊢
   rcases List.mem_append.1 hm with hm|hm
   ·have hc:=h.held m hm ho he'
    split
    ·rw[zje (by omega)]
     split
     ·rename_i hd
      unfold zcg
      rw[hd] at hc
      omega
     ·exact hc
    ·exact hc
   ·simp only[List.mem_singleton] at hm
    subst hm
    dsimp only at ho he' ⊢
    rw[if_pos ⟨ho,he'⟩,zje (by omega),if_pos rfl]
    omega
 by_cases h3:k=3
 ·subst h3
  rw[if_neg (fun h=>by omega)] at hst
  subst hst
  have e:zP S 3 i p={ S with l:=S.l.filter fun m=>decide (m.id≠i) }:=by unfold zP;rw[if_neg (by decide),if_neg (by decide),if_pos rfl]
  rw[e]
  exact⟨h.none,h.own,fun m hm=>h.held m (List.mem_filter.1 hm).1,h.seen⟩
 ·have e:zP S k i p=S:=by unfold zP;rw[if_neg h1,if_neg h2,if_neg h3]
  rw[e]
  refine⟨h.none,h.own,h.held,fun q hq=>?_⟩
  split at hst
  ·rename_i h4
   obtain⟨-, rfl⟩:=h4
   obtain⟨hd,hz⟩:=zrw hm
   rcases hst with ⟨hne,rfl⟩|⟨_,x,rfl,_⟩
   ·exact h.seen q hq
   ·have:=(zgm (zs9 hz).1).2.2.2.2
    rcases zBk hq with hk|⟨r,hr,hk⟩
    ·rw[hk];dsimp only;omega
    ·rw[←hk];exact h.seen r hr
  ·rw[hst] at hq;exact h.seen q hq
theorem Chain.of:∀ {l:List Int} {last:Int},l.Pairwise (· < ·)→(∀ c∈l,last<c∧c≤65535)→Chain last l
 | [],_,_,_=>trivial
 | x::r,last,h1,h2=>by
  obtain⟨h3,h4⟩:=List.pairwise_cons.1 h1
  exact⟨(h2 x (by simp)).1,(h2 x (by simp)).2,Chain.of h4 fun c hc=>⟨h3 c hc,(h2 c (by simp[hc])).2⟩⟩
theorem zyQ {es:EsT} (hE:InvE es) {l:List Mk} (hs:l.Pairwise zbQ) (hp:l.Perm (es.map zby)):FormP l:=by
 refine⟨fun m hm=>?_,hs⟩
 obtain⟨q,hq,rfl⟩:=List.mem_map.1 (hp.mem_iff.1 hm)
 obtain⟨⟨c1,c2,c3⟩,c4⟩:=hE.can q hq
 obtain⟨⟨k1,k2,k3,k4⟩,k5⟩:=hE.range q hq
 dsimp only [zby]
 refine⟨⟨k1,(show q.1.1<64 by omega),k3,k4,c1,?_⟩,c4.imp id fun h=>List.length_pos_iff.2 h,Chain.of c2 fun c hc=>⟨c3 c hc,k5 c (.inr hc)⟩⟩
 dsimp only
 by_cases h0:0<q.2.up
 ·exact k5 q.2.up (.inl ⟨by omega,Int.le_refl _⟩)
 ·omega
theorem zlS:∀ (u:List Int) (k:Nat),(zau k u).Pairwise fun x y=>x.1<y.1
 | [],_ => .nil
 | n::r,k=>by
  unfold zau
  split
  ·refine List.pairwise_cons.2 ⟨fun y hy=>?_,zlS r (k+1)⟩
   have:=zef r (k+1) y hy
   dsimp only;omega
  ·exact zlS r (k+1)
theorem znA:∀ (u:List Int) (k:Nat) (x:Int×Int),x∈zau k u→x.2∈u∧x.2=u.getD (x.1.toNat - k) 0
 | [],_,x,h=>by cases h
 | n::r,k,x,h=>by
  have more:x∈zau (k+1) r→x.2∈n::r∧x.2=(n::r).getD (x.1.toNat - k) 0:=fun h=>by
   obtain⟨h1,h2⟩:=znA r (k+1) x h
   have h3:=zef r (k+1) x h
   refine⟨by simp[h1],?_⟩
   rw[show x.1.toNat - k=(x.1.toNat - (k+1))+1 by omega]
   rw[List.getD_cons_succ];exact h2
  unfold zau at h
  split at h
  ·rcases List.mem_cons.1 h with rfl|h
   ·simp
   ·exact more h
  ·exact more h
theorem GoS.nexts {S:StR} {es:EsT} (hI:zdA S) (h:GoS S es):zrq S.self S.epoch (zad S.used):=by
 refine⟨⟨fun n hn=>?_,zlS _ _,fun hne he=>?_⟩,hI.epoch⟩
 ·have h1:=zef _ _ n hn
  obtain⟨h2,h3⟩:=znA _ _ n hn
  have h4:=hI.used _ h2
  have hu:=hI.ulen
  refine⟨by omega,fun e=>?_,by omega,by omega⟩
  rw[Nat.sub_zero,e,h.own] at h3
  omega
 ·obtain⟨x,r,e⟩:=List.exists_cons_of_ne_nil hne
  have hx:x∈zad S.used:=by rw[e];simp
  have h1:=zef _ _ x hx
  have h2:=h.none he _ (znA _ _ x hx).1
  omega
theorem GoS.form {S:StR} {es:EsT} (hI:zdA S) (hE:InvE es) (h:GoS S es) {l:List Mk} (hs:l.Pairwise zbQ) (hp:l.Perm (es.map zby)):zjP S.self S.epoch (zad S.used) S.l l:=by
 refine⟨h.nexts hI,⟨fun m hm=>?_,hI.nodup⟩,fun m hm=>?_,zyQ hE hs hp⟩
 ·obtain⟨h1,h2,h3⟩:=hI.msgs m hm
  refine⟨h1,h2,fun ho=>?_⟩
  have h4:=h3 ho
  by_cases he:m.id.e=S.epoch
  ·refine .inr ⟨he,?_⟩
   have:=h.held m hm ho he
   have hr:=zgm (za6 h1).1
   rw[zkE hI (by omega)]
   exact this
  ·exact .inl (by omega)
 ·obtain⟨q,hq,rfl⟩:=List.mem_map.1 (hp.mem_iff.1 hm)
  exact h.seen q hq
theorem GoS.check {S:StR} {es:EsT} (hI:zdA S) (hE:InvE es) (hr:(zaH es:Int)≤S.qg) (hg:¬zbn S.self S.qh S.qb S.qg) (h:GoS S es) {l:List Mk} (hs:l.Pairwise zbQ) (hp:l.Perm (es.map zby)):CheckS S.qh S.qb S.qg S.self S.epoch (zad S.used) S.l l 0:=by
 refine .inr (.inr (.inr ⟨hg,h.form hI hE hs hp,fun hf=>?_,rfl⟩))
 have hq:=hI.qh
 have hb:=hI.qb
 have hsum:zcr l=zaH es:=by
  have:=(hp.map fun m=>m.more.length).sum_nat
  rw[List.map_map] at this
  exact this
 unfold zeP at hf
 rw[hsum] at hf
 omega
theorem zyR {S:StR} {es:EsT} (hI:zdA S) (h:GoS S es):zaF (zad S.used)=S.used:=by
 have hu:=hI.ulen
 apply List.ext_getElem?
 intro i
 by_cases hi:i<64
 ·have h1:=zlR (h.nexts hI).1 (d:=i) (by omega)
  have h2:=zkE hI (d:=i) (by omega)
  rw[h1] at h2
  unfold zcg at h2
  simp only[Int.toNat_natCast] at h2
  have l1:i<(zaF (zad S.used)).length:=by rw[zbZ];exact hi
  have l2:i<S.used.length:=by omega
  rw[List.getD_eq_getElem?_getD,List.getD_eq_getElem?_getD,List.getElem?_eq_getElem l1,List.getElem?_eq_getElem l2] at h2
  rw[List.getElem?_eq_getElem l1,List.getElem?_eq_getElem l2]
  exact congrArg some h2
 ·rw[List.getElem?_eq_none (by rw[zbZ];omega),List.getElem?_eq_none (by omega)]
end Go.Proofs.YtpdkkbpkplhdpaaGreat
namespace Go.Proofs.YtpdkkbpkplhdpaaGreat
open Go Go.Vm
attribute [local irreducible] Brn Ob Grow CallsM inR zaD zaC Mem.row Mem.cells Mem.setCells Mem.upd Go.Vm.Own zaG za7 za9 zaR New SrcOk subA NewSl Mem.textAt Mem.mapAt Mem.iterAt zaB zam Wr NewEls Elems
set_option maxRecDepth 10000
structure Hd where
 p:Nat
 b:Nat
 sp:Nat
 sb:Nat
 came:Int
 xs:HsT
 es:EsT
@[reducible] def zvO (B M:Mem) (S:StR) (x:Hd):Prop:=FreshSt B M x.p x.b x.sp x.sb S x.came x.xs x.es
@[reducible] def hB (x:Hd):Nat→Prop:=stB x.p x.b x.sp x.sb x.xs x.es
structure Two (B M:Mem) (S U:StR) (x y:Hd):Prop where
 one:zvO B M S x
 two:zvO B M U y
 apart:∀ z,hB x z→¬hB y z
variable {B M:Mem} {S U:StR} {x y:Hd}
end Go.Proofs.YtpdkkbpkplhdpaaGreat
