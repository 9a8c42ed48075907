/- Part. -/
import Derived.Test.YtlgbofpennelhaaGreatJ15
import Derived.Test.YtlgbofpennelhaaGreatJ14
set_option linter.all false
set_option maxHeartbeats 0
namespace Go.Proofs.YtlgbofpennelhaaGreat
open Go Go.Vm
section
variable {D:ze} {L:zaM} {last:Int} {l:List FileR} {put:List (List UInt8)} {safe:Nat}
theorem zB1 (h:InvD D) (L:zaM):InvD (syncL D L).1:=by
 unfold syncL;repeat' split
 all_goals first|exact h|exact zoo h _
theorem zz5 (h:InvD D) (L:zaM):InvD (beginL D L).1:=by
 unfold beginL;repeat' split
 all_goals exact zB1 h L
theorem zB2 {q:List UInt8} (h:¬zgj q≠0):zcV q:=by
 unfold zgj at h;unfold zcV;split at h
 ·simp at h
 ·omega
theorem zz6 (hi:InvD D) (keep:List Int) {n:ByteArray} {f:FileR} (h:zh D.l n=some f):∃ i,zh (zaR D keep).l n=some (zef keep i f):=by
 obtain⟨h1,h2⟩:=(zaw hi.sort).1 h;obtain⟨i,hlt,he⟩:=Ybi h1;refine⟨i,(zaw (zmu hi keep).sort).2 ⟨?_,h2⟩⟩
 have:(zaR D keep).l[i]? = some (zef keep i f):=by
  unfold zaR;dsimp only;rw[Yc0,Yb hlt,he];rfl
 exact Yak this
theorem zz7 (keep:List Int) {n:ByteArray} (h:zh D.l n=none):zh (zaR D keep).l n=none:=by
 rw[findR_none] at h ⊢;intro f hf e;have hn:=zjF (D:=D) keep
 have:f.name∈D.l.map (·.name):=by rw[←hn];exact Yj.2 ⟨f,hf,rfl⟩
 obtain⟨f',hf',e2⟩:=Yj.1 this;exact h f' hf' (by rw[e2,e])
theorem zgD {D:ze} {s:ByteArray} {f:FileR} (hd:D.down=false) (hn:zbX s=true) (hf:zh D.l s=some f):zax D s=(f.all,0)∧zaH D s=0∧zt D s=f:=by
 have hr:zaH D s=0:=by unfold zaH za5;simp[hd,hn,hf]
 have hfi:zt D s=f:=by unfold zt;rw[hf];rfl
 refine⟨?_,hr,hfi⟩;unfold zax;rw[if_neg (by simp[hr]),hfi]
theorem ztU {D:ze} {s:ByteArray} (hd:D.down=false) (hn:zbX s=true) (hf:zh D.l s=none):(zax D s).2=4:=by
 have hr:zaH D s=4:=by unfold zaH za5;simp[hd,hn,hf]
 unfold zax;rw[if_pos (by omega),hr]
theorem zxy {α:Type} {p:α→Bool}:∀ {l:List α},(∀ x∈l,p x=false)→l.filter p=[]
 | [],_=>rfl
 | x::l,h=>by simp_all
theorem zB3 {D:ze} {pick:Int→Bool} (h:∀ f∈D.l,0<zcO f.name→pick (zcO f.name)=false):zbp D pick=[]:=by
 unfold zbp;refine zxy fun x hx=>?_
 obtain⟨f,hf,rfl⟩:=Yj.1 hx;by_cases h0:0<zcO f.name
 ·simp_all
 ·simp_all
end
section
variable {D E:ze}
structure PowW (D:ze):Prop where
 inv:InvD D
 nm:NamesW D
 down:D.down=false
 left:D.left = -1
def okK (k:Int):Prop:=1≤k∧k≤99999
theorem PowW.read (h:PowW D) {k:Int} (hk:okK k) {f:FileR} (hf:zh D.l (zb k)=some f):zax D (zb k)=(f.all,0)∧zaH D (zb k)=0∧zt D (zb k)=f:=zgD h.down (zcW hk) hf
theorem zic (h:PowW D) (l:List FileR):zbq D l=⟨D.limit,l, -1,false⟩:=by unfold zbq;rw[h.left];rfl
theorem PowW.cut (h:PowW D) {k:Int} (hk:okK k) {f:FileR} (hf:zh D.l (zb k)=some f) {m:Nat} (hm:m≤f.all.size) :
  (zcC D (zb k) m).2=0∧PowW (zcC D (zb k) m).1∧∀ n,zh (zcC D (zb k) m).1.l n=if n=zb k then some ⟨zb k,f.all.extract 0 m,.empty⟩ else zh D.l n:=by
 obtain⟨-, h2,h3⟩:=h.read hk hf
 have e:zcC D (zb k) m=(zbq D (zbk D.l ⟨zb k,f.all.extract 0 m,.empty⟩),0):=by
  unfold zcC;rw[if_neg (by simp[h2]),h3,if_neg oM];rfl
 have hi:=zwa h.inv (zb k) (m:Int);have hn:=h.nm.cut k (m:Int)
 rw[e] at hi hn ⊢;refine⟨rfl,⟨hi,hn,by rw[zic h],by rw[zic h]⟩,fun n=>?_⟩;exact zdF h.inv.sort _ n
theorem PowW.remove (h:PowW D) {k:Int} (hk:okK k) {f:FileR} (hf:zh D.l (zb k)=some f) :
  (zae D (zb k)).2=0∧PowW (zae D (zb k)).1∧∀ n,zh (zae D (zb k)).1.l n=if n=zb k then none else zh D.l n:=by
 obtain⟨-, h2, -⟩:=h.read hk hf;have e:zae D (zb k)=(zbq D (zba D.l (zb k)),0):=by unfold zae;rw[if_neg (by simp[h2])]
 have hi:=zer h.inv (zb k);have hn:=h.nm.remove (zb k)
 rw[e] at hi hn ⊢;refine⟨rfl,⟨hi,hn,by rw[zic h],by rw[zic h]⟩,fun n=>?_⟩;exact zgH h.inv.sort _ n
theorem zwg {j k:Int} (hj:okK j) (hk:okK k):zb j=zb k↔j=k:=⟨fun e=>zjH (by unfold okK at hj;omega) (by unfold okK at hk;omega) e,fun e=>by rw[e]⟩
theorem zm1:∀ {ks:List Int} {D:ze},PowW D→ks.Nodup→(∀ k∈ks,okK k∧∃ f,zh D.l (zb k)=some f) →
  (removeAll D ks).2=0∧PowW (removeAll D ks).1∧∀ k,okK k→zh (removeAll D ks).1.l (zb k)=if k∈ks then none else zh D.l (zb k)
 | [],D,h,_,_=>⟨rfl,h,fun k _=>by rfl⟩
 | k::r,D,h,hn,hk=>by
  obtain⟨h1,f,h2⟩:=hk k oS;obtain⟨g1,g2,g3⟩:=h.remove h1 h2;rw[Yax] at hn;rw[removeAll,if_neg (by simp[g1])]
  obtain⟨a1,a2,a3⟩:=zm1 g2 hn.2 fun j hj=>by
   obtain⟨b1,f2,b2⟩:=hk j (by simp[hj]);refine⟨b1,f2,?_⟩;have hne:¬zb j=zb k:=fun e=>hn.1 ((zwg b1 h1).1 e▸hj)
   rw[g3,if_neg hne];exact b2
  refine⟨a1,a2,fun j hj=>?_⟩;rw[a3 j hj];have g:=g3 (zb j)
  by_cases e:j=k
  ·simp_all
  ·have hne:¬zb j=zb k:=fun q=>e ((zwg hj h1).1 q)
   rw[if_neg hne] at g;by_cases e2:j∈r
   ·simp_all
   ·simp_all
theorem zz8 (h:PowW D) (pick:Int→Bool):(zbp D pick).Nodup:=by
 have h1:(D.l.map fun f=>zcO f.name).Pairwise fun a b=>a≠b∨a≤0:=by
  rw[Yay];refine List.Pairwise.imp_of_mem (fun {x y} hx hy hxy=>?_) h.inv.sort;rcases h.nm.num hx with ⟨-, h1⟩|⟨-, h1⟩
  ·rcases h.nm.num hy with ⟨h4,h2⟩|⟨-, h2⟩
   ·refine .inl fun e=>?_
    rw[h1,h2,e,zcS] at hxy;cases hxy
   ·omega
  ·omega
 unfold zbp List.Nodup;refine List.Pairwise.imp_of_mem (fun {x y} hx hy hxy=>?_) (h1.filter _);rw[Ya1] at hx
 have h0:0<x:=by
  have:=hx.2;simp only[Yu,decide_eq_true_eq] at this;exact this.1
 rcases hxy with h2|h2
 ·exact h2
 ·omega
end
section
variable {D:ze} {L:zaM} {f0 last:Int} {l:List FileR} {put:List (List UInt8)} {safe:Nat}
structure SegI (f0 last:Int) (l:List FileR) (put:List (List UInt8)) (safe:Nat):Prop where
 ok:∀ q∈put,zcV q
 f1:1≤f0∧f0≤last∧last≤99999
 names:∀ f∈l,(∃ k:Int,1≤k∧k≤last∧f.name=zb k)∨zhz f.name
 seg:∃ (parts:List (List (List UInt8))) (cur:List (List UInt8)),(parts.length:Int)+f0=last∧put=parts.flatten++cur ∧
  (∀ (i:Nat) q,parts[i]? = some q→∃ s:ByteArray,zh l (zb (f0+i))=some ⟨zb (f0+i),s,.empty⟩∧bl s=zbo q)∧zDS l last parts.flatten cur safe
theorem SegI.k1 (h:SegI f0 last l put safe):1≤last∧last≤99999:=by have:=h.f1;omega
theorem SegI.start {l:List FileR} {k:Int} (hk:1≤k∧k≤99999) (hn:∀ f∈l,(∃ j:Int,1≤j∧j≤k∧f.name=zb j)∨zhz f.name) (h0:zh l (zb k)=none):SegI k k l [] 0:=
 ⟨by simp,by omega,hn,[],[],by simp,rfl,by simp,.inl ⟨h0,rfl,Yd _⟩⟩
theorem SegI.safe_le (h:SegI f0 last l put safe):safe≤put.length:=by
 obtain⟨parts,cur,h1,h2,h3,h4⟩:=h.seg;rw[h2,Yi];rcases h4 with ⟨_,_,h5⟩|⟨s,t,j,_,_,h6,_,h7⟩<;>omega
theorem SegI.turn (h:SegI f0 last l put safe) (hs:SortedR l) {s t:ByteArray} {q:List (List UInt8)} (hq:∀ p∈q,zcV p) {safe':Nat}
  (hc:∀ parts cur,zDS l last parts cur safe→bl s++bl t=zbo (cur++q)∧∃ j,j≤(cur++q).length∧zap ((cur++q).take j)≤s.size∧safe'≤parts.length+j):SegI f0 last (zbk l ⟨zb last,s,t⟩) (put++q) safe':=by
 obtain⟨parts,cur,h1,h2,h3,h4⟩:=h.seg;obtain⟨h5,j,h6,h7,h8⟩:=hc _ _ h4;have hf1:=h.f1
 refine⟨fun p hp=>?_,h.f1,fun f hf=>?_,parts,cur++q,h1,by rw[h2,Yp],fun i p hp=>?_,.inr ⟨s,t,j,?_,h5,h6,h7,h8⟩⟩
 ·rcases Yt.1 hp with hp|hp
  ·exact h.ok p hp
  ·simp_all
 ·rcases withR_mem.1 hf with rfl|⟨hf,_⟩
  ·grind
  ·exact h.names f hf
 ·obtain⟨s2,g1,g2⟩:=h3 i p hp;have hi:=(Yr.1 hp).1
  refine⟨s2,?_,g2⟩;rw[zdF hs,if_neg]
  ·exact g1
  ·exact zlm oM h.k1 oM
 ·rw[zdF hs,if_pos rfl]
theorem SegI.full (h:SegI f0 last l put safe) (hf:zuR l last):SegI f0 last l put put.length:=by
 obtain⟨parts,cur,h1,h2,h3,h4⟩:=h.seg;refine⟨h.ok,h.f1,h.names,parts,cur,h1,h2,h3,?_⟩;rcases h4 with ⟨h5,h6,h7⟩|⟨s,t,j,h5,h6,h7,h8,h9⟩
 ·exact .inl ⟨h5,h6,by simp_all⟩
 ·have ht:t = .empty:=hf _ h5;refine .inr ⟨s,t,cur.length,h5,h6,Yd _,?_,by simp_all⟩;rw[Yai,←zdN,←h6,ht,zdv,Ys,za4];exact Yd _
theorem SegI.sync (h:SegI f0 L.last D.l put safe) (hi:InvD D):SegI f0 L.last (syncL D L).1.l put safe∧((syncL D L).2.2=0→zuR (syncL D L).1.l L.last):=by
 unfold syncL;split
 ·simp_all
 split
 ·simp_all
 rename_i hd;have hd':D.down=false:=by simpa using hd
 split
 ·rename_i he;refine⟨h,fun _ f hf=>?_⟩;unfold zc0 at he;rw[if_neg hd,zja hd' (zcW h.k1),hf] at he;unfold zgM at he;rw[hf] at he;dsimp only at he;rw[all_size] at he;exact ztT oM
 ·rename_i he;dsimp only;unfold zbM;split
  ·simp_all
  ·rename_i h0;have hf:=(zcA (by simpa using h0)).2
   refine⟨?_,fun _ f hf2=>?_⟩
   ·have:=h.turn hi.sort (s:=(zt D (zb L.last)).all) (t := .empty) (q:=[]) oS (safe':=safe) fun parts cur hc=>by
     rcases hc with ⟨h5,_,_⟩|⟨s,t,j,h5,h6,h7,h8,h9⟩
     ·simp_all
     ·rw[hf] at h5;have h10:=Ycv h5
      rw[h10];refine⟨by rw[zdv,Ys,Ys,FileR.all,zaO];exact h6,j,by simp_all,?_,h9⟩;rw[Ys,all_size];dsimp only;omega
    rw[Ys] at this;exact this
   ·have:zh (zbk D.l ⟨zb L.last,(zt D (zb L.last)).all,.empty⟩) (zb L.last)=some f:=hf2;rw[zdF hi.sort,if_pos rfl] at this;cases this;rfl
theorem SegI.next (h:SegI f0 last l put safe) (hf:zuR l last) (hne:∃ f,zh l (zb last)=some f) (hl:last<99999):SegI f0 (last+1) l put safe:=by
 obtain⟨parts,cur,h1,h2,h3,h4⟩:=h.seg;have hsf:=h.safe_le
 obtain⟨f,hff⟩:=hne;rcases h4 with ⟨h5,_,_⟩|⟨s,t,j,h5,h6,h7,h8,h9⟩
 ·simp_all
 have ht:t = .empty:=hf _ h5;subst ht;have hl1:=h.f1
 refine⟨h.ok,by omega,fun f hf=>?_,parts++[cur],[],by simp;omega,by simp_all,fun i q hq=>?_,.inl ⟨?_,rfl,by simp_all⟩⟩
 ·rcases h.names f hf with ⟨k,g1,g2,g3⟩|g
  ·grind
  ·exact .inr g
 ·by_cases hi:i<parts.length
  ·grind
  ·rw[Yas oM] at hq
   have hi0:i - parts.length=0:=by
    have:=(Yr.1 hq).1;simp at this;omega
   rw[hi0] at hq;simp at hq;subst hq;have e:f0+(i:Int)=last:=by omega
   rw[e];exact⟨s,h5,by rw[zdv,Ys] at h6;exact h6⟩
 ·rw[findR_none];intro f hf e;rcases h.names f hf with ⟨k,g1,g2,g3⟩|g
  ·rw[g3] at e;exact zlm oM oM oM e
  ·rw[e] at g;have:=zf8 g
   rw[zcs oM] at this;omega
theorem SegI.begin (h:SegI f0 L.last D.l put safe) (hi:InvD D):SegI f0 (beginL D L).2.1.last (beginL D L).1.l put safe∧((beginL D L).2.2.2=0→SegI f0 (beginL D L).2.1.last (beginL D L).1.l put put.length∧zuR (beginL D L).1.l (beginL D L).2.1.last)∧(beginL D L).2.1.last≤L.last+1:=by
 obtain⟨g1,g2⟩:=h.sync hi;have g3:=zB0 D L
 unfold beginL;split
 ·grind
 rename_i he;have gs:=g2 (by omega)
 split
 ·dsimp only;rw[g3];exact⟨g1,fun _=>⟨g1.full gs,gs⟩,by omega⟩
 rename_i hl;split
 ·simp_all
 rename_i hm;dsimp only
 have hne:∃ f,zh (syncL D L).1.l (zb L.last)=some f:=by
  cases hf:zh (syncL D L).1.l (zb L.last) with
  | some f=>simp
  | none=>
   exfalso;apply hl;unfold zc0;split
   ·unfold zgM;rw[hf]
   ·rename_i hd;rw[zja (by simpa using hd) (zcW h.k1),hf];rfl
 have hlt:L.last<99999:=by have:=h.f1;omega
 have hx:=(g1.full gs).next gs hne hlt;refine⟨g1.next gs hne hlt,fun _=>⟨hx,fun f hf=>?_⟩,Yaj _⟩;obtain⟨parts,cur,h1,h2,h3,h4⟩:=hx.seg
 have hnone:zh (syncL D L).1.l (zb (L.last+1))=none:=by
  rw[findR_none];intro f hf e;rcases g1.names f hf with ⟨k,q1,q2,q3⟩|g
  ·have:=h.f1;rw[q3] at e;exact zlm oM oM oM e
  ·rw[e] at g;have:=zf8 g
   have:=h.f1;rw[zcs oM] at *;omega
 have hf':zh (syncL D L).1.l (zb (L.last+1))=some f:=hf;rw[hnone] at hf';cases hf'
theorem SegI.app1 (h:SegI f0 last D.l put safe) (hi:InvD D) {q:List UInt8} (hq:zcV q) :
  ((zay D (zb last) (zam q)).2=0→SegI f0 last (zay D (zb last) (zam q)).1.l (put++[q]) safe)∧((zay D (zb last) (zam q)).2≠0→SegI f0 last (zay D (zb last) (zam q)).1.l put safe):=by
 unfold zay;split
 ·simp_all
 split
 ·simp_all
 refine⟨fun _=>?_,fun e=>absurd rfl e⟩;refine h.turn hi.sort (by simp_all) fun parts cur hc=>?_
 rcases hc with ⟨h5,h6,h7⟩|⟨s,t,j,h5,h6,h7,h8,h9⟩
 ·have e:zt D (zb last)=⟨zb last,.empty,.empty⟩:=by unfold zt;rw[h5];rfl
  rw[e,h6];refine⟨by rw[zaO,zdv,zlZ];simp[zbo],0,Y6 _,by simp[zap],by omega⟩
 ·have e:zt D (zb last)=⟨zb last,s,t⟩:=by unfold zt;rw[h5];rfl
  rw[e];refine⟨by dsimp only;rw[zaO,←Yp,h6,zjG];congr 1;rw[zlZ];simp[zbo],j,by simp;omega,?_,h9⟩;rw[Y5 h7];exact h8
theorem SegI.append (h:SegI f0 L.last D.l put safe) (hi:InvD D) (q:List UInt8) :
  ((zaf D L q).2.2=0→SegI f0 (zaf D L q).2.1.last (zaf D L q).1.l (put++[q]) safe)∧((zaf D L q).2.2≠0→SegI f0 (zaf D L q).2.1.last (zaf D L q).1.l put safe)∧(zaf D L q).2.1.last≤L.last+1:=by
 obtain⟨g1,g2,g3⟩:=h.begin hi;have gi:=zz5 hi L
 unfold zaf;split
 ·grind
 split
 ·grind
 rename_i h0;have hq:=zB2 h0
 split
 ·exact⟨fun e=>(by cases e),fun _=>h,by unfold zdr;dsimp only;omega⟩
 split
 ·rename_i he;unfold zbO at he ⊢;split at he
  ·simp_all
  ·simp_all
 ·unfold zbO;split
  ·obtain⟨a1,a2⟩:=g1.app1 gi hq;exact⟨a1,a2,g3⟩
  ·obtain⟨a1,a2⟩:=h.app1 hi hq;exact⟨a1,a2,by unfold zdr;dsimp only;omega⟩
end
end Go.Proofs.YtlgbofpennelhaaGreat
namespace Go.Proofs.YtlgbofpennelhaaGreat
open Go Go.Vm Go.Proofs.Tryz
attribute [local irreducible] Brn Ob Grow CallsM inR zX zI Mem.row Mem.cells Mem.setCells Mem.upd Go.Vm.Own zac zar zas zab New SrcOk subA NewSl Mem.textAt Mem.mapAt Mem.iterAt zH zF Wr NewEls Elems
set_option maxRecDepth 10000
section
variable {M M0:Mem} {g p b:Nat} {D:ze} {es:FsT}
def dropL (D:ze) (L:zaM) (k:Int):ze×zaM×Int:=
 if L.failed=true then (D,L,7) else if k<L.first∨L.last<k then (D,L,1)
 else ((removeAll D (zbp D fun n=>decide (L.first≤n)&&decide (n<k))).1,
  (if (removeAll D (zbp D fun n=>decide (L.first≤n)&&decide (n<k))).2=0 then { (zdr L (removeAll D (zbp D fun n=>decide (L.first≤n)&&decide (n<k))).2) with first:=k } else zdr L (removeAll D (zbp D fun n=>decide (L.first≤n)&&decide (n<k))).2),
  (removeAll D (zbp D fun n=>decide (L.first≤n)&&decide (n<k))).2)
end
section
variable {M B:Mem} {p b sp sb:Nat} {S:StR} {came:Int} {xs:HsT} {es:EsT} {L:List K} {D:zs0} {ms:List MX}
structure zKX (B M:Mem) (p b sp sb:Nat) (S:StR) (came:Int) (xs:HsT) (es:EsT) (L:List K) (D:zs0) (ms:List MX):Prop where
 own:FreshSt B M p b sp sb S came xs es
 doc:zI4 B S L D ms
 rel:zJ5 es L
structure StB where
 i:Nat
 mem:Mem
 B:Mem
 S:StR
 came:Int
 xs:HsT
 es:EsT
 L:List K
 D:zs0
 ms:List MX
def zI7 (Q:StR→EsT→Prop):Prop:=∀ (S:StR) (es es':EsT) (k:Int) (i:IdT) (p:List UInt8),zkV S→InvE es→Q S es →
 (if zbi S (zej S es) k i p.length=0∧k=4 then zzN S.qg es es' i.o i.d i.e i.c else es'=es)→Q (if zbi S (zej S es) k i p.length=0 then zag S k i p else S) es'
end
section
variable {M M0:Mem} {p b sp sb:Nat} {S:StR} {came:Int} {xs:HsT} {es:EsT}
@[reducible] def zq2 (x:PX):List Value:=[.int .i64 x.id.o,.int .i64 x.id.d,.int .i64 x.id.e,.int .i64 x.id.c,.slice x.a x.p.length x.c,.int .i64 x.n]
theorem zmw (x:PX):(zq2 x).length=6:=rfl
theorem zDT (x:PX):∀ v∈zq2 x,v.oneCell'=true:=by
 intro v hv;simp only[zq2,Yq,Ycp,or_false] at hv;rcases hv with rfl|rfl|rfl|rfl|rfl|rfl<;>rfl
structure PB where
 x:PX
 h:0≤x.n∧x.n≤4611686018427387904
instance:Inhabited PB:=⟨⟨⟨⟨0,0,0,0⟩,none,0,[],0⟩,by simp⟩⟩
def zwh (x:PB):List Value:=zq2 x.x
def zs6 (x y:PB):Int:=x.x.n - y.x.n
theorem zGs (x y:PB):CallsM prog 221 [.agg (zwh x).toArray,.agg (zwh y).toArray] M fun v _=>v = .int .i64 (zs6 x y):=by
 obtain⟨x,hx⟩:=x;obtain⟨y,hy⟩:=y;unfold zwh zs6;refine zlf (by simp) ?_;(conv=>whnf);refine obr (inR_i64 (by first|omega|(dsimp only;omega))) ?_;(conv=>whnf)
theorem zDU:Go.Sort.SWO (Go.Proofs.ltOf zs6):=by
 have h:∀ x y:PB,Go.Proofs.ltOf zs6 x y=decide (x.x.n<y.x.n):=fun x y=>by
  unfold Go.Proofs.ltOf zs6;rw[decide_eq_decide];omega
 refine⟨fun x=>?_,fun x y z=>?_,fun x y z=>?_⟩<;>simp only[h,decide_eq_true_eq,decide_eq_false_iff_not]<;>omega
theorem zqf:∀ {l l':List PX},l.Perm l'→l.Pairwise (fun x y=>x.n<y.n)→l'.Pairwise (fun x y=>x.n≤y.n)→l=l'
 | [],l',hp,_,_=>(List.nil_perm.1 hp).symm
 | x::r,l',hp,h1,h2=>by
  cases l' with
  | nil=>exact absurd hp.length_eq (by simp)
  | cons y r'=>
   have hxy:x=y:=by
    rcases Yq.1 (hp.mem_iff.1 (by simp:x∈x::r)) with e|e
    ·exact e
    ·rcases Yq.1 (hp.mem_iff.2 (by simp:y∈y::r')) with e'|e'
     ·exact e'.symm
     ·have g1:=(Yy.1 h1).1 y e';have g2:=(Yy.1 h2).1 x e
      omega
   subst hxy;rw[zqf (List.Perm.cons_inv hp) (Yy.1 h1).2 (Yy.1 h2).2]
theorem zFp:∀ (l:List PX),(∀ x∈l,0≤x.n∧x.n≤4611686018427387904)→∃ l':List PB,l'.map PB.x=l
 | [],_=>⟨[],rfl⟩
 | x::r,h=>by
  obtain⟨r',hr⟩:=zFp r fun y hy=>h y (by simp[hy])
  exact⟨⟨x,h x (by simp)⟩::r',by simp[hr]⟩
theorem ztV (l:List PB):l.flatMap zwh=(l.map PB.x).flatMap zq2:=by
 rw[List.flatMap_map];rfl
structure HeldAt (M0:Mem) (a:Option Addr) (n c:Nat) (ms:List MX) (M':Mem):Prop where
 row:NewSl M0 82 5 a n c (ms.flatMap zzR) M'
 data:∀ m∈ms,NewSl M0 5 1 m.a m.p.length m.c (m.p.map zc) M'
 apart:ms.Pairwise fun x y=>∀ z,blk x.a z→¬blk y.a z
theorem HeldAt.msgs {a:Option Addr} {n c:Nat} {ms:List MX} {M':Mem} (h:HeldAt M0 a n c ms M'):MsgsR M' a n ms:=⟨h.row.src,fun m hm=>(h.data m hm).src⟩
theorem HeldAt.up {a:Option Addr} {n c:Nat} {ms:List MX} {M' M2:Mem} (h:HeldAt M0 a n c ms M') (hle:M'.le M2):HeldAt M0 a n c ms M2:=⟨h.row.up hle,fun m hm=>(h.data m hm).up hle,h.apart⟩
theorem HeldAt.len {a:Option Addr} {n c:Nat} {ms:List MX} {M':Mem} (h:HeldAt M0 a n c ms M'):ms.length=n:=h.row.src.flen zqZ (by decide)
@[reducible] def zH2 (x:PX) (a:Option Addr) (c:Nat):MX:=⟨x.id,a,c,x.p⟩
theorem zys (h:FreshSt M0 M p b sp sb S came xs es) (hcm:came≤4611686018427387904):CallsM prog 144 [ptr p] M fun v M'=>
  ∃ a n c ms,v = .slice a n c∧HeldAt M a n c ms M'∧ms.map MX.msg=S.l:=by
 refine znb (by simp) ?_;have hA:=h.at'
 have hI:=h.inv;have hqh:=hI.qh
 have hxl:xs.length=S.l.length:=by rw[←hA.held,Ya3]
 have hpl:∀ q∈xs,q.2.p.length≤48:=fun q hq=>by
  have hm:q.2.msg∈S.l:=by rw[←hA.held];exact Yj.2 ⟨q,hq,rfl⟩
  exact(zdd (hI.msgs _ hm).1).2.2
 (conv=>whnf);refine brn_f rfl ?_;(conv=>whnf);refine on (hA.self.c1 (zfN hI.ulen ..)) ?_;(conv=>whnf)
 refine hA.map.range fun q bi hbi hIt=>?_
 replace hbi:M bi=none:=hbi;(conv=>whnf)
 refine zan (σ:=Mem×(Option Addr×Nat×Nat)×List PX×HsT) [3] (fun x=>[(3,.slice x.2.1.1 x.2.1.2.1 x.2.1.2.2)]) (fun _=>[]) (fun x=>x.1)
  (fun|⟨M1,(a,n,c),l,todo⟩=>NewSl M 324 6 a n c (l.flatMap zq2) M1∧Iter idA pxV M1 bi b xs todo∧(l++todo.map (·.2)).Perm (xs.map (·.2))) (fun x=>x.2.2.2.length) ⟨_,(none,0,0),[],xs⟩
  ⟨(Yat M _ _).up (Ya6 hbi),hIt,.refl _⟩ zS ?_
 rintro ⟨M1,⟨a,n,c⟩,l,todo⟩ ⟨hN,hI1,hperm⟩;(conv=>whnf)
 refine hI1.next (fun h0=>?_) (fun i k todo' o' hperm2 hI2 hent=>?_)
 ·subst h0;simp only[Yb5,Ys] at hperm;have hll:l.length=n:=hN.src.flen zmw (by decide)
  have hbl:∀ x∈l,0≤x.n∧x.n≤4611686018427387904:=fun x hx=>by
   obtain⟨q,hq,rfl⟩:=Yj.1 (hperm.mem_iff.1 hx);have:=hA.came.2 q hq
   omega
  obtain⟨lb,rfl⟩:=zFp l hbl;rw[←ztV] at hN;have hnx:n=xs.length:=by have:=hperm.length_eq;simp at this hll;omega
  refine zR ?_;refine(zqT Tryz.laysP (by kernel_rfl) (enc:=zwh) (k:=6) (by decide) isAgg324 sizeOf324 (fun x:PB=>zmw x.x) (fun x:PB=>zDT x.x) zDU (g:=221) (fun args w=>zhf (by kernel_rfl) args w) (fun x y=>zGs x y) hN.wr (by omega)).mono ?_;rintro v M5 ⟨rfl,l',hp',hs',hw',hk'⟩;have hN5:=hN.ofWr hw' hk' rfl
  rw[ztV] at hN5
  have hl':l'.map PB.x=xs.map (·.2):=by
   refine(zqf ((hp'.map PB.x).trans hperm).symm ?_ ?_).symm
   ·rw[Yay];exact hA.ord
   ·rw[Yay];refine hs'.imp fun {x y} hxy=>?_
    unfold zs6 at hxy;omega
  rw[hl'] at hN5;have hle5:M.le M5:=hN5.le
  (conv=>whnf)
  refine zan (σ:=Nat×Mem×(Option Addr×Nat)×List MX) [28,6] (fun x=>[(28,.int .i64 x.1),(6,.slice x.2.2.1.1 x.2.2.2.length x.2.2.1.2)]) (fun _=>[]) (fun x=>x.2.1)
   (fun|⟨j,M6,(a6,c6),ms⟩=>j≤n∧HeldAt M5 a6 ms.length c6 ms M6∧ms.map MX.msg=(xs.take j).map (fun q=>q.2.msg)) (fun x=>n - x.1) ⟨0,M5,(none,0),[]⟩
   ⟨by omega,⟨Yat M5 _ _,by simp,by simp⟩,by simp⟩ zS ?_
  rintro ⟨j,M6,⟨a6,c6⟩,ms⟩ ⟨hj,hH,hms⟩;have hle6:=hH.row.le
  have hmsl:ms.length=j:=by have:=congrArg List.length hms;simp at this;omega
  (conv=>whnf);refine brn (fun g=>?_) (fun g=>?_)
  rotate_left
  ·have hge:n≤j:=by have:=Zd1 g;dsimp only at this;omega
   rw[Yf (by omega),hA.held] at hms;refine zR ?_;exact⟨a6,_,c6,ms,rfl,⟨hH.row.mono hle5,fun m hm=>(hH.data m hm).mono hle5,hH.apart⟩,hms⟩
  have hlt:j<n:=by have:=Zd0 g;dsimp only at this;omega
  have hjx:j<xs.length:=by omega
  have hx:(xs.map (·.2))[j]? = some xs[j].2:=by rw[Ybd,Yb hjx];rfl
  obtain⟨b1,o1,ha,hcc⟩:=hN5.src.fparts zmw (by decide) hx;have htk:xs.take (j+1)=xs.take j++[xs[j]]:=by rw[Yz,Yb hjx];rfl
  have hmem:xs[j]∈xs:=Yab _;generalize xs[j]=q at *;have hd6:=(hA.data q hmem).src.le (Yc hle5 hle6)
  have hq48:=hpl q hmem;(conv=>whnf);refine ob (by first|omega|(dsimp only;omega)) ?_;(conv=>whnf);refine atp ha ?_;(conv=>whnf);refine on (Yc5 hle6 (hcc 0 6 (by decide))) ?_;refine zR ?_;refine new (fun b9 hb9=>?_);replace hb9:M6 b9=none:=hb9;have hN7:NewSl M6 5 1 (some ⟨b9,0,none⟩) 0 0 (([]:List UInt8).map zc) _:=Ybb hb9 5 1 0 [] rfl
  obtain⟨M7,hM7⟩:∃ M7,M7=M6.setCells b9 5 []:=⟨_,rfl⟩
  rw[←hM7] at hN7;(conv=>whnf)
  erw [←hM7];refine zR ?_;refine zce (hd6.le hN7.le) ?_;(conv=>whnf);refine zcp M6 _ hN7 (by first|omega|(dsimp only;omega)) (by simp[maxLen]<;>omega) (zaN _) fun a8 c8 M8 hN8=>?_
  rw[Yan q.2.p.length] at hN8;rw[Yan q.2.p.length];have hH8:=hH.up hN8.le
  refine zT (hN8.le) ?_;refine zR ?_;refine zvx M5 hH8.row (zH2 q.2 a8 c8) rfl (by first|omega|(dsimp only;omega)) (by simp[maxLen];omega) (by simp[Value.oneCell']) fun a9 c9 M9 hN9 hk9=>?_
  have hfr:∀ y,blk a6 y→M5 y=none:=fun y ⟨q,hq,e⟩=>e▸(hH8.row.block hq).1
  have hnew:NewSl M5 5 1 a8 q.2.p.length c8 (q.2.p.map zc) M8:=hN8.mono hle6;refine zR ?_;refine obr (inR_i64 (by first|omega|(dsimp only;omega))) ?_;(conv=>whnf)
  refine⟨⟨j+1,M9,(a9,c9),ms++[zH2 q.2 a8 c8]⟩,⟨by omega,⟨by simpa using hN9,fun m hm=>?_,?_⟩,?_⟩,by dsimp only;omega,?_⟩
  ·rcases Yt.1 hm with hm|hm
   ·exact(hH8.data m hm).keep hk9 hfr fun q hq ⟨q',hq',e⟩=>hH8.row.ne (hH8.data m hm) (by decide) hq' hq e
   ·simp only[Yx] at hm;subst hm;exact hnew.keep hk9 hfr fun q hq ⟨q',hq',e⟩=>hH8.row.ne hnew (by decide) hq' hq e
  ·rw[Yau];refine⟨hH.apart,by simp,fun m hm y hy z hz hz'=>?_⟩;simp only[Yx] at hy;subst hy;obtain⟨q1,hq1,e1⟩:=hz;obtain⟨q2,hq2,e2⟩:=hz';obtain⟨_,cs,hh⟩:=(hH.data m hm).block hq1;have h0:=(hN8.block hq2).1
   unfold Mem.has at hh;rw[e2,←e1,hh] at h0;cases h0
  ·rw[Y4,hms,htk,Y4];rfl
  ·simp only[Yi,Ym,Yal];exact zS
 ·have hk2:Mem.keep (fun y=>y=bi) M1 (M1.upd bi o'):=Yae _ _ rfl
  have hN2:NewSl M 324 6 a n c (l.flatMap zq2) (M1.upd bi o'):=hN.keep hk2 (fun y e=>e▸hbi) (fun q hq e=>by
   obtain⟨_,cs,hh⟩:=hN.block hq
   exact(hI1.nb hh).1 e)
  obtain⟨M2,hM2⟩:∃ M2,M2=M1.upd bi o':=⟨_,rfl⟩
  rw[←hM2] at hI2 hent hN2;have hlt:l.length<xs.length:=by have:=hperm.length_eq;have:=hperm2.length_eq;simp at *; omega
  have hll:l.length=n:=hN2.src.flen zmw (by decide);(conv=>whnf)
  erw [←hM2];refine zR ?_;refine on hent ?_;refine zR ?_;refine zvx M hN2 k (by simp) (by first|omega|(dsimp only;omega)) (by simp[maxLen];omega) (by simp[Value.oneCell']) fun a6 c6 M6 hN6 hk6=>?_
  have hnb:∀ y,blk a y→y≠bi∧y≠b:=fun y ⟨q,hq,e⟩=>by
   obtain⟨_,cs,hh⟩:=hN2.block hq;exact e▸hI2.nb hh
  have hI6:=hI2.keep hk6 (fun hb=>(hnb _ hb).1 rfl) (fun hb=>(hnb _ hb).2 rfl);(conv=>whnf)
  refine⟨⟨M6,(a6,n+1,c6),l++[k],todo'⟩,⟨hN6,hI6,?_⟩,by have:=hperm2.length_eq;simp at this ⊢; omega,zS⟩;refine List.Perm.trans ?_ hperm;rw[Yp];refine Yde _ ?_;have:=hperm2.map (·.2)
  simpa using this.symm
end
section
variable {M M0:Mem} {p b sp sb:Nat} {S:StR} {came:Int} {xs:HsT} {es:EsT}
@[reducible] def zDV (c:Nat→Int):List Value:=[.int .i64 (c 0),.int .i64 (c 1),.int .i64 (c 2),.int .i64 (c 3),.int .i64 (c 4),.int .i64 (c 5),.int .i64 (c 6),.int .i64 (c 7),.int .i64 (c 8),.int .i64 (c 9),.int .i64 (c 10),.int .i64 (c 11),.int .i64 (c 12),.int .i64 (c 13),.int .i64 (c 14),.int .i64 (c 15),.int .i64 (c 16),.int .i64 (c 17),.int .i64 (c 18),.int .i64 (c 19),.int .i64 (c 20),.int .i64 (c 21),.int .i64 (c 22),.int .i64 (c 23),.int .i64 (c 24),.int .i64 (c 25),.int .i64 (c 26),.int .i64 (c 27),.int .i64 (c 28),.int .i64 (c 29),.int .i64 (c 30),.int .i64 (c 31),.int .i64 (c 32),.int .i64 (c 33),.int .i64 (c 34),.int .i64 (c 35),.int .i64 (c 36),.int .i64 (c 37),.int .i64 (c 38),.int .i64 (c 39),.int .i64 (c 40),.int .i64 (c 41),.int .i64 (c 42),.int .i64 (c 43),.int .i64 (c 44),.int .i64 (c 45),.int .i64 (c 46),.int .i64 (c 47),.int .i64 (c 48),.int .i64 (c 49),.int .i64 (c 50),.int .i64 (c 51),.int .i64 (c 52),.int .i64 (c 53),.int .i64 (c 54),.int .i64 (c 55),.int .i64 (c 56),.int .i64 (c 57),.int .i64 (c 58),.int .i64 (c 59),.int .i64 (c 60),.int .i64 (c 61),.int .i64 (c 62),.int .i64 (c 63)]
@[reducible] def zDW (c:Nat→Int):List SC:=[.v (.int .i64 (c 0)),.v (.int .i64 (c 1)),.v (.int .i64 (c 2)),.v (.int .i64 (c 3)),.v (.int .i64 (c 4)),.v (.int .i64 (c 5)),.v (.int .i64 (c 6)),.v (.int .i64 (c 7)),.v (.int .i64 (c 8)),.v (.int .i64 (c 9)),.v (.int .i64 (c 10)),.v (.int .i64 (c 11)),.v (.int .i64 (c 12)),.v (.int .i64 (c 13)),.v (.int .i64 (c 14)),.v (.int .i64 (c 15)),.v (.int .i64 (c 16)),.v (.int .i64 (c 17)),.v (.int .i64 (c 18)),.v (.int .i64 (c 19)),.v (.int .i64 (c 20)),.v (.int .i64 (c 21)),.v (.int .i64 (c 22)),.v (.int .i64 (c 23)),.v (.int .i64 (c 24)),.v (.int .i64 (c 25)),.v (.int .i64 (c 26)),.v (.int .i64 (c 27)),.v (.int .i64 (c 28)),.v (.int .i64 (c 29)),.v (.int .i64 (c 30)),.v (.int .i64 (c 31)),.v (.int .i64 (c 32)),.v (.int .i64 (c 33)),.v (.int .i64 (c 34)),.v (.int .i64 (c 35)),.v (.int .i64 (c 36)),.v (.int .i64 (c 37)),.v (.int .i64 (c 38)),.v (.int .i64 (c 39)),.v (.int .i64 (c 40)),.v (.int .i64 (c 41)),.v (.int .i64 (c 42)),.v (.int .i64 (c 43)),.v (.int .i64 (c 44)),.v (.int .i64 (c 45)),.v (.int .i64 (c 46)),.v (.int .i64 (c 47)),.v (.int .i64 (c 48)),.v (.int .i64 (c 49)),.v (.int .i64 (c 50)),.v (.int .i64 (c 51)),.v (.int .i64 (c 52)),.v (.int .i64 (c 53)),.v (.int .i64 (c 54)),.v (.int .i64 (c 55)),.v (.int .i64 (c 56)),.v (.int .i64 (c 57)),.v (.int .i64 (c 58)),.v (.int .i64 (c 59)),.v (.int .i64 (c 60)),.v (.int .i64 (c 61)),.v (.int .i64 (c 62)),.v (.int .i64 (c 63))]
theorem zGt (c:Nat→Int):zDV c=(List.range 64).map (fun i=>Value.int .i64 (c i)):=rfl
theorem zGu (c:Nat→Int):zDW c=(List.range 64).map (fun i=>SC.v (.int .i64 (c i))):=rfl
theorem zH3 (c:Nat→Int) {i:Nat} (hi:i<64):zh3 (zDW c) (i*1) 1=some [.v (.int .i64 (c i))]:=by
 have hl:(zDW c).length=64:=rfl;unfold zh3;rw[if_pos (by omega),zGu];rw[Y2 oE];simp
theorem zH4 {u:List Int} (h:u.length=64):u.map zj=zDV (fun i=>u.getD i 0):=by
 rw[zGt];apply Yc1 (by simp[h]);intro i h1 h2;simp only[Yd5,Ydv,zj];congr 1;rw[Y0,Yb (by simpa using h1)];rfl
theorem zDX (hA:StAt M p b sp sb S came xs es) (hI:zkV S):M.row p 5 64=some (zDV (fun i=>S.used.getD i 0)):=by
 rw[hA.self.row (by rw[zhX hI.ulen];omega),←zH4 hI.ulen];congr 1;unfold zaB;rw[Yp,Yd7];simp[hI.ulen]
theorem zr8:∀ (u:List Int) (k j:Nat),j<u.length→zhw k (u.take (j+1))=zhw k (u.take j)++(if 0<u.getD j 0 then [(((k+j:Nat):Int),u.getD j 0)] else [])
 | [],_,_,h=>by simp at h
 | n::r,k,0,_=>by rfl
 | n::r,k,j+1,h=>by
  have ih:=zr8 r (k+1) j (by simp_all);have e1:∀ t,zhw k (n::t)=if 0<n then ((k:Int),n)::zhw (k+1) t else zhw (k+1) t:=fun _=>rfl
  rw[Ybz,Ybz,e1,e1,ih,List.getD_cons_succ,show k+1+j=k+(j+1) by omega];split
  ·rfl
  ·rfl
@[reducible] def zB4 (S:StR) (ua:Option Addr) (uc:Nat) (ha:Option Addr) (ms:List MX) (hc:Nat) (ma:Option Addr) (mk:List MkC) (mc:Nat):Value := .agg #[.int .i64 S.self,.int .i64 S.epoch,.slice ua (zdo S.used).length uc,.slice ha ms.length hc,.slice ma mk.length mc]
def zDY (S:StR) (es:EsT) (M:Mem) (v:Value) (M':Mem):Prop:=∃ ua uc ha hc ms ma mc mk,v=zB4 S ua uc ha ms hc ma mk mc∧M.le M'∧NewSl M 136 2 ua (zdo S.used).length uc ((zdo S.used).flatMap zsZ) M'∧HeldAt M ha ms.length hc ms M'∧ms.map MX.msg=S.l ∧
 MarksAt M ma mk.length mc mk M'∧(mk.map MkC.mk').Perm (es.map zfw)∧Canon (inE es) (mk.map MkC.mk')
theorem MarksAt.up {a:Option Addr} {n c:Nat} {l:List MkC} {M' M2:Mem} (h:MarksAt M0 a n c l M') (hle:M'.le M2):MarksAt M0 a n c l M2:=⟨h.row.up hle,fun m hm=>(h.more m hm).up hle⟩
theorem MarksAt.mono' {a:Option Addr} {n c:Nat} {l:List MkC} {M':Mem} (h:MarksAt M a n c l M') (hle:M0.le M):MarksAt M0 a n c l M':=⟨h.row.mono hle,fun m hm=>(h.more m hm).mono hle⟩
theorem zDZ (h:FreshSt M0 M p b sp sb S came xs es) (hcm:came≤4611686018427387904) (hes:es.length≤4194000):CallsM prog 77 [ptr p] M (zDY S es M):=by
 refine zlJ oS ?_;have hI:=h.inv
 have hA0:=h.at';refine brn_f rfl ?_
 repeat' (first|refine⟨?_,True.intro⟩|refine⟨?_,?_,True.intro⟩|refine brn_t rfl ?_|refine brn_f rfl ?_|refine ob rfl ?_|refine obr rfl ?_|refine ob oD ?_|refine obr oD ?_|refine grow_same (Ya _) ?_|refine ob (Ya _) ?_|refine⟨_,Ya _,?_⟩|fail)
 refine on (hA0.self.c1 rfl) ?_
 repeat' (first|refine⟨?_,True.intro⟩|refine⟨?_,?_,True.intro⟩|refine brn_t rfl ?_|refine brn_f rfl ?_|refine ob rfl ?_|refine obr rfl ?_|refine ob oD ?_|refine obr oD ?_|refine grow_same (Ya _) ?_|refine ob (Ya _) ?_|refine⟨_,Ya _,?_⟩|fail)
 refine on (hA0.self.c1 rfl) ?_
 repeat' (first|refine⟨?_,True.intro⟩|refine⟨?_,?_,True.intro⟩|refine brn_t rfl ?_|refine brn_f rfl ?_|refine ob rfl ?_|refine obr rfl ?_|refine ob oD ?_|refine obr oD ?_|refine grow_same (Ya _) ?_|refine ob (Ya _) ?_|refine⟨_,Ya _,?_⟩|fail)
 refine on (hA0.self.c1 (zjD hI.ulen ..)) ?_
 repeat' (first|refine⟨?_,True.intro⟩|refine⟨?_,?_,True.intro⟩|refine brn_t rfl ?_|refine brn_f rfl ?_|refine ob rfl ?_|refine obr rfl ?_|refine ob oD ?_|refine obr oD ?_|refine grow_same (Ya _) ?_|refine ob (Ya _) ?_|refine⟨_,Ya _,?_⟩|fail)
 all_goals
  refine(zys h hcm).mono ?_;rintro v M4 ⟨ha,hn,hc,ms,rfl,hH0,hmsg⟩;have h4:=h.to hH0.row.le
  refine zT (hH0.row.le) ?_
  repeat' (first|refine⟨?_,True.intro⟩|refine⟨?_,?_,True.intro⟩|refine brn_t rfl ?_|refine brn_f rfl ?_|refine ob rfl ?_|refine obr rfl ?_|refine ob oD ?_|refine obr oD ?_|refine grow_same (Ya _) ?_|refine ob (Ya _) ?_|refine⟨_,Ya _,?_⟩|fail)
 all_goals
  refine(zDB h4.at'.set (by have:=h.room;omega) hes).mono ?_;rintro v M5 ⟨ma,mn,mc,mk,rfl,hMk0,hp,hs⟩;have h5:=h4.to hMk0.row.le
  have hHe:=hH0.up hMk0.row.le;have hMk:=hMk0.mono' hH0.row.le
  have hleM:=hHe.row.le;refine zT (hleM) ?_;refine zR ?_;have hrow:=zDX h5.at' hI
  refine on hrow ?_
  refine zan (σ:=Nat×Mem×(Option Addr×Nat)) [29] (fun x=>[(29,.int .i64 x.1)]) (fun x=>[.live 42 [.v (.int .i64 0),.v (.int .i64 0),.v (.slice none 0 0),.v (.slice none 0 0),.v (.slice none 0 0)],.live 42 [.v (.int .i64 S.self),.v (.int .i64 S.epoch),.v (.slice x.2.2.1 (zdo (S.used.take x.1)).length x.2.2.2),.v (.slice ha hn hc),.v (.slice ma mn mc)]]) (fun x=>x.2.1)
   (fun|⟨j,M6,(a6,c6)⟩=>j≤64∧NewSl M5 136 2 a6 (zdo (S.used.take j)).length c6 ((zdo (S.used.take j)).flatMap zsZ) M6) (fun x=>64 - x.1) ⟨0,M5,(none,0)⟩ ⟨by omega,Yat M5 _ _⟩ zS ?_
  rintro ⟨j,M6,⟨a6,c6⟩⟩ ⟨hj,hN6⟩;have hul:(zdo (S.used.take j)).length≤(S.used.take j).length:=zoi _ 0
  have huj:(S.used.take j).length≤64:=by simp;omega
  refine brn (fun g=>?_) (fun g=>?_)
  rotate_left
  ·have hge:64≤j:=by have:=Zd1 g;dsimp only at this;omega
   rw[Yf (by rw[hI.ulen];omega)] at hN6 ⊢;refine zR ?_;have hl1:=hHe.len
   have hl2:=hMk.len;subst hl1;subst hl2;exact⟨a6,c6,ha,hc,ms,ma,mc,mk,rfl,Yc hleM hN6.le,hN6.mono hleM,hHe.up hN6.le,hmsg,hMk.up hN6.le,hp,zxo h.invE hp hs⟩
  have hlt:j<64:=by have:=Zd0 g;dsimp only at this;omega
  have hnx:zdo (S.used.take (j+1))=zdo (S.used.take j)++(if 0<S.used.getD j 0 then [((j:Int),S.used.getD j 0)] else []):=by
   have:=zr8 S.used 0 j (by rw[hI.ulen];omega);rw[Yan] at this;exact this
  refine ob (by omega) ?_;refine on (zH3 (fun i=>S.used.getD i 0) hlt) ?_;refine brn (fun g1=>?_) (fun g1=>?_)
  ·have h1:0<S.used.getD j 0:=by simpa using g1
   rw[if_pos h1] at hnx;refine zR ?_;refine zvx M5 hN6 ((j:Int),S.used.getD j 0) rfl (by grind) (by simp[maxLen];omega) oC fun a7 c7 M7 hN7 _=>?_
   refine obr (inR_i64 (by omega)) ?_;rw[←hnx] at hN7;have hl7:(zdo (S.used.take (j+1))).length=(zdo (S.used.take j)).length+1:=by rw[hnx];simp
   rw[←hl7] at hN7;refine⟨⟨j+1,M7,(a7,c7)⟩,⟨by omega,hN7⟩,by omega,?_⟩;dsimp only;rw[hl7];exact zS
  ·have h1:¬0<S.used.getD j 0:=by simpa using g1
   rw[if_neg h1,Ys] at hnx;refine obr (inR_i64 (by omega)) ?_;refine⟨⟨j+1,M6,(a6,c6)⟩,⟨by omega,by rw[hnx];exact hN6⟩,by omega,?_⟩;dsimp only;rw[hnx];exact zS
end
section
variable {M:Mem}
structure zFq (M:Mem) (ua:Option Addr) (un:Nat) (ha:Option Addr) (hn:Nat) (ma:Option Addr) (mn:Nat) (ul:List (Int×Int)) (ms:List MX) (mk:List MkC):Prop where
 used:SrcOk M 2 ua un (ul.flatMap zsZ)
 held:MsgsR M ha hn ms
 seen:MarksR M ma mn mk
 few:zJ2 mk
 short:un≤4194000∧hn≤4194000∧mn≤4194000
@[reducible] def zI8 (self epoch:Int) (ua:Option Addr) (un uc:Nat) (ha:Option Addr) (hn hc:Nat) (ma:Option Addr) (mn mc:Nat):Value := .agg #[.int .i64 self,.int .i64 epoch,.slice ua un uc,.slice ha hn hc,.slice ma mn mc]
end
section
variable {M:Mem}
def zFr:Int→List Int→Prop
 | _,[]=>True
 | last,n::r=>last<n∧n≤65535∧zFr n r
def zH5 (m:Mk):Prop:=(0≤m.o∧m.o<64∧1≤m.e∧m.e≤65535∧0≤m.up∧m.up≤65535)∧(0<m.up∨0<m.more.length)∧zFr (m.up+1) m.more
end
section
variable {M:Mem}
def zI9 (l:List Mk):Prop:=(∀ m∈l,zH5 m)∧l.Pairwise zep
def zKa (l:List Mk):Nat:=(l.map fun m=>m.more.length).sum
end
end Go.Proofs.YtlgbofpennelhaaGreat
namespace Go.Proofs.YtlgbofpennelhaaGreat
open Go Go.Vm
abbrev NxT:=List (Int×Int)
structure Nx (me epoch:Int) (ul:NxT):Prop where
 each:∀ n∈ul,(0≤n.1∧n.1≤63)∧n.1≠me∧1≤n.2∧n.2≤65535
 sort:ul.Pairwise fun x y=>x.1<y.1
 some:ul≠[]→epoch≠0
def zH6 (self epoch:Int) (ul:NxT):Prop:=Nx self epoch ul∧0≤epoch∧epoch≤65535
def okM (self epoch:Int) (ul:NxT) (m:zdH):Prop:=zeM m.id m.p.length=0∧m.id.d≠self∧(m.id.o=self→m.id.e<epoch∨(m.id.e=epoch∧m.id.c≤zFk ul m.id.d))
def zH7 (self epoch:Int) (ul:NxT) (hs:List zdH):Prop:=(∀ m∈hs,okM self epoch ul m)∧(hs.map (·.id)).Nodup
def zJa (self epoch:Int) (ul:NxT) (hs:List zdH) (mks:List Mk):Prop:=zH6 self epoch ul∧zH7 self epoch ul hs∧(∀ m∈mks,m.o≠self)∧zI9 mks
def zJb (qh qb qg:Int) (hs:List zdH) (mks:List Mk):Prop:=qg<zKa mks∨qh<hs.length∨qb<zo hs
theorem zwi {u:List Int} {i j:Nat} {v:Int} (hi:i<u.length):(u.set i v).getD j 0=if j=i then v else u.getD j 0:=by
 rw[Y0,Y0,List.getElem?_set];by_cases h:j=i
 ·subst h;rw[if_pos rfl,if_pos hi,if_pos rfl];rfl
 ·rw[if_neg oM,if_neg h]
end Go.Proofs.YtlgbofpennelhaaGreat
namespace Go.Proofs.YtlgbofpennelhaaGreat
open Go Go.Vm
attribute [local irreducible] Brn Ob Grow CallsM inR zX zI Mem.row Mem.cells Mem.setCells Mem.upd Go.Vm.Own zac zar zas zab New SrcOk subA NewSl Mem.textAt Mem.mapAt Mem.iterAt zH zF Wr NewEls Elems
set_option maxRecDepth 10000
set_option linter.unusedSimpArgs false
variable {M:Mem} {self epoch:Int} {ul:NxT} {ms:List MX} {mk:List MkC}
structure zH8 (ms:List MX) (mk:List MkC) (un hn hc mn:Nat):Prop where
 b1:un≤1048576
 b2:hn≤1048576
 b3:hn≤hc
 b4:mn≤1048576
 msgs:∀ m∈ms,m.p.length≤1048576
 marks:∀ m∈mk,m.more.length≤1048576
end Go.Proofs.YtlgbofpennelhaaGreat
namespace Go.Proofs.YtlgbofpennelhaaGreat
open Go Go.Vm
structure GoS (S:StR) (es:EsT):Prop where
 none:S.epoch=0→∀ n∈S.used,n=0
 own:S.used.getD S.self.toNat 0=0
 held:∀ m∈S.l,m.id.o=S.self→m.id.e=S.epoch→m.id.c≤S.used.getD m.id.d.toNat 0
 seen:∀ q∈es,q.1.1≠S.self
theorem GoS.new (self qh qb qg:Int):GoS (zkW self qh qb qg) []:=by
 refine⟨fun _ n hn=>List.eq_of_mem_replicate hn,?_,fun m hm=>(by cases hm),fun q hq=>(by cases hq)⟩;unfold zkW;dsimp only;rw[Y0,List.getElem?_replicate];split<;>rfl
theorem zD0 {es:EsT} {k:Int×Int} {x:Ent} {q:(Int×Int)×Ent} (h:q∈zy es k x):q.1=k∨∃ r∈es,r.1=q.1:=by
 have h1:q.1∈(zy es k x).map (·.1):=Yj.2 ⟨q,h,rfl⟩;rw[ztw] at h1;split at h1
 ·simp_all
 ·grind
theorem zr9 {S:StR} {set:IdT→Int} {i:IdT} {n:Nat} (h:zbi S set 4 i n=0):i.d=S.self∧set i=0:=by
 unfold zbi at h;split at h
 ·omega
 rw[if_neg oD,if_neg oD,if_neg oD] at h;split at h
 ·cases h
 ·omega
theorem GoS.step:zI7 GoS:=by
 intro S es es' k i p hI hE h hst;by_cases hm:zbi S (zej S es) k i p.length=0
 rotate_left
 ·simp_all
 rw[if_pos hm];by_cases h1:k=1
 ·subst h1;rw[if_neg (fun h=>by omega)] at hst;subst hst;have e:zag S 1 i p={ S with epoch:=S.epoch+1,used:=List.replicate 64 0 }:=by unfold zag;rw[if_pos rfl]
  rw[e];have he:=hI.epoch
  refine⟨fun _ n hn=>List.eq_of_mem_replicate hn,?_,fun m hm ho he'=>?_,h.seen⟩
  ·grind
  ·have:=(hI.msgs m hm).2.2 ho;dsimp only at he';omega
 by_cases h2:k=2
 ·subst h2;rw[if_neg (fun h=>by omega)] at hst;subst hst;obtain⟨g1,g2,g3,g4,g5,g6⟩:=zsW hm;obtain⟨r1,r2,r3,r4,r5⟩:=zki (zdd g1).1;have e:zag S 2 i p={ S with l:=S.l++[⟨i,p⟩],used:=if i.o=S.self∧i.e=S.epoch then S.used.set i.d.toNat (max (zcg S i.d) i.c) else S.used }:=by unfold zag;rw[if_neg oD,if_pos rfl]
  rw[e];have hs:=hI.self
  have hu:=hI.ulen;refine⟨fun h0 n hn=>?_,?_,fun m hm ho he'=>?_,h.seen⟩
  ·dsimp only at h0 hn;rw[if_neg (fun hh=>by omega)] at hn;exact h.none h0 n hn
  ·dsimp only;split
   ·rw[zwi oM,if_neg oM];exact h.own
   ·exact h.own
  ·dsimp only at hm ho he' ⊢;rcases Yt.1 hm with hm|hm
   ·have hc:=h.held m hm ho he';split
    ·rw[zwi oM];split
     ·rename_i hd;unfold zcg;rw[hd] at hc;omega
     ·exact hc
    ·exact hc
   ·grind
 by_cases h3:k=3
 ·subst h3;rw[if_neg (fun h=>by omega)] at hst;subst hst;have e:zag S 3 i p={ S with l:=S.l.filter fun m=>decide (m.id≠i) }:=by unfold zag;rw[if_neg oD,if_neg oD,if_pos rfl]
  rw[e];exact⟨h.none,h.own,fun m hm=>h.held m (Ya1.1 hm).1,h.seen⟩
 ·have e:zag S k i p=S:=by unfold zag;rw[if_neg h1,if_neg h2,if_neg h3]
  rw[e];refine⟨h.none,h.own,h.held,fun q hq=>?_⟩;split at hst
  ·rename_i h4;obtain⟨-, rfl⟩:=h4;obtain⟨hd,hz⟩:=zr9 hm;rcases hst with ⟨hne,rfl⟩|⟨_,x,rfl,_⟩
   ·simp_all
   ·have:=(zki (zof hz).1).2.2.2.2;rcases zD0 hq with hk|⟨r,hr,hk⟩
    ·simp_all
    ·rw[←hk];exact h.seen r hr
  ·rw[hst] at hq;exact h.seen q hq
end Go.Proofs.YtlgbofpennelhaaGreat
namespace Go.Proofs.YtlgbofpennelhaaGreat
open Go Go.Vm Go.Proofs.Tryz
attribute [local irreducible] Brn Ob Grow CallsM inR zX zI Mem.row Mem.cells Mem.setCells Mem.upd Go.Vm.Own zac zar zas zab New SrcOk subA NewSl Mem.textAt Mem.mapAt Mem.iterAt zH zF Wr NewEls Elems
set_option maxRecDepth 10000
section
structure Hd where
 p:Nat
 b:Nat
 sp:Nat
 sb:Nat
 came:Int
 xs:HsT
 es:EsT
@[reducible] def zwj (B M:Mem) (S:StR) (x:Hd):Prop:=FreshSt B M x.p x.b x.sp x.sb S x.came x.xs x.es
@[reducible] def hB (x:Hd):Nat→Prop:=stB x.p x.b x.sp x.sb x.xs x.es
structure Two (B M:Mem) (S U:StR) (x y:Hd):Prop where
 one:zwj B M S x
 two:zwj B M U y
 apart:∀ z,hB x z→¬hB y z
variable {B M:Mem} {S U:StR} {x y:Hd}
end
section
def toE (m:Mk):(Int×Int)×Ent:=((m.o,m.e),⟨0,none,0,m.up,m.more⟩)
def zcG (mk:List Mk):EsT:=mk.map toE
theorem zyt (mk:List Mk):(zcG mk).map zfw=mk:=by
 unfold zcG;rw[Ybc];exact Yd0 _
structure SeenAs (es:EsT) (mk:List Mk):Prop where
 perm:(es.map zfw).Perm mk
 sort:mk.Pairwise zep
theorem zFs {es:EsT} {k:Int×Int}:(zf es k).map (fun x=>(x.up,x.more))=((es.map zfw).find? fun m=>decide (m.o=k.1∧m.e=k.2)).map fun m=>(m.up,m.more):=by
 induction es with
 | nil=>rfl
 | cons q r ih=>
  obtain⟨⟨a,b⟩,x⟩:=q;obtain⟨k1,k2⟩:=k;rw[Yv,List.find?_cons];by_cases e:a=k1∧b=k2
  ·obtain⟨rfl,rfl⟩:=e;simp[zf,zfw]
  ·have h1:¬(a,b)=(k1,k2):=fun h=>e (by simp_all)
   have h2:decide ((zfw ((a,b),x)).o=(k1,k2).1∧(zfw ((a,b),x)).e=(k1,k2).2)=false:=decide_eq_false e;rw[h2];simp only[zf,if_neg h1];exact ih
theorem zB5 {l r:List Mk} (h:l.Perm r) (hs:r.Pairwise zep) (k:Int×Int):l.find? (fun m=>decide (m.o=k.1∧m.e=k.2))=r.find? fun m=>decide (m.o=k.1∧m.e=k.2):=by
 cases h1:l.find? fun m=>decide (m.o=k.1∧m.e=k.2) with
 | none=>
  grind
 | some x=>
  have hx:=h.mem_iff.1 (Ych h1);have ex:=Ydo h1
  cases h2:r.find? fun m=>decide (m.o=k.1∧m.e=k.2) with
  | none=>
   grind
  | some y=>
   have ey:=Ydo h2;simp only[decide_eq_true_eq] at ex ey;rw[zme hs hx (Ych h2) oM oM]
theorem SeenAs.get {es:EsT} {mk:List Mk} (h:SeenAs es mk) (k:Int×Int):(zf es k).map (fun x=>(x.up,x.more))=(zf (zcG mk) k).map fun x=>(x.up,x.more):=by
 rw[zFs,zFs,zyt,zB5 h.perm h.sort]
theorem SeenAs.up {es:EsT} {mk:List Mk} (h:SeenAs es mk) (k:Int×Int):zcy es k=zcy (zcG mk) k∧zbQ es k=zbQ (zcG mk) k:=by
 have:=h.get k;unfold zcy zbQ;cases h1:zf es k<;>cases h2:zf (zcG mk) k<;>rw[h1,h2] at this<;>simp_all
theorem SeenAs.gaps {es:EsT} {mk:List Mk} (h:SeenAs es mk):zaU es=zaU (zcG mk):=by
 have e:∀ x:EsT,zaU x=((x.map zfw).map fun m=>m.more.length).sum:=fun x=>by
  unfold zaU;rw[Ybc];rfl
 rw[e,e,zyt];exact(h.perm.map _).sum_nat
theorem SeenAs.has {es:EsT} {mk:List Mk} (h:SeenAs es mk) (o d e c:Int):ze8 es o d e c=ze8 (zcG mk) o d e c:=by
 unfold ze8;rw[(h.up _).1,(h.up _).2]
theorem SeenAs.may {es:EsT} {mk:List Mk} (h:SeenAs es mk) (g o d e c:Int):mayE g es o d e c=mayE g (zcG mk) o d e c:=by
 unfold mayE;rw[h.has,(h.up _).1,h.gaps]
theorem SeenAs.add {es:EsT} {mk:List Mk} (h:SeenAs es mk) (o e c:Int):zeL es o e c=zeL (zcG mk) o e c:=by
 unfold zeL;rw[(h.up _).1,(h.up _).2]
theorem SeenAs.nil:SeenAs [] []:=⟨.nil,.nil⟩
theorem SeenAs.canon {es:EsT} {mk:List Mk} (h:SeenAs es mk) (hE:InvE es):Canon (inE es) mk:=by
 refine⟨h.sort,fun m hm=>?_,fun o e c=>?_⟩
 ·obtain⟨q,hq,rfl⟩:=Yj.1 (h.perm.mem_iff.2 hm);exact hE.can q hq
 ·rw[zsV hE];constructor
  ·rintro ⟨q,hq,e1,e2,hc⟩;exact⟨zfw q,h.perm.mem_iff.1 (Yj.2 ⟨q,hq,rfl⟩),e1,e2,hc⟩
  ·rintro ⟨m,hm,e1,e2,hc⟩;obtain⟨q,hq,rfl⟩:=Yj.1 (h.perm.mem_iff.2 hm);exact⟨q,hq,e1,e2,hc⟩
def zhC (m:Mk):List Mk→List Mk
 | []=>[m]
 | y::r=>if m.o<y.o∨(m.o=y.o∧m.e<y.e) then m::y::r else if m.o=y.o∧m.e=y.e then m::r else y::zhC m r
theorem zor {m x:Mk}:∀ {l:List Mk},l.Pairwise zep→(x∈zhC m l↔x=m∨(x∈l∧¬(x.o=m.o∧x.e=m.e)))
 | [],_=>by simp[zhC]
 | y::r,h=>by
  obtain⟨h1,h2⟩:=Yy.1 h;unfold zhC;split
  ·rename_i hl
   have hne:∀ z∈y::r,¬(z.o=m.o∧z.e=m.e):=fun z hz=>by
    rcases Yq.1 hz with rfl|hz
    ·omega
    ·have:=h1 z hz;unfold zep at this;omega
   constructor
   ·grind
   ·grind
  ·rename_i hl;split
   ·rename_i he
    have hne:∀ z∈r,¬(z.o=m.o∧z.e=m.e):=fun z hz=>by
     have:=h1 z hz;unfold zep at this;omega
    constructor
    ·grind
    ·grind
   ·rename_i he;rw[Yq,zor h2,Yq];constructor
    ·grind
    ·grind
theorem zmx {m:Mk}:∀ {l:List Mk},l.Pairwise zep→(zhC m l).Pairwise zep
 | [],_=>by simp[zhC]
 | y::r,h=>by
  obtain⟨h1,h2⟩:=Yy.1 h;unfold zhC;split
  ·rename_i hl;refine Yy.2 ⟨fun z hz=>?_,h⟩;rcases Yq.1 hz with rfl|hz
   ·exact hl
   ·have:=h1 z hz;unfold zep at this ⊢; omega
  ·rename_i hl;split
   ·rename_i he;refine Yy.2 ⟨fun z hz=>?_,h2⟩;have:=h1 z hz;unfold zep at this ⊢; omega
   ·rename_i he;refine Yy.2 ⟨fun z hz=>?_,zmx h2⟩;rcases(zor h2).1 hz with rfl|⟨hz,_⟩
    ·unfold zep;omega
    ·simp_all
def zsa (mk:List Mk) (o e c:Int):List Mk:=zhC ⟨o,e,(zeL (zcG mk) o e c).1,(zeL (zcG mk) o e c).2⟩ mk
theorem zm2 {α:Type}:∀ {l r:List α},l.Nodup→r.Nodup→(∀ x,x∈l↔x∈r)→l.Perm r
 | [],r,_,_,h=>by
  have:r=[]:=List.eq_nil_iff_forall_not_mem.2 fun x hx=>by simp_all
  rw[this]
 | a::l,r,h1,h2,h=>by
  have ha:a∈r:=(h a).1 oS;obtain⟨u,v,rfl⟩:=List.append_of_mem ha;obtain⟨h3,h4⟩:=Yax.1 h1;have hp:(u++a::v).Perm (a::(u++v)):=List.perm_middle
  have h5:=Yax.1 (hp.nodup_iff.1 h2);refine(List.Perm.cons a (zm2 h4 h5.2 fun x=>?_)).trans hp.symm;have hx:=h x
  rw[hp.mem_iff,Yq,Yq] at hx;constructor
  ·grind
  ·grind
theorem zz9 {es:EsT} (h:(es.map (·.1)).Nodup):(es.map zfw).Nodup:=by
 rw[List.Nodup,Yay] at h ⊢
 exact h.imp fun {a b} hne e=>hne (by
  have h1:=congrArg Mk.o e;have h2:=congrArg Mk.e e
  exact Prod.ext h1 h2)
theorem zAa {mk:List Mk} (h:mk.Pairwise zep):mk.Nodup:=h.imp fun {a b} h e=>by subst e;unfold zep at h;omega
theorem SeenAs.put {es:EsT} {mk:List Mk} (h:SeenAs es mk) (hn:(es.map (·.1)).Nodup) {o e c:Int} {x:Ent} (hx:(x.up,x.more)=zeL es o e c):SeenAs (zy es (o,e) x) (zsa mk o e c):=by
 have hm:zfw ((o,e),x)=⟨o,e,(zeL (zcG mk) o e c).1,(zeL (zcG mk) o e c).2⟩:=by rw[←h.add,←hx];rfl
 refine⟨zm2 (zz9 (zf0 hn _ _)) (zAa (zmx h.sort)) fun m=>?_,zmx h.sort⟩;unfold zsa;rw[zor h.sort,←hm,Yj];constructor
 ·rintro ⟨q,hq,rfl⟩;rcases zmg hn hq with rfl|⟨h1,h2⟩
  ·simp
  ·exact .inr ⟨h.perm.mem_iff.1 (Yj.2 ⟨q,h1,rfl⟩),fun ⟨e1,e2⟩=>h2 (Prod.ext e1 e2)⟩
 ·rintro (rfl|⟨h1,h2⟩)
  ·exact⟨((o,e),x),zC (by rw[zbT,if_pos rfl]),rfl⟩
  ·obtain⟨q,hq,rfl⟩:=Yj.1 (h.perm.mem_iff.2 h1);refine⟨q,?_,rfl⟩
   have:zf (zy es (o,e) x) q.1=some q.2:=by
    rw[zbT,if_neg fun e1=>h2 ⟨congrArg Prod.fst e1,congrArg Prod.snd e1⟩];exact zbS hn hq
   exact zC this
end
section
variable {M A:Mem} {h:Hd}
structure StW where
 S:StR
 sn:List Mk
def zcq (X:StW) (k:Int) (i:IdT) (n:Nat):Int:=zbi X.S (zej X.S (zcG X.sn)) k i n
def zck (X:StW) (k:Int) (i:IdT) (p:List UInt8):StW×Int:=
 if zcq X k i p.length=0 then (⟨zag X.S k i p,if k=4 then zsa X.sn i.o i.e i.c else X.sn⟩,0) else (X,zcq X k i p.length)
theorem zD1 (S:StR) (k:Int) (i:IdT) (p:List UInt8):(zag S k i p).self=S.self∧(zag S k i p).qh=S.qh∧(zag S k i p).qb=S.qb∧(zag S k i p).qg=S.qg:=by
 unfold zag;repeat' split
 all_goals exact⟨rfl,rfl,rfl,rfl⟩
structure FreshW (A M:Mem) (h:Hd) (X:StW):Prop where
 st:zwj A M X.S h
 seen:SeenAs h.es X.sn
 go:GoS X.S h.es
 bd:¬zcE X.S.self X.S.qh X.S.qb X.S.qg
theorem FreshW.to {X:StW} (h1:FreshW A M h X) {M':Mem} (hle:M.le M'):FreshW A M' h X:=⟨h1.st.to hle,h1.seen,h1.go,h1.bd⟩
theorem FreshW.may {X:StW} (h1:FreshW A M h X) (k:Int) (i:IdT) (n:Nat):zbi X.S (zej X.S h.es) k i n=zcq X k i n:=by
 have:zej X.S h.es=zej X.S (zcG X.sn):=funext fun i=>h1.seen.may ..
 unfold zcq;rw[this]
theorem FreshW.es_len {X:StW} (h1:FreshW A M h X):h.es.length=X.sn.length:=by have:=h1.seen.perm.length_eq;simpa using this
theorem FreshW.base {X:StW} (h1:FreshW A M h X):FreshW (M.minus (hB h)) M h X∧A.le (M.minus (hB h)):=⟨⟨h1.st.base.1,h1.seen,h1.go,h1.bd⟩,h1.st.base.2⟩
theorem FreshW.mono {X:StW} {A':Mem} (h1:FreshW A' M h X) (hle:A.le A'):FreshW A M h X:=
 ⟨⟨Yc hle h1.st.le,h1.st.at',h1.st.inv,h1.st.invE,h1.st.room,fun y hy=>by
  cases e:A y with
  | none=>rfl
  | some o=>have:=hle y o e;rw[h1.st.fresh y hy] at this;cases this⟩,h1.seen,h1.go,h1.bd⟩
theorem zFt (self qh qb qg:Int):CallsM prog 79 [.int .i64 self,.agg #[.int .i64 qh,.int .i64 qb,.int .i64 qg]] M fun v M'=>
  (zcE self qh qb qg∧v = .tuple #[.pointer none,.int .i64 1]∧M=M') ∨
  (¬zcE self qh qb qg∧∃ h,v = .tuple #[ptr h.p,.int .i64 0]∧FreshW M M' h ⟨zkW self qh qb qg,[]⟩∧h.came=0):=
 (zDD self qh qb qg).mono fun v M' hv=>by
  rcases hv with h1|⟨h1,p,b,sp,sb,rfl,h2⟩
  ·simp_all
  ·exact .inr ⟨h1,⟨p,b,sp,sb,0,[],[]⟩,rfl,⟨h2,SeenAs.nil,GoS.new .., h1⟩,rfl⟩
theorem zJc {X:StW} (h1:FreshW A M h X) (k:Int) (i:IdT) (a:Option Addr) (n c:Nat) (hn:n≤1048576):CallsM prog 129 [ptr h.p,evV k i a n c] M fun v M'=>v = .int .i64 (zcq X k i n)∧M.le M':=
 (zvY h1.st k i a n c hn).mono fun v M' ⟨hv,hle⟩=>⟨by rw[hv,h1.may],hle⟩
theorem zGv {X:StW} (h1:FreshW A M h X) (k:Int) (i:IdT) {a:Option Addr} {c:Nat} {l:List UInt8} (hl:SrcOk M 1 a l.length (l.map zc)) (hn:l.length≤1048576) (hcm:h.came≤4611686018427387904) :
  CallsM prog 134 [ptr h.p,evV k i a l.length c] M fun v M'=>∃ h',v = .int .i64 (zck X k i l).2∧FreshW A M' h' (zck X k i l).1∧h'.p=h.p∧h'.came≤h.came+1:=
 (zzQ h1.st k i hl hn hcm).mono fun v M' ⟨cm,xs,es,hv,hc,h2,hst⟩=>by
  have hq:=GoS.step X.S h.es es k i l h1.st.inv h1.st.invE h1.go hst;rw[h1.may] at hv h2 hst hq;unfold zck;by_cases hm:zcq X k i l.length=0
  ·rw[if_pos hm] at h2 hq ⊢;refine⟨⟨h.p,h.b,h.sp,h.sb,cm,xs,es⟩,by rw[hv,hm],⟨h2,?_,hq,by obtain⟨q1,q2,q3,q4⟩:=zD1 X.S k i l;dsimp only;rw[q1,q2,q3,q4];exact h1.bd⟩,rfl,hc⟩;by_cases hk:k=4
   ·rw[if_pos ⟨hm,hk⟩] at hst;rw[if_pos hk]
    have h4:mayE X.S.qg h.es i.o i.d i.e i.c=0:=by
     have h5:=h1.may k i l.length;rw[hm,hk] at h5;exact(zr9 h5).2
    rcases hst with ⟨hne,_⟩|⟨_,x,rfl,hx⟩
    ·omega
    ·exact h1.seen.put h1.st.invE.nodup hx
   ·rw[if_neg fun h=>hk h.2] at hst;rw[if_neg hk];dsimp only;rw[hst];exact h1.seen
  ·rw[if_neg hm] at h2 hq ⊢;rw[if_neg fun h=>hm h.1] at hst;exact⟨⟨h.p,h.b,h.sp,h.sb,cm,xs,es⟩,hv,⟨h2,by dsimp only;rw[hst];exact h1.seen,hq,h1.bd⟩,rfl,hc⟩
theorem zGw {X:StW} (h1:FreshW A M h X) (d:Int):CallsM prog 69 [ptr h.p,.int .i64 d] M fun v M'=>v = .tuple #[idA (zaA X.S d).1,.int .i64 (zaA X.S d).2]∧M=M':=zDE h1.st.at' h1.st.inv d
theorem zH9 {X:StW} (h1:FreshW A M h X) (i:IdT):CallsM prog 343 [ptr h.p,idA i] M fun v M'=>
  (v = .tuple #[.agg #[.int .i64 0,.int .i64 0,.int .i64 0,.int .i64 0,.slice none 0 0],.bool false]∧zcD X.S.l i=false∧M=M') ∨
  (∃ a n c l,v = .tuple #[.agg #[.int .i64 i.o,.int .i64 i.d,.int .i64 i.e,.int .i64 i.c,.slice a n c],.bool true]∧zcD X.S.l i=true∧⟨i,l⟩∈X.S.l∧NewSl M 5 1 a n c (l.map zc) M'):=zGb h1.st.at' h1.st.inv i
theorem zIa {X:StW} (h1:FreshW A M h X) (hcm:h.came≤4611686018427387904):CallsM prog 144 [ptr h.p] M fun v M'=>∃ a n c ms,v = .slice a n c∧HeldAt M a n c ms M'∧ms.map MX.msg=X.S.l:=zys h1.st hcm
theorem FreshW.few {X:StW} (h1:FreshW A M h X):∀ m∈X.sn,m.more.length≤256:=fun m hm=>by
 obtain⟨q,hq,e⟩:=Yj.1 (h1.seen.perm.mem_iff.2 hm);have h2:m.more=q.2.more:=(congrArg Mk.more e).symm
 have h3:=zjB hq;have h4:=h1.st.room
 rw[h2];omega
structure zAb (M0 M:Mem) (X:StW) (v:Value):Prop where
 ex:∃ ua uc ha hc ms ma mc mk,v=zB4 X.S ua uc ha ms hc ma mk mc∧zFq M ua (zdo X.S.used).length ha ms.length ma mk.length (zdo X.S.used) ms mk ∧
  zH8 ms mk (zdo X.S.used).length ms.length hc mk.length∧ms.map MX.msg=X.S.l∧mk.map MkC.mk'=X.sn∧NewSl M0 136 2 ua (zdo X.S.used).length uc ((zdo X.S.used).flatMap zsZ) M∧HeldAt M0 ha ms.length hc ms M∧MarksAt M0 ma mk.length mc mk M
theorem zGx {X:StW} (h1:FreshW A M h X) (hcm:h.came≤4611686018427387904) (hmk:X.sn.length≤1048576):CallsM prog 77 [ptr h.p] M fun v M'=>M.le M'∧zAb M M' X v:=
 (zDZ h1.st hcm (by rw[h1.es_len];omega)).mono fun v M' ⟨ua,uc,ha,hc,ms,ma,mc,mk,hv,hle,hN,hH,hmsg,hMk,hperm,hcan⟩=>by
  have hI:=h1.st.inv;have hqh:=hI.qh
  have hqm:X.S.qh≤256:=by have:=h1.bd;unfold zcE at this;omega
  have hml:ms.length=X.S.l.length:=by rw[←hmsg,Ya3]
  have hmk2:mk.map MkC.mk'=X.sn:=hcan.uniq (h1.seen.canon h1.st.invE);have hmkl:mk.length=X.sn.length:=by rw[←hmk2,Ya3]
  have hus:(zdo X.S.used).length≤64:=by have h9:(zdo X.S.used).length≤X.S.used.length:=zoi _ 0;have:=hI.ulen;omega
  have hfew:∀ m∈mk,m.more.length≤256:=fun m hm=>h1.few m.mk' (hmk2▸Yj.2 ⟨m,hm,rfl⟩)
  have hcl:ms.length≤hc:=(newSl_iff.1 hH.row).2.2.1;refine⟨hle,⟨ua,uc,ha,hc,ms,ma,mc,mk,hv,⟨hN.src,hH.msgs,hMk.r,fun m hm=>by grind,by omega⟩,⟨by omega,by omega,by omega,by omega,fun m hm=>?_,fun m hm=>by grind⟩,hmsg,hmk2,hN,hH,hMk⟩⟩;have h2:m.msg∈X.S.l:=hmsg▸Yj.2 ⟨m,hm,rfl⟩
  have:=(zdd (hI.msgs _ h2).1).2.2;dsimp only [MX.msg] at this;omega
end
section
variable {M M0:Mem}
def zs7 (xs:List Int):List UInt8:=xs.flatMap (be 2)
end
end Go.Proofs.YtlgbofpennelhaaGreat
namespace Go.Proofs.YtlgbofpennelhaaGreat
open Go Go.Vm
def zcB (x:EvX):Int:=zbB x.kind x.id x.p.length
def zB (x:EvX):List UInt8:=zr x.kind::(if x.kind=1 then [] else if x.kind=2 then zY x.id.o x.id.d x.id.e x.id.c++x.p else zY x.id.o x.id.d x.id.e x.id.c)
def zca (x:EvX):List UInt8:=if zcB x=0 then zB x else []
def zcu:List UInt8→Option EvX
 | []=>none
 | b::r=>
  if b.toNat=1 then (if r=[] then some ⟨1,za7,[]⟩ else none)
  else if b.toNat=2 then (if zaZ r=0 then some ⟨2,(zaI r).id,(zaI r).p⟩ else none)
  else if b.toNat=3∨b.toNat=4 then (if zau r=0 then some ⟨b.toNat,zcU r,[]⟩ else none)
  else none
theorem zby (b:UInt8) (r:List UInt8):zcu (b::r)=if b.toNat=1 then (if r=[] then some ⟨1,za7,[]⟩ else none)
  else if b.toNat=2 then (if zaZ r=0 then some ⟨2,(zaI r).id,(zaI r).p⟩ else none)
  else if b.toNat=3∨b.toNat=4 then (if zau r=0 then some ⟨b.toNat,zcU r,[]⟩ else none)
  else none:=rfl
theorem zmy {x:EvX} (h:zcB x=0):x.kind=1∨x.kind=2∨x.kind=3∨x.kind=4:=by
 unfold zcB zbB at h
 repeat' split at h
 all_goals omega
theorem ztW {x:EvX} (h:zcB x=0) (hk:x.kind=1):zhu x.id∧x.p=[]:=by
 unfold zcB zbB at h;rw[if_pos hk] at h;split at h
 ·cases h
 ·simp_all
theorem ziq {x:EvX} (h:zcB x=0) (hk:x.kind=2):zfk x.id=0∧0<x.p.length∧x.p.length≤48:=by
 unfold zcB zbB at h;rw[if_neg oM,if_pos hk] at h;exact zdd h
theorem zf9 {x:EvX} (h:zcB x=0) (hk:x.kind=3∨x.kind=4):zfk x.id=0∧x.p=[]:=by
 unfold zcB zbB at h;rw[if_neg oM,if_neg oM,if_pos hk] at h;split at h
 ·omega
 ·simp_all
theorem zdO (o d e c:Int):(zY o d e c).length=6:=by rfl
theorem zhZ {i:IdT} (h:zfk i=0):zau (zY i.o i.d i.e i.c)=0∧zcU (zY i.o i.d i.e i.c)=i:=by
 obtain⟨h1,h2⟩:=zrS (i:=i) h
 have:zau (zY i.o i.d i.e i.c)=0:=by
  unfold zau;rw[if_neg oM,h1,if_neg (by simp only[ne_eq,Decidable.not_not];exact h)]
 exact⟨this,by unfold zcU;rw[if_pos this,h1]⟩
theorem zwk {k:Int} (h:0≤k∧k<256):((zr k).toNat:Int)=k:=zdU h
theorem zxz {x:EvX} (h:zcB x=0):zcu (zB x)=some x:=by
 obtain⟨k,i,p⟩:=x;have hk:=zmy h
 dsimp only at hk;have hb:((zr k).toNat:Int)=k:=zwk oM
 rcases hk with rfl|rfl|rfl|rfl
 ·obtain⟨h1,h2⟩:=ztW h rfl;dsimp only at h1 h2;subst h2;have eb:zB ⟨1,i,[]⟩=[zr 1]:=rfl
  rw[eb,zby,if_pos oM,if_pos rfl];obtain⟨o,d,e,c⟩:=i;unfold zhu at h1;dsimp only at h1;obtain⟨rfl,rfl,rfl,rfl⟩:=h1;rfl
 ·obtain⟨h1,h2,h3⟩:=ziq h rfl;dsimp only at h1 h2 h3;obtain⟨g1,g2⟩:=zhZ h1;have e6:(zY i.o i.d i.e i.c++p).take 6=zY i.o i.d i.e i.c:=by rw[Y5 (by rw[zdO];omega),Yf (by rw[zdO];omega)]
  have d6:(zY i.o i.d i.e i.c++p).drop 6=p:=by rw[Yd7,Yaf (by grind),zdO];simp
  have hm:zaZ (zY i.o i.d i.e i.c++p)=0:=by
   unfold zaZ;rw[if_neg (by grind),e6,if_neg (by simp[g1]),if_neg (by grind)]
  have eb:zB ⟨2,i,p⟩=zr 2::(zY i.o i.d i.e i.c++p):=rfl;rw[eb,zby,if_neg oM,if_pos oM,if_pos hm];unfold zaI;rw[if_pos hm,e6,d6];rw[zcU,if_pos g1] at g2;dsimp only;rw[g2]
 ·obtain⟨h1,h2⟩:=zf9 h (.inl rfl);dsimp only at h1 h2;subst h2;obtain⟨g1,g2⟩:=zhZ h1;have eb:zB ⟨3,i,[]⟩=zr 3::zY i.o i.d i.e i.c:=rfl
  rw[eb,zby,if_neg oM,if_neg oM,if_pos oM,if_pos g1,g2,hb]
 ·obtain⟨h1,h2⟩:=zf9 h (.inr rfl);dsimp only at h1 h2;subst h2;obtain⟨g1,g2⟩:=zhZ h1;have eb:zB ⟨4,i,[]⟩=zr 4::zY i.o i.d i.e i.c:=rfl
  rw[eb,zby,if_neg oM,if_neg oM,if_pos oM,if_pos g1,g2,hb]
theorem zm3 {l:List UInt8} (h:zau l=0):l.length=6∧zfk (zcN l)=0:=by
 unfold zau at h;split at h
 ·cases h
 ·rename_i h6;split at h
  ·cases h
  ·rename_i h7;have h8:(zcN l).err=0:=by simpa using h7
   exact⟨by omega,h8⟩
theorem zs8 {l:List UInt8} (h:zaZ l=0):(7≤l.length∧l.length≤54)∧zau (l.take 6)=0:=by
 unfold zaZ at h;split at h
 ·cases h
 ·omega
theorem zos {b:UInt8} {k:Nat} (h:b.toNat=k):zr (k:Int)=b:=by rw[←h];exact zfO b
theorem zxA {l:List UInt8} {x:EvX} (h:zcu l=some x):zcB x=0∧zB x=l:=by
 cases l with
 | nil=>cases h
 | cons b r=>
  rw[zby] at h;split at h
  ·rename_i hb;split at h
   ·rename_i hr;cases h;subst hr;exact⟨by decide,by have:=zos hb;unfold zB;rw[if_pos rfl];exact congrArg (· :: []) this⟩
   ·cases h
  rename_i hb1;split at h
  ·rename_i hb;split at h
   ·rename_i hm;cases h;obtain⟨h1,h2⟩:=zs8 hm;obtain⟨h3,h4⟩:=zm3 h2;have em:zaI r=⟨zcN (r.take 6),r.drop 6⟩:=by unfold zaI;rw[if_pos hm]
    rw[em];dsimp only;refine⟨?_,?_⟩
    ·unfold zcB zbB;dsimp only;rw[if_neg oD,if_pos rfl];unfold zeM msgErr;rw[show idErr (zcN (r.take 6)).o (zcN (r.take 6)).d (zcN (r.take 6)).e (zcN (r.take 6)).c=0 from h4];rw[if_neg oD,if_neg oE,if_neg oE]
    ·unfold zB;dsimp only;rw[if_neg oD,if_pos rfl,zrT h3,Ycx];exact congrArg (· :: r) (zos hb)
   ·cases h
  rename_i hb2;split at h
  ·rename_i hb;split at h
   ·rename_i hi;cases h;obtain⟨h3,h4⟩:=zm3 hi;have ei:zcU r=zcN r:=by unfold zcU;rw[if_pos hi]
    rw[ei];refine⟨?_,?_⟩
    ·unfold zcB zbB;dsimp only;rw[if_neg oM,if_neg oM,if_pos oM,if_neg (by omega),if_neg oS]
    ·unfold zB;dsimp only;rw[if_neg oM,if_neg oM,zrT h3,zos rfl]
   ·cases h
  ·cases h
end Go.Proofs.YtlgbofpennelhaaGreat
namespace Go.Proofs.YtlgbofpennelhaaGreat
open Go Go.Vm Go.Proofs.Tryz
attribute [local irreducible] Brn Ob Grow CallsM inR zX zI Mem.row Mem.cells Mem.setCells Mem.upd Go.Vm.Own zac zar zas zab New SrcOk subA NewSl Mem.textAt Mem.mapAt Mem.iterAt zH zF Wr NewEls Elems
set_option maxRecDepth 10000
section
variable {M:Mem}
theorem zB6 (i:IdT) {a:Option Addr} {c:Nat} {l:List UInt8} (hl:SrcOk M 1 a l.length (l.map zc)) (h0:zeM i l.length=0):CallsM prog 201 [.agg #[.int .i64 i.o,.int .i64 i.d,.int .i64 i.e,.int .i64 i.c,.slice a l.length c]] M fun v M'=>
  ∃ a' c',v = .tuple #[.slice a' (6+l.length) c',.int .i64 0]∧NewSl M 5 1 a' (6+l.length) c' ((zY i.o i.d i.e i.c++l).map zc) M':=by
 refine zzi oS ?_;obtain⟨h1,h2,h3⟩:=zdd h0;refine zJ (zh8 _ _ _ _ _ _ _ _) ?_;refine brn_f (by simp_all) ?_;refine zM (zmi _ _ _ _ _) ?_;rintro v M1 (⟨hne, -⟩|⟨-, a1,c1,rfl,hN⟩)
 ·exact absurd h1 hne
 refine zR ?_;refine zce (hl.le hN.le) ?_;refine zcp M _ hN (by omega) (by simp[maxLen]<;>omega) (zaN _) fun a2 c2 M2 hN2=>?_
 refine zR ?_;exact⟨a2,c2,rfl,by simpa using hN2⟩
def zB7 (x:EvX) (M:Mem) (v:Value) (M':Mem):Prop:=∃ a c,v = .tuple #[.slice a (zca x).length c,.int .i64 (zcB x)]∧NewSl M 5 1 a (zca x).length c ((zca x).map zc) M'
theorem zD2 (x:EvX) {a:Option Addr} {c:Nat} (hl:SrcOk M 1 a x.p.length (x.p.map zc)):CallsM prog 130 [evV x.kind x.id a x.p.length c] M (zB7 x M):=by
 obtain⟨k,i,p⟩:=x;dsimp only at hl ⊢;refine zsA oS ?_;refine zJ (zyk k i a p.length c) ?_;refine brn (fun g=>?_) (fun g=>?_)
 ·have g1:¬zbB k i p.length=0:=by simpa using g
  have e:zca ⟨k,i,p⟩=[]:=by unfold zca zcB;rw[if_neg g1]
  refine zR ?_;refine⟨none,0,?_,?_⟩
  ·rw[e];rfl
  ·rw[e];exact Yat _ _ _
 have g0:zbB k i p.length=0:=by simpa using g
 have g1:zcB ⟨k,i,p⟩=0:=g0;have e:zca ⟨k,i,p⟩=zB ⟨k,i,p⟩:=by unfold zca;rw[if_pos g1]
 have hk:=zmy g1;dsimp only at hk;rcases hk with rfl|rfl|rfl|rfl
 ·have eb:zB ⟨1,i,p⟩=[zr 1]:=rfl;have hlen:1+0=(zca ⟨1,i,p⟩).length:=by rw[e,eb];rfl
  have hle:=Ya M;refine zR ?_;refine new (fun b9 hb9=>?_);replace hb9:M b9=none:=hb9;rw[zeW];have hN9:NewSl M 5 1 (some ⟨b9,0,none⟩) 1 1 ([zr 1].map zc) _:=Ybb hb9 5 1 1 [zc (zr 1)] rfl
  refine zce (vs:=([]:List UInt8).map zc) (Ybj _ _) ?_;refine zcp _ _ hN9 (by omega) (by simp[maxLen]<;>omega) (zaN _) fun a2 c2 M2 hN2=>?_
  refine zR ?_;refine⟨a2,c2,by simp_all,?_⟩;rw[←hlen,e,eb];exact NewSl.mono (by simpa using hN2) hle
 ·obtain⟨h1,h2,h3⟩:=ziq g1 rfl;dsimp only at h1 h2 h3;have eb:zB ⟨2,i,p⟩=zr 2::(zY i.o i.d i.e i.c++p):=rfl
  have hlen:1+(6+p.length)=(zca ⟨2,i,p⟩).length:=by rw[e,eb,Ym,Yi,zdO];omega
  refine zR ?_;refine(zB6 i hl (by assumption)).mono ?_;rintro v M1 ⟨a1,c1,rfl,hN⟩;refine zR ?_;refine new (fun b9 hb9=>?_);replace hb9:M1 b9=none:=hb9;have hle:=hN.le
  rw[zeW];have hN9:NewSl M1 5 1 (some ⟨b9,0,none⟩) 1 1 ([zr 2].map zc) _:=Ybb hb9 5 1 1 [zc (zr 2)] rfl
  refine zce (hN.src.le hN9.le) ?_;refine zcp _ _ hN9 (by omega) (by simp[maxLen]<;>omega) (zaN _) fun a2 c2 M2 hN2=>?_
  refine zR ?_;refine⟨a2,c2,by simp_all,?_⟩;rw[←hlen,e,eb];exact NewSl.mono (by simpa using hN2) hle
 ·have eb:zB ⟨3,i,p⟩=zr 3::zY i.o i.d i.e i.c:=rfl;have hlen:1+6=(zca ⟨3,i,p⟩).length:=by rw[e,eb,Ym,zdO]
  obtain⟨h1,h2⟩:=zf9 g1 (by simp);refine zM (zmi _ _ _ _ _) ?_;rintro v M1 (⟨hne, -⟩|⟨-, a1,c1,rfl,hN⟩)
  ·simp_all
  refine zR ?_;refine new (fun b9 hb9=>?_);replace hb9:M1 b9=none:=hb9;have hle:=hN.le
  rw[zeW];have hN9:NewSl M1 5 1 (some ⟨b9,0,none⟩) 1 1 ([zr 3].map zc) _:=Ybb hb9 5 1 1 [zc (zr 3)] rfl
  refine zce (hN.src.le hN9.le) ?_;refine zcp _ _ hN9 (by omega) (by simp[maxLen]<;>omega) (zaN _) fun a2 c2 M2 hN2=>?_
  refine zR ?_;refine⟨a2,c2,by simp_all,?_⟩;rw[←hlen,e,eb];exact NewSl.mono (by simpa using hN2) hle
 ·have eb:zB ⟨4,i,p⟩=zr 4::zY i.o i.d i.e i.c:=rfl;have hlen:1+6=(zca ⟨4,i,p⟩).length:=by rw[e,eb,Ym,zdO]
  obtain⟨h1,h2⟩:=zf9 g1 (by simp);refine zM (zmi _ _ _ _ _) ?_;rintro v M1 (⟨hne, -⟩|⟨-, a1,c1,rfl,hN⟩)
  ·simp_all
  refine zR ?_;refine new (fun b9 hb9=>?_);replace hb9:M1 b9=none:=hb9;have hle:=hN.le
  rw[zeW];have hN9:NewSl M1 5 1 (some ⟨b9,0,none⟩) 1 1 ([zr 4].map zc) _:=Ybb hb9 5 1 1 [zc (zr 4)] rfl
  refine zce (hN.src.le hN9.le) ?_;refine zcp _ _ hN9 (by omega) (by simp[maxLen]<;>omega) (zaN _) fun a2 c2 M2 hN2=>?_
  refine zR ?_;refine⟨a2,c2,by simp_all,?_⟩;rw[←hlen,e,eb];exact NewSl.mono (by simpa using hN2) hle
end
section
variable {M:Mem}
def GetOut (l:List UInt8) (M:Mem) (v:Value) (M':Mem):Prop:=
 (zcu l=none∧v = .tuple #[evV 0 za7 none 0 0,.int .i64 2]∧M.le M') ∨
 (∃ x a c,zcu l=some x∧v = .tuple #[evV x.kind x.id a x.p.length c,.int .i64 0]∧M.le M'∧SrcOk M' 1 a x.p.length (x.p.map zc)∧x.p.length≤4194304)
theorem zD3 {a:Option Addr} {n c:Nat} {l:List UInt8} (hs:SrcOk M 1 a n (l.map zc)) (hn:n≤4194304) (hc:n≤c):CallsM prog 155 [.slice a n c] M (GetOut l M):=by
 refine zsD oS ?_;have hl:=hs.maplen
 refine zR ?_;refine brn (fun g=>?_) (fun g=>?_)
 ·have hn0:l=[]:=Yad (by simp_all);subst hn0;refine zR ?_;exact .inl ⟨rfl,rfl,Ya _⟩
 have hn1:0<n:=by have:=Zd1 g;omega
 obtain⟨b,r,rfl⟩:∃ b r,l=b::r:=by
  cases l with
  | nil=>simp_all
  | cons b r=>simp
 obtain⟨h0,bb,o,ha,hrow⟩:=hs.at (i:=0) hn1;replace hrow:M.row bb (o+0*1) 1=some [zc b]:=hrow;have hrl:r.length=n - 1:=by simp at hl;omega
 have hsub:SrcOk M 1 (subA a 1 c 1) (n - 1) (r.map zc):=by
  have:=hs.subm (lo:=1) (hi:=n) oM oM hc;rw[List.drop_succ_cons,Yco,Yf oM] at this;exact this
 have hb:=Yaz b;have hw:IntKind.i64.wrap (b.toNat:Int)=b.toNat:=wrap_i64 oM
 refine ob oM ?_;refine atp ha ?_;refine on hrow ?_;(conv=>whnf)
 rw[hw];refine brn (fun g1=>?_) (fun g1=>?_)
 ·have k1:b.toNat=1:=by have:=Zd0 g1;omega
  refine brn (fun g2=>?_) (fun g2=>?_)
  ·have hp:zcu (b::r)=none:=by
    rw[zby,if_pos k1,if_neg];intro e;subst e;have:=Zd0 g2
    simp at hrl;omega
   refine zR ?_;exact .inl ⟨hp,rfl,by first|exact Ya _|exact hle⟩
  ·have hr:r=[]:=Yad (by grind);have hp:zcu (b::r)=some ⟨1,za7,[]⟩:=by rw[zby,if_pos k1,if_pos hr]
   rw[k1];refine zR ?_;exact .inr ⟨_,none,0,hp,rfl,Ya _,Ybj _ _,by simp⟩
 have k1:¬b.toNat=1:=by have:=Zd1 g1;omega
 refine brn (fun g2=>?_) (fun g2=>?_)
 ·have k2:b.toNat=2:=by have:=Zd0 g2;omega
  refine zV ?_;refine(ztO _ _ _ _ r hsub oM oM).mono ?_;rintro v M1 ⟨p,m,k,rfl,hle,hps,hm, -⟩;refine brn (fun g3=>?_) (fun g3=>?_)
  ·have e:¬zaZ r=0:=by simpa using g3
   have hp:zcu (b::r)=none:=by rw[zby,if_neg k1,if_pos k2,if_neg e]
   refine zR ?_;exact .inl ⟨hp,rfl,by omega⟩
  ·have e:zaZ r=0:=by simpa using g3
   have hp:zcu (b::r)=some ⟨2,(zaI r).id,(zaI r).p⟩:=by rw[zby,if_neg k1,if_pos k2,if_pos e]
   obtain rfl:=hps.maplen;rw[k2];refine zR ?_;exact .inr ⟨_,p,k,hp,rfl,hle,hps,hm⟩
 have k2:¬b.toNat=2:=by have:=Zd1 g2;omega
 refine brn (fun g3=>?_) (fun g3=>?_)
 ·have k3:b.toNat=3∨b.toNat=4:=by have:=Zd0 g3;omega
  refine brn_t g3 ?_;refine zV ?_;refine(zmj _ _ _ _ r hsub (by omega) (by omega)).mono ?_;rintro v _ ⟨rfl,rfl⟩;refine brn (fun g5=>?_) (fun g5=>?_)
  ·have e:¬zau r=0:=by simpa using g5
   have hp:zcu (b::r)=none:=by rw[zby,if_neg k1,if_neg k2,if_pos k3,if_neg e]
   refine zR ?_;exact .inl ⟨hp,rfl,by first|exact Ya _|exact hle⟩
  ·have e:zau r=0:=by simpa using g5
   have hp:zcu (b::r)=some ⟨b.toNat,zcU r,[]⟩:=by rw[zby,if_neg k1,if_neg k2,if_pos k3,if_pos e]
   refine zR ?_;exact .inr ⟨_,none,0,hp,rfl,Ya _,Ybj _ _,by simp⟩
 refine brn (fun g4=>?_) (fun g4=>?_)
 ·have k3:b.toNat=3∨b.toNat=4:=by have:=Zd0 g4;omega
  refine zV ?_;refine(zmj _ _ _ _ r hsub (by omega) (by omega)).mono ?_;rintro v _ ⟨rfl,rfl⟩;refine brn (fun g5=>?_) (fun g5=>?_)
  ·have e:¬zau r=0:=by simpa using g5
   have hp:zcu (b::r)=none:=by rw[zby,if_neg k1,if_neg k2,if_pos k3,if_neg e]
   refine zR ?_;exact .inl ⟨hp,rfl,by first|exact Ya _|exact hle⟩
  ·have e:zau r=0:=by simpa using g5
   have hp:zcu (b::r)=some ⟨b.toNat,zcU r,[]⟩:=by rw[zby,if_neg k1,if_neg k2,if_pos k3,if_pos e]
   refine zR ?_;exact .inr ⟨_,none,0,hp,rfl,Ya _,Ybj _ _,by simp⟩
 ·have k3:¬(b.toNat=3∨b.toNat=4):=by have:=Zd1 g3;have:=Zd1 g4;omega
  have hp:zcu (b::r)=none:=by rw[zby,if_neg k1,if_neg k2,if_neg k3]
  refine zR ?_;exact .inl ⟨hp,rfl,by first|exact Ya _|exact hle⟩
end
section
variable {M:Mem}
def zbP (l:List UInt8):EvX:=(zcu l).getD ⟨0,za7,[]⟩
def zgE (l:List UInt8):Int:=if zcu l=none then 2 else 0
theorem GetOut.all {l:List UInt8} {v:Value} {M':Mem} (h:GetOut l M v M'):∃ a c,v = .tuple #[evV (zbP l).kind (zbP l).id a (zbP l).p.length c,.int .i64 (zgE l)]∧M.le M'∧SrcOk M' 1 a (zbP l).p.length ((zbP l).p.map zc):=by
 unfold zbP zgE;rcases h with ⟨h1,rfl,h2⟩|⟨x,a,c,h1,rfl,h2,h3,h4⟩
 ·rw[h1];exact⟨none,0,rfl,h2,Ybj _ _⟩
 ·rw[h1];exact⟨a,c,rfl,h2,h3⟩
theorem zxB {l:List UInt8} (h:zgE l=0):zcu l=some (zbP l):=by
 unfold zgE at h;unfold zbP;cases e:zcu l with
 | none=>simp_all
 | some x=>rfl
theorem zAc (x:EvX):(zca x).length≤60:=by
 unfold zca;split
 ·rename_i h;unfold zB;rw[Ym];split
  ·simp
  ·split
   ·rename_i hk;have:=(ziq h hk).2.2
    rw[Yi,zdO];omega
   ·rw[zdO];omega
 ·simp
theorem back {x:EvX} (h:zcB x=0):zbP (zca x)=x∧zgE (zca x)=0:=by
 have e:zca x=zB x:=by unfold zca;rw[if_pos h]
 have:=zxz h;unfold zbP zgE;rw[e,this];exact⟨rfl,rfl⟩
theorem zJd {l:List UInt8} (h:zgE l=0):zcB (zbP l)=0∧zca (zbP l)=l:=by
 obtain⟨h1,h2⟩:=zxA (zxB h);exact⟨h1,by unfold zca;rw[if_pos h1,h2]⟩
end
section
variable {M:Mem}
structure zmz where
 self:Int
 epoch:Int
 ul:NxT
 hs:List zdH
 sn:List Mk
def zIb (l:NxT):List UInt8:=l.flatMap fun n=>zr n.1::zs7 [n.2]
def zJe (l:List zdH):List UInt8:=l.flatMap fun m=>zr (6+m.p.length)::(zY m.id.o m.id.d m.id.e m.id.c++m.p)
def zJf (m:Mk):List UInt8:=zr m.o::(zs7 [m.e,m.up,m.more.length]++zs7 m.more)
def zIc (l:List Mk):List UInt8:=l.flatMap zJf
def zJg (s:zmz):List UInt8:=zr s.self::(zs7 [s.epoch]++[zr s.ul.length])
def zwl (s:zmz):List UInt8:=zJg s++zIb s.ul++zs7 [(s.hs.length:Int)]++zJe s.hs++zs7 [(s.sn.length:Int)]++zIc s.sn
def zB8 (s:zmz):List UInt8:=zwl s++be 4 (zho (zwl s))
structure zKB (s:zmz):Prop where
 bad:¬zcE s.self 256 1048576 256
 form:zJa s.self s.epoch s.ul s.hs s.sn
 full:¬zJb 256 1048576 256 s.hs s.sn
 few:s.sn.length≤65535
structure zKC (M:Mem) (s:zmz) (ua:Option Addr) (un:Nat) (ha:Option Addr) (hn hc:Nat) (ma:Option Addr) (mn:Nat) (ms:List MX) (mk:List MkC):Prop where
 stat:zFq M ua un ha hn ma mn s.ul ms mk
 big:zH8 ms mk un hn hc mn
 held:ms.map MX.msg=s.hs
 seen:mk.map MkC.mk'=s.sn
variable {s:zmz} {ua ha ma:Option Addr} {un uc hn hc mn mc:Nat} {ms:List MX} {mk:List MkC}
end
section
variable {M M0 M1 Mc:Mem}
theorem zxC (M:Mem) (b:Nat) (E:TypeId) (l:List Value) (y:Nat):(M.setCells b E l) y=if y=b then some (.cells l.toArray E (0,0)) else M y:=by unfold Mem.setCells Mem.upd;rfl
@[reducible] def zKb (M1:Mem) (b:Nat) (k:Nat):Mem:=M1.setCells b 3 [.int .i64 k]
structure zKM (M1:Mem) (b4 b7 b8:Nat) (a:Option Addr) (c:Nat) (l:List UInt8):Prop where
 body:M1.has b4 37 [.slice a l.length c]
 bad:M1.has b8 4 [.bool false]
 src:∀ k,SrcOk (zKb M1 b7 k) 1 a l.length (l.map zc)
 ne:b4≠b7∧b8≠b7
 big:l.length≤4194304∧l.length≤c
structure Got (X M:Mem) (ua:Option Addr) (uc:Nat) (ul:NxT) (ha:Option Addr) (hc:Nat) (ms:List MX) (ma:Option Addr) (mc:Nat) (mk:List MkC):Prop where
 nx:NewSl X 136 2 ua ul.length uc (ul.flatMap zsZ) M
 held:HeldAt X ha ms.length hc ms M
 seen:MarksAt X ma mk.length mc mk M
variable {X:Mem} {ua ha ma:Option Addr} {uc hc mc:Nat} {ul:NxT} {ms:List MX} {mk:List MkC}
end
section
variable {A M M':Mem} {c p:Nat} {N:Int}
structure CuR where
 X:StW
 D:ze
 L:zaM
 w:CuW
structure CuH where
 h:Hd
 g:Nat
 db:Nat
 des:FsT
@[reducible] def CuH.lb (p:Nat) (H:CuH):Nat→Prop:=zbK H.g p H.db H.des
def LgOk (L:zaM):Prop:=(1≤L.last∧L.last≤99999)∧0≤L.size∧L.size≤1048576
structure CuAt (A M:Mem) (c p:Nat) (N:Int) (H:CuH) (C:CuR):Prop where
 st:FreshW A M H.h C.X
 log:LogAt A M H.g p H.db C.D H.des C.L
 self:M.has c 153 (zhB H.h.p p (ptr H.g) C.w)
 cf:A c=none
 dj:∀ y,hB H.h y→¬H.lb p y
 cs:¬hB H.h c
 cl:¬H.lb p c
 lg:LgOk C.L
 nm:NamesC C.D
 cm:H.h.came≤N
def cuB (c p:Nat) (H:CuH):Nat→Prop:=fun y=>y=c∨hB H.h y∨H.lb p y
variable {H:CuH} {C:CuR}
theorem FreshW.keepS {h:Hd} {X:StW} (h1:FreshW A M h X) {S:Nat→Prop} (hk:Mem.keep S M M') (hS:∀ y,S y→A y=none∧¬hB h y):FreshW A M' h X:=
 ⟨⟨hk.le h1.st.le fun y hy=>(hS y hy).1,h1.st.at'.mono fun y o hy ho=>hk y o (fun e=>(hS y e).2 hy) ho,h1.st.inv,h1.st.invE,h1.st.room,h1.st.fresh⟩,h1.seen,h1.go,h1.bd⟩
theorem FreshW.some {h:Hd} {X:StW} (h1:FreshW A M h X) {y:Nat} (hy:hB h y):M y≠none:=h1.st.some hy
theorem CuAt.to (h:CuAt A M c p N H C) (hle:M.le M'):CuAt A M' c p N H C:=⟨h.st.to hle,h.log.to hle,h.self.le hle,h.cf,h.dj,h.cs,h.cl,h.lg,h.nm,h.cm⟩
theorem CuAt.le (h:CuAt A M c p N H C):A.le M:=h.log.disk.le
theorem CuAt.some (h:CuAt A M c p N H C) {y:Nat} (hy:cuB c p H y):M y≠none:=by
 rcases hy with rfl|hy|hy
 ·have:=h.self;unfold Mem.has at this;rw[this];simp
 ·exact h.st.some hy
 ·exact h.log.full hy
theorem CuAt.fresh (h:CuAt A M c p N H C) {y:Nat} (hy:cuB c p H y):A y=none:=by
 rcases hy with rfl|hy|rfl|hy
 ·exact h.cf
 ·exact h.st.st.fresh y hy
 ·exact h.log.fresh
 ·exact h.log.disk.fresh y hy
theorem CuAt.mono {A':Mem} (h:CuAt A' M c p N H C) (hle:A.le A'):CuAt A M c p N H C:=⟨h.st.mono hle,h.log.mono hle,h.self,(by
 cases e:A c with
 | none=>rfl
 | some o=>have:=hle c o e;rw[h.cf] at this;cases this),h.dj,h.cs,h.cl,h.lg,h.nm,h.cm⟩
theorem CuAt.base (h:CuAt A M c p N H C):CuAt (M.minus (cuB c p H)) M c p N H C∧A.le (M.minus (cuB c p H)):=by
 refine⟨⟨⟨⟨Yac _ _,h.st.st.at',h.st.st.inv,h.st.st.invE,h.st.st.room,fun y hy=>Yao (.inr (.inl hy))⟩,h.st.seen,h.st.go,h.st.bd⟩,
  ⟨⟨Yac _ _,h.log.disk.at',h.log.disk.rel,h.log.disk.inv,fun y hy=>Yao (.inr (.inr (.inr hy)))⟩,h.log.self,Yao (.inr (.inr (.inl rfl)))⟩,
  h.self,Yao (.inl rfl),h.dj,h.cs,h.cl,h.lg,h.nm,h.cm⟩,Ybw h.le fun y hy=>h.fresh hy⟩
theorem CuAt.turnL (h:CuAt A M c p N H C) {D':ze} {es':FsT} {L':zaM} (h':LogAt (M.minus (H.lb p)) M' H.g p H.db D' es' L') (hl:LgOk L') (hn:NamesC D'):CuAt A M' c p N { H with des:=es' } { C with D:=D',L:=L' }:=by
 have hk:Mem.keep (H.lb p) M M':=Ycd.2 h'.disk.le
 have hnew:∀ y,zbK H.g p H.db es' y→(M.minus (H.lb p)) y=none:=fun y hy=>by
  rcases hy with rfl|hy
  ·exact h'.fresh
  ·exact h'.disk.fresh y hy
 have hout:∀ y,¬H.lb p y→M y≠none→¬zbK H.g p H.db es' y:=fun y h1 h2 h3=>by
  have h4:=hnew y h3;unfold Mem.minus at h4;rw[if_neg h1] at h4;exact h2 h4
 refine⟨h.st.keepS hk fun y hy=>⟨h.fresh (.inr (.inr hy)),fun h2=>h.dj y h2 hy⟩,h'.mono h.log.base.2,hk _ _ h.cl h.self,h.cf,fun y hy=>hout y (h.dj y hy) (h.st.some hy),h.cs,hout c h.cl (h.some (.inl rfl)),hl,hn,h.cm⟩
theorem CuAt.turnS (h:CuAt A M c p N H C) {N':Int} {h2:Hd} {X':StW} (h':FreshW (M.minus (hB H.h)) M' h2 X') (hp:h2.p=H.h.p) (hc:h2.came≤N'):CuAt A M' c p N' { H with h:=h2 } { C with X:=X' }:=by
 have hk:Mem.keep (hB H.h) M M':=Ycd.2 h'.st.le
 have hout:∀ y,¬hB H.h y→M y≠none→¬hB h2 y:=fun y h1 h3 h4=>by
  have h5:=h'.st.fresh y h4;unfold Mem.minus at h5;rw[if_neg h1] at h5;exact h3 h5
 refine⟨h'.mono h.st.base.2,h.log.keepS hk fun y hy=>⟨h.fresh (.inr (.inl hy)),h.dj y hy⟩,?_,h.cf,fun y hy hl=>hout y (fun h1=>h.dj y h1 hl) (h.log.full hl) hy,hout c h.cs (h.some (.inl rfl)),h.cl,h.lg,h.nm,hc⟩;have:=hk _ _ h.cs h.self
 dsimp only;rw[hp];exact this
theorem CuAt.turnC (h:CuAt A M c p N H C) (w:CuW):CuAt A (M.setCells c 153 (zhB H.h.p p (ptr H.g) w)) c p N H { C with w:=w }:=by
 have hk:Mem.keep (fun y=>y=c) M (M.setCells c 153 (zhB H.h.p p (ptr H.g) w)):=fun y o hy ho=>by
  unfold Mem.setCells;rw[Yg _ _ hy];exact ho
 exact⟨h.st.keepS hk fun y hy=>hy▸⟨h.cf,h.cs⟩,h.log.keepS hk fun y hy=>hy▸⟨h.cf,h.cl⟩,Ye,h.cf,h.dj,h.cs,h.cl,h.lg,h.nm,h.cm⟩
theorem CuAt.disk (h:CuAt A M c p N H C):FreshD A M p H.db C.D H.des:=h.log.disk
theorem CuAt.turnD (h:CuAt A M c p N H C) {D':ze} {es':FsT} (h':FreshD (M.minus (zao p H.db H.des)) M' p H.db D' es') (hn:NamesC D'):CuAt A M' c p N { H with des:=es' } { C with D:=D' }:=
 h.turnL (h.log.base.1.call h') h.lg hn
end
section
variable {A M M':Mem} {c p:Nat} {N:Int} {H:CuH} {C:CuR}
def ziH (C:CuR) (q:List UInt8):CuR×Int:=({ C with D:=(zaf C.D C.L q).1,L:=(zaf C.D C.L q).2.1,w:=zib C.w (zaf C.D C.L q).2.2 },(zaf C.D C.L q).2.2)
def zgP (C:CuR):CuR×Int:=({ C with D:=(syncL C.D C.L).1,L:=(syncL C.D C.L).2.1,w:=zib C.w (syncL C.D C.L).2.2 },(syncL C.D C.L).2.2)
def zln (C:CuR) (k:Int) (i:IdT) (q:List UInt8):CuR×Int:=({ C with X:=(zck C.X k i q).1 },(zck C.X k i q).2)
def zaC (C:CuR) (k:Int) (i:IdT) (q:List UInt8) (safely:Bool):CuR×Int:=
 if C.w.failed=true then (C,7) else if zcq C.X k i q.length≠0 then (C,zcq C.X k i q.length)
 else if (ziH C (zB ⟨k,i,q⟩)).2≠0 then ziH C (zB ⟨k,i,q⟩)
 else if safely=true then (if (zgP (ziH C (zB ⟨k,i,q⟩)).1).2≠0 then zgP (ziH C (zB ⟨k,i,q⟩)).1 else zln (zgP (ziH C (zB ⟨k,i,q⟩)).1).1 k i q)
 else zln (ziH C (zB ⟨k,i,q⟩)).1 k i q
theorem NamesC.l {D D':ze} (h:NamesC D) (e:∀ f∈D'.l,f∈D.l∨(∃ k:Int,¬(k<1∨99999<k)∧f.name=zb k)∨(∃ k:Int,¬(k<1∨99999<k)∧f.name=zaD k)∨f.name=⟨#[116]⟩):NamesC D':=fun f hf=>by
 rcases e f hf with hf|hf
 ·exact h f hf
 ·exact hf
theorem NamesC.sync {D:ze} (h:NamesC D) (s:ByteArray):NamesC (zbM D s).1:=by
 unfold zbM;split
 ·exact h
 ·rename_i h0;have hf:=(zcA (by simpa using h0)).2
  refine h.l fun f hf2=>?_
  rcases withR_mem.1 hf2 with rfl|⟨hf2,_⟩
  ·have:=Ych hf;have hn:(zt D s).name=s:=Zd0 (Ydo (p:=fun f:FileR=>decide (f.name=s)) hf)
   have:=h _ this;rw[hn] at this;exact .inr this
  ·simp_all
theorem NamesC.append {D:ze} (h:NamesC D) {s:ByteArray} (hs:za5 D s=0→(∃ k:Int,¬(k<1∨99999<k)∧s=zb k)∨s=⟨#[116]⟩) (q:List UInt8):NamesC (zay D s q).1:=by
 unfold zay;split
 ·exact h
 ·rename_i h0;split
  ·exact h
  ·refine h.l fun f hf=>?_
   rcases withR_mem.1 hf with rfl|⟨hf,_⟩
   ·grind
   ·simp_all
theorem NamesC.remove {D:ze} (h:NamesC D) (s:ByteArray):NamesC (zae D s).1:=by
 unfold zae;split
 ·exact h
 ·exact h.l fun f hf => .inl (withoutR_mem.1 hf).1
theorem NamesC.removeAll:∀ {ks:List Int} {D:ze},NamesC D→NamesC (removeAll D ks).1
 | [],_,h=>h
 | k::r,D,h=>by
  rw[Go.Proofs.YtlgbofpennelhaaGreat.removeAll];split
  ·exact h.remove _
  ·exact NamesC.removeAll (h.remove _)
theorem NamesC.syncL {D:ze} (h:NamesC D) (L:zaM):NamesC (syncL D L).1:=by
 unfold Go.Proofs.YtlgbofpennelhaaGreat.syncL
 repeat' split
 all_goals first|exact h|exact h.sync _
theorem NamesC.beginL {D:ze} (h:NamesC D) (L:zaM):NamesC (beginL D L).1:=by
 unfold Go.Proofs.YtlgbofpennelhaaGreat.beginL
 repeat' split
 all_goals exact h.syncL L
theorem LgOk.sync {L:zaM} (h:LgOk L) (D:ze):LgOk (syncL D L).2.1:=by
 obtain⟨h1, -, h2⟩:=zi8 D L;unfold LgOk at h ⊢;rw[h1,h2];exact h
theorem LgOk.begin {L:zaM} (h:LgOk L) (D:ze):LgOk (beginL D L).2.1:=by
 have hs:=h.sync D;unfold LgOk at h;unfold Go.Proofs.YtlgbofpennelhaaGreat.beginL
 repeat' split
 all_goals first|exact hs|(unfold LgOk at hs ⊢; dsimp only;have:=(zi8 D L).1;omega)
theorem LgOk.down {L:zaM} (h:LgOk L) (e:Int):LgOk (zdr L e):=h
theorem zsb {D:ze} {L:zaM} (h:NamesC D) (hl:LgOk L) (q:List UInt8):NamesC (zaf D L q).1∧LgOk (zaf D L q).2.1:=by
 have hr:NamesC (zbO D L (zam q).length).1∧LgOk (zbO D L (zam q).length).2.1:=by
  unfold zbO;split
  ·exact⟨h.beginL L,hl.begin D⟩
  ·simp_all
 unfold zaf
 repeat' split
 all_goals first|exact⟨h,hl⟩|exact hr|skip
 refine⟨hr.1.append (fun h0 => .inl ⟨_,zkZ h0,rfl⟩) _,hr.2.down _⟩
theorem zJh (h:CuAt A M c p N H C) {q:List UInt8} {a:Option Addr} {n cc:Nat} (hs:SrcOk A 1 a n (q.map zc)) (hn:n≤2097152) (hnc:n≤cc) :
  CallsM prog 132 [ptr H.g,.slice a n cc] M fun v M'=>∃ es',v = .int .i64 (zaf C.D C.L q).2.2∧CuAt A M' c p N { H with des:=es' } { C with D:=(zaf C.D C.L q).1,L:=(zaf C.D C.L q).2.1 }:=by
 obtain⟨h1,h2⟩:=zsb h.nm h.lg q;have hb:=h.log.base
 refine(zz4 hb.1 h.lg.1.2 h.lg.1.1 h.lg.2 (hs.le h.le) hn hnc (wlL h.disk.inv _)).mono ?_;rintro v M' ⟨es',hv,h'⟩;exact⟨es',hv,h.turnL h' h2 h1⟩
theorem zJi (h:CuAt A M c p N H C):CallsM prog 133 [ptr H.g] M fun v M'=>∃ es',v = .int .i64 (syncL C.D C.L).2.2∧CuAt A M' c p N { H with des:=es' } { C with D:=(syncL C.D C.L).1,L:=(syncL C.D C.L).2.1 }:=
 (zwd h.log.base.1).mono fun _ _ ⟨es',hv,h'⟩=>⟨es',hv,h.turnL h' (h.lg.sync _) (h.nm.syncL _)⟩
theorem zB9 (h:CuAt A M c p N H C) (e:Int):CallsM prog 131 [ptr c,.int .i64 e] M fun v M'=>v = .int .i64 e∧CuAt A M' c p N H { C with w:=zib C.w e }:=
 (zDR h.self e).mono fun _ _ ⟨hv,hM⟩=>⟨hv,hM▸h.turnC _⟩
theorem zJj (h:CuAt A M c p N H C) (k:Int) (i:IdT) (a:Option Addr) (n cc:Nat) (hn:n≤1048576):CallsM prog 129 [ptr H.h.p,evV k i a n cc] M fun v M'=>v = .int .i64 (zcq C.X k i n)∧M.le M':=zJc h.st k i a n cc hn
theorem zs9 (h:CuAt A M c p N H C) (hN:N≤4611686018427387904) (k:Int) (i:IdT) {a:Option Addr} {cc:Nat} {l:List UInt8} (hl:SrcOk A 1 a l.length (l.map zc)) (hn:l.length≤1048576) :
  CallsM prog 134 [ptr H.h.p,evV k i a l.length cc] M fun v M'=>∃ h2:Hd,v = .int .i64 (zck C.X k i l).2∧h2.p=H.h.p∧CuAt A M' c p (N+1) { H with h:=h2 } { C with X:=(zck C.X k i l).1 }:=by
 have hb:=h.st.base;refine(zGv hb.1 k i (hl.le h.le) hn (by have:=h.cm;omega)).mono ?_;rintro v M' ⟨h2,hv,h',hp,hc⟩;exact⟨h2,hv,hp,h.turnS h' hp (by have:=h.cm;omega)⟩
theorem CuAt.more {N':Int} (h:CuAt A M c p N H C) (hN:N≤N'):CuAt A M c p N' H C:=⟨h.st,h.log,h.self,h.cf,h.dj,h.cs,h.cl,h.lg,h.nm,by have:=h.cm;omega⟩
theorem zir {X:StW} {k:Int} {i:IdT} {n:Nat} (h:zcq X k i n=0):zbB k i n=0:=by
 unfold zcq zbi at h;split at h
 ·omega
 ·omega
set_option maxHeartbeats 1000000 in
theorem zsc (h:CuAt A M c p N H C) (hN:N≤4611686018427387904) (k:Int) (i:IdT) {a:Option Addr} {cc:Nat} {l:List UInt8} (hl:SrcOk A 1 a l.length (l.map zc)) (hn:l.length≤1048576) (s:Bool) :
  CallsM prog 70 [ptr c,evV k i a l.length cc,.bool s] M fun v M'=>∃ H',v = .int .i64 (zaC C k i l s).2∧CuAt A M' c p (N+1) H' (zaC C k i l s).1:=by
 refine zkH oS ?_;refine zJ (ztS h.self) ?_;refine brn (fun e=>?_) (fun e=>?_)
 ·have hf:C.w.failed=true:=by
   cases hf:C.w.failed
   ·rw[hf] at e;exact absurd e oD
   ·rfl
  refine zR ?_;rw[if_pos hf,show zaC C k i l s=(C,7) by simp[zaC,hf]];exact⟨H,rfl,h.more oM⟩
 have hf:¬C.w.failed=true:=fun hf=>by simp_all
 refine zL (h.self) ?_;refine(zJj h k i a l.length cc hn).mono ?_;rintro v M1 ⟨rfl,hle1⟩;have h1:=h.to hle1
 refine brn (fun e=>?_) (fun e=>?_)
 ·have e1:zcq C.X k i l.length≠0:=by simpa using e
  refine zR ?_;rw[show zaC C k i l s=(C,zcq C.X k i l.length) by unfold zaC;rw[if_neg hf,if_pos e1]];exact⟨H,rfl,h1.more oM⟩
 have e1:¬zcq C.X k i l.length≠0:=by simpa using e
 have hev:zcB ⟨k,i,l⟩=0:=zir (by simpa using e1);have hpb:zca ⟨k,i,l⟩=zB ⟨k,i,l⟩:=by unfold zca;rw[if_pos hev]
 have hpl:=zAc ⟨k,i,l⟩;refine zM (zD2 ⟨k,i,l⟩ (hl.le h1.le)) ?_;rw[hpb] at hpl;unfold zB7;rw[hev,hpb];rintro v M2 ⟨a2,c2,rfl,hN2⟩;have h2:=(h1.to hN2.le).base
 have hs2:SrcOk (M2.minus (cuB c p H)) 1 a2 (zB ⟨k,i,l⟩).length ((zB ⟨k,i,l⟩).map zc):=hN2.src.minus fun q hq hb=>h1.some hb (hN2.block hq).1
 have hc2:(zB ⟨k,i,l⟩).length≤c2:=(newSl_iff.1 hN2).2.2.1;refine zL (h2.1.self) ?_;refine(zJh h2.1 hs2 oM hc2).mono ?_;rintro v M3 ⟨es3,rfl,h3⟩;refine zM (zB9 h3 _) ?_;rintro v M4 ⟨rfl,h4⟩;replace h4:CuAt A M4 c p N { H with des:=es3 } (ziH C (zB ⟨k,i,l⟩)).1:=h4.mono h2.2;have hA:(zaf C.D C.L (zB ⟨k,i,l⟩)).2.2=(ziH C (zB ⟨k,i,l⟩)).2:=rfl
 rw[hA];obtain⟨C4,hC4⟩:∃ C4,C4=ziH C (zB ⟨k,i,l⟩):=⟨_,rfl⟩
 have hX4:C4.1.X=C.X:=by rw[hC4];rfl
 have hput:zaC C k i l s=if C4.2≠0 then C4 else if s=true then (if (zgP C4.1).2≠0 then zgP C4.1 else zln (zgP C4.1).1 k i l) else zln C4.1 k i l:=by
  unfold zaC;rw[if_neg hf,if_neg e1,←hC4]
 rw[←hC4] at h4 ⊢;refine brn (fun e=>?_) (fun e=>?_)
 ·have e2:C4.2≠0:=by simpa using e
  refine zR ?_;rw[hput,if_pos e2];exact⟨_,rfl,h4.more oM⟩
 have e2:¬C4.2≠0:=by simpa using e
 rw[if_neg e2] at hput;cases s
 ·rw[if_neg oD] at hput;refine zL (h4.self) ?_;refine(zs9 h4 hN k i hl hn).mono ?_;rintro v M5 ⟨hh5,rfl, -, h5⟩;refine zR ?_;rw[hput];exact⟨_,rfl,h5⟩
 rw[if_pos rfl] at hput;refine zL (h4.self) ?_;refine(zJi h4).mono ?_;rintro v M5 ⟨es5,rfl,h5⟩;refine zM (zB9 h5 _) ?_;rintro v M6 ⟨rfl,h6⟩;have hS:(syncL C4.1.D C4.1.L).2.2=(zgP C4.1).2:=rfl
 rw[hS];replace h6:CuAt A M6 c p N _ (zgP C4.1).1:=h6;obtain⟨C6,hC6⟩:=oI (zgP C4.1);rw[←hC6] at h6 hput ⊢;refine brn (fun e=>?_) (fun e=>?_)
 ·have e3:C6.2≠0:=by simpa using e
  refine zR ?_;rw[hput,if_pos e3];exact⟨_,rfl,h6.more oM⟩
 have e3:¬C6.2≠0:=by simpa using e
 rw[if_neg e3] at hput;refine zL (h6.self) ?_;refine(zs9 h6 hN k i hl hn).mono ?_;rintro v M7 ⟨hh7,rfl, -, h7⟩;refine zR ?_;rw[hput];exact⟨_,rfl,h7⟩
end
section
variable {A M M':Mem} {c p:Nat} {N:Int} {H:CuH} {C:CuR}
def zjJ (C:CuR) (d:Int):Int:=if (zaA C.X.S d).2=0∧C.w.spent=true then 10 else (zaA C.X.S d).2
def zbt (C:CuR) (d:Int) (q:List UInt8):CuR×IdT×Int:=
 if C.w.failed=true then (C,za7,7) else if zjJ C d≠0 then (C,za7,zjJ C d)
 else if (zaC C 2 (zaA C.X.S d).1 q true).2≠0 then ((zaC C 2 (zaA C.X.S d).1 q true).1,za7,(zaC C 2 (zaA C.X.S d).1 q true).2)
 else ((zaC C 2 (zaA C.X.S d).1 q true).1,(zaA C.X.S d).1,0)
theorem zD4 (h:CuAt A M c p N H C) (hN:N≤4611686018427387904) (d:Int) {a:Option Addr} {cc:Nat} {l:List UInt8} (hl:SrcOk A 1 a l.length (l.map zc)) (hn:l.length≤1048576) :
  CallsM prog 34 [ptr c,.int .i64 d,.slice a l.length cc] M fun v M'=>∃ H',v = .tuple #[idA (zbt C d l).2.1,.int .i64 (zbt C d l).2.2]∧CuAt A M' c p (N+1) H' (zbt C d l).1:=by
 refine ziW oS ?_;refine zJ (ztS h.self) ?_;refine brn (fun e=>?_) (fun e=>?_)
 ·have hf:C.w.failed=true:=by
   cases hf:C.w.failed
   ·simp_all
   ·rfl
  refine zR ?_;rw[if_pos hf,show zbt C d l=(C,za7,7) by simp[zbt,hf]];exact⟨H,rfl,h.more oM⟩
 have hf:¬C.w.failed=true:=fun hf=>by simp_all
 refine zL (h.self) ?_;refine zJ (zGw h.st d) ?_;obtain⟨f,hfd⟩:=oI (zaA C.X.S d);have hfc:zjJ C d=if f.2=0∧C.w.spent=true then 10 else f.2:=by rw[hfd];rfl
 have hsub:zbt C d l=if zjJ C d≠0 then (C,za7,zjJ C d) else if (zaC C 2 f.1 l true).2≠0 then ((zaC C 2 f.1 l true).1,za7,(zaC C 2 f.1 l true).2) else ((zaC C 2 f.1 l true).1,f.1,0):=by
  unfold zbt;rw[if_neg hf,hfd]
 rw[←hfd];refine zR ?_;refine brn (fun e=>?_) (fun e=>?_)
 rotate_left
 ·have e1:f.2≠0:=by simpa using e
  rw[if_neg (fun hh=>e1 hh.1)] at hfc;refine zR ?_;refine brn_f (by simp[e1]) ?_;refine zR ?_;refine brn_t (by simp[e1]) ?_;refine zR ?_;rw[hsub,hfc,if_pos e1];exact⟨H,rfl,h.more oM⟩
 have e1:f.2=0:=Zd0 e;refine zL (h.self) ?_;cases hsp:C.w.spent
 case true=>
  rw[if_pos ⟨e1,hsp⟩] at hfc;refine zR ?_;rw[hsub,hfc,if_pos oD];exact⟨H,rfl,h.more oM⟩
 rw[if_neg (fun hh=>by simp_all)] at hfc;refine zR ?_;refine brn_t (decide_eq_true e1) ?_;refine zM (zsc h hN 2 f.1 hl hn true) ?_;rintro v M2 ⟨H2,rfl,h2⟩;rw[hfc,if_neg (by simp[e1])] at hsub;refine zR ?_;refine brn (fun e=>?_) (fun e=>?_)
 ·have e2:(zaC C 2 f.1 l true).2≠0:=by simpa using e
  refine zR ?_;rw[hsub,if_pos e2];exact⟨H2,rfl,h2⟩
 ·have e2:¬(zaC C 2 f.1 l true).2≠0:=by simpa using e
  refine zR ?_;rw[hsub,if_neg e2];exact⟨H2,rfl,h2⟩
theorem zId (h:CuAt A M c p N H C) (hN:N≤4611686018427387904) (i:IdT) {a:Option Addr} {cc:Nat} {l:List UInt8} (hl:SrcOk A 1 a l.length (l.map zc)) (hn:l.length≤1048576) :
  CallsM prog 280 [ptr c,.agg #[.int .i64 i.o,.int .i64 i.d,.int .i64 i.e,.int .i64 i.c,.slice a l.length cc]] M fun v M'=>∃ H',v = .int .i64 (zaC C 2 i l true).2∧CuAt A M' c p (N+1) H' (zaC C 2 i l true).1:=by
 refine zjX oS ?_;refine zM (zsc h hN 2 i hl hn true) ?_;rintro v M2 ⟨H2,rfl,h2⟩;refine zR ?_;exact⟨H2,rfl,h2⟩
theorem zCa (h:CuAt A M c p N H C) (hN:N≤4611686018427387904) (i:IdT):CallsM prog 196 [ptr c,idA i] M fun v M'=>∃ H',v = .int .i64 (zaC C 3 i [] false).2∧CuAt A M' c p (N+1) H' (zaC C 3 i [] false).1:=by
 refine ziB oS ?_;refine zM (zsc (l:=[]) (a:=none) (cc:=0) h hN 3 i (Ybj _ _) oD false) ?_;rintro v M2 ⟨H2,rfl,h2⟩;refine zR ?_;exact⟨H2,rfl,h2⟩
theorem zCb (h:CuAt A M c p N H C) (hN:N≤4611686018427387904) (i:IdT):CallsM prog 278 [ptr c,idA i] M fun v M'=>∃ H',v = .int .i64 (zaC C 4 i [] true).2∧CuAt A M' c p (N+1) H' (zaC C 4 i [] true).1:=by
 refine ziC oS ?_;refine zM (zsc (l:=[]) (a:=none) (cc:=0) h hN 4 i (Ybj _ _) oD true) ?_;rintro v M2 ⟨H2,rfl,h2⟩;refine zR ?_;exact⟨H2,rfl,h2⟩
theorem zyu (h:CuAt A M c p N H C) (hN:N≤4611686018427387904) (hmk:C.X.sn.length≤1048576):CallsM prog 36 [ptr c] M fun v M'=>M.le M'∧zAb M M' C.X v:=by
 refine zjp oS ?_;refine zL (h.self) ?_;refine(zGx h.st (by have:=h.cm;omega) hmk).mono ?_;rintro v M1 ⟨hle,hS⟩;obtain⟨ua,uc,ha,hc,ms,ma,mc,mk,rfl,hr⟩:=hS.ex;refine zR ?_;exact⟨hle,⟨ua,uc,ha,hc,ms,ma,mc,mk,rfl,hr⟩⟩
theorem zIe (h:CuAt A M c p N H C) (hN:N≤4611686018427387904):CallsM prog 136 [ptr c] M fun v M'=>∃ a n cc ms,v = .slice a n cc∧HeldAt M a n cc ms M'∧ms.map MX.msg=C.X.S.l:=by
 refine zjT oS ?_;refine zL (h.self) ?_;refine(zIa h.st (by have:=h.cm;omega)).mono ?_;rintro v M1 ⟨a,n,cc,ms,rfl,hr⟩;refine zR ?_;exact⟨a,n,cc,ms,rfl,hr⟩
theorem zIf (h:CuAt A M c p N H C) (i:IdT):CallsM prog 279 [ptr c,idA i] M fun v M'=>
  (v = .tuple #[.agg #[.int .i64 0,.int .i64 0,.int .i64 0,.int .i64 0,.slice none 0 0],.bool false]∧zcD C.X.S.l i=false∧M=M') ∨
  (∃ a n cc l,v = .tuple #[.agg #[.int .i64 i.o,.int .i64 i.d,.int .i64 i.e,.int .i64 i.c,.slice a n cc],.bool true]∧zcD C.X.S.l i=true∧⟨i,l⟩∈C.X.S.l∧NewSl M 5 1 a n cc (l.map zc) M'):=by
 refine zjW oS ?_;refine zL (h.self) ?_;refine(zH9 h.st i).mono ?_;rintro v M1 (⟨rfl,h1,rfl⟩|⟨a,n,cc,l,rfl,h1,h2,h3⟩)
 ·refine zU ?_
  repeat' (first|refine⟨?_,True.intro⟩|refine⟨?_,?_,True.intro⟩|refine brn_t rfl ?_|refine brn_f rfl ?_|refine ob rfl ?_|refine obr rfl ?_|refine ob oD ?_|refine obr oD ?_|refine grow_same (Ya _) ?_|refine ob (Ya _) ?_|refine⟨_,Ya _,?_⟩|fail)
  exact .inl ⟨rfl,h1,rfl⟩
 ·refine zT (h3.le) ?_
  repeat' (first|refine⟨?_,True.intro⟩|refine⟨?_,?_,True.intro⟩|refine brn_t rfl ?_|refine brn_f rfl ?_|refine ob rfl ?_|refine obr rfl ?_|refine ob oD ?_|refine obr oD ?_|refine grow_same (Ya _) ?_|refine ob (Ya _) ?_|refine⟨_,Ya _,?_⟩|fail)
  exact .inr ⟨a,n,cc,l,rfl,h1,h2,h3⟩
theorem zes (h:CuAt A M c p N H C):CallsM prog 67 [ptr c] M fun v M'=>v = .bool C.w.failed∧M=M':=by
 refine ziX oS ?_;have hs:=h.self
 clear h;obtain⟨X,D,L,⟨sn,fl,sp⟩⟩:=C;cases fl
 ·refine zL (hs) ?_;exact⟨rfl,rfl⟩
 ·refine zL (hs) ?_;exact⟨rfl,rfl⟩
end
section
variable {M B:Mem} {p b sp sb:Nat} {S:StR} {came:Int} {xs:HsT} {es:EsT} {L:List K} {D:zs0} {ms:List MX}
theorem zCc (h:FreshSt B M p b sp sb S came xs es) (i:IdT):CallsM prog 342 [ptr p,idA i] M fun v M'=>v = .bool (decide (i.d=S.self)&&ze8 es i.o i.d i.e i.c)∧M.le M':=by
 refine znj oS ?_;have hA:=h.at'
 refine zK hA.self ?_;refine brn (fun g=>?_) (fun g=>?_)
 ·have g1:i.d=S.self:=Zd0 g;refine zR ?_;refine on (hA.self.c1 (zjD h.inv.ulen ..)) ?_;refine zM (zBJ hA.set (by have:=h.room;omega) i.o i.d i.e i.c) ?_;rintro v M1 ⟨rfl,h1⟩;refine zR ?_;exact⟨by rw[decide_eq_true g1,Yd1],h1⟩
 ·have g1:¬i.d=S.self:=Zd1 g;refine zR ?_;exact⟨by rw[decide_eq_false g1,Bool.false_and],Ya _⟩
end
end Go.Proofs.YtlgbofpennelhaaGreat
namespace Go.Proofs.YtlgbofpennelhaaGreat
open Go Go.Vm Go.Proofs.Tryz
attribute [local irreducible] Brn Ob Grow CallsM inR zX zI Mem.row Mem.cells Mem.setCells Mem.upd Go.Vm.Own zac zar zas zab New SrcOk subA NewSl Mem.textAt Mem.mapAt Mem.iterAt zH zF Wr NewEls Elems zdm zeZ zgg zeD zeE
set_option maxRecDepth 10000
section
variable {B0 M0 B M B' M':Mem} {S0:Nat→Prop}
def zot (e:Nat) (p:LP):Nat→Prop:=fun y=>y=e∨zc7 p.s p.qa y∨zkQ p.r p.km p.am y∨blk p.qo y∨blk p.qi y
theorem zFu (e:Nat) (p:LP) (X:zaX) (i:List CtlX×List Value) (y:Nat):zc5 (zuP e p X i.1 i.2) y↔zot e p y:=by simp[zc5,zbL,zl5,rcvP,objP,zaW,zot]
def lnkP (e:Nat) (p:LP) (X:zaX):Pt:=objP (zot e p) (fun i:List CtlX×List Value=>zuP e p X i.1 i.2) (fun B i=>i.1.map CtlX.x=X.out∧(∀ x∈i.1,x.ok B)∧Brows B i.2 X.inn∧LnkI X) (zFu e p X)
 fun _ _ _ h hle=>⟨h.1,fun x hx=>(h.2.1 x hx).le hle,h.2.2.1.le hle,h.2.2.2⟩
theorem lnkP.opn {e:Nat} {p:LP} {X:zaX} (h:(lnkP e p X).ok B M):LkAt B M (zot e p) B M e p X:=by
 obtain⟨i,h1,h2,h3,h4,h5⟩:=zsN (d:=zot e p) (qs:=fun i:List CtlX×List Value=>zuP e p X i.1 i.2) (R:=fun B i=>i.1.map CtlX.x=X.out∧(∀ x∈i.1,x.ok B)∧Brows B i.2 X.inn∧LnkI X) h (zFu e p X);exact⟨⟨i.1,i.2,h1,h2,h3,h4⟩,h5⟩
theorem LkAt.cls {e:Nat} {p:LP} {X:zaX} (h:LkAt B0 M0 S0 B M e p X):At B0 M0 S0 B M [lnkP e p X]:=by
 obtain⟨xs,vs,h1,h2,h3,h4⟩:=h.ex;unfold lnkP;exact objP.cls (i:=(xs,vs)) h1 ⟨h2,h3,h4,h.inv⟩
theorem zFv (d:Nat) (p:DQ) (X:zdG) (ts:List Value) (y:Nat):zc5 (zgL d p X ts) y↔zzG d p y:=by simp[zc5,zbL,zaW,zzG]
def decP (d:Nat) (p:DQ) (X:zdG):Pt:=objP (zzG d p) (zgL d p X) (fun B ts=>Brows B ts X.told∧X.inn.length≤260) (zFv d p X) fun _ _ _ h hle=>⟨h.1.le hle,h.2⟩
theorem decP.opn {d:Nat} {p:DQ} {X:zdG} (h:(decP d p X).ok B M):∃ ts,At B M (zzG d p) B M (zgL d p X ts)∧Brows B ts X.told∧X.inn.length≤260:=zsN (qs:=zgL d p X) (R:=fun B ts=>Brows B ts X.told∧X.inn.length≤260) h (zFv d p X)
theorem decP.cls {d:Nat} {p:DQ} {X:zdG} {ts:List Value} (h:At B0 M0 S0 B M (zgL d p X ts)) (hR:Brows B ts X.told) (hl:X.inn.length≤260):At B0 M0 S0 B M [decP d p X]:=by unfold decP;exact objP.cls h ⟨hR,hl⟩
structure SideR where
 L:zaX
 hunts:Bool
 inn:List UInt8
 resets:Int
 out:List UInt8
@[reducible] def SideR.D (X:SideR):zdG:=⟨X.hunts,X.inn,[]⟩
structure SP where
 s:Nat
 e:Nat
 p:LP
 d:Nat
 q:DQ
 o:Option Addr
 c:Nat
@[reducible] def zis (x:SP) (X:SideR):List Value:=[ptr x.e,ptr x.d,.int .i64 X.resets,.slice x.o X.out.length x.c]
@[reducible] def zeO (x:SP) (X:SideR):List Pt:=[zbL x.s 114 (zis x X),lnkP x.e x.p X.L,decP x.d x.q X.D,zaW 5 1 x.o X.out.length x.c (X.out.map zc)]
structure zKN (X:SideR):Prop where
 out:X.L.out.length≤1000∧X.L.inn=[]
 few:X.out.length≤100000000
def zex (x:SP) (X:SideR):Pt:=comp (zeO x X)
def zc1 (c p:Nat) (N:Int) (H:CuH) (C:CuR):Pt:=⟨cuB c p H,fun B M=>CuAt B M c p N H C,fun h hy=>h.some hy,fun h hy=>h.fresh hy,fun {B M B' M'} h hB hle hs=>by
 have h0:CuAt Mem.empty M c p N H C:=h.mono (Yda _);have hk:Mem.keep (fun y=>¬cuB c p H y) M M':=fun y o hy ho=>by simp_all
 have h1:=h0.st.keepS hk fun y hy=>⟨rfl,fun h2=>hy (.inr (.inl h2))⟩
 have h2:=h0.log.keepS hk fun y hy=>⟨rfl,fun h2=>hy (.inr (.inr h2))⟩
 have off:∀ y,cuB c p H y→B' y=none:=fun y hy=>(hs y hy).2
 refine⟨⟨⟨hle,h1.st.at',h1.st.inv,h1.st.invE,h1.st.room,fun y hy=>off y (.inr (.inl hy))⟩,h1.seen,h1.go,h1.bd⟩,⟨⟨hle,h2.disk.at',h2.disk.rel,h2.disk.inv,fun y hy=>off y (.inr (.inr (.inr hy)))⟩,h2.self,off _ (.inr (.inr (.inl rfl)))⟩,
  zj9 h.self (hs c (.inl rfl)).1,off c (.inl rfl),h.dj,h.cs,h.cl,h.lg,h.nm,h.cm⟩⟩
theorem At.cust {ps:List Pt} (h:At B0 M0 S0 B M ps) (i:Nat) {c p:Nat} {N N':Int} {H H':CuH} {C C':CuR} (hi:ps[i]? = some (zc1 c p N H C)) (h':CuAt (M.minus (cuB c p H)) M' c p N' H' C'):At B0 M0 S0 B M' (rpl ps i [zc1 c p N' H' C']):=by
 have h0:CuAt B M c p N H C:=h.part i hi;have hB:=h0.base.2
 have h2:CuAt B M' c p N' H' C':=h'.mono hB;refine h.call i hi (At.of (p:=zc1 c p N' H' C') h2 h2.le ⟨Ya _,Ycd.2 h'.le,fun _ h => .inl h,fun y hy=>?_⟩);have h3:=h'.fresh hy
 unfold Mem.minus at h3;split at h3
 ·exact .inl (by assumption)
 ·simp_all
end
section
variable {B0 M0 B M B' M':Mem} {S0:Nat→Prop}
structure TX where
 p:Nat
 b1:Nat
 b2:Nat
 a:Option Addr
 n:Nat
 c:Nat
def zoQ:Option Hrd→Option Hrd→Prop
 | none,none=>True
 | some h,some h'=>h.left=h'.left∧∀ i,i<64→h.c i=h'.c i
 | _,_=>False
abbrev zhD:=Int→Option Hrd
def zq3 (x:TX):Nat→Prop:=fun y=>y=x.p∨y=x.b1∨y=x.b2
structure TabOk (B M:Mem) (x:TX) (me age:Int) (nb:List Int) (f:zhD):Prop where
 ex:∃ m,TabAt M x.p x.b1 x.b2 x.a x.n x.c me age nb [] m∧(∀ k,zoQ (zf m k) (f k))∧∀ k∈m.map (·.1),k∈nb
 good:∀ k h,f k=some h→(1≤h.left∧h.left≤64)∧∀ i,i<64→0≤h.c i∧h.c i≤16
 row:SrcOk B 1 x.a x.n (nb.map zj)
 few:∀ k∈nb,0≤k∧k<64
 len:x.n≤64
 age:1≤age∧age≤64
 off:∀ y,zq3 x y→B y=none
theorem TabAt.some {m:List (Int×Hrd)} {p b1 b2:Nat} {a:Option Addr} {n c:Nat} {me age:Int} {nb:List Int} {st:List (Int×Int)} (h:TabAt M p b1 b2 a n c me age nb st m) {y:Nat} (hy:y=p∨y=b1∨y=b2):M y≠none:=by
 rcases hy with rfl|rfl|rfl
 ·have:=h.self;unfold Mem.has at this;rw[this];simp
 ·exact zfo h.set
 ·exact zfo h.hrd
def zk0 (x:TX) (me age:Int) (nb:List Int) (f:zhD):Pt:=⟨zq3 x,fun B M=>TabOk B M x me age nb f,fun h hy=>by obtain⟨m,h1,_⟩:=h.ex;exact h1.some hy,fun h hy=>h.off _ hy,
 fun {B M B' M'} h hB hle hs=>by
  obtain⟨m,h1,h2,h3⟩:=h.ex;have e:∀ y,zq3 x y→M' y=M y:=fun y hy=>(hs y hy).1
  exact⟨⟨m,⟨zj9 h1.self (e _ (.inl rfl)),h1.n1,h1.n2,h1.n12,(h.row.le hB).le hle,h1.na,h1.set.mono fun o ho=>by rw[e _ (.inr (.inl rfl))];exact ho,h1.hrd.mono fun o ho=>by rw[e _ (.inr (.inr rfl))];exact ho⟩,h2,h3⟩,h.good,h.row.le hB,h.few,h.len,h.age,fun y hy=>(hs y hy).2⟩⟩
section
variable {x:TX} {me age:Int} {nb:List Int} {f:zhD}
theorem TabOk.at (h:TabOk B M x me age nb f):∃ m,TabAt M x.p x.b1 x.b2 x.a x.n x.c me age nb [] m∧(∀ k,zoQ (zf m k) (f k))∧(∀ k∈m.map (·.1),k∈nb)∧zrU m∧zFl m∧m.length≤64:=by
 obtain⟨m,h1,h2,h3⟩:=h.ex
 have g:∀ k hh,zf m k=some hh→(1≤hh.left∧hh.left≤64)∧∀ i,i<64→0≤hh.c i∧hh.c i≤16:=fun k hh hk=>by
  have h4:=h2 k;rw[hk] at h4;cases hf:f k with
  | none=>rw[hf] at h4;exact h4.elim
  | some h'=>
   rw[hf] at h4;have h5:=h.good k h' hf
   exact⟨by rw[h4.1];exact h5.1,fun i hi=>by rw[h4.2 i hi];exact h5.2 i hi⟩
 refine⟨m,h1,h2,h3,fun k hh hk=>(g k hh hk).2,fun k hh hk=>(g k hh hk).1,?_⟩
 have h5:=zjw 64 ((m.map (·.1)).map Int.toNat) (by
  rw[List.Nodup,Yay];refine(Ydd.1 h1.hrd.nodup).imp fun {a b} hab e=>hab.2.2 ?_
  have:=h.few a (h3 a hab.1);have:=h.few b (h3 b hab.2.1);omega) fun y hy=>by
   obtain⟨z,hz,rfl⟩:=Yj.1 hy;have:=h.few z (h3 z hz);omega
 simpa using h5
def byF (f:zhD) (d n:Int):Int:=match f n with|some h=>min 16 (h.c d.toNat+1)|none=>16
def zmA (me:Int) (nb:List Int) (f:zhD) (d:Int):Int:=if zcz d then (if d=me then 0 else nb.foldr (fun k x=>min (byF f d k) x) 16) else 16
def zkl (me:Int) (nb:List Int) (f:zhD) (d:Int):Option Int:=if zcz d&&decide (d≠me) then (if zmA me nb f d<16 then nb.find? (fun k=>decide (byF f d k=zmA me nb f d)) else none) else none
def zAd (me:Int) (nb:List Int) (f:zhD) (to d:Int):Int:=if zkl me nb f d=some to then 16 else zmA me nb f d
theorem zAe {m:List (Int×Hrd)} (h:∀ k,zoQ (zf m k) (f k)) {d:Int} (hd:0≤d∧d<64) (k:Int):byC m d k=byF f d k:=by
 have h1:=h k;unfold byC byF;cases ha:zf m k with
 | none=>rw[ha] at h1;cases hf:f k with
  | none=>rfl
  | some _=>rw[hf] at h1;exact h1.elim
 | some h2=>rw[ha] at h1;cases hf:f k with
  | none=>rw[hf] at h1;exact h1.elim
  | some _=>rw[hf] at h1;simp only;rw[h1.2 _ oM]
theorem isNode_iff {d:Int}:zcz d=true↔0≤d∧d<64:=by simp[zcz]
theorem zyv:∀ (l:List (Int×Hrd)) (d z:Int),z≤lst d l↔z≤16∧∀ q∈l,z≤min 16 (q.2.c d.toNat+1)
 | [],d,z=>by simp[lst]
 | q::r,d,z=>by
  have ih:=zyv r d z;unfold lst at ih ⊢;simp only[Ycw,Yq,forall_eq_or_imp];rw[Int.le_min,ih];constructor
  ·simp_all
  ·simp_all
theorem zwm (f:zhD) (d:Int):∀ (nb:List Int) (z:Int),z≤nb.foldr (fun k x=>min (byF f d k) x) 16↔z≤16∧∀ k∈nb,z≤byF f d k
 | [],z=>by simp
 | a::r,z=>by
  have ih:=zwm f d r z;simp only[Ycw,Yq,forall_eq_or_imp];rw[Int.le_min,ih];constructor
  ·simp_all
  ·simp_all
theorem zCd {m:List (Int×Hrd)} (h:∀ k,zoQ (zf m k) (f k)) (hnd:(m.map (·.1)).Nodup) (hs:∀ k∈m.map (·.1),k∈nb) (d:Int):zc3 me [] m d=zmA me nb f d:=by
 unfold zc3 zmA;cases hd:zcz d with
 | false=>rfl
 | true=>
  have hd':=isNode_iff.1 hd;simp only[if_true];split
  ·rfl
  ·show lst d m=_
   have key:∀ z,z≤lst d m↔z≤nb.foldr (fun k x=>min (byF f d k) x) 16:=fun z=>by
    rw[zyv,zwm];refine and_congr_right fun h16=>⟨fun h1 k hk=>?_,fun h1 q hq=>?_⟩
    ·rw[←zAe h hd'];unfold byC;cases ha:zf m k with
     | none=>exact h16
     | some hh=>exact h1 (k,hh) (zC ha)
    ·have:=h1 q.1 (hs _ (Yj.2 ⟨q,hq,rfl⟩));rw[←zAe h hd'] at this;unfold byC at this;rw[zbS hnd (x:=q.2) hq] at this;exact this
   exact Yec ((key _).1 (Yaj _)) ((key _).2 (Yaj _))
theorem zCe {m:List (Int×Hrd)} (h:∀ k,zoQ (zf m k) (f k)) (hnd:(m.map (·.1)).Nodup) (hs:∀ k∈m.map (·.1),k∈nb) (d:Int):zhx me nb [] m d=zkl me nb f d:=by
 unfold zhx zkl;rw[zCd h hnd hs];cases hd:zcz d with
 | false=>rfl
 | true=>
  have hd':=isNode_iff.1 hd;have e:(fun k=>decide (byC m d k=zmA me nb f d))=fun k=>decide (byF f d k=zmA me nb f d):=funext fun k=>by rw[zAe h hd']
  rw[←e];rfl
theorem zxD (h:TabOk B M x me age nb f) (d:Int):CallsM prog 122 [ptr x.p,.int .i64 d] M fun v M'=>v=zol (zkl me nb f d)∧M.le M':=by
 obtain⟨m,h1,h2,h3,h4,h5,h6⟩:=h.at;refine(zrX h1 h4 (by have:=h.len;omega) d).mono ?_;rintro v M' ⟨rfl,hle⟩;exact⟨by rw[zCe h2 h1.hrd.nodup h3],hle⟩
theorem zAf (h:TabOk B M x me age nb f) {to:Int} (ht:to∈nb):CallsM prog 64 [ptr x.p,.int .i64 to] M fun v M'=>∃ a,v = .slice a 64 64∧NewSl M 3 1 a 64 64 (((List.range 64).map fun (d:Nat)=>zAd me nb f to d).map zj) M':=by
 obtain⟨m,h1,h2,h3,h4,h5,h6⟩:=h.at;refine(zBR h1 h4 (by have:=h.len;omega) to).mono ?_;rintro v M' (⟨hn,_⟩|⟨_,b,L,rfl,hN,rfl⟩)
 ·exact absurd ht hn
 ·refine⟨_,rfl,?_⟩;have e:(fun (d:Nat)=>zia me nb [] m to d)=fun (d:Nat)=>zAd me nb f to d:=funext fun d=>by unfold zia zAd;rw[zCe h2 h1.hrd.nodup h3,zCd h2 h1.hrd.nodup h3]
  rw[e] at hN;exact hN
end
end
section
variable {B0 M0 B M B' M':Mem} {S0:Nat→Prop} {ps:List Pt}
section
variable {x:TX} {me age:Int} {nb:List Int} {f:zhD}
def zmB (nb:List Int) (age:Int) (f:zhD) (to:Int) (l:List Int):zhD:=if to∈nb∧zfP l=true then fun k=>if k=to then some ⟨fun i=>l.getD i 0,age⟩ else f k else f
theorem zAg {l:List Int} (h:zfP l=true):l.length=64∧∀ y∈l,0≤y∧y≤16:=by
 unfold zfP zhy at h;simp only[Yu,decide_eq_true_eq,Ya4,Yah,Bool.or_eq_false_iff,decide_eq_false_iff_not] at h;exact⟨h.1,fun y hy=>by simp_all⟩
theorem zxE (h:At B0 M0 S0 B M ps) (i:Nat) (hi:ps[i]? = some (zk0 x me age nb f)) (to:Int) {a:Option Addr} {n c:Nat} {l:List Int} (hs:SrcOk M 1 a n (l.map zj)) (hn:n≤4194304) :
  CallsM prog 198 [ptr x.p,.int .i64 to,.slice a n c] M fun v M'=>(∃ e,v = .int .i64 e)∧At B0 M0 S0 B M' (rpl ps i [zk0 x me age nb (zmB nb age f to l)]):=by
 have hT:TabOk B M x me age nb f:=h.part i hi;obtain⟨m,h1,h2,h3,h4,h5,h6⟩:=hT.at;refine(zGg h1 (by have:=hT.len;omega) to a n c l hs hn).mono ?_;rintro v M' ⟨rfl,⟨hne,rfl⟩|⟨he,hin,hr,hk,hh,hc,hl,ht⟩⟩
 ·refine⟨⟨_,rfl⟩,?_⟩
  have e:zmB nb age f to l=f:=by
   unfold zmB;rw[if_neg];rintro ⟨g1,g2⟩;exact hne (by unfold ze9;rw[if_pos g1,if_pos g2])
  rw[e];exact h.view i hi hT fun y hy=>hy
 ·refine⟨⟨_,rfl⟩,h.turnS i hi (fun y o hy ho=>hk y o (fun e=>hy (.inr (.inr e))) ho) (fun y hy=>hy) fun hle=>?_⟩;obtain⟨r1,r2⟩:=zAg hr;have e:zmB nb age f to l=fun k=>if k=to then some ⟨fun i=>l.getD i 0,age⟩ else f k:=by unfold zmB;rw[if_pos ⟨hin,hr⟩]
  have hg:∀ i,i<64→hh.c i=l.getD i 0:=fun i hi=>by simp_all
  rw[e];refine⟨⟨zy m to hh,ht,fun k=>?_,fun k hk=>?_⟩,fun k hx hk=>?_,hT.row,hT.few,hT.len,hT.age,hT.off⟩
  ·rw[zbT];by_cases ek:k=to
   ·rw[if_pos ek,if_pos ek];exact⟨hl,fun i hi=>hg i hi⟩
   ·simp_all
  ·by_cases ek:k=to
   ·simp_all
   ·obtain⟨q,hq,rfl⟩:=Yj.1 hk;have:=zbS ht.hrd.nodup (x:=q.2) hq
    rw[zbT,if_neg ek] at this;exact h3 _ (Yj.2 ⟨q,zC this,rfl⟩)
  ·by_cases ek:k=to
   ·rw[if_pos ek] at hk;cases hk;refine⟨hT.age,fun i hi=>?_⟩;have hi':i<l.length:=by omega
    show 0≤l.getD i 0∧l.getD i 0≤16;rw[Y0,Yb hi'];exact r2 _ (Yab hi')
   ·rw[if_neg ek] at hk;exact hT.good k hx hk
def zd0 (f:zhD):zhD:=fun k=>zmo (f k)
theorem zxF (h:At B0 M0 S0 B M ps) (i:Nat) (hi:ps[i]? = some (zk0 x me age nb f)) :
  CallsM prog 58 [ptr x.p] M fun v M'=>v = .int .i64 0∧At B0 M0 S0 B M' (rpl ps i [zk0 x me age nb (zd0 f)]):=by
 have hT:TabOk B M x me age nb f:=h.part i hi;obtain⟨m,h1,h2,h3,h4,h5,h6⟩:=hT.at;refine(zzY h1 oM h5).mono ?_;rintro v M' ⟨rfl,m',hk,ht,hm⟩;refine⟨rfl,h.turnS i hi (fun y o hy ho=>hk y o (fun e=>hy (.inr (.inr e))) ho) (fun y hy=>hy) fun hle=>⟨⟨m',ht,fun k=>?_,fun k hk=>?_⟩,fun k hx hk=>?_,hT.row,hT.few,hT.len,hT.age,hT.off⟩⟩
 ·have h7:=h2 k;rw[hm k];unfold zd0;cases ha:zf m k with
  | none=>rw[ha] at h7;cases hf:f k with
   | none=>exact True.intro
   | some _=>rw[hf] at h7;exact h7.elim
  | some hh=>rw[ha] at h7;cases hf:f k with
   | none=>rw[hf] at h7;exact h7.elim
   | some h'=>
    rw[hf] at h7;simp only[zmo];rw[h7.1];split
    ·exact True.intro
    ·exact⟨rfl,h7.2⟩
 ·obtain⟨q,hq,rfl⟩:=Yj.1 hk;have:=zbS ht.hrd.nodup (x:=q.2) hq
  rw[hm] at this;cases ha:zf m q.1 with
  | none=>rw[ha] at this;cases this
  | some hh=>exact h3 _ (Yj.2 ⟨_,zC ha,rfl⟩)
 ·unfold zd0 at hk;cases hf:f k with
  | none=>rw[hf] at hk;cases hk
  | some h'=>
   rw[hf] at hk;have:=hT.good k h' hf
   simp only[zmo] at hk;split at hk
   ·cases hk
   ·cases hk;exact⟨by grind,this.2⟩
end
structure DkX where
 p:Nat
 b:Nat
abbrev zey:=IdT→Option Known
def zuS (x:DkX):Nat→Prop:=fun y=>y=x.p∨y=x.b
structure zhE (B M:Mem) (x:DkX) (wait next:Int) (K:Nat) (f:zey):Prop where
 ex:∃ m,DeskAt M x.p x.b wait next m∧(∀ i,zf m i=f i)∧m.length≤K
 good:∀ i k,f i=some k→KOk k
 next:0≤next∧next≤65535
 wait:1≤wait∧wait≤64
 off:∀ y,zuS x y→B y=none
def zds (x:DkX) (wait next:Int) (K:Nat) (f:zey):Pt:=⟨zuS x,fun B M=>zhE B M x wait next K f,fun h hy=>by
  obtain⟨m,h1,_⟩:=h.ex;rcases hy with rfl|rfl
  ·have:=h1.self;unfold Mem.has at this;rw[this];simp
  ·exact zfo h1.map,fun h hy=>h.off _ hy,
 fun h hB hle hs=>by
  obtain⟨m,h1,h2,h3⟩:=h.ex
  exact⟨⟨m,h1.mono fun y o hy ho=>by rw[(hs y hy).1];exact ho,h2,h3⟩,h.good,h.next,h.wait,fun y hy=>(hs y hy).2⟩⟩
end
section
variable {B0 M0 B M B' M':Mem} {S0:Nat→Prop} {ps:List Pt}
theorem ztY {α:Type} [DecidableEq α]:∀ {l l':List α},l.Nodup→(∀ x∈l,x∈l')→l.length≤l'.length
 | [],_,_,_=>Y6 _
 | a::r,l',h,hs=>by
  obtain⟨h1,h2⟩:=Yax.1 h;have h3:=ztY (l':=l'.erase a) h2 fun x hx=>(List.mem_erase_of_ne (fun e=>by simp_all)).2 (hs x (Ybv _ hx))
  have h4:=List.length_erase_of_mem (hs a (Yc4 ..));have h5:=List.length_pos_of_mem (hs a (Yc4 ..))
  simp only[Ym];omega
section
variable {x:DkX} {wait next:Int} {K:Nat} {f:zey}
def zou (f:zey) (i:IdT):zey:=fun j=>if j=i then none else f j
def ziI (f:zey) (n k:Int) (i:IdT):Bool:=match f i with|some y=>(decide (y.waits=0)&&decide (y.to=n))&&decide (y.n=k)|none=>false
def isF (f:zey) (i:IdT):Bool:=match f i with|some k=>decide (k.waits=0)|none=>false
def zoR (f:zey) (wait n k:Int) (i:IdT):zey:=if ziI f n k i then fun j=>if j=i then some ⟨-1,0,0,wait⟩ else f j else f
def zlo (f:zey) (n:Int):zey:=fun j=>match f j with|some y=>if toK n y then none else some y|none=>none
theorem zeY (h:At B0 M0 S0 B M ps) (i:Nat) (hi:ps[i]? = some (zds x wait next K f)) {m':List (IdT×Known)} {f':zey} {K':Nat} (hk:Mem.keep (one x.b) M M') (hd:DeskAt M' x.p x.b wait next m') (hf:∀ i,zf m' i=f' i) (hg:∀ i k,f' i=some k→KOk k) (hl:m'.length≤K'):At B0 M0 S0 B M' (rpl ps i [zds x wait next K' f']):=
 h.turnS i hi (fun y o hy ho=>hk y o (fun e=>hy (.inr e)) ho) (fun y hy=>hy) fun _=>by
  have hD:zhE B M x wait next K f:=h.part i hi
  exact⟨⟨m',hd,hf,hl⟩,hg,hD.next,hD.wait,hD.off⟩
theorem zta (m:List (IdT×Known)) (i:IdT):(zbe m i).length≤m.length:=Yar _ _
theorem zD5 (h:At B0 M0 S0 B M ps) (i:Nat) (hi:ps[i]? = some (zds x wait next K f)) (n k:Int) (d:IdT) :
  CallsM prog 195 [ptr x.p,.int .i64 n,.int .i64 k,idA d] M fun v M'=>v = .bool (ziI f n k d)∧At B0 M0 S0 B M' (rpl ps i [zds x wait next K (if ziI f n k d then zou f d else f)]):=by
 have hD:zhE B M x wait next K f:=h.part i hi
 obtain⟨m,h1,h2,h3⟩:=hD.ex;have e:zdp m n k d=ziI f n k d:=by unfold zdp ziI;rw[h2];cases f d<;>rfl
 refine(zzW h1 n k d).mono ?_;rintro v M' ⟨rfl,h4,h5⟩;unfold zrY at h4;rw[e] at h4 ⊢;refine⟨rfl,?_⟩;cases hb:ziI f n k d with
 | false=>rw[hb,if_neg Bool.false_ne_true] at h4;exact zeY h i hi h5 h4 h2 hD.good h3
 | true=>
  rw[hb,if_pos rfl] at h4;refine zeY h i hi h5 h4 (fun j=>?_) (fun j y hy=>?_) (Yn (zta _ _) h3)
  ·simp only[if_true];rw[zfH,h2];rfl
  ·simp only[if_true,zou] at hy;split at hy
   ·cases hy
   ·exact hD.good j y hy
theorem zxG (h:At B0 M0 S0 B M ps) (i:Nat) (hi:ps[i]? = some (zds x wait next K f)) (n k:Int) (d:IdT) :
  CallsM prog 197 [ptr x.p,.int .i64 n,.int .i64 k,idA d] M fun v M'=>v = .bool (ziI f n k d)∧At B0 M0 S0 B M' (rpl ps i [zds x wait next (K+1) (zoR f wait n k d)]):=by
 have hD:zhE B M x wait next K f:=h.part i hi
 obtain⟨m,h1,h2,h3⟩:=hD.ex;have hw:=hD.wait
 have e:zdp m n k d=ziI f n k d:=by unfold zdp ziI;rw[h2];cases f d<;>rfl
 refine(zuA h1 n k d).mono ?_;rintro v M' ⟨rfl,h4,h5⟩;unfold zjE at h4;rw[e] at h4 ⊢;refine⟨rfl,?_⟩;unfold zoR;cases hb:ziI f n k d with
 | false=>rw[hb,if_neg Bool.false_ne_true] at h4;exact zeY h i hi h5 h4 h2 hD.good oM
 | true=>
  rw[hb,if_pos rfl] at h4;refine zeY h i hi h5 h4 (fun j=>?_) (fun j y hy=>?_) ?_
  ·simp only[if_true];rw[zbT,h2]
  ·simp only[if_true] at hy;split at hy
   ·cases hy;constructor<;>dsimp only<;>omega
   ·exact hD.good j y hy
  ·unfold zy;split
   ·have:=congrArg List.length (zn6 m d (⟨-1,0,0,wait⟩:Known));simp at this;omega
   ·simp;omega
theorem zGz (h:zhE B M x wait next K f) (d:IdT):CallsM prog 216 [ptr x.p,idA d] M fun v M'=>v = .bool (isF f d)∧M=M':=by
 obtain⟨m,h1,h2,h3⟩:=h.ex;refine(ztP h1 d).mono ?_;rintro v M' ⟨rfl,rfl⟩;exact⟨by unfold zok isF;rw[h2];cases f d<;>rfl,rfl⟩
theorem zCf (h:At B0 M0 S0 B M ps) (i:Nat) (hi:ps[i]? = some (zds x wait next K f)) (d:IdT) :
  CallsM prog 138 [ptr x.p,idA d] M fun v M'=>v = .bool (isF f d)∧At B0 M0 S0 B M' (rpl ps i [zds x wait next K (if isF f d then zou f d else f)]):=by
 have hD:zhE B M x wait next K f:=h.part i hi
 obtain⟨m,h1,h2,h3⟩:=hD.ex;have e:zok m d=isF f d:=by unfold zok isF;rw[h2];cases f d<;>rfl
 refine(zxr h1 d).mono ?_;rintro v M' ⟨rfl,h4,h5⟩;unfold zrZ at h4;rw[e] at h4 ⊢;refine⟨rfl,?_⟩;cases hb:isF f d with
 | false=>rw[hb,if_neg Bool.false_ne_true] at h4;exact zeY h i hi h5 h4 h2 hD.good h3
 | true=>
  rw[hb,if_pos rfl] at h4;refine zeY h i hi h5 h4 (fun j=>?_) (fun j y hy=>?_) (Yn (zta _ _) h3)
  ·simp only[if_true];rw[zfH,h2];rfl
  ·simp only[if_true,zou] at hy;split at hy
   ·cases hy
   ·exact hD.good j y hy
theorem zwn:∀ (l:List IdT) (m:List (IdT×Known)) (j:IdT),zf (l.foldl zbe m) j=if j∈l then none else zf m j
 | [],m,j=>by simp
 | a::r,m,j=>by
  rw[Yap,zwn r,zfH];by_cases h1:j∈r<;>by_cases h2:j=a<;>simp[h1,h2]
theorem zwo:∀ (l:List IdT) (m:List (IdT×Known)),(l.foldl zbe m).length≤m.length
 | [],m=>Yd _
 | a::r,m=>Yn (zwo r (zbe m a)) (zta m a)
theorem zAh (h:At B0 M0 S0 B M ps) (i:Nat) (hi:ps[i]? = some (zds x wait next K f)) (hK:K≤1000000000000) (n:Int) :
  CallsM prog 72 [ptr x.p,.int .i64 n] M fun v M'=>(∃ k,v = .int .i64 k)∧At B0 M0 S0 B M' (rpl ps i [zds x wait next K (zlo f n)]):=by
 have hD:zhE B M x wait next K f:=h.part i hi
 obtain⟨m,h1,h2,h3⟩:=hD.ex;refine(zv5 h1 n oM).mono ?_;rintro v M' ⟨l,rfl,_,_,h4,h5,h6⟩
 have e:∀ j,zf (l.foldl zbe m) j=zlo f n j:=fun j=>by
  rw[zwn];unfold zlo;rw[←h2];by_cases hj:j∈l
  ·obtain⟨k,hk,ht⟩:=isTo_iff.1 ((h4 j).1 hj);rw[if_pos hj,hk];simp[ht]
  ·rw[if_neg hj];cases ha:zf m j with
   | none=>rfl
   | some k=>
    have:toK n k=false:=by
     cases ht:toK n k with
     | false=>rfl
     | true=>exact absurd ((h4 j).2 (isTo_iff.2 ⟨k,ha,ht⟩)) hj
    simp[this]
 refine⟨⟨_,rfl⟩,zeY h i hi h6 h5 e (fun j y hy=>?_) (Yn (zwo _ _) h3)⟩;unfold zlo at hy;split at hy
 ·split at hy
  ·cases hy
  ·cases hy;exact hD.good j _ (by assumption)
 ·cases hy
theorem zCg (h:At B0 M0 S0 B M ps) (i:Nat) (hi:ps[i]? = some (zds x wait next K f)) :
  CallsM prog 61 [ptr x.p] M fun v M'=>v = .int .i64 0∧At B0 M0 S0 B M' (rpl ps i [zds x wait next K (fun j=>(f j).bind zfa)]):=by
 have hD:zhE B M x wait next K f:=h.part i hi
 obtain⟨m,h1,h2,h3⟩:=hD.ex;refine(zxs h1 fun j y hy=>hD.good j y (by simp_all)).mono ?_;rintro v M' ⟨rfl,h4,m',h5,h6⟩;refine⟨rfl,zeY h i hi h4 h5 (fun j=>by rw[h6,h2]) (fun j y hy=>?_) ?_⟩
 ·cases hf:f j with
  | none=>simp_all
  | some z=>rw[hf] at hy;exact zDI (hD.good j z hf) hy
 ·have:=ztY (l:=m'.map (·.1)) (l':=m.map (·.1)) h5.map.nodup fun j hj=>by
   obtain⟨q,hq,rfl⟩:=Yj.1 hj;have:=zbS h5.map.nodup (x:=q.2) hq
   rw[h6] at this;cases ha:zf m q.1 with
   | none=>simp_all
   | some z=>exact Yj.2 ⟨_,zC ha,rfl⟩
  simp at this;omega
end
end
section
variable {B0 M0 B M B' M':Mem} {S0:Nat→Prop} {ps:List Pt}
section
variable {x:DkX} {wait next:Int} {K:Nat} {f:zey}
structure PlF where
 f:zey
 next:Int
 out:List zfD
def zdB (via up:List Int) (s:PlF) (x:zeq):PlF:=
 if (0≤x.id.d∧x.id.d<64)∧zdu via x.id∈up∧s.f x.id=none then
  ⟨fun j=>if j=x.id then some ⟨zdu via x.id,s.next,0,0⟩ else s.f j,(s.next+1) % 65536,s.out++[⟨zdu via x.id,s.next,x⟩]⟩ else s
def zga (f:zey) (next:Int) (held:List zeq) (via up:List Int):PlF:=held.foldl (zdB via up) ⟨f,next,[]⟩
theorem zGA (m:List (IdT×Known)) (i:IdT) (k:Known):(zy m i k).length≤m.length+1:=by
 unfold zy;split
 ·have:=congrArg List.length (zn6 m i k);simp at this;omega
 ·simp
theorem zCh (via up:List Int):∀ (held:List zeq) (s:zll) (t:PlF),(∀ j,zf s.m j=t.f j)→s.next=t.next→s.out=t.out→(0≤s.next∧s.next≤65535)→(∀ j k,t.f j=some k→KOk k) →
  (∀ j,zf (held.foldl (zbI via up) s).m j=(held.foldl (zdB via up) t).f j)∧(held.foldl (zbI via up) s).next=(held.foldl (zdB via up) t).next∧(held.foldl (zbI via up) s).out=(held.foldl (zdB via up) t).out ∧
  (0≤(held.foldl (zbI via up) s).next∧(held.foldl (zbI via up) s).next≤65535)∧(∀ j k,(held.foldl (zdB via up) t).f j=some k→KOk k)∧(held.foldl (zbI via up) s).m.length≤s.m.length+held.length
 | [],s,t,h1,h2,h3,h4,h5=>⟨h1,h2,h3,h4,h5,Yd _⟩
 | x::r,s,t,h1,h2,h3,h4,h5=>by
  rw[Yap,Yap];have ih:=zCh via up r (zbI via up s x) (zdB via up t x)
  have hn:=zuB (via:=via) (up:=up) (x:=x) h4;by_cases g:(0≤x.id.d∧x.id.d<64)∧zdu via x.id∈up∧zf s.m x.id=none
  ·have e1:zbI via up s x=⟨zy s.m x.id ⟨zdu via x.id,s.next,0,0⟩,(s.next+1) % 65536,s.out++[⟨zdu via x.id,s.next,x⟩]⟩:=by unfold zbI;rw[if_pos g]
   have e2:zdB via up t x=⟨fun j=>if j=x.id then some ⟨zdu via x.id,t.next,0,0⟩ else t.f j,(t.next+1) % 65536,t.out++[⟨zdu via x.id,t.next,x⟩]⟩:=by unfold zdB;rw[if_pos ⟨g.1,g.2.1,by simp_all⟩]
   rw[e1] at hn;rw[e1,e2] at ih ⊢
   obtain⟨i1,i2,i3,i4,i5,i6⟩:=ih (fun j=>by dsimp only;rw[zbT,h1,h2]) (by simp_all) (by simp_all) hn (fun j k hk=>by
    dsimp only at hk;split at hk
    ·cases hk;constructor<;>dsimp only<;>omega
    ·grind)
   refine⟨i1,i2,i3,i4,i5,Yn i6 ?_⟩;have:=zGA s.m x.id ⟨zdu via x.id,s.next,0,0⟩
   simp only[Ym];omega
  ·have e1:zbI via up s x=s:=by unfold zbI;rw[if_neg g]
   have e2:zdB via up t x=t:=by unfold zdB;rw[if_neg];rintro ⟨g1,g2,g3⟩;exact g ⟨g1,g2,by simp_all⟩
   rw[e1,e2] at ih ⊢;obtain⟨i1,i2,i3,i4,i5,i6⟩:=ih h1 h2 h3 h4 h5;exact⟨i1,i2,i3,i4,i5,Yn i6 (by simp)⟩
def OfB (B:Mem) (cs:List Value) (x:zfD):Prop:=∃ p n k,cs=[.int .i64 x.to,.int .i64 x.n,.int .i64 x.msg.id.o,.int .i64 x.msg.id.d,.int .i64 x.msg.id.e,.int .i64 x.msg.id.c,.slice p n k]∧SrcOk B 1 p n (x.msg.data.map zc)∧n≤2097152
theorem OfB.le {B B':Mem} {cs:List Value} {x:zfD} (h:OfB B cs x) (hle:B.le B'):OfB B' cs x:=by obtain⟨p,n,k,h1,h2,h3⟩:=h;exact⟨p,n,k,h1,h2.le hle,h3⟩
theorem zD6 {p b:Nat} {wait next:Int} {m:List (IdT×Known)} (h:DeskAt M p b wait next m) {y:Nat} {E:TypeId} {cs:List Value} (hy:M.has y E cs) (hE:E≠177):y≠p∧y≠b:=by
 constructor
 ·rintro rfl;have:=h.self;unfold Mem.has at this hy;rw[this] at hy;injection hy with e;injection e with e0 e;exact hE (by simp_all)
 ·rintro rfl;obtain⟨_,_,h1,_⟩:=h.map;unfold Mem.has at hy;rw[h1] at hy;injection hy with e;cases e
theorem zCi (h:At B0 M0 S0 B M ps) (i:Nat) (hi:ps[i]? = some (zds x wait next K f)) {a1 a2 a3:Option Addr} {n1 n3 c1 c2 c3:Nat} {held:List zeq} {via up:List Int}
  (h1:Elems B 5 a1 n1 (MsgR B) held) (h2:SrcOk B 1 a2 64 (via.map zj)) (h3:SrcOk B 1 a3 n3 (up.map zj)) (hn1:n1≤2097152) (hn3:n3≤2097152) :
  CallsM prog 137 [ptr x.p,.slice a1 n1 c1,.slice a2 64 c2,.slice a3 n3 c3] M fun v M'=>∃ a c,v = .slice a (zga f next held via up).out.length c ∧
   Elems (newB B M M') 7 a (zga f next held via up).out.length (OfB (newB B M M')) (zga f next held via up).out∧At B0 M0 S0 (newB B M M') M' (rpl ps i [zds x wait (zga f next held via up).next (K+n1) (zga f next held via up).f]):=by
 have hD:zhE B M x wait next K f:=h.part i hi
 obtain⟨m,g1,g2,g3⟩:=hD.ex;have hl:=h1.len
 refine(zv2 B g1 hD.next (hD.off _ (.inl rfl)) (hD.off _ (.inr rfl)) h.le a1 a2 a3 n1 64 n3 c1 c2 c3 held via up h1 h2 h3 rfl hn1 hn3).mono ?_;rintro v M' ⟨a,c,rfl,h4,h5⟩;obtain⟨e1,e2,e3,e4,e5,e6⟩:=zCh via up held ⟨m,next,[]⟩ ⟨f,next,[]⟩ g2 rfl rfl hD.next hD.good;have e3':(zeN m next held via up).out=(zga f next held via up).out:=e3
 have e1:∀ j,zf (zeN m next held via up).m j=(zga f next held via up).f j:=e1;have e2:(zeN m next held via up).next=(zga f next held via up).next:=e2
 have e4:0≤(zeN m next held via up).next∧(zeN m next held via up).next≤65535:=e4;have e5:∀ j k,(zga f next held via up).f j=some k→KOk k:=e5
 have e6:(zeN m next held via up).m.length≤m.length+held.length:=e6;have hk:Mem.keep (zuS x) M M':=Ycd.2 h5.le
 have hnew:∀ {y:Nat} {E:TypeId} {cs:List Value},(M.minus (zs1 x.p x.b)) y=none→M'.has y E cs→E≠177→M y=none:=fun {y E cs} hy hc hE=>by
  obtain⟨q1,q2⟩:=zD6 h4 hc hE;unfold Mem.minus at hy;rw[if_neg (by omega)] at hy;exact hy
 rw[e3'] at h5;unfold NewEls at h5;obtain⟨css,f1,f2,f3,f4,f5⟩:=h5;refine⟨a,c,by rw[e3'],?_,?_⟩
 ·rw[←e3'] at f1 f2 f3 f5 ⊢;unfold Elems;refine⟨css,zc6 f1.src fun r hr=>?_,f2,f3,f4,fun j cs y hj hy=>?_⟩
  ·obtain⟨q1,cs,q2⟩:=f1.block hr;exact hnew q1 q2 oD
  ·obtain⟨p,n,k,rfl,q1,q2,q3⟩:=f5 j cs y hj hy;refine⟨p,n,k,rfl,zc6 q1.src fun r hr=>?_,q2⟩;exact q3 r hr
 ·refine h.turnN i hi hk (fun y hy=>hy) fun hle=>⟨⟨_,by simp_all,e1,by omega⟩,e5,by omega,hD.wait,fun y hy=>?_⟩
  unfold newB;cases ho:M y with
  | none=>
   exfalso;rcases hy with rfl|rfl
   ·have:=g1.self;unfold Mem.has at this;rw[this] at ho;cases ho
   ·exact zfo g1.map ho
  | some o=>exact hD.off y hy
end
end
end Go.Proofs.YtlgbofpennelhaaGreat
namespace Go.Proofs.YtlgbofpennelhaaGreat
open Go Go.Vm
attribute [local irreducible] Brn Ob Grow CallsM inR zX zI Mem.row Mem.cells Mem.setCells Mem.upd Go.Vm.Own zac zar zas zab New SrcOk subA NewSl Mem.textAt Mem.mapAt Mem.iterAt zH zF Wr NewEls Elems
set_option maxRecDepth 10000
section
variable {A M M':Mem} {c p:Nat} {N:Int} {H:CuH} {C:CuR}
@[reducible] def zIg (X:StW):zmz:=⟨X.S.self,X.S.epoch,zdo X.S.used,X.S.l,X.sn⟩
@[reducible] def zfb:ByteArray:=⟨#[116]⟩
def zFw (C:CuR) (k:Int):CuR×Int:=({ C with D:=(dropL C.D C.L k).1,L:=(dropL C.D C.L k).2.1 },(dropL C.D C.L k).2.2)
def zKc (C:CuR) (was k:Int):CuR×Int:=
 if 0<was then (if (zae C.D (zaD was)).2≠0 then ({ C with D:=(zae C.D (zaD was)).1 },(zae C.D (zaD was)).2) else zFw { C with D:=(zae C.D (zaD was)).1 } k)
 else zFw C k
def turnC (C:CuR) (k:Int):CuR×Int:=
 if (zbM C.D zfb).2≠0 then ({ C with D:=(zbM C.D zfb).1 },(zbM C.D zfb).2)
 else if (zoM (zbM C.D zfb).1 zfb (zaD k)).2≠0 then ({ C with D:=(zoM (zbM C.D zfb).1 zfb (zaD k)).1 },(zoM (zbM C.D zfb).1 zfb (zaD k)).2)
 else zKc { C with D:=(zoM (zbM C.D zfb).1 zfb (zaD k)).1,w:={ C.w with snap:=k } } C.w.snap k
end
section
variable {A M M':Mem} {c p db:Nat} {N:Int} {h:Hd} {des:FsT} {X:StW} {D:ze} {w:CuW}
structure zJk (X:StW):Prop where
 inv:zkV X.S
 invE:InvE (zcG X.sn)
 room:(zaU (zcG X.sn):Int)≤X.S.qg∧X.S.qg≤256
 go:GoS X.S (zcG X.sn)
 bd:¬zcE X.S.self X.S.qh X.S.qb X.S.qg
 sort:X.sn.Pairwise zep
structure CuPre (A M:Mem) (c p db:Nat) (N:Int) (h:Hd) (des:FsT) (X:StW) (D:ze) (w:CuW):Prop where
 st:FreshW A M h X
 disk:FreshD A M p db D des
 self:M.has c 153 (zhB h.p p (.pointer none) w)
 cf:A c=none
 dj:∀ y,hB h y→¬zao p db des y
 cs:¬hB h c
 cl:¬zao p db des c
 nm:NamesC D
 cm:h.came≤N
theorem CuPre.to (h1:CuPre A M c p db N h des X D w) (hle:M.le M'):CuPre A M' c p db N h des X D w:=⟨h1.st.to hle,h1.disk.to hle,h1.self.le hle,h1.cf,h1.dj,h1.cs,h1.cl,h1.nm,h1.cm⟩
theorem CuPre.some (h1:CuPre A M c p db N h des X D w):M c≠none:=by
 have:=h1.self;unfold Mem.has at this;rw[this];simp
theorem CuPre.turnD (h1:CuPre A M c p db N h des X D w) {D':ze} {es':FsT} (h':FreshD (M.minus (zao p db des)) M' p db D' es') (hn:NamesC D'):CuPre A M' c p db N h es' X D' w:=by
 have hk:Mem.keep (zao p db des) M M':=Ycd.2 h'.le
 have hout:∀ y,¬zao p db des y→M y≠none→¬zao p db es' y:=fun y h2 h3 h4=>by
  have h5:=h'.fresh y h4;unfold Mem.minus at h5;rw[if_neg h2] at h5;exact h3 h5
 exact⟨h1.st.keepS hk fun y hy=>⟨h1.disk.fresh y hy,fun h2=>h1.dj y h2 hy⟩,h'.mono h1.disk.base.2,hk _ _ h1.cl h1.self,h1.cf,fun y hy=>hout y (h1.dj y hy) (h1.st.some hy),h1.cs,hout c h1.cl h1.some,hn,h1.cm⟩
def zIh (D:ze):List Int→ze×Int
 | []=>(D,0)
 | k::r=>if (zae D (zaD k)).2≠0 then zae D (zaD k) else zIh (zae D (zaD k)).1 r
structure zIi (D:ze) (me qh qb qg:Int) (k:Int) (X:StW):Prop where
 file:∃ f,zh D.l (zaD k)=some f∧bl f.all=zB8 (zIg X)
 pure:zJk X
 few:X.sn.length≤65535
 set:X.S.self=me∧X.S.qh=qh∧X.S.qb=qb∧X.S.qg=qg
def zJl (D:ze) (k:Int):ze×Int:=if D.down=true then (D,9) else zIh D (zgC D).dropLast
theorem zCj (h1:CuPre A M c p db N h des X D w) (hs:zgC D=[]) (self:Int) (q:Value) (hq:∃ a b d,q = .agg #[.int .i64 a,.int .i64 b,.int .i64 d]):CallsM Tryz.prog 83 [ptr c,.int .i64 self,q] M fun v M'=>v = .int .i64 0∧M.le M':=by
 obtain⟨qa,qb,qc,rfl⟩:=hq;refine zjQ oS ?_;refine zM (zDQ h1.self rfl h1.disk h1.nm) ?_;rintro v M1 ⟨a,n,cc,rfl,hn,hN⟩;rw[hs,Yal] at hn;subst hn;refine zR ?_;exact⟨rfl,hN.le⟩
theorem zAi (h1:CuPre A M c p db N h des X D w) {s:ByteArray} (hs:s.size≤4611686018427387904):CallsM Tryz.prog 148 [ptr p,.string s] M fun v M'=>∃ es',v = .int .i64 (zae D s).2∧CuPre A M' c p db N h es' X (zae D s).1 w∧(M.minus (zao p db des)).le (M'.minus (zao p db es')):=
 (zyp h1.disk.base.1 hs).mono fun _ _ ⟨es',hv,h'⟩=>⟨es',hv,h1.turnD h' (h1.nm.remove _),h'.base.2⟩
end
end Go.Proofs.YtlgbofpennelhaaGreat
