/- Part of this proof;laid by program. -/
import Derived.Test.YtpdkkbpkplhdpaaGreatJ15
import Derived.Test.YtpdkkbpkplhdpaaGreatJ8
import Derived.Test.YtpdkkbpkplhdpaaGreatJ9
import Derived.Test.YtpdkkbpkplhdpaaGreatJ10
import Derived.Shelf.SlSortCmp.NoneTotal
import Derived.Shelf.Spec.SlicesInsertGrow
import Derived.Shelf.Slices.SearchI
import Derived.Test.YtpdkkbpkplhdpaaGreatProg
import Derived.Test.YtpdkkbpkplhdpaaGreatJ11
import Derived.Sort.Grow
set_option linter.unusedVariables false
set_option linter.unusedSimpArgs false
namespace Go.Proofs.YtpdkkbpkplhdpaaGreat
open Go Go.Vm
variable {D:zf} {L:zaE} {f0 last:Int} {l:List FileR} {put:List (List UInt8)} {safe:Nat}
structure SegI (f0 last:Int) (l:List FileR) (put:List (List UInt8)) (safe:Nat):Prop where
 ok:∀ q∈put,zcS q
 f1:1≤f0∧f0≤last∧last≤99999
 names:∀ f∈l,(∃ k:Int,1≤k∧k≤last∧f.name=zc k)∨zfu f.name
 seg:∃ (parts:List (List (List UInt8))) (cur:List (List UInt8)),(parts.length:Int)+f0=last∧put=parts.flatten++cur ∧
  (∀ (i:Nat) q,parts[i]? = some q→∃ s:ByteArray,zg l (zc (f0+i))=some ⟨zc (f0+i),s,.empty⟩∧bl s=zbi q)∧CurI l last parts.flatten cur safe
theorem SegI.k1 (h:SegI f0 last l put safe):1≤last∧last≤99999:=by have:=h.f1;omega
theorem SegI.start {l:List FileR} {k:Int} (hk:1≤k∧k≤99999) (hn:∀ f∈l,(∃ j:Int,1≤j∧j≤k∧f.name=zc j)∨zfu f.name) (h0:zg l (zc k)=none):SegI k k l [] 0:=
 ⟨by simp,by omega,hn,[],[],by simp,rfl,by simp,.inl ⟨h0,rfl,Nat.le_refl _⟩⟩
theorem SegI.safe_le (h:SegI f0 last l put safe):safe≤put.length:=by
 obtain⟨parts,cur,h1,h2,h3,h4⟩:=h.seg;rw[h2,List.length_append];rcases h4 with ⟨_,_,h5⟩|⟨s,t,j,_,_,h6,_,h7⟩<;>omega
theorem SegI.le {safe':Nat} (h:SegI f0 last l put safe) (hle:safe'≤safe):SegI f0 last l put safe':=by
 obtain⟨parts,cur,h1,h2,h3,h4⟩:=h.seg;exact⟨h.ok,h.f1,h.names,parts,cur,h1,h2,h3,h4.le hle⟩
theorem SegI.other {l':List FileR} (h:SegI f0 last l put safe) (hn:∀ f∈l',(∃ k:Int,1≤k∧k≤last∧f.name=zc k)∨zfu f.name) (hf:∀ k:Int,f0≤k→k≤last→zg l' (zc k)=zg l (zc k)):SegI f0 last l' put safe:=by
 obtain⟨parts,cur,h1,h2,h3,h4⟩:=h.seg;have hf1:=h.f1
 refine⟨h.ok,h.f1,hn,parts,cur,h1,h2,fun i q hq=>?_,?_⟩
 ·have hi:=(List.getElem?_eq_some_iff.1 hq).1;rw[hf _ (by omega) (by omega)];exact h3 i q hq
 ·unfold CurI at h4 ⊢;rw[hf _ (by omega) (by omega)];exact h4
theorem SegI.turn (h:SegI f0 last l put safe) (hs:SortedR l) {s t:ByteArray} {q:List (List UInt8)} (hq:∀ p∈q,zcS p) {safe':Nat}
  (hc:∀ parts cur,CurI l last parts cur safe→bl s++bl t=zbi (cur++q)∧∃ j,j≤(cur++q).length∧zae ((cur++q).take j)≤s.size∧safe'≤parts.length+j):SegI f0 last (zaO l ⟨zc last,s,t⟩) (put++q) safe':=by
 obtain⟨parts,cur,h1,h2,h3,h4⟩:=h.seg;obtain⟨h5,j,h6,h7,h8⟩:=hc _ _ h4;have hf1:=h.f1
 refine⟨fun p hp=>?_,h.f1,fun f hf=>?_,parts,cur++q,h1,by rw[h2,List.append_assoc],fun i p hp=>?_,.inr ⟨s,t,j,?_,h5,h6,h7,h8⟩⟩
 ·rcases List.mem_append.1 hp with hp|hp
  ·exact h.ok p hp
  ·exact hq p hp
 ·rcases withR_mem.1 hf with rfl|⟨hf,_⟩
  ·exact .inl ⟨last,h.k1.1,Int.le_refl _,rfl⟩
  ·exact h.names f hf
 ·obtain⟨s2,g1,g2⟩:=h3 i p hp;have hi:=(List.getElem?_eq_some_iff.1 hp).1
  refine⟨s2,?_,g2⟩;rw[zcQ hs,if_neg]
  ·exact g1
  ·exact zje (by omega) h.k1 (by omega)
 ·rw[zcQ hs,if_pos rfl]
theorem SegI.full (h:SegI f0 last l put safe) (hf:zuN l last):SegI f0 last l put put.length:=by
 obtain⟨parts,cur,h1,h2,h3,h4⟩:=h.seg;refine⟨h.ok,h.f1,h.names,parts,cur,h1,h2,h3,?_⟩;rcases h4 with ⟨h5,h6,h7⟩|⟨s,t,j,h5,h6,h7,h8,h9⟩
 ·exact .inl ⟨h5,h6,by rw[h2,h6];simp⟩
 ·have ht:t = .empty:=hf _ h5;refine .inr ⟨s,t,cur.length,h5,h6,Nat.le_refl _,?_,by rw[h2,List.length_append];exact Nat.le_refl _⟩;rw[List.take_length,←zdY,←h6,ht,zcC,List.append_nil,zaH];exact Nat.le_refl _
theorem SegI.sync (h:SegI f0 L.last D.l put safe) (hi:InvD D):SegI f0 L.last (syncL D L).1.l put safe∧((syncL D L).2.2=0→zuN (syncL D L).1.l L.last):=by
 unfold syncL;split
 ·exact⟨h,fun e=>by cases e⟩
 split
 ·exact⟨h,fun e=>by cases e⟩
 rename_i hd;have hd':D.down=false:=by simpa using hd
 split
 ·rename_i he;refine⟨h,fun _ f hf=>?_⟩;unfold zc8 at he;rw[if_neg hd,zi0 hd' (zce h.k1),hf] at he;unfold zgx at he;rw[hf] at he;dsimp only at he;rw[all_size] at he;exact ztl (by omega)
 ·rename_i he;dsimp only;unfold zbn;split
  ·rename_i h0;refine⟨h,fun e=>absurd e h0⟩
  ·rename_i h0;have hf:=(zbR (by simpa using h0)).2
   refine⟨?_,fun _ f hf2=>?_⟩
   ·have:=h.turn hi.sort (s:=(zx D (zc L.last)).all) (t := .empty) (q:=[]) (by simp) (safe':=safe) fun parts cur hc=>by
     rcases hc with ⟨h5,_,_⟩|⟨s,t,j,h5,h6,h7,h8,h9⟩
     ·rw[hf] at h5;cases h5
     ·rw[hf] at h5;have h10:=Option.some.inj h5
      rw[h10];refine⟨by rw[zcC,List.append_nil,List.append_nil,FileR.all,zad];exact h6,j,by simpa using h7,?_,h9⟩;rw[List.append_nil,all_size];dsimp only;omega
    rw[List.append_nil] at this;exact this
   ·have:zg (zaO D.l ⟨zc L.last,(zx D (zc L.last)).all,.empty⟩) (zc L.last)=some f:=hf2;rw[zcQ hi.sort,if_pos rfl] at this;cases this;rfl
theorem SegI.next (h:SegI f0 last l put safe) (hf:zuN l last) (hne:∃ f,zg l (zc last)=some f) (hl:last<99999):SegI f0 (last+1) l put safe:=by
 obtain⟨parts,cur,h1,h2,h3,h4⟩:=h.seg;have hsf:=h.safe_le
 obtain⟨f,hff⟩:=hne;rcases h4 with ⟨h5,_,_⟩|⟨s,t,j,h5,h6,h7,h8,h9⟩
 ·rw[hff] at h5;cases h5
 have ht:t = .empty:=hf _ h5;subst ht;have hl1:=h.f1
 refine⟨h.ok,by omega,fun f hf=>?_,parts++[cur],[],by simp;omega,by rw[h2];simp,fun i q hq=>?_,.inl ⟨?_,rfl,by rw[h2] at hsf;simpa using hsf⟩⟩
 ·rcases h.names f hf with ⟨k,g1,g2,g3⟩|g
  ·exact .inl ⟨k,g1,by omega,g3⟩
  ·exact .inr g
 ·by_cases hi:i<parts.length
  ·rw[List.getElem?_append_left hi] at hq;exact h3 i q hq
  ·rw[List.getElem?_append_right (by omega)] at hq
   have hi0:i - parts.length=0:=by
    have:=(List.getElem?_eq_some_iff.1 hq).1;simp at this;omega
   rw[hi0] at hq;simp at hq;subst hq;have e:f0+(i:Int)=last:=by omega
   rw[e];exact⟨s,h5,by rw[zcC,List.append_nil] at h6;exact h6⟩
 ·rw[findR_none];intro f hf e;rcases h.names f hf with ⟨k,g1,g2,g3⟩|g
  ·rw[g3] at e;exact zje (by omega) (by omega) (by omega) e
  ·rw[e] at g;have:=zfl g
   rw[zbU (by omega)] at this;omega
theorem SegI.begin (h:SegI f0 L.last D.l put safe) (hi:InvD D):SegI f0 (beginL D L).2.1.last (beginL D L).1.l put safe∧((beginL D L).2.2.2=0→SegI f0 (beginL D L).2.1.last (beginL D L).1.l put put.length∧zuN (beginL D L).1.l (beginL D L).2.1.last)∧(beginL D L).2.1.last≤L.last+1:=by
 obtain⟨g1,g2⟩:=h.sync hi;have g3:=zAy D L
 unfold beginL;split
 ·rename_i he;dsimp only;rw[g3];exact⟨g1,fun e=>absurd e he,by omega⟩
 rename_i he;have gs:=g2 (by simpa using he)
 split
 ·dsimp only;rw[g3];exact⟨g1,fun _=>⟨g1.full gs,gs⟩,by omega⟩
 rename_i hl;split
 ·dsimp only;rw[g3];exact⟨g1,fun e=>(by cases e),by omega⟩
 rename_i hm;dsimp only
 have hne:∃ f,zg (syncL D L).1.l (zc L.last)=some f:=by
  cases hf:zg (syncL D L).1.l (zc L.last) with
  | some f=>exact⟨f,rfl⟩
  | none=>
   exfalso;apply hl;unfold zc8;split
   ·unfold zgx;rw[hf]
   ·rename_i hd;rw[zi0 (by simpa using hd) (zce h.k1),hf];rfl
 have hlt:L.last<99999:=by have:=h.f1;omega
 have hx:=(g1.full gs).next gs hne hlt;refine⟨g1.next gs hne hlt,fun _=>⟨hx,fun f hf=>?_⟩,Int.le_refl _⟩;obtain⟨parts,cur,h1,h2,h3,h4⟩:=hx.seg
 have hnone:zg (syncL D L).1.l (zc (L.last+1))=none:=by
  rw[findR_none];intro f hf e;rcases g1.names f hf with ⟨k,q1,q2,q3⟩|g
  ·have:=h.f1;rw[q3] at e;exact zje (by omega) (by omega) (by omega) e
  ·rw[e] at g;have:=zfl g
   have:=h.f1;rw[zbU (by omega)] at *;omega
 have hf':zg (syncL D L).1.l (zc (L.last+1))=some f:=hf;rw[hnone] at hf';cases hf'
theorem SegI.app1 (h:SegI f0 last D.l put safe) (hi:InvD D) {q:List UInt8} (hq:zcS q) :
  ((zW D (zc last) (zap q)).2=0→SegI f0 last (zW D (zc last) (zap q)).1.l (put++[q]) safe)∧((zW D (zc last) (zap q)).2≠0→SegI f0 last (zW D (zc last) (zap q)).1.l put safe):=by
 unfold zW;split
 ·rename_i h0;exact⟨fun e=>absurd e h0,fun _=>h⟩
 split
 ·exact⟨fun e=>(by cases e),fun _=>h⟩
 refine⟨fun _=>?_,fun e=>absurd rfl e⟩;refine h.turn hi.sort (by simpa using hq) fun parts cur hc=>?_
 rcases hc with ⟨h5,h6,h7⟩|⟨s,t,j,h5,h6,h7,h8,h9⟩
 ·have e:zx D (zc last)=⟨zc last,.empty,.empty⟩:=by unfold zx;rw[h5];rfl
  rw[e,h6];refine⟨by rw[zad,zcC,ziX];simp[zbi],0,Nat.zero_le _,by simp[zae],by omega⟩
 ·have e:zx D (zc last)=⟨zc last,s,t⟩:=by unfold zx;rw[h5];rfl
  rw[e];refine⟨by dsimp only;rw[zad,←List.append_assoc,h6,zjR];congr 1;rw[ziX];simp[zbi],j,by simp;omega,?_,h9⟩;rw[List.take_append_of_le_length h7];exact h8
theorem SegI.append (h:SegI f0 L.last D.l put safe) (hi:InvD D) (q:List UInt8) :
  ((zaf D L q).2.2=0→SegI f0 (zaf D L q).2.1.last (zaf D L q).1.l (put++[q]) safe)∧((zaf D L q).2.2≠0→SegI f0 (zaf D L q).2.1.last (zaf D L q).1.l put safe)∧(zaf D L q).2.1.last≤L.last+1:=by
 obtain⟨g1,g2,g3⟩:=h.begin hi;have gi:=zzf hi L
 unfold zaf;split
 ·exact⟨fun e=>(by cases e),fun _=>h,by dsimp only;omega⟩
 split
 ·rename_i h0;exact⟨fun e=>absurd e h0,fun _=>h,by dsimp only;omega⟩
 rename_i h0;have hq:=zAA h0
 split
 ·exact⟨fun e=>(by cases e),fun _=>h,by unfold zcq;dsimp only;omega⟩
 split
 ·rename_i he;unfold zbN at he ⊢;split at he
  ·rename_i hf;rw[if_pos hf];exact⟨fun e=>absurd e he,fun _=>g1,g3⟩
  ·exact absurd rfl he
 ·unfold zbN;split
  ·obtain⟨a1,a2⟩:=g1.app1 gi hq;exact⟨a1,a2,g3⟩
  ·obtain⟨a1,a2⟩:=h.app1 hi hq;exact⟨a1,a2,by unfold zcq;dsimp only;omega⟩
end Go.Proofs.YtpdkkbpkplhdpaaGreat
namespace Go.Proofs.YtpdkkbpkplhdpaaGreat
open Go Go.Vm
attribute [local irreducible] Brn Ob Grow CallsM inR zax zav Mem.row Mem.cells Mem.setCells Mem.upd Go.Vm.Own zaD za5 zbc zaJ New SrcOk subA NewSl Mem.textAt Mem.mapAt Mem.iterAt zau zaj Wr NewEls Elems
set_option maxRecDepth 10000
variable {M M0:Mem} {g p b:Nat} {D:zf} {es:FsT}
def dropL (D:zf) (L:zaE) (k:Int):zf×zaE×Int:=
 if L.failed=true then (D,L,7) else if k<L.first∨L.last<k then (D,L,1)
 else ((removeAll D (zaW D fun n=>decide (L.first≤n)&&decide (n<k))).1,
  (if (removeAll D (zaW D fun n=>decide (L.first≤n)&&decide (n<k))).2=0 then { (zcq L (removeAll D (zaW D fun n=>decide (L.first≤n)&&decide (n<k))).2) with first:=k } else zcq L (removeAll D (zaW D fun n=>decide (L.first≤n)&&decide (n<k))).2),
  (removeAll D (zaW D fun n=>decide (L.first≤n)&&decide (n<k))).2)
theorem zBE {L:zaE} {b1 b2:Nat} {k:Int} (h1:M.has b1 T.zbQ [ptr g]) (h2:M.has b2 T.zr [.int .i64 k]) (h:M.has g T.zcn (zf3 p L)) :
  ∀ M',M.le M'→∀ n:Int,CallsM Tryz.prog F.zgC [.int .i64 n,ptr b1,ptr b2] M' fun v M''=>v = .bool (decide (L.first≤n)&&decide (n<k))∧M'.le M'':=fun M' hle n=>by
 refine zoN (by simp) ?_;refine zR ?_;refine on ((h1.le hle).c1 rfl) ?_;(conv=>whnf);refine on ((h.le hle).c1 rfl) ?_;(conv=>whnf);refine brn (fun e=>?_) (fun e=>?_)
 ·refine zR ?_;refine on ((h2.le hle).c1 rfl) ?_;refine zR ?_;exact⟨by rw[show decide (L.first≤n)=true from decide_eq_true (by have:=Zd0 e;omega)];rfl,Mem.le_refl _⟩
 ·refine zR ?_;exact⟨by rw[show decide (L.first≤n)=false from decide_eq_false (by have:=Zd1 e;omega)];rfl,Mem.le_refl _⟩
theorem zBF {L:zaE} (h:LogAt M0 M g p b D es L) (hW:NamesW D) (k:Int):CallsM Tryz.prog F.zfS [ptr g,.int .i64 k] M fun v M'=>∃ es',v = .int .i64 (dropL D L k).2.2∧LogAt M0 M' g p b (dropL D L k).1 es' (dropL D L k).2.1:=by
 refine zre (by simp) ?_;obtain⟨h0,hM0⟩:=h.base;refine zR ?_;refine(znV h.self).mono ?_;rintro v _ ⟨rfl,rfl⟩;(conv=>whnf);refine brn (fun e=>?_) (fun e=>?_)
 ·have hf:L.failed=true:=by
   cases hf:L.failed
   ·rw[hf] at e;exact absurd e (by decide)
   ·rfl
  refine zR ?_;rw[if_pos hf,show dropL D L k=(D,L,7) by simp[dropL,hf]];exact⟨es,rfl,h⟩
 have hf:¬L.failed=true:=fun hf=>by rw[if_pos hf] at e;exact absurd e (by decide)
 refine zL (h.self) ?_;(conv=>whnf);refine brn (fun e=>?_) (fun e=>?_)
 ·have hk:k<L.first∨L.last<k := .inl (Zd0 e);refine zR ?_;rw[show dropL D L k=(D,L,1) by unfold dropL;rw[if_neg hf,if_pos hk]];exact⟨es,rfl,h⟩
 have e1:=Zd1 e;refine zL (h.self) ?_;(conv=>whnf);refine brn (fun e=>?_) (fun e=>?_)
 ·have hk:k<L.first∨L.last<k := .inr (Zd0 e);refine zR ?_;rw[show dropL D L k=(D,L,1) by unfold dropL;rw[if_neg hf,if_pos hk]];exact⟨es,rfl,h⟩
 have e2:=Zd1 e;obtain⟨r,hr⟩:∃ r,r=removeAll D (zaW D fun n=>decide (L.first≤n)&&decide (n<k)):=⟨_,rfl⟩
 have hD:dropL D L k=(r.1,(if r.2=0 then { (zcq L r.2) with first:=k } else zcq L r.2),r.2):=by unfold dropL;rw[if_neg hf,if_neg (by omega),←hr]
 refine zX ?_;refine⟨M.minus (zbj g p b es),Mem.minus_le _ _,?_⟩;refine zX ?_;(conv=>whnf);refine new (fun b1 hb1=>?_);replace hb1:M b1=none:=hb1;have hle1:M.le (M.setCells b1 T.zbQ [ptr g]):=Mem.le_setCells hb1
 have hx1:(M.setCells b1 T.zbQ [ptr g]).has b1 T.zbQ [ptr g]:=Mem.has_setCells;obtain⟨M1,hM1⟩:∃ M1,M1=M.setCells b1 T.zbQ [ptr g]:=⟨_,rfl⟩
 rw[←hM1] at hle1 hx1;(conv=>whnf)
 erw [←hM1];(conv=>whnf);refine new (fun b2 hb2=>?_);replace hb2:M1 b2=none:=hb2;have hle2:M1.le (M1.setCells b2 T.zr [.int .i64 k]):=Mem.le_setCells hb2
 have hx2:(M1.setCells b2 T.zr [.int .i64 k]).has b2 T.zr [.int .i64 k]:=Mem.has_setCells;obtain⟨M2,hM2⟩:∃ M2,M2=M1.setCells b2 T.zr [.int .i64 k]:=⟨_,rfl⟩
 rw[←hM2] at hle2 hx2;(conv=>whnf)
 erw [←hM2];have h2:=h0.to (Mem.le_trans hle1 hle2)
 have hx12:=hx1.le hle2;refine(zBz h2 hW (zBE hx12 hx2 h2.self)).mono ?_;rintro v M3 ⟨a3,n3,c3,rfl,hn3,hN3⟩;have hle3:=hN3.le
 have h3:=h2.to hle3;(conv=>whnf);refine ob (hx12.le hle3) ?_;(conv=>whnf);refine ob (hx2.le hle3) ?_;(conv=>whnf);refine grow_same h3.disk.le ?_;refine zX ?_;have hs3:SrcOk (M3.minus (zbj g p b es)) 1 a3 n3 ((zaW D fun n=>decide (L.first≤n)&&decide (n<k)).map zaa):=hN3.src.minus fun q hq hb=>h2.full hb (hN3.block hq).1
 have hsl:(zaW D fun n=>decide (L.first≤n)&&decide (n<k)).length≤64:=by
  have:=h.disk.inv.len;refine Nat.le_trans (List.length_filter_le _ _) ?_;simpa using this
 refine(zhj h3.base.1 hs3 (by omega)).mono ?_;rintro v M4 ⟨es4,rfl,h4⟩;rw[←hr] at h4 ⊢;have hz:(M.minus (zbj g p b es)).le (M4.minus (zbj g p b es4)):=Mem.le_trans (h0.zle (Mem.le_trans hle1 (Mem.le_trans hle2 hle3))) (h3.z h4)
 have h4':LogAt (M.minus (zbj g p b es)) M4 g p b r.1 es4 L:=h4.mono h3.base.2
 have hb2':M b2=none:=by
  cases e:M b2 with
  | none=>rfl
  | some o=>rw[hle1 b2 o e] at hb2;cases hb2
 have hm1:=((hx12.le hle3).minus (S:=zbj g p b es) fun hb=>h0.full hb hb1).le h4.disk.le;have hm2:=((hx2.le hle3).minus (S:=zbj g p b es) fun hb=>h0.full hb hb2').le h4.disk.le
 (conv=>whnf);refine ob hm1 ?_;(conv=>whnf);refine ob hm2 ?_;(conv=>whnf);refine grow_same h4'.disk.le ?_;refine zX ?_;refine(zgF h4 r.2).mono ?_;rintro v M5 ⟨rfl,h5⟩;have hq1:=((hx12.le hle3).minus (S:=zbj g p b es) fun hb=>h0.full hb hb1).le h5.disk.le
 have hq2:=((hx2.le hle3).minus (S:=zbj g p b es) fun hb=>h0.full hb hb2').le h5.disk.le;have h5':=(h5.mono h3.base.2).mono hM0
 refine zX ?_;refine brn (fun e=>?_) (fun e=>?_)
 ·have e3:r.2=0:=Zd0 e;refine zR ?_;refine on (hq1.c1 rfl) ?_;(conv=>whnf);refine on (hq2.c1 rfl) ?_;refine zR ?_;refine on h5.self.cells ?_;(conv=>whnf);refine ob (by simp) ?_;refine zR ?_;rw[hD,if_pos e3];exact⟨es4,rfl,h5'.set { (zcq L r.2) with first:=k }⟩
 ·have e3:¬r.2=0:=Zd1 e;refine zR ?_;rw[hD,if_neg e3];exact⟨es4,rfl,h5'⟩
end Go.Proofs.YtpdkkbpkplhdpaaGreat
namespace Go.Proofs.YtpdkkbpkplhdpaaGreat
open Go Go.Vm
attribute [local irreducible] Brn Ob Grow CallsM inR zax Mem.row Mem.cells Mem.setCells Mem.upd Go.Vm.Own zaD za5 zbc zaJ New SrcOk subA
theorem zEH (n a b:Int) (M:Mem):CallsM Tryz.prog F.zig [.int .i64 n,.int .i64 a,.int .i64 b] M fun v M'=>v = .bool (decide (a≤n∧n≤b))∧M=M':=by
 refine zsv (by simp) ?_;(conv=>whnf)
 refine brn (fun h=>?_) (fun h=>?_)
 all_goals (conv=>whnf)
 ·refine⟨by simp_all,rfl⟩
 ·refine⟨by simp_all;omega,rfl⟩
def za4 (a b c d:Int):Int:=if (0≤a∧a≤63)∧(0≤b∧b≤63)∧(1≤c∧c≤65535)∧(1≤d∧d≤65535) then (if a=b then 2 else 0) else 1
set_option maxRecDepth 10000 in
theorem zgG (a b c d:Int) (M:Mem):CallsM Tryz.prog F.zdW [.agg #[.int .i64 a,.int .i64 b,.int .i64 c,.int .i64 d]] M fun v M'=>v = .int .i64 (za4 a b c d)∧M=M':=by
 refine zvm (by simp) ?_;(conv=>whnf)
 repeat' ((conv=>whnf);first
  | (refine(zEH _ _ _ _).mono ?_;rintro v M' ⟨rfl,rfl⟩)
  | refine brn (fun h=>?_) (fun h=>?_))
 all_goals (conv=>whnf)
 all_goals (refine⟨?_,rfl⟩;simp_all [za4])
 all_goals (intros;exfalso;omega)
set_option maxRecDepth 10000 in
theorem zgP (a b c d:Int) (M:Mem):CallsM Tryz.prog F.zcv [.agg #[.int .i64 a,.int .i64 b,.int .i64 c,.int .i64 d]] M fun v M'=>v = .int .i64 (za4 a b c d)∧M=M':=by
 refine zsD (by simp) ?_;(conv=>whnf)
 repeat' ((conv=>whnf);refine brn (fun h=>?_) (fun h=>?_))
 all_goals (conv=>whnf)
 all_goals (refine⟨?_,rfl⟩;simp only[decide_eq_true_eq,decide_eq_false_iff_not] at *; congr 1;unfold za4;split<;>(try split)<;>omega)
end Go.Proofs.YtpdkkbpkplhdpaaGreat
namespace Go.Proofs.YtpdkkbpkplhdpaaGreat
open Go Go.Proofs Go.Shelf
def Tryz.laysF_ren:Go.Shelf.Ren:=⟨fun|6=>125|15=>96|14=>167|28=>146|29=>147|20=>190|21=>191|22=>192|23=>193|24=>194|25=>195|26=>196|27=>197|46=>206|47=>171|48=>172|49=>207|50=>208|57=>210|n=>n,fun|22=>63|24=>161|25=>209|3=>3|39=>171|0=>0|53=>189|55=>186|4=>4|46=>218|45=>217|50=>223|5=>5|9=>9|66=>244|70=>248|76=>266|77=>267|n=>n,fun|n=>n⟩
theorem Tryz.laysF:Go.Proofs.SlLaysF0.n6 Tryz.prog Tryz.laysF_ren:={
 mixed:=by kernel_rfl
 f6:=⟨"slices.SortFunc[[]portage/api.Mark,portage/api.Mark]", by decide,Tryz.func125.trans (congrArg some (by kernel_rfl))⟩
 f14:=⟨"slices.pdqsortCmpFunc[portage/api.Mark]", by decide,Tryz.func167.trans (congrArg some (by kernel_rfl))⟩
 f15:=Tryz.func96.trans (congrArg some (by kernel_rfl))
 f20:=⟨"slices.insertionSortCmpFunc[portage/api.Mark]", by decide,Tryz.func190.trans (congrArg some (by kernel_rfl))⟩
 f21:=⟨"slices.heapSortCmpFunc[portage/api.Mark]", by decide,Tryz.func191.trans (congrArg some (by kernel_rfl))⟩
 f22:=⟨"slices.breakPatternsCmpFunc[portage/api.Mark]", by decide,Tryz.func192.trans (congrArg some (by kernel_rfl))⟩
 f23:=⟨"slices.choosePivotCmpFunc[portage/api.Mark]", by decide,Tryz.func193.trans (congrArg some (by kernel_rfl))⟩
 f24:=⟨"slices.reverseRangeCmpFunc[portage/api.Mark]", by decide,Tryz.func194.trans (congrArg some (by kernel_rfl))⟩
 f25:=⟨"slices.partialInsertionSortCmpFunc[portage/api.Mark]", by decide,Tryz.func195.trans (congrArg some (by kernel_rfl))⟩
 f26:=⟨"slices.partitionEqualCmpFunc[portage/api.Mark]", by decide,Tryz.func196.trans (congrArg some (by kernel_rfl))⟩
 f27:=⟨"slices.partitionCmpFunc[portage/api.Mark]", by decide,Tryz.func197.trans (congrArg some (by kernel_rfl))⟩
 f28:=Tryz.func146.trans (congrArg some (by kernel_rfl))
 f29:=Tryz.func147.trans (congrArg some (by kernel_rfl))
 f46:=⟨"slices.siftDownCmpFunc[portage/api.Mark]", by decide,Tryz.func206.trans (congrArg some (by kernel_rfl))⟩
 f47:=Tryz.func171.trans (congrArg some (by kernel_rfl))
 f48:=Tryz.func172.trans (congrArg some (by kernel_rfl))
 f49:=⟨"slices.medianAdjacentCmpFunc[portage/api.Mark]", by decide,Tryz.func207.trans (congrArg some (by kernel_rfl))⟩
 f50:=⟨"slices.medianCmpFunc[portage/api.Mark]", by decide,Tryz.func208.trans (congrArg some (by kernel_rfl))⟩
 f57:=⟨"slices.order2CmpFunc[portage/api.Mark]", by decide,Tryz.func210.trans (congrArg some (by kernel_rfl))⟩
 t0:=Tryz.underlying0
 a0:=Tryz.isAgg0
 z0:=Tryz.sizeOf0
 v0:=Tryz.zeroValue0
 t3:=Tryz.underlying3
 a3:=Tryz.isAgg3
 z3:=Tryz.sizeOf3
 v3:=Tryz.zeroValue3
 t4:=Tryz.underlying4
 a4:=Tryz.isAgg4
 z4:=Tryz.sizeOf4
 v4:=Tryz.zeroValue4
 t5:=Tryz.underlying5
 a5:=Tryz.isAgg5
 z5:=Tryz.sizeOf5
 v5:=Tryz.zeroValue5
 t9:=Tryz.underlying9
 a9:=Tryz.isAgg9
 z9:=Tryz.sizeOf9
 v9:=Tryz.zeroValue9
 t22:=Tryz.underlying63
 a22:=Tryz.isAgg63
 z22:=Tryz.sizeOf63
 v22:=Tryz.zeroValue63
 t25:=Tryz.underlying209
 a25:=Tryz.isAgg209
 z25:=Tryz.sizeOf209
 v25:=Tryz.zeroValue209
 t39:=Tryz.underlying171
 a39:=Tryz.isAgg171
 z39:=Tryz.sizeOf171
 v39:=Tryz.zeroValue171
 t45:=Tryz.underlying217
 a45:=Tryz.isAgg217
 z45:=Tryz.sizeOf217
 v45:=Tryz.zeroValue217
 t46:=Tryz.underlying218
 a46:=Tryz.isAgg218
 z46:=Tryz.sizeOf218
 v46:=Tryz.zeroValue218
 t50:=Tryz.underlying223
 a50:=Tryz.isAgg223
 z50:=Tryz.sizeOf223
 v50:=Tryz.zeroValue223
 t53:=Tryz.underlying189
 a53:=Tryz.isAgg189
 z53:=Tryz.sizeOf189
 v53:=Tryz.zeroValue189
 t55:=Tryz.underlying186
 a55:=Tryz.isAgg186
 z55:=Tryz.sizeOf186
 v55:=Tryz.zeroValue186
 t66:=Tryz.underlying244
 a66:=Tryz.isAgg244
 z66:=Tryz.sizeOf244
 v66:=Tryz.zeroValue244
 t70:=Tryz.underlying248
 a70:=Tryz.isAgg248
 z70:=Tryz.sizeOf248
 v70:=Tryz.zeroValue248
 t76:=Tryz.underlying266
 a76:=Tryz.isAgg266
 z76:=Tryz.sizeOf266
 v76:=Tryz.zeroValue266
 t77:=Tryz.underlying267
 a77:=Tryz.isAgg267
 z77:=Tryz.sizeOf267
 v77:=Tryz.zeroValue267 }
def Tryz.laysIns_ren:Go.Shelf.Ren:=⟨fun|21=>165|27=>188|28=>189|35=>205|39=>163|n=>n,fun|22=>27|3=>3|4=>4|0=>0|n=>n,fun|n=>n⟩
theorem Tryz.laysIns:Go.Proofs.Lays2.n21 Tryz.prog Tryz.laysIns_ren:={
 mixed:=by kernel_rfl
 f21:=Tryz.func165.trans (congrArg some (by kernel_rfl))
 f27:=Tryz.func188.trans (congrArg some (by kernel_rfl))
 f28:=Tryz.func189.trans (congrArg some (by kernel_rfl))
 f35:=Tryz.func205.trans (congrArg some (by kernel_rfl))
 f39:=Tryz.func163.trans (congrArg some (by kernel_rfl))
 t0:=Tryz.underlying0
 a0:=Tryz.isAgg0
 z0:=Tryz.sizeOf0
 v0:=Tryz.zeroValue0
 t3:=Tryz.underlying3
 a3:=Tryz.isAgg3
 z3:=Tryz.sizeOf3
 v3:=Tryz.zeroValue3
 t4:=Tryz.underlying4
 a4:=Tryz.isAgg4
 z4:=Tryz.sizeOf4
 v4:=Tryz.zeroValue4
 t22:=Tryz.underlying27
 a22:=Tryz.isAgg27
 z22:=Tryz.sizeOf27
 v22:=Tryz.zeroValue27
 i3:=by kernel_rfl }
def Tryz.laysP_ren:Go.Shelf.Ren:=⟨fun|6=>100|15=>96|14=>152|28=>146|29=>147|20=>176|21=>177|22=>178|23=>179|24=>180|25=>181|26=>182|27=>183|46=>200|47=>171|48=>172|49=>201|50=>202|57=>209|n=>n,fun|22=>177|24=>175|25=>179|3=>3|39=>171|0=>0|53=>189|55=>186|4=>4|46=>218|45=>217|50=>223|5=>5|9=>9|66=>244|70=>248|76=>266|77=>267|n=>n,fun|n=>n⟩
theorem Tryz.laysP:Go.Proofs.SlLaysF0.n6 Tryz.prog Tryz.laysP_ren:={
 mixed:=by kernel_rfl
 f6:=⟨"slices.SortFunc[[]portage/store.place,portage/store.place]", by decide,Tryz.func100.trans (congrArg some (by kernel_rfl))⟩
 f14:=⟨"slices.pdqsortCmpFunc[portage/store.place]", by decide,Tryz.func152.trans (congrArg some (by kernel_rfl))⟩
 f15:=Tryz.func96.trans (congrArg some (by kernel_rfl))
 f20:=⟨"slices.insertionSortCmpFunc[portage/store.place]", by decide,Tryz.func176.trans (congrArg some (by kernel_rfl))⟩
 f21:=⟨"slices.heapSortCmpFunc[portage/store.place]", by decide,Tryz.func177.trans (congrArg some (by kernel_rfl))⟩
 f22:=⟨"slices.breakPatternsCmpFunc[portage/store.place]", by decide,Tryz.func178.trans (congrArg some (by kernel_rfl))⟩
 f23:=⟨"slices.choosePivotCmpFunc[portage/store.place]", by decide,Tryz.func179.trans (congrArg some (by kernel_rfl))⟩
 f24:=⟨"slices.reverseRangeCmpFunc[portage/store.place]", by decide,Tryz.func180.trans (congrArg some (by kernel_rfl))⟩
 f25:=⟨"slices.partialInsertionSortCmpFunc[portage/store.place]", by decide,Tryz.func181.trans (congrArg some (by kernel_rfl))⟩
 f26:=⟨"slices.partitionEqualCmpFunc[portage/store.place]", by decide,Tryz.func182.trans (congrArg some (by kernel_rfl))⟩
 f27:=⟨"slices.partitionCmpFunc[portage/store.place]", by decide,Tryz.func183.trans (congrArg some (by kernel_rfl))⟩
 f28:=Tryz.func146.trans (congrArg some (by kernel_rfl))
 f29:=Tryz.func147.trans (congrArg some (by kernel_rfl))
 f46:=⟨"slices.siftDownCmpFunc[portage/store.place]", by decide,Tryz.func200.trans (congrArg some (by kernel_rfl))⟩
 f47:=Tryz.func171.trans (congrArg some (by kernel_rfl))
 f48:=Tryz.func172.trans (congrArg some (by kernel_rfl))
 f49:=⟨"slices.medianAdjacentCmpFunc[portage/store.place]", by decide,Tryz.func201.trans (congrArg some (by kernel_rfl))⟩
 f50:=⟨"slices.medianCmpFunc[portage/store.place]", by decide,Tryz.func202.trans (congrArg some (by kernel_rfl))⟩
 f57:=⟨"slices.order2CmpFunc[portage/store.place]", by decide,Tryz.func209.trans (congrArg some (by kernel_rfl))⟩
 t0:=Tryz.underlying0
 a0:=Tryz.isAgg0
 z0:=Tryz.sizeOf0
 v0:=Tryz.zeroValue0
 t3:=Tryz.underlying3
 a3:=Tryz.isAgg3
 z3:=Tryz.sizeOf3
 v3:=Tryz.zeroValue3
 t4:=Tryz.underlying4
 a4:=Tryz.isAgg4
 z4:=Tryz.sizeOf4
 v4:=Tryz.zeroValue4
 t5:=Tryz.underlying5
 a5:=Tryz.isAgg5
 z5:=Tryz.sizeOf5
 v5:=Tryz.zeroValue5
 t9:=Tryz.underlying9
 a9:=Tryz.isAgg9
 z9:=Tryz.sizeOf9
 v9:=Tryz.zeroValue9
 t22:=Tryz.underlying177
 a22:=Tryz.isAgg177
 z22:=Tryz.sizeOf177
 v22:=Tryz.zeroValue177
 t25:=Tryz.underlying179
 a25:=Tryz.isAgg179
 z25:=Tryz.sizeOf179
 v25:=Tryz.zeroValue179
 t39:=Tryz.underlying171
 a39:=Tryz.isAgg171
 z39:=Tryz.sizeOf171
 v39:=Tryz.zeroValue171
 t45:=Tryz.underlying217
 a45:=Tryz.isAgg217
 z45:=Tryz.sizeOf217
 v45:=Tryz.zeroValue217
 t46:=Tryz.underlying218
 a46:=Tryz.isAgg218
 z46:=Tryz.sizeOf218
 v46:=Tryz.zeroValue218
 t50:=Tryz.underlying223
 a50:=Tryz.isAgg223
 z50:=Tryz.sizeOf223
 v50:=Tryz.zeroValue223
 t53:=Tryz.underlying189
 a53:=Tryz.isAgg189
 z53:=Tryz.sizeOf189
 v53:=Tryz.zeroValue189
 t55:=Tryz.underlying186
 a55:=Tryz.isAgg186
 z55:=Tryz.sizeOf186
 v55:=Tryz.zeroValue186
 t66:=Tryz.underlying244
 a66:=Tryz.isAgg244
 z66:=Tryz.sizeOf244
 v66:=Tryz.zeroValue244
 t70:=Tryz.underlying248
 a70:=Tryz.isAgg248
 z70:=Tryz.sizeOf248
 v70:=Tryz.zeroValue248
 t76:=Tryz.underlying266
 a76:=Tryz.isAgg266
 z76:=Tryz.sizeOf266
 v76:=Tryz.zeroValue266
 t77:=Tryz.underlying267
 a77:=Tryz.isAgg267
 z77:=Tryz.sizeOf267
 v77:=Tryz.zeroValue267 }
end Go.Proofs.YtpdkkbpkplhdpaaGreat
namespace Go.Vm
open Go.RowKit Go.Shelf Go.Sort Go.Proofs
section
theorem zx3 {α:Type} {enc:α→List Value} {k:Nat} (hk:∀ x,(enc x).length=k):∀ (l:List α) (i j:Nat) (x:α),l[i]? = some x→j<k→(l.flatMap enc)[i*k+j]? = (enc x)[j]?
 | [],i,j,x,h,_=>by simp at h
 | y::r,0,j,x,h,hj=>by
  simp at h;subst h;rw[List.flatMap_cons,Nat.zero_mul,Nat.zero_add,List.getElem?_append_left (by rw[hk];exact hj)]
 | y::r,i+1,j,x,h,hj=>by
  have:=zx3 hk r i j x (by simpa using h) hj;rw[List.flatMap_cons,List.getElem?_append_right (by rw[hk,Nat.succ_mul];omega),hk,←this];congr 1;rw[Nat.succ_mul];omega
theorem zjU {α:Type} {enc:α→List Value} {k:Nat} (hk:∀ x,(enc x).length=k) (l:List α):(l.flatMap enc).length=l.length*k:=by
 induction l with
 | nil=>simp
 | cons y r ih=>simp[hk,ih,Nat.succ_mul,Nat.add_comm]
theorem zv8 {α:Type} [Inhabited α] {enc:α→List Value} {k:Nat} (hk:∀ x,(enc x).length=k) (hk0:0<k) (l:List α):(flatK enc k l.toArray).toList=l.flatMap enc:=by
 apply List.ext_getElem?;intro t;by_cases ht:t<l.length*k
 ·have hi:t / k<l.length:=(Nat.div_lt_iff_lt_mul hk0).2 ht;have e:t=t / k*k+t % k:=by rw[Nat.mul_comm];exact(Nat.div_add_mod t k).symm
  have hj:t % k<k:=Nat.mod_lt _ hk0;have h1:=zx3 hk l (t / k) (t % k) l[t / k] (List.getElem?_eq_getElem hi) hj
  rw[←e] at h1;rw[h1];have hs:t<(flatK enc k l.toArray).size:=by rw[size_flatK];simpa using ht
  have h2:=get_flatK enc k l.toArray t (by simpa using ht);rw[Array.getElem?_toList,Array.getElem?_eq_getElem hs];rw[getElem!_pos _ t hs] at h2;rw[h2];have h3:l.toArray[t / k]! = l[t / k]:=by simp[hi]
  rw[h3,getElem!_pos _ _ (by rw[hk];exact hj),List.getElem?_eq_getElem (by rw[hk];exact hj)]
 ·rw[List.getElem?_eq_none (by simp;omega),List.getElem?_eq_none (by rw[zjU hk];omega)]
section
variable {P:Program} {ρ:Ren} {α:Type} [Inhabited α]
theorem zBG {W w':World} (hF:(zy W).le (zy w')) (ho:w'.os=W.os) (hp:w'.output=W.output) (ht:w'.tape=W.tape) (hs:W.heap.size≤w'.heap.size) (hd:W.drawn≤w'.drawn):∃ q os',w'=grow (W.drewN q) os':=by
 refine⟨w'.drawn - W.drawn,w'.heap.extract W.heap.size w'.heap.size,?_⟩;obtain⟨h,t,d,o,p⟩:=w';simp only at ho hp ht hs hd;subst ho;subst hp;subst ht
 have e1:h=W.heap++h.extract W.heap.size h.size:=by
  apply Array.ext_getElem?;intro i;by_cases hi:i<W.heap.size
  ·rw[Array.getElem?_append_left hi];have:=hF i W.heap[i] (Array.getElem?_eq_getElem hi)
   rw[Array.getElem?_eq_getElem hi];exact this
  ·rw[Array.getElem?_append_right (by omega),Array.getElem?_extract];by_cases h2:i<h.size
   ·rw[if_pos (by omega)];congr 1;omega
   ·rw[if_neg (by omega),Array.getElem?_eq_none (by omega)]
 have e2:d=W.drawn+(d - W.drawn):=by omega
 show World.mk h W.tape d W.os W.output=World.mk (W.heap++h.extract W.heap.size h.size) W.tape (W.drawn+(d - W.drawn)) W.os W.output;rw[←e1,←e2]
theorem zBH {g:Nat} {enc:α→List Value} {k:Nat} {cf:α→α→Int} (hcmp:∀ x y,CallsM P g [.agg (enc x).toArray,.agg (enc y).toArray] Mem.empty fun v _=>v = .int .i64 (cf x y)) (z6 off size:Nat) (w:World):CmpLays P g #[] enc k cf z6 off size w:=by
 intro m os dk _ x y;have h:=(hcmp x y).2 (zy (sortWorldK enc k w z6 off m dk os)) (sortWorldK enc k w z6 off m dk os) (Mem.empty_le _) (fun _ _ h=>h) (fun _ => .inl rfl)
 exact Calls.mono h fun e w' ⟨v,M',he,hv,_,hF,_,ho,hp,ht,hs,hd⟩=>⟨by rw[he,hv],zBG hF ho hp ht hs hd⟩
theorem zv9 (L:SlLaysF0.n6 P ρ) (he:zfy P (ρ.f 6)=true) {k:Nat} (hk0:0<k) (aE:∀ w,(isAgg (ρ.t 24)).run P w = .ok true w) (zE:∀ w,(Go.sizeOf (ρ.t 24)).run P w = .ok k w) {enc:α→List Value} (hk:∀ x,(enc x).length=k) (h1:∀ x,∀ v∈enc x,v.oneCell'=true)
  {cf:α→α→Int} (hO:SWO (ltOf cf)) {g:Nat} (eg:∀ args w,(callFunc g args).run P w = .ok (.enter g args) w) (hcmp:∀ x y,CallsM P g [.agg (enc x).toArray,.agg (enc y).toArray] Mem.empty fun v _=>v = .int .i64 (cf x y))
  {M:Mem} {E:TypeId} {a:Option Addr} {n c:Nat} {l:List α} (h:Wr M E k a n c (l.flatMap enc)) (hn:n<4611686018427387904) :
  CallsM P (ρ.f 6) [.slice a n c,.func (.func g) #[] #[]] M fun v M'=>v = .tuple #[]∧∃ l':List α,l'.Perm l∧l'.Pairwise (fun x y=>¬cf y x<0)∧Wr M' E k a n c (l'.flatMap enc)∧Mem.keep (z6 a) M M':=by
 refine⟨he,fun F w hM hF hdj=>?_⟩;obtain⟨hl,hnc,h3⟩:=h
 have hll:l.length=n:=by
  rw[zjU hk] at hl;exact Nat.eq_of_mul_eq_mul_right hk0 hl
 rcases h3 with ⟨rfl,rfl⟩|⟨b,cs,rfl,hh,hcl,ht⟩
 ·have:n=0:=by omega
  subst this;have:l=[]:=by simpa using hll
  subst this;refine Calls.mono (AnyF.slices_SortFunc_none L none 0 _ w) ?_;rintro e w' ⟨rfl,rfl⟩;exact⟨_,M,rfl,⟨rfl,[],.refl _,.nil,⟨by simp,Nat.le_refl _,.inl ⟨rfl,rfl⟩⟩,Mem.keep_refl _ _⟩,hM,hF,hdj,rfl,rfl,rfl,Nat.le_refl _,Nat.le_refl _⟩
 ·have hb:b<w.heap.size:=(Array.getElem?_eq_some_iff.1 (hM _ _ hh)).1;have hle:n*k≤c*k:=Nat.mul_le_mul_right _ hnc
  have hH:HoldsK enc k w b 0 l.toArray:=by
   have:=holds_of (α:=Value) hM hh id (l.flatMap enc) (by rw[zjU hk,hll,List.map_id];exact ht);unfold HoldsK;have e:flatK enc k l.toArray=(l.flatMap enc).toArray:=by rw[←zv8 hk hk0 l]
   rw[e];exact this
  have hs:=AnyQ.slices_SortFunc L k aE zE enc hk h1 cf hO g #[] b 0 c l.toArray w eg (zBH hcmp b 0 _ w) hH hb (by simp;omega);have e0:l.toArray.size=n:=by simpa using hll
  rw[e0] at hs;refine Calls.mono hs ?_;rintro e w' ⟨rfl,d',q,os,hp,hsd,rfl⟩;have hds:d'.size=n:=by rw[hp.1,e0]
  obtain⟨l',rfl⟩:∃ l':List α,d'=l'.toArray:=⟨d'.toList,by simp⟩
  have hl':l'.length=n:=by simpa using hds
  have hperm:l'.Perm l:=by
   have:=hp.2.2;simpa[hll,hl',List.take_of_length_le] using this
  have hsort:l'.Pairwise (fun x y=>¬cf y x<0):=by
   rw[List.pairwise_iff_getElem];intro i j hi hj hij;have:=hsd i j (Nat.zero_le _) hij (by omega)
   have ei:l'.toArray[i]! = l'[i]:=by simp[hi]
   have ej:l'.toArray[j]! = l'[j]:=by simp[hj]
   rw[ei,ej] at this;simpa[ltOf] using this
  have e2:flatK enc k l'.toArray=(l'.flatMap enc).toArray:=by rw[←zv8 hk hk0 l']
  have ht':=turned hM hF hdj hh id (l'.flatMap enc).toArray (by simp only[List.size_toArray];rw[zjU hk,hl',hcl];exact hle) q os;unfold sortWorldK putRowK;rw[e2];have hfl:(l'.flatMap enc).length=n*k:=by rw[zjU hk,hl']
  refine⟨_,M.setCells b E ((l'.flatMap enc).toArray.toList.map id++cs.drop (l'.flatMap enc).toArray.size),rfl,⟨rfl,l',hperm,hsort,⟨hfl,hnc,.inr ⟨b,_,rfl,Mem.has_setCells,?_,?_⟩⟩,?_⟩,ht'⟩
  ·simp only[List.map_id,List.length_append,List.length_drop,List.size_toArray];rw[hfl,hcl];omega
  ·simp only[List.map_id,List.size_toArray];rw[List.take_append_of_le_length (by rw[hfl];omega),List.take_of_length_le (by rw[hfl];omega)]
  ·intro x o hx hxo;have e:x≠b:=fun e=>hx ⟨_,rfl,e.symm⟩
   simp only[Mem.setCells,Mem.upd_ne _ _ e];exact hxo
end
end
section
def zzi (M:Mem) (E:TypeId) (a:Option Addr) (c:Nat) (l:List Int):Prop:=
 (l.length≤c∧c≤maxLen)∧((a=none∧c=0)∨∃ b o cs,a=some ⟨b,o,none⟩∧M.has b E cs∧o+c≤cs.length∧(cs.drop o).take l.length=l.map (Value.int .i64))
def zhm (c:Array Value):Nat→List Value→Array Value
 | _,[]=>c
 | o,v::r=>zhm (c.setIfInBounds o v) (o+1) r
theorem zbt (b:Nat):∀ (vs:List Value) (o:Nat) (w:World),w.setCells b o vs=mapBlock w b fun c=>zhm c o vs
 | [],o,w=>by
  show w=_;rw[mapBlock_id];intro c e fr _;rfl
 | v::r,o,w=>by
  show (w.setCell ⟨b,o,none⟩ v).setCells b (o+1) r=_;rw[zbt b r (o+1),setCell_eq,mapBlock_mapBlock];rfl
theorem zgQ:∀ (vs:List Value) (o:Nat) (cs:List Value),o+vs.length≤cs.length→zhm cs.toArray o vs=(ze cs o vs).toArray
 | [],o,cs,h=>by simp[zhm,ze]
 | v::r,o,cs,h=>by
  simp only[List.length_cons] at h;have e:cs.toArray.setIfInBounds o v=(cs.set o v).toArray:=by simp
  rw[zhm,e,zgQ r (o+1) (cs.set o v) (by simp;omega)];congr 1;unfold ze
  have h1:(cs.set o v).take (o+1)=cs.take o++[v]:=by
   rw[List.take_add_one,List.take_set,List.set_eq_of_length_le (by simp;omega),List.getElem?_set_self (by omega)];rfl
  have h2:(cs.set o v).drop (o+1+r.length)=cs.drop (o+(v::r).length):=by
   rw[List.drop_set_of_lt (by omega)];congr 1;simp;omega
  rw[h1,h2];simp
theorem zpj {cs V:List Value} {o k:Nat} (h:o+k≤cs.length):(ze cs (o+k) V).drop o=ze (cs.drop o) k V:=by
 unfold ze;rw[List.append_assoc,List.drop_append_of_le_length (by simp;omega),List.drop_take,show o+k - o=k by omega,List.drop_drop,←List.append_assoc];congr 2;omega
theorem zC3 {A l:List Value} {i:Nat} {x:Value} (ht:A.take l.length=l) (hi:i≤l.length) (ha:l.length+1≤A.length):(ze (ze A (i+1) (l.drop i)) i [x]).take (l.length+1)=l.take i++x::l.drop i:=by
 have h1:A.take i=l.take i:=by rw[←ht,List.take_take,Nat.min_eq_left hi]
 have h2:(ze A (i+1) (l.drop i)).take i=l.take i:=by
  unfold ze;rw[List.append_assoc,List.take_append_of_le_length (by simp;omega),List.take_take,Nat.min_eq_left (by omega),h1]
 have h3:(ze A (i+1) (l.drop i)).drop (i+1)=l.drop i++A.drop (i+1+(l.drop i).length):=by
  unfold ze;rw[List.append_assoc,List.drop_append_of_le_length (by simp;omega),List.drop_of_length_le (by simp;omega),List.nil_append]
 have e:ze (ze A (i+1) (l.drop i)) i [x]=(l.take i++x::l.drop i)++A.drop (i+1+(l.drop i).length):=by
  rw[ze,h2,show i+[x].length=i+1 from rfl,h3];simp
 rw[e,List.take_append_of_le_length (by simp;omega),List.take_of_length_le (by simp;omega)]
theorem zC4 {A l:List Value} {i:Nat} {x:Value} (ht:A.take i=l.take i) (hi:i≤l.length) (ha:l.length+1≤A.length):(ze (ze A i [x]) (i+1) (l.drop i)).take (l.length+1)=l.take i++x::l.drop i:=by
 have h2:(ze A i [x]).take (i+1)=l.take i++[x]:=by
  unfold ze;rw[List.take_append_of_le_length (by simp;omega),ht,List.take_of_length_le (by simp;omega)]
 have e:ze (ze A i [x]) (i+1) (l.drop i)=(l.take i++x::l.drop i)++(ze A i [x]).drop (i+1+(l.drop i).length):=by
  rw[ze,h2];simp
 rw[e,List.take_append_of_le_length (by simp;omega),List.take_of_length_le (by simp;omega)]
theorem zpk {h:Array Obj} {o:Obj} {f:Obj→Obj}:(h.push o).modify h.size f=h.push (f o):=by
 apply Array.ext_getElem?;intro k;rw[Array.getElem?_modify];by_cases hk:h.size=k
 ·subst hk;simp
 ·rw[if_neg hk];by_cases h2:k<h.size
  ·rw[Array.getElem?_push_lt h2,Array.getElem?_push_lt h2]
  ·rw[Array.getElem?_eq_none (by simp;omega),Array.getElem?_eq_none (by simp;omega)]
theorem zC5 {M F:Mem} {w w':World} (hM:M.le (zy w)) (hF:F.le (zy w)) (hdj:M.disj F) {b:Nat} {E:TypeId} {cs cs':List Value} (hh:M.has b E cs) (f:Array Value→Array Value) (hf:f cs.toArray=cs'.toArray) {q:Nat} (hw:w'=mapBlock (Sort.ahead w q) b f) :
  (M.setCells b E cs').le (zy w')∧F.le (zy w')∧(M.setCells b E cs').disj F∧w'.os=w.os∧w'.output=w.output∧w'.tape=w.tape∧w.heap.size≤w'.heap.size∧w.drawn≤w'.drawn:=by
 subst hw;have hhb:w.heap[b]? = some (.cells cs.toArray E (0,0)):=hM _ _ hh
 have hb:b<w.heap.size:=(Array.getElem?_eq_some_iff.1 hhb).1;have hFb:F b=none:=(hdj b).resolve_left (by unfold Mem.has at hh;rw[hh];simp)
 have other:∀ x o,x≠b→w.heap[x]? = some o→zy (mapBlock (Sort.ahead w q) b f) x=some o:=fun x o hx hxo=>by
  show (w.heap.modify b (onCells f))[x]? = some o;rw[Array.getElem?_modify,if_neg (Ne.symm hx)];exact hxo
 refine⟨fun x o hx=>?_,fun x o hx=>?_,fun x=>?_,rfl,rfl,rfl,by simp[mapBlock],by simp[mapBlock]⟩
 ·by_cases e:x=b
  ·subst e;simp only[Mem.setCells,Mem.upd_same,Option.some.injEq] at hx;subst hx;show (w.heap.modify x (onCells f))[x]? = _
   rw[Array.getElem?_modify,if_pos rfl,hhb];simp only[Option.map_some,onCells,hf]
  ·simp only[Mem.setCells,Mem.upd_ne _ _ e] at hx;exact other x o e (hM x o hx)
 ·have e:x≠b:=fun e=>by subst e;rw[hFb] at hx;cases hx
  exact other x o e (hF x o hx)
 ·by_cases e:x=b
  ·subst e;exact .inr hFb
  ·simp only[Mem.setCells,Mem.upd_ne _ _ e];exact hdj x
theorem zEI {M F:Mem} {w w':World} (hM:M.le (zy w)) (hF:F.le (zy w)) (hdj:M.disj F) {E:TypeId} {cs:List Value} (hh:w'.heap=w.heap.push (.cells cs.toArray E)) (ho:w'.os=w.os) (hp:w'.output=w.output) (ht:w'.tape=w.tape) (hd:w.drawn≤w'.drawn) :
  M w.heap.size=none∧(M.setCells w.heap.size E cs).le (zy w')∧F.le (zy w')∧(M.setCells w.heap.size E cs).disj F∧w'.os=w.os∧w'.output=w.output∧w'.tape=w.tape∧w.heap.size≤w'.heap.size∧w.drawn≤w'.drawn:=by
 have hn:∀ N:Mem,N.le (zy w)→N w.heap.size=none:=fun N hN=>Mem.none_of_le hN (Nat.le_refl _)
 have other:∀ x o,w.heap[x]? = some o→zy w' x=some o:=fun x o hx=>by
  show w'.heap[x]? = some o;have hlt:x<w.heap.size:=(Array.getElem?_eq_some_iff.1 hx).1
  rw[hh,Array.getElem?_push_lt hlt,←Array.getElem?_eq_getElem hlt];exact hx
 refine⟨hn M hM,fun x o hx=>?_,fun x o hx=>other x o (hF x o hx),fun x=>?_,ho,hp,ht,by rw[hh];simp,hd⟩
 ·by_cases e:x=w.heap.size
  ·subst e;simp only[Mem.setCells,Mem.upd_same,Option.some.injEq] at hx;subst hx;show w'.heap[w.heap.size]? = _
   rw[hh];simp
  ·simp only[Mem.setCells,Mem.upd_ne _ _ e] at hx;exact other x o (hM x o hx)
 ·by_cases e:x=w.heap.size
  ·subst e;exact .inr (hn F hF)
  ·simp only[Mem.setCells,Mem.upd_ne _ _ e];exact hdj x
theorem zwa {M:Mem} {w:World} (hM:M.le (zy w)) {b:Nat} {E:TypeId} {cs:List Value} (hh:M.has b E cs) (j:Nat):w.cell? ⟨b,j,none⟩=cs[j]? ∧ w.frozen? ⟨b,j,none⟩=false∧w.shape? b=some (E,cs.length):=by
 have hhb:w.heap[b]? = some (.cells cs.toArray E (0,0)):=hM _ _ hh;refine⟨by simp[World.cell?, hhb],by simp[World.frozen?, hhb],by simp[World.shape?, hhb]⟩
section
variable {P:Program} {ρ:Ren}
theorem zC6 (L:Lays2.n21 P ρ) (he:zfy P (ρ.f 21)=true) {M:Mem} {a:Option Addr} {c:Nat} {l:List Int} (h:zzi M (ρ.t 3) a c l) (hc:l.length≤4194303) (i:Nat) (hi:i≤l.length) {vb vc:Nat} {x:Int} {E':TypeId} (hv:M.has vb E' [.int .i64 x]) (hne:∀ q,a=some q→q.block≠vb) :
  CallsM P (ρ.f 21) [.slice a l.length c,.int .i64 i,.slice (some ⟨vb,0,none⟩) 1 vc] M fun v M'=>∃ a' c',v = .slice a' (l.length+1) c'∧zzi M' (ρ.t 3) a' c' (l.take i++x::l.drop i)∧Mem.keep (z6 a) M M'∧∀ q,a'=some q→z6 a q.block∨M q.block=none:=by
 refine⟨he,fun F w hM hF hdj=>?_⟩;have hvc:=fun j=>zwa hM hv j
 have hvs:∀ (j:Nat) v,([Value.int .i64 x]:List Value)[j]? = some v→w.cell? ⟨vb,0+j,none⟩=some v:=fun j v hj=>by rw[Nat.zero_add,(hvc j).1];exact hj
 have h1v:∀ v∈([Value.int .i64 x]:List Value),v.oneCell'=true:=by simp[Value.oneCell']
 have h1c:∀ v∈l.map (Value.int .i64),v.oneCell'=true:=by simp[Value.oneCell']
 have hll:(l.map (Value.int .i64)).length=l.length:=by simp
 have hnew:∀ (w':World) (cells:List Value) (c':Nat),cells.length=c'→(l.length+1≤c'∧c'≤maxLen)→cells.take (l.length+1)=(l.take i++x::l.drop i).map (Value.int .i64) →
   w'.heap=w.heap.push (.cells cells.toArray (ρ.t 3))→w'.os=w.os→w'.output=w.output→w'.tape=w.tape→w.drawn≤w'.drawn →
   ∃ v M',(Ending.returned (.slice (some ⟨w.heap.size,0,none⟩) (l.length+1) c')) = .returned v∧(∃ a' c',v = .slice a' (l.length+1) c'∧zzi M' (ρ.t 3) a' c' (l.take i++x::l.drop i)∧Mem.keep (z6 a) M M'∧∀ q,a'=some q→z6 a q.block∨M q.block=none) ∧
    M'.le (zy w')∧F.le (zy w')∧M'.disj F∧w'.os=w.os∧w'.output=w.output∧w'.tape=w.tape∧w.heap.size≤w'.heap.size∧w.drawn≤w'.drawn:=fun w' cells c' hcl hcc ht hh ho hp htt hd=>by
  obtain⟨hn,hrest⟩:=zEI hM hF hdj hh ho hp htt hd;have hlen:(l.take i++x::l.drop i).length=l.length+1:=by simp;omega
  refine⟨_,M.setCells w.heap.size (ρ.t 3) cells,rfl,⟨_,_,rfl,⟨by rw[hlen];exact hcc,.inr ⟨_,0,cells,rfl,Mem.has_setCells,by omega,by rw[hlen];exact ht⟩⟩,?_,fun q hq=>by cases hq;exact .inr hn⟩,hrest⟩;exact Mem.keep_of_le (Mem.le_setCells hn)
 have hins:∀ cs:List Value,(cs.take l.length=l.map (Value.int .i64))→True:=fun _ _=>trivial
 obtain⟨⟨hlc,hcM⟩,⟨rfl,rfl⟩|⟨b,o,cs,rfl,hh,hoc,ht⟩⟩:=h
 ·have hl0:l=[]:=List.eq_nil_of_length_eq_zero (by omega);subst hl0;have hi0:i=0:=by simpa using hi
  subst hi0;refine Calls.mono (Any2.slices_Insert_int_end_grow L none 0 0 vb 0 1 vc [] [.int .i64 x] w (by decide) (by decide) (by decide) (by decide) rfl rfl (fun _=>rfl) (fun a ha=>by cases ha) hvs h1v) ?_;rintro e w' ⟨rfl,rfl⟩;have hge:0+1≤grownCap w (0+1) 0 (ρ.t 3)∧grownCap w (0+1) 0 (ρ.t 3)≤maxLen:=⟨grownCap_ge w (0+1) 0 (ρ.t 3),grownCap_le_maxLen w (0+1) 0 (ρ.t 3) (by simp[maxLen])⟩
  generalize grownCap w (0+1) 0 (ρ.t 3)=g at *;refine hnew _ ([.int .i64 x]++(Builtin.zeroCells (Value.int .i64 0).cells (g - (0+1))).toList) g ?_ hge ?_ ?_ rfl rfl rfl (Nat.le_succ _)
  ·simp[Builtin.zeroCells,Value.cells];omega
  ·simp
  ·show (w.heap.push _)=_;congr 2;simp
 ·have hcell:=fun j=>zwa hM hh j
  have hget:∀ (j:Nat) v,(l.map (Value.int .i64))[j]? = some v→w.cell? ⟨b,o+j,none⟩=some v:=fun j v hj=>by
   rw[(hcell _).1];rw[←ht] at hj;have hlt:=(List.getElem?_eq_some_iff.1 hj).1
   rw[List.getElem?_take_of_lt (by simp at hlt;omega),List.getElem?_drop] at hj;exact hj
  have hbv:vb≠b:=fun e=>hne _ rfl e.symm
  by_cases hroom:l.length+1≤c
  ·
   have fin:∀ (w':World) (q:Nat) (f:Array Value→Array Value) (cs':List Value),f cs.toArray=cs'.toArray→w'=mapBlock (Sort.ahead w q) b f→cs'.length=cs.length→(cs'.drop o).take (l.length+1)=(l.take i++x::l.drop i).map (Value.int .i64) →
     ∃ v M',(Ending.returned (.slice (some ⟨b,o,none⟩) (l.length+1) c)) = .returned v∧(∃ a' c',v = .slice a' (l.length+1) c'∧zzi M' (ρ.t 3) a' c' (l.take i++x::l.drop i)∧Mem.keep (z6 (some ⟨b,o,none⟩)) M M'∧∀ q,a'=some q→z6 (some ⟨b,o,none⟩) q.block∨M q.block=none) ∧
      M'.le (zy w')∧F.le (zy w')∧M'.disj F∧w'.os=w.os∧w'.output=w.output∧w'.tape=w.tape∧w.heap.size≤w'.heap.size∧w.drawn≤w'.drawn:=fun w' q f cs' hf hw hcl ht'=>by
    have hlen:(l.take i++x::l.drop i).length=l.length+1:=by simp;omega
    refine⟨_,M.setCells b (ρ.t 3) cs',rfl,⟨_,_,rfl,⟨by rw[hlen];exact⟨hroom,hcM⟩,.inr ⟨b,o,cs',rfl,Mem.has_setCells,by omega,by rw[hlen];exact ht'⟩⟩,?_,fun q hq=>by cases hq;exact .inl ⟨_,rfl,rfl⟩⟩,zC5 hM hF hdj hh f hf hw⟩;intro y o' hy hyo;have e:y≠b:=fun e=>hy ⟨_,rfl,e.symm⟩
    simp only[Mem.setCells,Mem.upd_ne _ _ e];exact hyo
   by_cases hend:i=l.length
   ·subst hend;refine Calls.mono (Any2.slices_Insert_int_end_room L b o l.length c vb 0 1 vc [.int .i64 x] w (by decide) hroom (by simp[maxLen] at hcM;omega) rfl (fun j hj=>by rw[(hcell _).1,List.getElem?_eq_getElem (by omega)];rfl) (fun j _=>(hcell _).2.1) hvs h1v) ?_;rintro e w' ⟨rfl,rfl⟩;rw[zbt];refine fin _ 0 _ (ze cs (o+l.length) [.int .i64 x]) (zgQ _ _ _ (by simp;omega)) rfl (by simp[ze];omega) ?_;unfold ze;rw[List.append_assoc,List.drop_append_of_le_length (by simp;omega),List.drop_take,show o+l.length - o=l.length by omega,ht];rw[List.take_append,List.take_of_length_le (by simp)];simp
   ·refine Calls.mono (Any2.slices_Insert_int_shift L b o l.length c i vb 0 1 vc (l.map (Value.int .i64)) [.int .i64 x] w (by omega) (by decide) hroom (by simp[maxLen] at hcM;omega) hbv hll rfl hget (fun j hj=>by rw[(hcell _).1,List.getElem?_eq_getElem (by omega)];rfl) (fun j _=>(hcell _).2.1) hvs h1c h1v E' (ρ.t 3) 1 cs.length (hvc 0).2.2 (hcell 0).2.2 (by omega) (hvc 0).2.1 (hvc 1).2.1) ?_;rintro e w' ⟨rfl,rfl⟩;rw[zbt,zbt,mapBlock_mapBlock];have hdl:((l.map (Value.int .i64)).drop i).length=l.length - i:=by simp
    have s1:(ze cs (o+(i+1)) ((l.map (Value.int .i64)).drop i)).length=cs.length:=by unfold ze;simp;omega
    refine fin _ 1 _ (ze (ze cs (o+(i+1)) ((l.map (Value.int .i64)).drop i)) (o+i) [.int .i64 x]) ?_ rfl (by unfold ze at s1 ⊢; simp at s1 ⊢; omega) ?_
    ·show zhm (zhm cs.toArray (o+(i+1)) ((l.map (Value.int .i64)).drop i)) (o+i) [.int .i64 x]=_;rw[zgQ ((l.map (Value.int .i64)).drop i) (o+(i+1)) cs (by rw[hdl];omega),zgQ [.int .i64 x] (o+i) _ (by rw[s1];simp;omega)]
    ·have hz:=zC3 (A:=cs.drop o) (l:=l.map (Value.int .i64)) (i:=i) (x := .int .i64 x) (by simpa using ht) (by simp;omega) (by simp;omega);rw[hll] at hz;rw[zpj (by rw[s1];omega),zpj (by omega),hz];simp
  ·have hcl:c<l.length+1:=by omega
   have hge:l.length+1≤grownCap w (l.length+1) c (ρ.t 3)∧grownCap w (l.length+1) c (ρ.t 3)≤maxLen:=⟨grownCap_ge w (l.length+1) c (ρ.t 3),grownCap_le_maxLen w (l.length+1) c (ρ.t 3) (by simp[maxLen];omega)⟩
   by_cases hend:i=l.length
   ·subst hend;refine Calls.mono (Any2.slices_Insert_int_end_grow L (some ⟨b,o,none⟩) l.length c vb 0 1 vc (l.map (Value.int .i64)) [.int .i64 x] w (by decide) hlc hcl (by omega) hll rfl (fun h=>by cases h) (fun a ha j v hj=>by cases ha;rw[Addr.add_lit];exact hget j v hj) hvs h1v) ?_;rintro e w' ⟨rfl,rfl⟩;refine hnew _ (l.map (Value.int .i64)++[.int .i64 x]++(Builtin.zeroCells (Value.int .i64 0).cells (grownCap w (l.length+1) c (ρ.t 3) - (l.length+1))).toList) (grownCap w (l.length+1) c (ρ.t 3)) ?_ hge ?_ ?_ rfl rfl rfl (Nat.le_succ _)
    ·simp[Builtin.zeroCells,Value.cells];omega
    ·rw[List.take_append_of_le_length (by simp),List.take_of_length_le (by simp)];simp
    ·show (w.heap.push _)=_;congr 2;simp
   ·refine Calls.mono (Any2.slices_Insert_int_grow L b o l.length c i vb 0 1 vc (l.map (Value.int .i64)) [.int .i64 x] w (by omega) (by decide) hlc hcl (by omega) hll rfl hget hvs h1c h1v) ?_;rintro e w' ⟨rfl,rfl⟩;generalize grownCap w (l.length+1) c (ρ.t 3)=g at *;have hdl:((l.map (Value.int .i64)).drop i).length=l.length - i:=by simp
    obtain⟨C0,hC0⟩:∃ C0:List Value,C0=(l.map (Value.int .i64)).take i++(Builtin.zeroCells (Value.int .i64 0).cells (l.length+1 - i)).toList++(Builtin.zeroCells (Value.int .i64 0).cells (g - (l.length+1))).toList:=⟨_,rfl⟩
    have hC:(((l.map (Value.int .i64)).take i).toArray++Builtin.zeroCells (Value.int .i64 0).cells (l.length+1 - i)++Builtin.zeroCells (Value.int .i64 0).cells (g - (l.length+1)))=C0.toArray:=by rw[hC0];simp
    have hCl:C0.length=g:=by rw[hC0];simp[Builtin.zeroCells,Value.cells];omega
    have hCt:C0.take i=(l.map (Value.int .i64)).take i:=by rw[hC0,List.append_assoc,List.take_append_of_le_length (by simp;omega),List.take_of_length_le (by simp;omega)]
    have s1:(ze C0 i [Value.int .i64 x]).length=C0.length:=by unfold ze;simp;omega
    rw[hC];refine hnew _ (ze (ze C0 i [.int .i64 x]) (i+1) ((l.map (Value.int .i64)).drop i)) g ?_ hge ?_ ?_ ?_ ?_ ?_ ?_
    ·unfold ze at s1 ⊢; simp at s1 ⊢; omega
    ·have hz:=zC4 (A:=C0) (l:=l.map (Value.int .i64)) (i:=i) (x := .int .i64 x) hCt (by simp;omega) (by simp;omega);rw[hll] at hz;rw[hz];simp
    ·rw[zbt,zbt];show ((w.heap.push (Obj.cells C0.toArray (ρ.t 3))).modify w.heap.size _).modify w.heap.size _=_
     rw[zpk,zpk];congr 1;show Obj.cells (zhm (zhm C0.toArray i [.int .i64 x]) (i+1) ((l.map (Value.int .i64)).drop i)) (ρ.t 3) _=_
     rw[zgQ [.int .i64 x] i C0 (by simp;omega),zgQ _ (i+1) _ (by rw[s1,hdl];omega)]
    ·rw[zbt,zbt];rfl
    ·rw[zbt,zbt];rfl
    ·rw[zbt,zbt];rfl
    ·rw[zbt,zbt];exact Nat.le_trans (Nat.le_succ _) (Nat.le_succ _)
end
end
end Go.Vm
