/- Part of this proof;laid by program. -/
import Derived.Test.YtpdkkbpkplhdpaaGreatJ29
set_option linter.unusedVariables false
set_option linter.unusedSimpArgs false
namespace Go.Proofs.YtpdkkbpkplhdpaaGreat
open Go Go.Vm
section
variable {D D' D'':zf} {L:zaE} {ns ms:ByteArray→Prop} {a b u v:Nat}
def PowD (D:zf):Prop:=D.down=false∧D.left = -1
structure Turn (D D':zf) (ns:ByteArray→Prop) (a u:Nat):Prop where
 inv:InvD D'
 lim:D'.limit=D.limit
 len:D'.l.length≤D.l.length+a
 used:zaX D'.l≤zaX D.l+u
 find:∀ n,¬ns n→zg D'.l n=zg D.l n
 pow:PowD D→PowD D'
theorem Turn.refl (h:InvD D) (ns:ByteArray→Prop):Turn D D ns 0 0:=⟨h,rfl,Nat.le_refl _,Nat.le_refl _,fun _ _=>rfl,id⟩
theorem Turn.trans (h:Turn D D' ns a u) (h':Turn D' D'' ms b v):Turn D D'' (fun n=>ns n∨ms n) (a+b) (u+v):=
 ⟨h'.inv,h'.lim.trans h.lim,by have:=h.len;have:=h'.len;omega,by have:=h.used;have:=h'.used;omega,fun n hn=>by rw[h'.find n fun e=>hn (.inr e),h.find n fun e=>hn (.inl e)],fun hp=>h'.pow (h.pow hp)⟩
theorem Turn.more (h:Turn D D' ns a u) (hn:∀ n,ns n→ms n) (ha:a≤b) (hu:u≤v):Turn D D' ms b v:=
 ⟨h.inv,h.lim,by have:=h.len;omega,by have:=h.used;omega,fun n hm=>h.find n fun e=>hm (hn n e),h.pow⟩
theorem Turn.mem (h:Turn D D' ns a u) (hi:InvD D) {f:FileR} (hf:f∈D'.l):f∈D.l∨ns f.name:=by
 by_cases hn:ns f.name
 ·exact .inr hn
 ·have:=h.find _ hn;rw[(zaz h.inv.sort).2 ⟨hf,rfl⟩] at this;exact .inl ((zaz hi.sort).1 this.symm).1
theorem PowD.changed (h:PowD D) (l:List FileR):PowD (zbh D l):=by
 unfold PowD zbh;dsimp only;rw[h.2];exact⟨by decide,by decide⟩
theorem Turn.sync (h:InvD D) (s:ByteArray):Turn D (zbn D s).1 (· = s) 0 0:=by
 have hi:=znT h s;revert hi;unfold zbn;split
 ·exact fun _ => .refl h _
 ·rename_i h0;intro hi;have hf:=(zbR (by simpa using h0)).2
  have:=zkB h.sort hf (f:=⟨s,(zx D s).all,.empty⟩) rfl;have he:ByteArray.empty.size=0:=rfl
  have hz:=all_size (zx D s);dsimp only at this;exact⟨hi,rfl,by show (zaO D.l _).length≤_;omega,by show zaX (zaO D.l _)≤_;omega,fun n hn=>(zcQ h.sort _ n).trans (if_neg hn),fun hp=>hp.changed _⟩
theorem Turn.remove (h:InvD D) (s:ByteArray):Turn D (zC D s).1 (· = s) 0 0:=by
 have hl:=LessD.remove h s;refine⟨zeH h s,hl.lim,hl.len,hl.used,fun n hn=>zlj h hn,fun hp=>?_⟩;unfold zC;split
 ·exact hp
 ·exact hp.changed _
theorem Turn.append (h:InvD D) (s:ByteArray) (p:List UInt8):Turn D (zW D s p).1 (· = s) 1 p.length:=by
 have hi:=zpf h s p;revert hi;unfold zW;split
 ·exact fun _=>(Turn.refl h _).more (fun _=>id) (by omega) (by omega)
 split
 ·exact fun _=>(Turn.refl h _).more (fun _=>id) (by omega) (by omega)
 ·intro hi;have hp:(⟨p.toArray⟩:ByteArray).size=p.length:=by rw[←zaH,ziX]
  have hn:(zaO D.l ⟨s,(zx D s).safe,(zx D s).tail++⟨p.toArray⟩⟩).length≤D.l.length+1∧zaX (zaO D.l ⟨s,(zx D s).safe,(zx D s).tail++⟨p.toArray⟩⟩)≤zaX D.l+p.length:=by
   have hz:((zx D s).tail++(⟨p.toArray⟩:ByteArray)).size=(zx D s).tail.size+p.length:=by rw[←zaH,zad,List.length_append,zaH,ziX]
   cases hf:zg D.l s with
   | none=>
    have e:zx D s=⟨s,.empty,.empty⟩:=by unfold zx;rw[hf];rfl
    have he:ByteArray.empty.size=0:=rfl;rw[e] at hz ⊢;dsimp only at hz ⊢;unfold zaO;dsimp only;rw[zd9 hf,zgp,zh3];dsimp only;omega
   | some x=>
    have e:zx D s=x:=by unfold zx;rw[hf];rfl
    rw[e] at hz ⊢;have:=zkB h.sort hf (f:=⟨s,x.safe,x.tail++⟨p.toArray⟩⟩) rfl
    dsimp only at this;omega
  exact⟨hi,rfl,hn.1,hn.2,fun n hn=>(zcQ h.sort _ n).trans (if_neg hn),fun hp=>hp.changed _⟩
theorem zye (h:InvD D) (hd:D.down=false) {s:ByteArray} (hs:zbd s=true) {f:FileR} (hf:zg D.l s=some f):(zbn D s).2=0∧zg (zbn D s).1.l s=some ⟨s,f.all,.empty⟩:=by
 obtain⟨-, h2,h3⟩:=zeI hd hs hf;unfold zbn;rw[if_neg (by simp[h2]),h3];exact⟨rfl,(zcQ h.sort _ s).trans (if_pos rfl)⟩
theorem ztI (h:InvD D) (hd:D.down=false) {s:ByteArray} (hs:zbd s=true) {p:List UInt8} (h1:zaX D.l+p.length≤D.limit) (h2:D.l.length<64) :
  (zW D s p).2=0∧zg (zW D s p).1.l s=some ⟨s,(zx D s).safe,(zx D s).tail++⟨p.toArray⟩⟩:=by
 have hr:z8 D s=0:=by unfold z8;simp[hd,hs]
 unfold zW;rw[if_neg (by simp[hr]),if_neg (by omega)];exact⟨rfl,(zcQ h.sort _ s).trans (if_pos rfl)⟩
theorem zkC (h:InvD D) (hd:D.down=false) {s:ByteArray} (hs:zbd s=true) {f:FileR} (hf:zg D.l s=some f):(zC D s).2=0∧zg (zC D s).1.l s=none:=by
 obtain⟨-, h2,h3⟩:=zeI hd hs hf;unfold zC;rw[if_neg (by simp[h2])];exact⟨rfl,(zfj h.sort s s).trans (if_pos rfl)⟩
theorem zja (hd:D.down=true) (s:ByteArray):z8 D s=9∧zaA D s=9:=by
 have h:z8 D s=9:=by unfold z8;rw[if_pos hd]
 exact⟨h,by unfold zaA;rw[if_pos (by rw[h];decide),h]⟩
theorem zpw (hd:D.down=true) (s:ByteArray) (p:List UInt8):zW D s p=(D,9):=by
 unfold zW;rw[(zja hd s).1,if_pos (by decide)]
theorem zBb (hd:D.down=true) (s:ByteArray):zbn D s=(D,9):=by
 unfold zbn;rw[(zja hd s).2,if_pos (by decide)]
theorem zpx (hd:D.down=true) (s:ByteArray):zC D s=(D,9):=by
 unfold zC;rw[(zja hd s).2,if_pos (by decide)]
theorem zxM (hd:D.down=true) (s t:ByteArray):zaG D s t=(D,9):=by
 unfold zaG;rw[(zja hd s).1,if_pos (by decide)]
theorem zmG (hf:L.failed=false) {e:Int} (he:e≠9):zcq L e=L:=by
 obtain⟨a,b,c,d⟩:=L;dsimp only at hf;subst hf;unfold zcq;dsimp only;rw[decide_eq_false he];rfl
theorem zh8 (hd:D.down=false) {k:Int} (hk:1≤k∧k≤99999):zc8 D k=match zg D.l (zc k) with|some f=>f.all.size|none=>0:=by
 unfold zc8;rw[if_neg (by simp[hd]),zi0 hd (zce hk)];cases zg D.l (zc k) with
 | none=>rfl
 | some f=>rfl
theorem zr1 (h:InvD D) (hf:L.failed=false) (hl:1≤L.last∧L.last≤99999):Turn D (syncL D L).1 (· = zc L.last) 0 0 ∧
  ((D.down=true∧(syncL D L).1=D∧(syncL D L).2.1=zcq L 9∧(syncL D L).2.2=9)∨(D.down=false∧(syncL D L).2.1=L∧(syncL D L).2.2=0 ∧
   ((zg D.l (zc L.last)=none∧(syncL D L).1=D)∨∃ f,zg D.l (zc L.last)=some f∧((f.tail = .empty∧(syncL D L).1=D)∨zg (syncL D L).1.l (zc L.last)=some ⟨zc L.last,f.all,.empty⟩)))):=by
 unfold syncL;rw[if_neg (by simp[hf])];split
 ·rename_i hd;exact⟨.refl h _,.inl ⟨hd,rfl,rfl,rfl⟩⟩
 ·rename_i hd;have hd':D.down=false:=by simpa using hd
  split
  ·rename_i he;refine⟨.refl h _,.inr ⟨hd',rfl,rfl,?_⟩⟩;rw[zh8 hd' hl] at he;cases hx:zg D.l (zc L.last) with
   | none=>exact .inl ⟨rfl,rfl⟩
   | some f=>
    refine .inr ⟨f,rfl,.inl ⟨?_,rfl⟩⟩;rw[hx] at he;unfold zgx at he;rw[hx] at he;dsimp only at he;rw[all_size] at he;exact ztl (by omega)
  ·rename_i he;refine⟨.sync h _,?_⟩;rw[zh8 hd' hl] at he;cases hx:zg D.l (zc L.last) with
   | none=>
    rw[hx] at he;unfold zgx at he;rw[hx] at he;exact absurd rfl he
   | some f=>
    obtain⟨h1,h2⟩:=zye h hd' (zce hl) hx;exact .inr ⟨hd',by dsimp only;rw[h1];exact zmG hf (by decide),h1,.inr ⟨f,rfl,.inr h2⟩⟩
theorem zpy (h:InvD D) (hf:L.failed=false) (hl:1≤L.last∧L.last<99999):Turn D (beginL D L).1 (· = zc L.last) 0 0 ∧
  ((D.down=true∧(beginL D L).2.2.2=9∧(beginL D L).2.1=zcq L 9)∨(D.down=false∧(beginL D L).2.2.2=0∧(beginL D L).2.2.1=(beginL D L).2.1.last ∧
   ((zc8 D L.last=0∧(beginL D L).2.1=L∧(zg D.l (zc L.last)=none→(beginL D L).1=D))∨(0<zc8 D L.last∧(beginL D L).2.1={ L with last:=L.last+1 })))):=by
 obtain⟨h1,h2⟩:=zr1 h hf (by omega);unfold beginL;rcases h2 with ⟨a1,a2,a3,a4⟩|⟨a1,a2,a3,a4⟩
 ·rw[if_pos (by rw[a4];decide)];exact⟨h1,.inl ⟨a1,a4,a3⟩⟩
 ·rw[if_neg (by simp[a3])]
  have hlen:(zc8 (syncL D L).1 L.last=0)=(zc8 D L.last=0):=by
   rcases a4 with ⟨b1,b2⟩|⟨f,b1,⟨b2,b3⟩|b2⟩
   ·rw[b2]
   ·rw[b3]
   ·rw[zh8 a1 (by omega),b1];unfold zc8;split
    ·unfold zgx;rw[b2]
    ·rename_i hd;have e:FileR.all ⟨zc L.last,f.all,.empty⟩=f.all:=zjN (by unfold FileR.all;rw[zad,zcC,List.append_nil])
     rw[zi0 (by simpa using hd) (zce (by omega)),b2];dsimp only;rw[e]
  split
  ·rename_i hz;refine⟨h1,.inr ⟨a1,rfl,by dsimp only;rw[a2],.inl ⟨hlen▸hz,a2,fun hx=>?_⟩⟩⟩;rcases a4 with ⟨_,b2⟩|⟨f,b1,_⟩
   ·exact b2
   ·rw[hx] at b1;cases b1
  ·rename_i hz;rw[if_neg (by omega)];refine⟨h1,.inr ⟨a1,rfl,rfl,.inr ⟨by rw[hlen] at hz;omega,by dsimp only;rw[a2]⟩⟩⟩
theorem zwE (h:InvD D) (hf:L.failed=false) (hl:1≤L.last∧L.last<99999) {q:List UInt8} (hq:zcS q) (hr:zaX D.l+(zap q).length≤D.limit) (hn:D.l.length<64) :
  Turn D (zaf D L q).1 (fun n=>n=zc L.last∨n=zc (L.last+1)) 1 (zap q).length∧(zaf D L q).2.1.first=L.first∧(L.last≤(zaf D L q).2.1.last∧(zaf D L q).2.1.last≤L.last+1) ∧
  (((zaf D L q).2.2=9∧¬PowD D)∨((zaf D L q).2.2=0∧(zaf D L q).2.1.failed=false∧∃ f,zg (zaf D L q).1.l (zc (zaf D L q).2.1.last)=some f∧0<f.all.size)):=by
 unfold zaf;rw[if_neg (by simp[hf]),zDs hq,if_neg (by decide)];split
 ·rename_i hd;exact⟨(Turn.refl h _).more (fun _=>id) (by omega) (by omega),rfl,by unfold zcq;dsimp only;omega,.inl ⟨rfl,fun hp=>by rw[hp.1] at hd;cases hd⟩⟩
 rename_i hd;have hd':D.down=false:=by simpa using hd
 obtain⟨r,hrm⟩:∃ r,r=zbN D L (zap q).length:=⟨_,rfl⟩
 have hroom:Turn D r.1 (· = zc L.last) 0 0∧r.2.2=0∧r.2.1.failed=false∧r.2.1.first=L.first∧L.last≤r.2.1.last∧r.2.1.last≤L.last+1:=by
  rw[hrm];unfold zbN;split
  ·obtain⟨b1,b2⟩:=zpy h hf hl;rcases b2 with ⟨c1,_⟩|⟨_,c2,_,c4⟩
   ·rw[c1] at hd';cases hd'
   ·refine⟨b1,c2,?_⟩;rcases c4 with ⟨_,c5,_⟩|⟨_,c5⟩
    ·dsimp only;rw[c5];exact⟨hf,rfl,by omega,by omega⟩
    ·dsimp only;rw[c5];exact⟨hf,rfl,by dsimp only;omega,by dsimp only;omega⟩
  ·exact⟨.refl h _,rfl,hf,rfl,by dsimp only;omega,by dsimp only;omega⟩
 rw[←hrm];obtain⟨t1,t2,t3,t4,t5,t6⟩:=hroom;rw[if_neg (by simp[t2])]
 have ht:=(t1.trans (Turn.append t1.inv (zc r.2.1.last) (zap q))).more (ms:=fun n=>n=zc L.last∨n=zc (L.last+1)) (b:=1) (v:=(zap q).length) (fun n hn=>by
  rcases hn with e|e
  ·exact .inl e
  ·rcases(show r.2.1.last=L.last∨r.2.1.last=L.last+1 by omega) with e2|e2
   ·rw[e2] at e;exact .inl e
   ·rw[e2] at e;exact .inr e) (by omega) (by omega)
 refine⟨ht,t4,⟨t5,t6⟩,?_⟩;cases hd2:r.1.down
 ·obtain⟨c1,c2⟩:=ztI t1.inv hd2 (zce (k:=r.2.1.last) (by omega)) (p:=zap q) (by rw[t1.lim];have:=t1.used;omega) (by have:=t1.len;omega);refine .inr ⟨c1,by dsimp only;rw[c1,zmG t3 (by decide)];exact t3,_,c2,?_⟩;rw[←zaH];unfold FileR.all;dsimp only;rw[zad,zad,ziX (zap q),List.length_append,List.length_append,zea];omega
 ·rw[zpw hd2];exact .inl ⟨rfl,fun hp=>by rw[(t1.pow hp).1] at hd2;cases hd2⟩
end
section
variable {D D':zf} {C:CuR} {k0 last:Int} {E0 E1:List EvX} {s n:Nat} {ns:ByteArray→Prop} {a u:Nat}
structure Par where
 me:Int
 qh:Int
 qb:Int
 qg:Int
 seg:Int
variable {P:Par}
def Par.x0 (P:Par):StW:=⟨zfp P.me P.qh P.qb P.qg,[]⟩
theorem zgT {j k:Int} (hj:okK j) (hk:okK k):zt j≠zc k:=fun e=>by
 unfold okK at hj hk;have:=zfl (zmf (k:=j) (by omega))
 rw[e,zbU (by omega)] at this;omega
theorem zzH {k:Int} (hk:okK k):zah≠zc k:=fun e=>by
 unfold okK at hk;have:=zfl (e▸zBC:zfu (zc k))
 rw[zbU (by omega)] at this;omega
theorem zom {k:Int} (hk:okK k):zah≠zt k:=fun e=>by
 unfold okK at hk;rw[zcT (by omega)] at e;have:=congrArg ByteArray.size e
 exact absurd this (by show ¬(1=6);decide)
theorem zfM {j k:Int} (hj:okK j) (hk:okK k) (e:zt j=zt k):j=k:=by
 unfold okK at hj hk;rw[←zhk (k:=j) (by omega),e,zhk (by omega)]
structure RecI (P:Par) (D:zf) (k0:Int) (E0 E1:List EvX) (last:Int) (s:Nat):Prop where
 inv:InvD D
 nm:NamesC D
 seg:SegI (max k0 1) last D.l (E1.map zI) s
 ok:okW P.x0 (E0++E1)
 snap:(k0=0∧E0=[]∧∀ f∈D.l,∀ k,okK k→f.name≠zt k)∨(okK k0∧PureW (zbz P.x0 E0)∧(∃ sb,zg D.l (zt k0)=some ⟨zt k0,sb,.empty⟩∧bl sb=zaq (zcK (zbz P.x0 E0)))∧∀ f∈D.l,∀ k,okK k→f.name=zt k→k≤k0)
structure Cnt (n:Nat) (D:zf) (last:Int) (m:Nat):Prop where
 files:D.l.length≤n
 used:zaX D.l≤4500*n
 last:last≤n
 evs:m≤n
 lim:D.limit=1048576
structure LiveB (P:Par) (n:Nat) (C:CuR) (E0 E1:List EvX) (s:Nat):Prop where
 rc:RecI P C.D C.w.snap E0 E1 C.L.last s
 cnt:Cnt n C.D C.L.last (E0++E1).length
 X:C.X=zbz P.x0 (E0++E1)
 up:C.w.failed=false∧C.L.failed=false∧C.w.spent=false
 first:C.L.first=max C.w.snap 1
 lg:LgOk C.L
 own:∀ f∈C.D.l,(∃ k,C.L.first≤k∧k≤C.L.last∧f.name=zc k)∨(okK C.w.snap∧f.name=zt C.w.snap)
structure LiveI (P:Par) (n:Nat) (C:CuR) (E0 E1:List EvX) (s:Nat):Prop extends LiveB P n C E0 E1 s where
 cur:(E1=[]∧C.L.last=C.w.snap∧zg C.D.l (zc C.L.last)=none)∨∃ f,zg C.D.l (zc C.L.last)=some f∧0<f.all.size
def RecD (P:Par) (n:Nat) (D:zf) (E0 E1:List EvX) (s:Nat):Prop:=∃ k0 last,RecI P D k0 E0 E1 last s∧Cnt n D last (E0++E1).length
theorem LiveB.recd (h:LiveB P n C E0 E1 s):RecD P n C.D E0 E1 s:=⟨_,_,h.rc,h.cnt⟩
theorem RecI.rng (h:RecI P D k0 E0 E1 last s):0≤k0∧k0≤99999:=by
 rcases h.snap with ⟨e,_⟩|⟨e,_⟩
 ·omega
 ·unfold okK at e;omega
theorem RecI.turn2 (h:RecI P D k0 E0 E1 last s) (ht:Turn D D' ns a u) (h0:okK k0→¬ns (zt k0)) (hin:∀ f∈D'.l,∀ k,okK k→f.name=zt k→f∈D.l) (hnm:NamesC D') {E1':List EvX} {last':Int} {s':Nat} (hseg:SegI (max k0 1) last' D'.l (E1'.map zI) s') (hok:okW P.x0 (E0++E1')):RecI P D' k0 E0 E1' last' s':=by
 refine⟨ht.inv,hnm,hseg,hok,?_⟩;rcases h.snap with ⟨e1,e2,e3⟩|⟨e1,e2,⟨sb,e3,e4⟩,e5⟩
 ·exact .inl ⟨e1,e2,fun f hf k hk e=>e3 f (hin f hf k hk e) k hk e⟩
 ·exact .inr ⟨e1,e2,⟨sb,by rw[ht.find _ (h0 e1)];exact e3,e4⟩,fun f hf k hk e=>e5 f (hin f hf k hk e) k hk e⟩
theorem RecI.turn (h:RecI P D k0 E0 E1 last s) (ht:Turn D D' ns a u) (hns:∀ j,okK j→¬ns (zt j)) (hnm:NamesC D') {E1':List EvX} {last':Int} {s':Nat} (hseg:SegI (max k0 1) last' D'.l (E1'.map zI) s') (hok:okW P.x0 (E0++E1')):RecI P D' k0 E0 E1' last' s':=
 h.turn2 ht (hns k0) (fun _ hf k hk e=>(ht.mem h.inv hf).resolve_right fun hn=>hns k hk (e▸hn)) hnm hseg hok
theorem Cnt.turn {m m':Nat} {last':Int} (h:Cnt n D last m) (ht:Turn D D' ns a u) (ha:a≤1) (hu:u≤4500) (hl:last'≤last+1) (hm:m'≤m+1):Cnt (n+1) D' last' m':=
 ⟨by have:=ht.len;have:=h.files;omega,by have:=ht.used;have:=h.used;omega,by have:=h.last;omega,by have:=h.evs;omega,ht.lim.trans h.lim⟩
theorem LiveB.evs (h:LiveB P n C E0 E1 s):C.X.S.l.length≤n∧C.X.sn.length≤n∧C.X.S.epoch≤n:=by
 have h1:=zwD (E0++E1) P.x0;have h2:=h.cnt.evs
 rw[←h.X] at h1;have e1:P.x0.S.l.length=0:=rfl
 have e2:P.x0.sn.length=0:=rfl;have e3:P.x0.S.epoch=0:=rfl
 omega
theorem zpz (C:CuR) (e:EvX) (h:zcF C.X e.kind e.id e.p.length=0):zlB C e.kind e.id e.p=({ C with X:=zb1 C.X e },0):=by
 unfold zlB zb1 zcX;rw[if_pos h]
theorem zwF (h:LiveB P n C E0 E1 s) (ht:Turn C.D D' (fun n=>n=zc C.L.last∨n=zc (C.L.last+1)) a u) {last':Int} (hl:C.L.last≤last') (hl2:C.L.last<99999) {E1':List EvX} {s':Nat} (hseg:SegI (max C.w.snap 1) last' D'.l (E1'.map zI) s') :
  ∀ f∈D'.l,(∃ k,C.L.first≤k∧k≤last'∧f.name=zc k)∨(okK C.w.snap∧f.name=zt C.w.snap):=fun f hf=>by
 have hf1:=h.first;have hs1:=h.rc.seg.f1
 have hs2:=hseg.f1;rcases ht.mem h.rc.inv hf with hf2|hf2
 ·rcases h.own f hf2 with ⟨k,b1,b2,b3⟩|b
  ·exact .inl ⟨k,b1,by omega,b3⟩
  ·exact .inr b
 ·rcases hseg.names f hf with ⟨k,b1,b2,b3⟩|b
  ·refine .inl ⟨k,?_,b2,b3⟩;rcases hf2 with e|e
   ·have:=zjS (j:=k) (k:=C.L.last) (by omega) (by omega) (b3▸e);omega
   ·have:=zjS (j:=k) (k:=C.L.last+1) (by omega) (by omega) (b3▸e);omega
  ·exfalso;have:=zfl b
   rcases hf2 with e|e
   ·rw[e,zbU (by omega)] at this;omega
   ·rw[e,zbU (by omega)] at this;omega
theorem zj7 {w:CuW} (h:w.failed=false) {e:Int} (he:e≠9):zgy w e=w:=by
 obtain⟨a,b,c⟩:=w;dsimp only at h;subst h;unfold zgy;dsimp only;rw[decide_eq_false he];rfl
set_option maxHeartbeats 1000000 in
theorem LiveB.put (h:LiveB P n C E0 E1 s) (hn:n≤60) (e:EvX) (safely:Bool) {r:CuR×Int} (hr:r=zbg C e.kind e.id e.p safely) :
  (zcF C.X e.kind e.id e.p.length≠0∧r=(C,zcF C.X e.kind e.id e.p.length)) ∨
  (zcF C.X e.kind e.id e.p.length=0∧r.2=0∧(∃ s',LiveI P (n+1) r.1 E0 (E1++[e]) s'∧s≤s'∧(safely=true→s'=E1.length+1))∧(PowD C.D→PowD r.1.D)∧r.1.w=C.w) ∨
  (zcF C.X e.kind e.id e.p.length=0∧r.2=9∧¬PowD C.D∧r.1.w.failed=true∧r.1.X=C.X∧(RecD P (n+1) r.1.D E0 E1 s∨RecD P (n+1) r.1.D E0 (E1++[e]) s)):=by
 obtain⟨u1,u2,u3⟩:=h.up;unfold zbg at hr;rw[if_neg (by simp[u1])] at hr;by_cases hm:zcF C.X e.kind e.id e.p.length=0
 case neg=>rw[if_pos hm] at hr;exact .inl ⟨hm,hr⟩
 rw[if_neg (by simp[hm])] at hr;have hev:zcw e=0:=zn8 hm
 have hq:=zzG hev;have hql:=(zpv hev).1
 have hpl:=zea (zI e);have hc:=h.cnt
 have hl1:=h.rc.seg.f1;have hlast:=hc.last
 obtain⟨t1,t2,t3,t4⟩:=zwE (D:=C.D) (L:=C.L) (q:=zI e) h.rc.inv u2 (by omega) hq (by have:=hc.used;have:=hc.lim;omega) (by have:=hc.files;omega);obtain⟨s1,s2, -⟩:=h.rc.seg.append h.rc.inv (zI e);obtain⟨m1,m2⟩:=zrV h.rc.nm h.lg (zI e)
 have hns:∀ j,okK j→¬(fun n=>n=zc C.L.last∨n=zc (C.L.last+1)) (zt j):=fun j hj hh=>by
  rcases hh with hh|hh
  ·exact zgT hj ⟨by omega,by omega⟩ hh
  ·exact zgT hj ⟨by omega,by omega⟩ hh
 have hok:okW P.x0 (E0++(E1++[e])):=by
  rw[←List.append_assoc];refine okW_append.2 ⟨h.rc.ok,?_,trivial⟩;rw[←h.X];exact hm
 have hmap:(E1++[e]).map zI=E1.map zI++[zI e]:=by simp
 obtain⟨A,hA⟩:∃ A,A=zaf C.D C.L (zI e):=⟨_,rfl⟩
 have hApp:appC C (zI ⟨e.kind,e.id,e.p⟩)=({ C with D:=A.1,L:=A.2.1,w:=zgy C.w A.2.2 },A.2.2):=by unfold appC;rw[hA]
 have hApp2:(appC C (zI ⟨e.kind,e.id,e.p⟩)).2=A.2.2:=by rw[hApp]
 rw[←hA] at t1 t2 t3 t4 s1 s2 m1 m2;rw[hApp2,hApp] at hr;rcases t4 with ⟨w1,w2⟩|⟨w1,w2,w3⟩
 ·rw[if_pos (by rw[w1];decide)] at hr;refine .inr (.inr ⟨hm,by rw[hr];exact w1,w2,by rw[hr];show (C.w.failed||decide (A.2.2=9))=true;rw[w1];simp,by rw[hr],.inl ?_⟩);rw[hr];exact⟨_,_,h.rc.turn t1 hns m1 (s2 (by rw[w1];decide)) h.rc.ok,hc.turn t1 (by omega) (by omega) t3.2 (by omega)⟩
 rw[if_neg (by simp[w1])] at hr;have hw:zgy C.w A.2.2=C.w:=zj7 u1 (by rw[w1];decide)
 rw[hw] at hr;have g1:=s1 w1
 rw[←hmap] at g1;have hm2:(E0++(E1++[e])).length≤(E0++E1).length+1:=by simp;omega
 have r1:RecI P A.1 C.w.snap E0 (E1++[e]) A.2.1.last s:=h.rc.turn t1 hns m1 g1 hok;have c1:Cnt (n+1) A.1 A.2.1.last (E0++(E1++[e])).length:=hc.turn t1 (by omega) (by omega) t3.2 hm2
 have hX:zb1 C.X e=zbz P.x0 (E0++(E1++[e])):=by rw[←List.append_assoc,zfL,←h.X];rfl
 cases safely with
 | false=>
  rw[if_neg (by decide)] at hr;replace hr:=hr.trans (zpz { C with D:=A.1,L:=A.2.1 } e hm);refine .inr (.inl ⟨hm,by rw[hr],⟨s,?_,Nat.le_refl _,fun h=>by cases h⟩,by rw[hr];exact t1.pow,by rw[hr]⟩);rw[hr];exact⟨⟨r1,c1,hX,⟨u1,w2,u3⟩,t2.trans h.first,m2,by dsimp only;rw[t2];exact zwF h t1 t3.1 (by omega) g1⟩,.inr w3⟩
 | true=>
  rw[if_pos rfl] at hr;have hAl:1≤A.2.1.last∧A.2.1.last≤99999:=by omega
  obtain⟨y1,y2⟩:=zr1 (D:=A.1) (L:=A.2.1) t1.inv w2 hAl;obtain⟨z1,z2⟩:=g1.sync t1.inv;have z3:=m1.syncL A.2.1
  have z4:=m2.sync A.1
  have y3:=(t1.trans y1).more (ms:=fun n=>n=zc C.L.last∨n=zc (C.L.last+1)) (b:=1) (v:=(zap (zI e)).length) (fun n hn=>by
   rcases hn with hn|hn
   ·exact hn
   ·rcases(show A.2.1.last=C.L.last∨A.2.1.last=C.L.last+1 by omega) with e2|e2
    ·rw[e2] at hn;exact .inl hn
    ·rw[e2] at hn;exact .inr hn) (by omega) (by omega)
  obtain⟨B,hB⟩:∃ B,B=syncL A.1 A.2.1:=⟨_,rfl⟩
  have hSy:zgz { C with D:=A.1,L:=A.2.1 }=({ C with D:=B.1,L:=B.2.1,w:=zgy C.w B.2.2 },B.2.2):=by unfold zgz;rw[hB]
  rw[←hB] at y1 y2 y3 z1 z2 z3 z4;have hSy2:(zgz { C with D:=A.1,L:=A.2.1 }).2=B.2.2:=by rw[hSy]
  rw[hSy2,hSy] at hr
  have hBl:B.2.1.last=A.2.1.last:=by
   rcases y2 with ⟨_,_,y,_⟩|⟨_,y,_⟩
   ·rw[y];rfl
   ·rw[y]
  rcases y2 with ⟨q1,q2,q3,q4⟩|⟨q1,q2,q3,q4⟩
  ·rw[if_pos (by rw[q4];decide)] at hr;refine .inr (.inr ⟨hm,by rw[hr];exact q4,(fun hp=>by rw[(t1.pow hp).1] at q1;cases q1),by rw[hr];show (C.w.failed||decide (B.2.2=9))=true;rw[q4];simp,by rw[hr],.inr ?_⟩);rw[hr];dsimp only;rw[q2];exact⟨_,_,r1,c1⟩
  ·have hw2:zgy C.w B.2.2=C.w:=zj7 u1 (by rw[q3];decide);rw[if_neg (by simp[q3]),hw2] at hr;replace hr:=hr.trans (zpz { C with D:=B.1,L:=B.2.1 } e hm);have z5:=z1.full (z2 q3)
   rw[←hBl] at z5;have hlen:((E1++[e]).map zI).length=E1.length+1:=by simp
   rw[hlen] at z5;have hs:s≤E1.length+1:=by have:=g1.safe_le;rw[hlen] at this;exact this
   refine .inr (.inl ⟨hm,by rw[hr],⟨E1.length+1,?_,hs,fun _=>rfl⟩,by rw[hr];exact y3.pow,by rw[hr]⟩);rw[hr];refine⟨⟨h.rc.turn y3 hns z3 z5 hok,hc.turn y3 (by omega) (by omega) (by dsimp only;rw[hBl];exact t3.2) hm2,hX,⟨u1,by dsimp only;rw[q2];exact w2,u3⟩,by dsimp only;rw[q2,t2];exact h.first,z4,?_⟩,.inr ?_⟩
   ·dsimp only;rw[q2,t2];exact zwF h y3 t3.1 (by omega) (q2▸z5)
   ·dsimp only;rw[q2];obtain⟨f,f1,f2⟩:=w3;rcases q4 with ⟨o1,o2⟩|⟨x,o1,⟨o2,o3⟩|o2⟩
    ·rw[f1] at o1;cases o1
    ·rw[o3];exact⟨f,f1,f2⟩
    ·rw[f1] at o1;cases o1;refine⟨_,o2,?_⟩;have e:FileR.all ⟨zc A.2.1.last,f.all,.empty⟩=f.all:=zjN (by unfold FileR.all;rw[zad,zcC,List.append_nil])
     rw[e];exact f2
end
section
variable {D D':zf} {C:CuR} {k0 last:Int} {E0 E1:List EvX} {s n:Nat} {ns:ByteArray→Prop} {a u:Nat} {P:Par}
theorem Turn.rename (h:InvD D) (x y:ByteArray):Turn D (zaG D x y).1 (fun n=>n=x∨n=y) 0 0:=by
 have hi:=zpg h x y;revert hi;unfold zaG;split
 ·exact fun _ => .refl h _
 split
 ·exact fun _ => .refl h _
 split
 ·exact fun _ => .refl h _
 split
 ·exact fun _ => .refl h _
 rename_i h0 h1;intro hi;have hf:=(zbR (by simpa using h0)).2
 obtain⟨w1,w2⟩:=zbs h.sort hf;have hs:=zdC h.sort x
 have he:ByteArray.empty.size=0:=rfl
 have hn:(zaO (zar D.l x) ⟨y,(zx D x).safe,.empty⟩).length≤D.l.length∧zaX (zaO (zar D.l x) ⟨y,(zx D x).safe,.empty⟩)≤zaX D.l:=by
  cases hy:zg (zar D.l x) y with
  | none=>
   unfold zaO;dsimp only;rw[zd9 hy,zgp,zh3];dsimp only;omega
  | some z=>
   have:=zkB hs hy (f:=⟨y,(zx D x).safe,.empty⟩) rfl;dsimp only at this;omega
 refine⟨hi,rfl,hn.1,hn.2,fun m hm=>?_,fun hp=>hp.changed _⟩;show zg (zaO (zar D.l x) ⟨y,(zx D x).safe,.empty⟩) m=_
 rw[zcQ hs,if_neg fun e=>hm (.inr e),zfj h.sort,if_neg fun e=>hm (.inl e)]
theorem zBc (h:InvD D) (hd:D.down=false) {x y:ByteArray} (hx:zbd x=true) (hy:zbd y=true) {b:ByteArray} (hf:zg D.l x=some ⟨x,b,.empty⟩) :
  (zaG D x y).2=0∧zg (zaG D x y).1.l y=some ⟨y,b,.empty⟩∧(∀ f∈(zaG D x y).1.l,f.name=y∨(f.name≠x∧f∈D.l)):=by
 have r1:z8 D x=0:=by unfold z8;simp[hd,hx]
 have r2:z8 D y=0:=by unfold z8;simp[hd,hy]
 obtain⟨-, r3,r4⟩:=zeI hd hx hf;have he:ByteArray.empty.size=0:=rfl
 unfold zaG;rw[if_neg (by simp[r1]),if_neg (by simp[r2]),if_neg (by simp[r3]),r4,if_neg (by rw[he];decide)];refine⟨rfl,(zcQ (zdC h.sort x) _ y).trans (if_pos rfl),fun f hf=>?_⟩;have hf2:f∈zaO (zar D.l x) ⟨y,b,.empty⟩:=hf
 rcases withR_mem.1 hf2 with rfl|⟨hf2,_⟩
 ·exact .inl rfl
 ·exact .inr ⟨(withoutR_mem.1 hf2).2,(withoutR_mem.1 hf2).1⟩
theorem zlE:∀ {ks:List Int} {D:zf},InvD D→ks.Nodup→(∀ k∈ks,okK k∧∃ f,zg D.l (zc k)=some f)→Turn D (removeAll D ks).1 (fun n=>∃ k∈ks,n=zc k) 0 0 ∧
  (((removeAll D ks).2=9∧¬PowD D)∨((removeAll D ks).2=0∧∀ k∈ks,zg (removeAll D ks).1.l (zc k)=none))
 | [],D,h,_,_=>⟨.refl h _,.inr ⟨rfl,by simp⟩⟩
 | k::r,D,h,hn,hk=>by
  obtain⟨h1,f,h2⟩:=hk k (by simp);have t1:=Turn.remove h (zc k)
  rw[List.nodup_cons] at hn;rw[removeAll];cases hd:D.down
  ·obtain⟨g1,g2⟩:=zkC h hd (zce h1) h2;rw[if_neg (by simp[g1])]
   obtain⟨t2,q⟩:=zlE t1.inv hn.2 fun j hj=>by
    obtain⟨b1,f2,b2⟩:=hk j (by simp[hj]);refine⟨b1,f2,?_⟩;rw[t1.find _ fun e=>hn.1 ((zmh b1 h1).1 e▸hj)];exact b2
   refine⟨(t1.trans t2).more (fun n hn=>?_) (by omega) (by omega),?_⟩
   ·rcases hn with e|⟨j,hj,e⟩
    ·exact⟨k,by simp,e⟩
    ·exact⟨j,by simp[hj],e⟩
   ·rcases q with ⟨q1,q2⟩|⟨q1,q2⟩
    ·exact .inl ⟨q1,fun hp=>q2 (t1.pow hp)⟩
    ·refine .inr ⟨q1,fun j hj=>?_⟩;rcases List.mem_cons.1 hj with rfl|hj
     ·rw[t2.find _ fun ⟨i,hi,e⟩=>hn.1 ((zmh h1 (hk i (by simp[hi])).1).1 e▸hi)];exact g2
     ·exact q2 j hj
  ·rw[zpx hd,if_pos (show (9:Int)≠0 by decide)];exact⟨.refl h _,.inl ⟨rfl,fun hp=>by rw[hp.1] at hd;cases hd⟩⟩
theorem zmH (D:zf) (x:ByteArray):∀ f∈(zC D x).1.l,f∈D.l:=fun f hf=>by
 unfold zC at hf;split at hf
 ·exact hf
 ·exact(withoutR_mem.1 hf).1
theorem zmT:∀ (ks:List Int) {D:zf},∀ f∈(removeAll D ks).1.l,f∈D.l
 | [],_,f,hf=>hf
 | k::r,D,f,hf=>by
  rw[removeAll] at hf;split at hf
  ·exact zmH D _ f hf
  ·exact zmH D _ f (zmT r f hf)
def zCg (P:Par) (n:Nat) (C:CuR) (E0 E1:List EvX) (s:Nat) (r:CuR×Int):Prop:=
 (r.2=0∧(PowD C.D→PowD r.1.D)∧LiveI P n r.1 (E0++E1) [] 0∧r.1.X=C.X) ∨
 (r.2=9∧¬PowD C.D∧r.1.w.failed=true∧r.1.X=C.X∧(RecD P n r.1.D E0 E1 s∨RecD P n r.1.D (E0++E1) [] 0))
theorem zgU {C:CuR} {r:CuR×Int} (h9:r.2=9) (hp:¬PowD C.D) (hR:RecD P n r.1.D E0 E1 s∨RecD P n r.1.D (E0++E1) [] 0) (hX:r.1.X=C.X:=by rfl):zCg P n C E0 E1 s (zfd r):=
 .inr ⟨h9,hp,by show (r.1.w.failed||decide (r.2=9))=true;rw[h9];simp,hX,hR⟩
theorem RecD.weak {s':Nat} (h:RecD P n D E0 E1 s) (hs:s'≤s):RecD P n D E0 E1 s':=by
 obtain⟨k0,last,h1,h2⟩:=h;exact⟨k0,last,⟨h1.inv,h1.nm,h1.seg.le hs,h1.ok,h1.snap⟩,h2⟩
set_option maxHeartbeats 1000000 in
theorem LiveI.compact (h:LiveI P n C E0 E1 s) (hn:n≤60) (hp:PureW C.X):zCg P (n+1) C E0 E1 s (zcZ C):=by
 obtain⟨u1,u2,u3⟩:=h.up;have hc:=h.cnt
 have hl1:=h.rc.seg.f1;have hlast:=hc.last
 have hk0:=h.rc.rng;unfold zcZ;rw[if_neg (by simp[u1])];obtain⟨t1,b⟩:=zpy (D:=C.D) (L:=C.L) h.rc.inv u2 (by omega);obtain⟨s1,s2, -⟩:=h.rc.seg.begin h.rc.inv;have m1:=h.rc.nm.beginL C.L
 have m2:=h.lg.begin C.D;obtain⟨B,hB⟩:∃ B,B=beginL C.D C.L:=⟨_,rfl⟩
 have hbC:zh7 C={ C with D:=B.1,L:=B.2.1 }:=by unfold zh7;rw[hB]
 rw[hbC,←hB];rw[←hB] at t1 b s1 s2 m1 m2;have hns1:∀ j,okK j→¬(fun n=>n=zc C.L.last) (zt j):=fun j hj=>zgT hj ⟨by omega,by omega⟩
 rcases b with ⟨b1,b2,b3⟩|⟨b1,b2,b3,b4⟩
 ·rw[if_pos (.inl (by rw[b2];decide))];refine zgU b2 (fun hp=>by rw[hp.1] at b1;cases b1) (.inl ⟨_,_,h.rc.turn t1 hns1 m1 s1 h.rc.ok,hc.turn t1 (by omega) (by omega) ?_ (by omega)⟩);rw[b3];unfold zcq;dsimp only;omega
 obtain⟨s3,s4⟩:=s2 b2;have hlenE:(E1.map zI).length=E1.length:=by simp
 rw[hlenE] at s3;have hsE:s≤E1.length:=by have:=h.rc.seg.safe_le;rw[hlenE] at this;exact this
 have own1:∀ f∈B.1.l,(∃ k,C.L.first≤k∧k≤C.L.last∧f.name=zc k)∨(okK C.w.snap∧f.name=zt C.w.snap):=fun f hf=>by
  rcases t1.mem h.rc.inv hf with hf|hf
  ·exact h.own f hf
  ·exact .inl ⟨C.L.last,by rw[h.first];omega,Int.le_refl _,hf⟩
 by_cases hk:B.2.2.1=C.w.snap
 ·rw[if_pos (.inr hk)];rcases b4 with ⟨c1,c2,c3⟩|⟨c1,c2⟩
  ·rcases h.cur with ⟨d1,d2,d3⟩|⟨f,d1,d2⟩
   ·have hD:=c3 d3;have hX:=h.X
    have hr:=h.rc;subst d1;rw[List.append_nil] at hX;have hw:zgy C.w B.2.2.2=C.w:=zj7 u1 (by rw[b2];decide)
    refine .inl ⟨b2,t1.pow,?_⟩;unfold zfd;dsimp only;rw[hw,c2,hD,List.append_nil];exact⟨⟨⟨⟨hr.inv,hr.nm,hr.seg.le (Nat.zero_le _),hr.ok,hr.snap⟩,hc.turn (Turn.refl hr.inv fun _=>False) (by omega) (by omega) (by dsimp only;omega) (by omega),by dsimp only;rw[List.append_nil];exact hX,h.up,h.first,h.lg,h.own⟩,.inl ⟨rfl,d2,d3⟩⟩,rfl⟩
   ·exfalso;rw[zh8 b1 (by omega),d1] at c1;dsimp only at c1;omega
  ·exfalso;rw[b3,c2] at hk;dsimp only at hk;omega
 rw[if_neg (by rw[b2];simp[hk])]
 have hL:B.2.1={ C.L with last:=C.L.last+1 }:=by
  rcases b4 with ⟨c1,c2, -⟩|⟨c1,c2⟩
  ·exfalso;rcases h.cur with ⟨d1,d2,d3⟩|⟨f,d1,d2⟩
   ·rw[b3,c2] at hk;exact hk d2
   ·rw[zh8 b1 (by omega),d1] at c1;dsimp only at c1;omega
  ·exact c2
 obtain⟨k,hkk⟩:∃ k,k=C.L.last+1:=⟨_,rfl⟩
 have hkl:B.2.2.1=k:=by rw[b3,hL,hkk]
 have hBl:B.2.1.last=k:=by rw[hL,hkk]
 rw[hkl] at hk;rw[hkl];have okk:okK k:=⟨by omega,by omega⟩
 obtain⟨pb,hpb⟩:∃ pb,pb=zaq (zcK C.X):=⟨_,rfl⟩
 have hpl:pb.length≤4500:=by
  have h1:=zCf hp;have h2:=h.evs
  rw[←hpb] at h1;omega
 have R1:RecI P B.1 C.w.snap E0 E1 k E1.length:=h.rc.turn t1 hns1 m1 (hBl▸s3) h.rc.ok;have t2:=Turn.append t1.inv zah pb
 have hnt:zg B.1.l zah=none:=by
  rw[findR_none];intro f hf e;rcases own1 f hf with ⟨j,j1,j2,j3⟩|⟨j1,j2⟩
  ·exact zzH (k:=j) ⟨by rw[h.first] at j1;omega,by omega⟩ (by rw[←e,j3])
  ·exact zom j1 (by rw[←e,j2])
 have hfi:zx B.1 zah=⟨zah,.empty,.empty⟩:=by unfold zx;rw[hnt];rfl
 have m2':=m1.append (s:=zah) (fun _ => .inr rfl) pb;obtain⟨A,hA⟩:∃ A,A=zW B.1 zah pb:=⟨_,rfl⟩
 have T12:=(t1.trans t2).more (ms:=fun n=>n=zc C.L.last∨n=zah) (b:=1) (v:=4500) (fun _=>id) (by omega) (by omega);rw[←hA] at t2 m2' T12;have hnsT:∀ j,okK j→¬(fun n=>n=zah) (zt j):=fun j hj e=>zom hj e.symm
 have c2:Cnt (n+1) A.1 k (E0++E1).length:=hc.turn T12 (by omega) (by omega) (by omega) (by omega)
 have segT:∀ {D D':zf} {a u},InvD D→Turn D D' (fun n=>n=zah) a u→SegI (max C.w.snap 1) k D.l (E1.map zI) E1.length→SegI (max C.w.snap 1) k D'.l (E1.map zI) E1.length:=fun {D D'} {a u} hi ht hs=>
  hs.other (fun f hf=>by
   rcases ht.mem hi hf with hf|hf
   ·exact hs.names f hf
   ·exact .inr (hf▸zBC)) fun j h1 h2=>ht.find _ fun e=>zzH (k:=j) ⟨by omega,by omega⟩ e.symm
 have R2:RecI P A.1 C.w.snap E0 E1 k E1.length:=R1.turn t2 hnsT m2' (segT t1.inv t2 R1.seg) h.rc.ok
 have hlay:zhq { C with D:=B.1,L:=B.2.1 }=({ C with D:=A.1,L:=B.2.1 },A.2)∧((A.2=9∧¬PowD C.D)∨(A.2=0∧zg A.1.l zah=some ⟨zah,.empty,.empty++⟨pb.toArray⟩⟩)):=by
  unfold zhq;dsimp only;rw[←hpb,←hA];cases hd:B.1.down
  ·obtain⟨a1,a2⟩:=ztI t1.inv hd (s:=zah) (by decide) (p:=pb) (by rw[t1.lim,hc.lim];have:=t1.used;have:=hc.used;omega) (by have:=t1.len;have:=hc.files;omega);rw[←hA,hfi] at a2;rw[←hA] at a1;rw[if_neg (by rw[a1];simp)];exact⟨rfl,.inr ⟨a1,a2⟩⟩
  ·rw[zpw hd] at hA;rw[hA,if_neg (by simp)];exact⟨rfl,.inl ⟨rfl,fun hp=>by rw[(t1.pow hp).1] at hd;cases hd⟩⟩
 obtain⟨l1,l2⟩:=hlay;rw[l1];dsimp only;rcases l2 with ⟨l2,l3⟩|⟨l2,l3⟩
 ·rw[if_pos (by rw[l2];decide)];exact zgU l2 l3 (.inl (RecD.weak ⟨_,_,R2,c2⟩ hsE))
 rw[if_neg (by simp[l2])]
 have hw1:(zfd ({ C with D:=A.1,L:=B.2.1 },A.2)).1={ C with D:=A.1,L:=B.2.1 }:=by
  unfold zfd;dsimp only;rw[zj7 u1 (by rw[l2];decide)]
 rw[hw1];unfold turnC;dsimp only;have t3:=Turn.sync t2.inv zah
 have m3:=m2'.sync zah;obtain⟨S,hS⟩:∃ S,S=zbn A.1 zah:=⟨_,rfl⟩
 rw[←hS] at t3 m3 ⊢;have R3:RecI P S.1 C.w.snap E0 E1 k E1.length:=R2.turn t3 hnsT m3 (segT t2.inv t3 R2.seg) h.rc.ok
 have T13:=(T12.trans t3).more (ms:=fun n=>n=zc C.L.last∨n=zah) (b:=1) (v:=4500) (fun _ hn=>hn.elim id .inr) (by omega) (by omega);have c3:Cnt (n+1) S.1 k (E0++E1).length:=hc.turn T13 (by omega) (by omega) (by omega) (by omega)
 have hsb:(S.2=9∧¬PowD C.D)∨(S.2=0∧∃ sb,zg S.1.l zah=some ⟨zah,sb,.empty⟩∧bl sb=pb):=by
  cases hd:A.1.down
  ·obtain⟨a1,a2⟩:=zye t2.inv hd (s:=zah) (by decide) l3;rw[←hS] at a1 a2;refine .inr ⟨a1,_,a2,?_⟩;unfold FileR.all;dsimp only;rw[zad,zad,ziX pb,zcC];rfl
  ·rw[zBb hd] at hS;exact .inl ⟨by rw[hS],fun hp=>by rw[(T12.pow hp).1] at hd;cases hd⟩
 rcases hsb with ⟨g1,g2⟩|⟨g1,sb,g2,g3⟩
 ·rw[if_pos (by rw[g1];decide)];exact zgU (C:=C) (r:=({ C with D:=S.1,L:=B.2.1 },S.2)) g1 g2 (.inl (RecD.weak ⟨_,_,R3,c3⟩ hsE))
 rw[if_neg (by simp[g1])];have t4:=Turn.rename t3.inv zah (zt k)
 have m4:=m3.rename zah k;obtain⟨R,hR⟩:∃ R,R=zaG S.1 zah (zt k):=⟨_,rfl⟩
 rw[←hR] at t4 m4 ⊢
 have T14:=(T13.trans t4).more (ms:=fun n=>n=zc C.L.last∨n=zah∨n=zt k) (b:=1) (v:=4500) (fun _ hn=>by
  rcases hn with (e|e)|e|e
  ·exact .inl e
  ·exact .inr (.inl e)
  ·exact .inr (.inl e)
  ·exact .inr (.inr e)) (by omega) (by omega)
 have hrn:(R.2=9∧R.1=S.1∧¬PowD C.D)∨(R.2=0∧zg R.1.l (zt k)=some ⟨zt k,sb,.empty⟩∧∀ f∈R.1.l,f.name=zt k∨(f.name≠zah∧f∈S.1.l)):=by
  cases hd:S.1.down
  ·have hok2:=zmF (k:=k) (by unfold okK at okk;omega);obtain⟨a1,a2,a3⟩:=zBc t3.inv hd (x:=zah) (by decide) hok2 g2;rw[←hR] at a1 a2 a3;exact .inr ⟨a1,a2,a3⟩
  ·rw[zxM hd] at hR;exact .inl ⟨by rw[hR],by rw[hR],fun hp=>by rw[(T13.pow hp).1] at hd;cases hd⟩
 rcases hrn with ⟨o1,o2,o3⟩|⟨o1,o2,o3⟩
 ·rw[if_pos (by rw[o1];decide)];exact zgU (C:=C) (r:=({ C with D:=R.1,L:=B.2.1 },R.2)) o1 o3 (.inl (RecD.weak ⟨_,_,o2▸R3,o2▸c3⟩ hsE))
 rw[if_neg (by simp[o1])]
 have own4:∀ f∈R.1.l,((∃ j,C.L.first≤j∧j≤C.L.last∧f.name=zc j)∨(okK C.w.snap∧f.name=zt C.w.snap))∨f.name=zt k:=fun f hf=>by
  rcases o3 f hf with e|⟨e1,e2⟩
  ·exact .inr e
  ·rcases t3.mem t2.inv e2 with e2|e2
   ·rcases t2.mem t1.inv e2 with e2|e2
    ·exact .inl (own1 f e2)
    ·exact absurd e2 e1
   ·exact absurd e2 e1
 have hfirst:1≤C.L.first:=by rw[h.first];omega
 have names4:∀ {D:zf},(∀ f∈D.l,f∈R.1.l)→(∀ f∈D.l,(∃ j:Int,1≤j∧j≤k∧f.name=zc j)∨zfu f.name)∧zg D.l (zc k)=none:=fun {D} hsub=>by
  have hh:∀ f∈D.l,(∃ j:Int,1≤j∧j≤C.L.last∧f.name=zc j)∨zfu f.name:=fun f hf=>by
   rcases own4 f (hsub f hf) with (⟨j,j1,j2,j3⟩|⟨j1,j2⟩)|e
   ·exact .inl ⟨j,by omega,j2,j3⟩
   ·exact .inr (j2▸zmf (by unfold okK at j1;omega))
   ·exact .inr (e▸zmf (by unfold okK at okk;omega))
  refine⟨fun f hf=>?_,?_⟩
  ·rcases hh f hf with ⟨j,j1,j2,j3⟩|e
   ·exact .inl ⟨j,j1,by omega,j3⟩
   ·exact .inr e
  ·rw[findR_none];intro f hf e;rcases hh f hf with ⟨j,j1,j2,j3⟩|e2
   ·rw[j3] at e;exact zje (by omega) (by unfold okK at okk;omega) (by omega) e
   ·rw[e] at e2;have:=zfl e2
    rw[zbU (by unfold okK at okk;omega)] at this;unfold okK at okk;omega
 have mk:∀ {D:zf},InvD D→NamesC D→(∀ f∈D.l,f∈R.1.l)→zg D.l (zt k)=zg R.1.l (zt k)→RecI P D k (E0++E1) [] k 0:=fun {D} hi hm hsub hfs=>by
  obtain⟨n1,n2⟩:=names4 hsub;refine⟨hi,hm,?_,by rw[List.append_nil];exact h.rc.ok,.inr ⟨okk,by rw[←h.X];exact hp,⟨sb,by rw[hfs];exact o2,by rw[g3,hpb,h.X]⟩,fun f hf j hj e=>?_⟩⟩
  ·have:max k 1=k:=by unfold okK at okk;omega
   rw[this];exact SegI.start okk n1 n2
  ·rcases own4 f (hsub f hf) with (⟨i,j1,j2,j3⟩|⟨j1,j2⟩)|e2
   ·rw[j3] at e;exact absurd e.symm (zgT hj ⟨by omega,by omega⟩)
   ·have:=zfM hj j1 (by rw[←e,j2]);omega
   ·have:=zfM hj okk (by rw[←e,e2]);omega
 have cnt':∀ {D:zf} {ns},Turn C.D D ns 1 4500→Cnt (n+1) D k ((E0++E1)++[]).length:=fun {D} {ns} ht=>hc.turn ht (by omega) (by omega) (by omega) (by rw[List.append_nil];omega)
 have D4:RecD P (n+1) R.1 (E0++E1) [] 0:=⟨k,k,mk t4.inv m4 (fun _=>id) rfl,cnt' T14⟩
 have drop:∀ {D:zf} {ns},InvD D→NamesC D→Turn C.D D ns 1 4500→(∀ f∈D.l,f∈R.1.l)→(∀ n,n≠zt C.w.snap→zg D.l n=zg R.1.l n)→(∀ f∈D.l,¬(okK C.w.snap∧f.name=zt C.w.snap)) →
   zCg P (n+1) C E0 E1 s (zfd (zkz { X:=C.X,D:=D,L:=B.2.1,w:={ C.w with snap:=k } } k)):=fun {D} {ns} hi hm hT hsub hfd hno=>by
  have hne:zt k≠zt C.w.snap:=fun e=>by
   by_cases hz:okK C.w.snap
   ·have:=zfM okk hz e;omega
   ·have e0:zt C.w.snap = .empty:=by unfold zt;unfold okK at hz;rw[if_pos (by omega)]
    rw[e0,zcT (by unfold okK at okk;omega)] at e;exact absurd (congrArg ByteArray.size e) (by show ¬(6=0);decide)
  have hD:=(⟨k,k,mk hi hm hsub (hfd _ hne),cnt' hT⟩:RecD P (n+1) D (E0++E1) [] 0)
  obtain⟨ks,hks⟩:∃ ks,ks=zaW D fun n=>decide (B.2.1.first≤n)&&decide (n<k):=⟨_,rfl⟩
  have hNW:NamesW D:=hm.w
  have hmem:∀ j∈ks,okK j∧∃ f,zg D.l (zc j)=some f:=fun j hj=>by
   rw[hks] at hj;unfold zaW at hj;rw[List.mem_filter,List.mem_map] at hj;obtain⟨⟨f,hf,rfl⟩,hk⟩:=hj;rw[Bool.and_eq_true] at hk;have h0:=Zd0 hk.1
   obtain⟨h1,h2⟩:=(hNW.num hf).resolve_right fun h6=>by have:=h6.2;omega
   exact⟨⟨by omega,by omega⟩,f,(zaz hi.sort).2 ⟨hf,h2⟩⟩
  have hnd:ks.Nodup:=by
   rw[hks];have:=zrD (D:=⟨D.limit,D.l, -1,false⟩) ⟨⟨hi.sort,hi.len,hi.used,hi.limit,⟨by show (-1:Int) ≤ -1;decide,by show (-1:Int)≤_;decide⟩⟩,hNW,rfl,rfl⟩ fun n=>decide (B.2.1.first≤n)&&decide (n<k)
   exact this
  obtain⟨t6,q⟩:=zlE hi hnd hmem;obtain⟨G,hG⟩:∃ G,G=removeAll D ks:=⟨_,rfl⟩
  rw[←hG] at t6 q;have hGn:NamesC G.1:=by rw[hG];exact hm.removeAll
  have hLf:B.2.1.failed=false:=by rw[hL];exact u2
  have hLl:B.2.1.last=k:=hBl;have hL1:B.2.1.first=C.L.first:=by rw[hL]
  have hdr:dropL D B.2.1 k=(G.1,(if G.2=0 then { (zcq B.2.1 G.2) with first:=k } else zcq B.2.1 G.2),G.2):=by
   unfold dropL;rw[if_neg (by simp[hLf]),if_neg (by rw[hLl,hL1,h.first];omega),←hks,←hG]
  have hsubG:∀ f∈G.1.l,f∈R.1.l:=fun f hf=>hsub f (zmT ks f (hG▸hf))
  have hTG:=(hT.trans t6).more (ms:=fun _=>True) (b:=1) (v:=4500) (fun _ _=>trivial) (by omega) (by omega)
  have hfG:zg G.1.l (zt k)=zg R.1.l (zt k):=by
   rw[t6.find _ fun ⟨j,hj,e⟩=>zgT okk (hmem j hj).1 e];exact hfd _ hne
  have hRG:=mk t6.inv hGn hsubG hfG;unfold zkz;dsimp only;rw[hdr];dsimp only;rcases q with ⟨q1,q2⟩|⟨q1,q2⟩
  ·exact zgU (C:=C) (r:=(_,G.2)) q1 (fun hp=>q2 (hT.pow hp)) (.inr ⟨k,k,hRG,cnt' hTG⟩)
  ·rw[if_pos q1,zmG hLf (by rw[q1];decide)];refine .inl ⟨q1,hTG.pow,?_⟩;unfold zfd;dsimp only;rw[zj7 (w:={ C.w with snap:=k }) u1 (by rw[q1];decide)];have hmx:max k 1=k:=by unfold okK at okk;omega
   refine⟨?_,rfl⟩;refine⟨⟨hLl▸hRG,hLl▸cnt' hTG,by dsimp only;rw[List.append_nil];exact h.X,⟨u1,hLf,u3⟩,hmx.symm,?_,fun f hf=>?_⟩,.inl ⟨rfl,hLl,?_⟩⟩
   ·unfold LgOk at m2 ⊢;exact m2
   ·rcases own4 f (hsubG f hf) with (⟨j,j1,j2,j3⟩|j1)|e
    ·exfalso
     have hj:j∈ks:=by
      rw[hks];have hok:okK j:=⟨by omega,by omega⟩
      have hfD:=t6.mem hi hf;unfold zaW;rw[List.mem_filter,List.mem_map]
      have hfD2:f∈D.l:=by
       rcases hfD with h1|⟨i,hi2,e⟩
       ·exact h1
       ·exact absurd e ((findR_none.1 (q2 i hi2)) f hf)
      refine⟨⟨f,hfD2,by rw[j3,zbU (by omega)]⟩,?_⟩;rw[Bool.and_eq_true,Bool.and_eq_true];exact⟨decide_eq_true (by omega),decide_eq_true (by omega),decide_eq_true (by omega)⟩
     exact(findR_none.1 (q2 j hj)) f hf j3
    ·exfalso;have hfD:=t6.mem hi hf
     rcases hfD with h1|⟨i,hi2,e⟩
     ·exact hno f h1 j1
     ·exact absurd e ((findR_none.1 (q2 i hi2)) f hf)
    ·exact .inr ⟨okk,e⟩
   ·dsimp only;rw[hLl];exact(names4 hsubG).2
 unfold zmE;dsimp only;split
 ·rename_i hw0;have hok0:okK C.w.snap:=⟨by omega,by omega⟩
  have hne:zt C.w.snap≠zt k:=fun e=>by have:=zfM hok0 okk e;omega
  have t5:=Turn.remove t4.inv (zt C.w.snap);have m5:=m4.remove (zt C.w.snap)
  have hfw:∃ f,zg R.1.l (zt C.w.snap)=some f:=by
   rcases h.rc.snap with ⟨e1,_⟩|⟨_,_,⟨sb0,e3,_⟩,_⟩
   ·omega
   ·refine⟨_,(T14.find _ ?_).trans e3⟩;rintro (e|e|e)
    ·exact zgT hok0 ⟨by omega,by omega⟩ e
    ·exact zom hok0 e.symm
    ·exact hne e
  obtain⟨f0,hf0⟩:=hfw;obtain⟨V,hV⟩:∃ V,V=zC R.1 (zt C.w.snap):=⟨_,rfl⟩
  have hsub:∀ f∈V.1.l,f∈R.1.l:=fun f hf=>zmH R.1 _ f (hV▸hf)
  rw[←hV] at t5 m5 ⊢;have T15:=(T14.trans t5).more (ms:=fun _=>True) (b:=1) (v:=4500) (fun _ _=>trivial) (by omega) (by omega)
  cases hd:R.1.down
  ·obtain⟨a1,a2⟩:=zkC t4.inv hd (zmF (k:=C.w.snap) (by omega)) hf0;rw[←hV] at a1 a2;rw[if_neg (by simp[a1])];exact drop t5.inv m5 T15 hsub (fun n hn=>t5.find n hn) fun f hf hh=>(findR_none.1 a2) f hf hh.2
  ·rw[zpx hd] at hV;rw[if_pos (by rw[hV];exact(by decide:(9:Int)≠0))];refine zgU (C:=C) (r:=({ X:=C.X,D:=V.1,L:=B.2.1,w:={ C.w with snap:=k } },V.2)) (by rw[hV]) (fun hp=>by rw[(T14.pow hp).1] at hd;cases hd) (.inr ?_);rw[hV];exact D4
 ·rename_i hw0;exact drop t4.inv m4 T14 (fun _=>id) (fun _ _=>rfl) fun f hf hh=>by have:=hh.1.1;omega
end
end Go.Proofs.YtpdkkbpkplhdpaaGreat
