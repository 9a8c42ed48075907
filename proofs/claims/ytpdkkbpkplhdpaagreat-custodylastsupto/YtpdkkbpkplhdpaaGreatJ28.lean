/- Part of this proof;laid by program. -/
import Derived.Test.YtpdkkbpkplhdpaaGreatJ27
set_option linter.unusedVariables false
set_option linter.unusedSimpArgs false
namespace Go.Proofs.YtpdkkbpkplhdpaaGreat
open Go Go.Vm
attribute [local irreducible] Brn Ob Grow CallsM inR zax zav Mem.row Mem.cells Mem.setCells Mem.upd Go.Vm.Own zaD za5 zbc zaJ New SrcOk subA NewSl Mem.textAt Mem.mapAt Mem.iterAt zau zaj Wr NewEls Elems
set_option maxRecDepth 10000
section
variable {A M M':Mem} {c p:Nat} {N:Int} {H:CuH} {C:CuR}
@[reducible] def zcK (X:StW):zhp:=⟨X.S.self,X.S.epoch,zG X.S.used,X.S.l,X.sn⟩
@[reducible] def zah:ByteArray:=⟨#[116]⟩
def zzF (D:zf) (s:ByteArray):Bool:=D.l.any fun f=>decide (f.name=s)
def zfd (r:CuR×Int):CuR×Int:=({ r.1 with w:=zgy r.1.w r.2 },r.2)
def zhq (C:CuR):CuR×Int:=
 if (zW C.D zah (zaq (zcK C.X))).2=6∧zzF (zW C.D zah (zaq (zcK C.X))).1 zah=true then
  ({ C with D:=(zC (zW C.D zah (zaq (zcK C.X))).1 zah).1 },if (zC (zW C.D zah (zaq (zcK C.X))).1 zah).2≠0 then (zC (zW C.D zah (zaq (zcK C.X))).1 zah).2 else 6)
 else ({ C with D:=(zW C.D zah (zaq (zcK C.X))).1 },(zW C.D zah (zaq (zcK C.X))).2)
def zkz (C:CuR) (k:Int):CuR×Int:=({ C with D:=(dropL C.D C.L k).1,L:=(dropL C.D C.L k).2.1 },(dropL C.D C.L k).2.2)
def zmE (C:CuR) (was k:Int):CuR×Int:=
 if 0<was then (if (zC C.D (zt was)).2≠0 then ({ C with D:=(zC C.D (zt was)).1 },(zC C.D (zt was)).2) else zkz { C with D:=(zC C.D (zt was)).1 } k)
 else zkz C k
def turnC (C:CuR) (k:Int):CuR×Int:=
 if (zbn C.D zah).2≠0 then ({ C with D:=(zbn C.D zah).1 },(zbn C.D zah).2)
 else if (zaG (zbn C.D zah).1 zah (zt k)).2≠0 then ({ C with D:=(zaG (zbn C.D zah).1 zah (zt k)).1 },(zaG (zbn C.D zah).1 zah (zt k)).2)
 else zmE { C with D:=(zaG (zbn C.D zah).1 zah (zt k)).1,w:={ C.w with snap:=k } } C.w.snap k
def zh7 (C:CuR):CuR:={ C with D:=(beginL C.D C.L).1,L:=(beginL C.D C.L).2.1 }
def zcZ (C:CuR):CuR×Int:=
 if C.w.failed=true then (C,7)
 else if (beginL C.D C.L).2.2.2≠0∨(beginL C.D C.L).2.2.1=C.w.snap then zfd (zh7 C,(beginL C.D C.L).2.2.2)
 else if (zhq (zh7 C)).2≠0 then zfd (zhq (zh7 C))
 else zfd (turnC (zfd (zhq (zh7 C))).1 (beginL C.D C.L).2.2.1)
theorem zi7 (k:Int):(zt k).size≤4611686018427387904:=by
 by_cases h:k<1∨99999<k
 ·rw[zt,if_pos h];decide
 ·rw[zcT h];show (6:Nat)≤_;decide
theorem zAW {h:Hd} {X:StW} (h1:FreshW A M h X) (hm:X.sn.length≤65535):SnapOk (zcK X):=by
 have hbd:=h1.bd;have hb2:=h1.bd
 unfold zbr at hbd;have hck:=GoS.check h1.st.inv h1.st.invE h1.st.room.1 h1.bd h1.go h1.seen.sort h1.seen.perm.symm
 have hF:zky X.S.self X.S.epoch (zG X.S.used) X.S.l X.sn∧¬zfa X.S.qh X.S.qb X.S.qg X.S.l X.sn:=by
  rcases hck with ⟨h2,_⟩|⟨_,_,h2⟩|⟨_,_,_,h2⟩|⟨_,h2,h3,_⟩
  ·exact absurd h2 hb2
  ·cases h2
  ·cases h2
  ·exact⟨h2,h3⟩
 refine⟨by unfold zbr;dsimp only;omega,hF.1,fun hh=>hF.2 ?_,hm⟩;unfold zfa at hh ⊢;dsimp only at hh;omega
theorem zB6 (h:CuAt A M c p N H C) {a:Option Addr} {n cc:Nat} {l:List UInt8} (hl:SrcOk A 1 a n (l.map zl)):CallsM Tryz.prog F.zcI [ptr p,.string zah,.slice a n cc] M fun v M'=>∃ es',v = .int .i64 (zW C.D zah l).2∧CuAt A M' c p N { H with des:=es' } { C with D:=(zW C.D zah l).1 }:=
 (zof h.disk.base.1 (by decide) (hl.le h.le)).mono fun _ _ ⟨es',hv,h'⟩=>⟨es',hv,h.turnD h' (h.nm.append (fun _ => .inr rfl) _)⟩
theorem zwA (h:CuAt A M c p N H C) {s:ByteArray} (hs:s.size≤4611686018427387904):CallsM Tryz.prog F.zbl [ptr p,.string s] M fun v M'=>∃ es',v = .int .i64 (zC C.D s).2∧CuAt A M' c p N { H with des:=es' } { C with D:=(zC C.D s).1 }:=
 (zsT h.disk.base.1 hs).mono fun _ _ ⟨es',hv,h'⟩=>⟨es',hv,h.turnD h' (h.nm.remove _)⟩
theorem zEm (h:CuAt A M c p N H C) {s:ByteArray} (hs:s.size≤4611686018427387904):CallsM Tryz.prog F.zdj [ptr p,.string s] M fun v M'=>∃ es',v = .int .i64 (zbn C.D s).2∧CuAt A M' c p N { H with des:=es' } { C with D:=(zbn C.D s).1 }:=
 (zCr h.disk.base.1 hs).mono fun _ _ ⟨es',hv,h'⟩=>⟨es',hv,h.turnD h' (h.nm.sync _)⟩
theorem NamesC.rename {D:zf} (h:NamesC D) (s:ByteArray) (k:Int):NamesC (zaG D s (zt k)).1:=by
 unfold zaG;split
 ·exact h
 split
 ·exact h
 rename_i h0 h1;split
 ·exact h
 split
 ·exact h
 refine h.l fun f hf=>?_
 rcases withR_mem.1 hf with rfl|⟨hf,_⟩
 ·refine .inr (.inr (.inl ⟨k,fun hk=>?_,rfl⟩));have:=(zpe (by simpa using h1)).2
  rw[zt,if_pos hk] at this;exact absurd this (by decide)
 ·exact .inl (withoutR_mem.1 hf).1
theorem zB7 (h:CuAt A M c p N H C) (k:Int):CallsM Tryz.prog F.zdy [ptr p,.string zah,.string (zt k)] M fun v M'=>∃ es',v = .int .i64 (zaG C.D zah (zt k)).2∧CuAt A M' c p N { H with des:=es' } { C with D:=(zaG C.D zah (zt k)).1 }:=
 (zC1 h.disk.base.1 (by decide) (zi7 k)).mono fun _ _ ⟨es',hv,h'⟩=>⟨es',hv,h.turnD h' (h.nm.rename _ _)⟩
theorem zER (h:CuAt A M c p N H C) (s:ByteArray):CallsM Tryz.prog F.zcH [ptr c,.string s] M fun v M'=>v = .bool (zzF C.D s)∧M.le M':=zAx h.self rfl h.disk s
theorem zDn (h:CuAt A M c p N H C):CallsM Tryz.prog F.zep [ptr H.g] M fun v M'=>∃ es',v = .tuple #[.int .i64 (beginL C.D C.L).2.2.1,.int .i64 (beginL C.D C.L).2.2.2]∧CuAt A M' c p N { H with des:=es' } (zh7 C):=
 (ztk h.log.base.1 h.lg.1.2 h.lg.1.1).mono fun _ _ ⟨es',hv,h'⟩=>⟨es',hv,h.turnL h' (h.lg.begin _) (h.nm.beginL _)⟩
theorem zwB {D:zf} {L:zaE} (h:NamesC D) (hl:LgOk L) (k:Int):NamesC (dropL D L k).1∧LgOk (dropL D L k).2.1:=by
 unfold dropL;split
 ·exact⟨h,hl⟩
 split
 ·exact⟨h,hl⟩
 ·refine⟨h.removeAll,?_⟩;dsimp only;split<;>exact hl
theorem zAX (h:CuAt A M c p N H C) (k:Int):CallsM Tryz.prog F.zfS [ptr H.g,.int .i64 k] M fun v M'=>∃ es',v = .int .i64 (zkz C k).2∧CuAt A M' c p N { H with des:=es' } (zkz C k).1:=
 (zBF h.log.base.1 h.nm.w k).mono fun _ _ ⟨es',hv,h'⟩=>⟨es',hv,h.turnL h' (zwB h.nm h.lg k).2 (zwB h.nm h.lg k).1⟩
theorem zES (h:CuAt A M c p N H C) (hN:N≤4611686018427387904) (hm:C.X.sn.length≤65535):CallsM Tryz.prog F.zeO [ptr c] M fun v M'=>∃ es',v = .int .i64 (zhq C).2∧CuAt A M' c p N { H with des:=es' } (zhq C).1:=by
 refine zk3 (by simp) ?_;refine zL (h.self) ?_;refine(zya h.st (by have:=h.cm;omega) (by omega)).mono ?_;rintro v M1 ⟨hle1,hS⟩;obtain⟨ua,uc,ha,hc,ms,ma,mc,mk,rfl,hst,hbig,hmsg,hmk, -⟩:=hS.ex;have h1:=h.to hle1
 have hml:mk.length=C.X.sn.length:=by rw[←hmk,List.length_map]
 refine zR ?_;refine(zzC (s:=zcK C.X) ⟨hst,hbig,hmsg,hmk⟩ (zAW h.st hm)).mono ?_;rintro v M2 ⟨a2,c2,rfl,hN2⟩;have h2:=(h1.to hN2.le).base
 have hs2:SrcOk (M2.minus (cuB c p H)) 1 a2 (zaq (zcK C.X)).length ((zaq (zcK C.X)).map zl):=hN2.src.minus fun q hq hb=>h1.some hb (hN2.block hq).1
 refine zL (h2.1.self) ?_;refine(zB6 h2.1 hs2).mono ?_;rintro v M3 ⟨es3,rfl,h3⟩;replace h3:=h3.mono h2.2;obtain⟨r,hr⟩:∃ r,r=zW C.D zah (zaq (zcK C.X)):=⟨_,rfl⟩
 have hL:zhq C=if r.2=6∧zzF r.1 zah=true then ({ C with D:=(zC r.1 zah).1 },if (zC r.1 zah).2≠0 then (zC r.1 zah).2 else 6) else ({ C with D:=r.1 },r.2):=by rw[hr];rfl
 rw[←hr] at h3 ⊢;refine zR ?_;refine brn (fun e=>?_) (fun e=>?_)
 rotate_left
 ·have e1:¬r.2=6:=Zd1 e;refine zR ?_;rw[hL,if_neg (fun hh=>e1 hh.1)];exact⟨es3,rfl,h3⟩
 have e1:r.2=6:=Zd0 e;refine zR ?_;refine(zER h3 zah).mono ?_;rintro v M4 ⟨rfl,hle4⟩;have h4:=h3.to hle4
 dsimp only;cases hh:zzF r.1 zah
 ·refine zR ?_;rw[hL,if_neg (fun hx=>by rw[hh] at hx;cases hx.2)];exact⟨es3,rfl,h4⟩
 refine zL (h4.self) ?_;refine(zwA h4 (by decide)).mono ?_;rintro v M5 ⟨es5,rfl,h5⟩;rw[hL,if_pos ⟨e1,hh⟩];refine zR ?_;dsimp only;refine brn (fun e=>?_) (fun e=>?_)
 ·have e2:(zC r.1 zah).2≠0:=by simpa using e
  refine zR ?_;rw[if_pos e2];exact⟨es5,rfl,h5⟩
 ·have e2:¬(zC r.1 zah).2≠0:=by simpa using e
  refine zR ?_;rw[if_neg e2,e1];exact⟨es5,rfl,h5⟩
set_option maxHeartbeats 1000000 in
theorem zEn (h:CuAt A M c p N H C) (k:Int):CallsM Tryz.prog F.zeE [ptr c,.int .i64 k] M fun v M'=>∃ es',v = .int .i64 (turnC C k).2∧CuAt A M' c p N { H with des:=es' } (turnC C k).1:=by
 refine zkj (by simp) ?_;refine zL (h.self) ?_;refine(zEm h (by decide)).mono ?_;rintro v M1 ⟨es1,rfl,h1⟩;obtain⟨r,hr⟩:∃ r,r=zbn C.D zah:=⟨_,rfl⟩
 have hT:turnC C k=if r.2≠0 then ({ C with D:=r.1 },r.2) else if (zaG r.1 zah (zt k)).2≠0 then ({ C with D:=(zaG r.1 zah (zt k)).1 },(zaG r.1 zah (zt k)).2)
   else zmE { C with D:=(zaG r.1 zah (zt k)).1,w:={ C.w with snap:=k } } C.w.snap k:=by rw[hr];rfl
 rw[←hr] at h1 ⊢;(conv=>whnf);refine brn (fun e=>?_) (fun e=>?_)
 ·have e1:r.2≠0:=by simpa using e
  refine zR ?_;rw[hT,if_pos e1];exact⟨es1,rfl,h1⟩
 have e1:¬r.2≠0:=by simpa using e
 rw[if_neg e1] at hT;refine zL (h1.self) ?_;refine(zjT k).mono ?_;rintro v M2 ⟨rfl,hle2⟩;have h2:=h1.to hle2
 refine zT (hle2) ?_;refine zR ?_;refine(zB7 h2 k).mono ?_;rintro v M3 ⟨es3,rfl,h3⟩;obtain⟨r2,hr2⟩:∃ r2,r2=zaG r.1 zah (zt k):=⟨_,rfl⟩
 dsimp only at h3 ⊢;rw[←hr2] at h3 hT ⊢;(conv=>whnf);refine brn (fun e=>?_) (fun e=>?_)
 ·have e2:r2.2≠0:=by simpa using e
  refine zR ?_;rw[hT,if_pos e2];exact⟨es3,rfl,h3⟩
 have e2:¬r2.2≠0:=by simpa using e
 rw[if_neg e2] at hT;refine zL (h3.self) ?_;refine on h3.self.cells ?_;(conv=>whnf);refine ob (by simp) ?_;have h4:=h3.turnC { C.w with snap:=k }
 obtain⟨M4,hM4⟩:∃ M4,M4=M3.setCells c T.zP (zeR H.h.p p (ptr H.g) { C.w with snap:=k }):=⟨_,rfl⟩
 rw[←hM4] at h4;(conv=>whnf)
 erw [←hM4];refine brn (fun e=>?_) (fun e=>?_)
 rotate_left
 ·have e3:¬0<C.w.snap:=Zd1 e;have h5:=h4
  have hO:zmE { C with D:=r2.1,w:={ C.w with snap:=k } } C.w.snap k=zkz { C with D:=r2.1,w:={ C.w with snap:=k } } k:=by unfold zmE;rw[if_neg e3]
  refine zL (h5.self) ?_;refine(zAX h5 k).mono ?_;rintro v M9 ⟨es9,rfl,h9⟩;refine zR ?_;rw[hT,hO];exact⟨es9,rfl,h9⟩
 have e3:0<C.w.snap:=Zd0 e;refine zL (h4.self) ?_;refine(zjT C.w.snap).mono ?_;rintro v M5 ⟨rfl,hle5⟩;have h5a:=h4.to hle5
 refine zT (hle5) ?_;refine zR ?_;refine(zwA h5a (zi7 C.w.snap)).mono ?_;rintro v M6 ⟨es6,rfl,h5⟩;dsimp only at h5 ⊢;refine ?_;(conv=>whnf);refine brn (fun e=>?_) (fun e=>?_)
 ·have e4:(zC r2.1 (zt C.w.snap)).2≠0:=by simpa using e
  refine zR ?_;rw[hT,show zmE { C with D:=r2.1,w:={ C.w with snap:=k } } C.w.snap k=_ by unfold zmE;rw[if_pos e3,if_pos e4]];exact⟨es6,rfl,h5⟩
 have e4:¬(zC r2.1 (zt C.w.snap)).2≠0:=by simpa using e
 have hO:zmE { C with D:=r2.1,w:={ C.w with snap:=k } } C.w.snap k=zkz { C with D:=(zC r2.1 (zt C.w.snap)).1,w:={ C.w with snap:=k } } k:=by unfold zmE;rw[if_pos e3,if_neg e4]
 refine zL (h5.self) ?_;refine(zAX h5 k).mono ?_;rintro v M9 ⟨es9,rfl,h9⟩;refine zR ?_;rw[hT,hO];exact⟨es9,rfl,h9⟩
theorem zAY (h:CuAt A M c p N H C) (hN:N≤4611686018427387904) (hm:C.X.sn.length≤65535):CallsM Tryz.prog F.zdK [ptr c] M fun v M'=>∃ es',v = .int .i64 (zcZ C).2∧CuAt A M' c p N { H with des:=es' } (zcZ C).1:=by
 refine zim (by simp) ?_;refine zR ?_;refine(znX h.self).mono ?_;rintro v _ ⟨rfl,rfl⟩;(conv=>whnf);refine brn (fun e=>?_) (fun e=>?_)
 ·have hf:C.w.failed=true:=by
   cases hf:C.w.failed
   ·rw[hf] at e;exact absurd e (by decide)
   ·rfl
  refine zR ?_;rw[if_pos hf,show zcZ C=(C,7) by simp[zcZ,hf]];exact⟨H.des,rfl,h⟩
 have hf:¬C.w.failed=true:=fun hf=>by rw[if_pos hf] at e;exact absurd e (by decide)
 refine zL (h.self) ?_;refine(zDn h).mono ?_;rintro v M1 ⟨es1,rfl,h1⟩;obtain⟨b,hb⟩:∃ b,b=beginL C.D C.L:=⟨_,rfl⟩
 obtain⟨C1,hC1⟩:∃ C1,C1=zh7 C:=⟨_,rfl⟩
 have hw1:C1.w=C.w∧C1.X=C.X:=by rw[hC1];exact⟨rfl,rfl⟩
 have hK:zcZ C=if b.2.2.2≠0∨b.2.2.1=C.w.snap then zfd (C1,b.2.2.2) else if (zhq C1).2≠0 then zfd (zhq C1) else zfd (turnC (zfd (zhq C1)).1 b.2.2.1):=by
  unfold zcZ;rw[if_neg hf,hb,hC1]
 rw[←hC1] at h1;rw[←hb];(conv=>whnf);refine brn (fun e=>?_) (fun e=>?_)
 ·have e1:b.2.2.2≠0:=by simpa using e
  rw[if_pos (.inl e1)] at hK;refine zR ?_;refine(zlC h1 b.2.2.2).mono ?_;rintro v M2 ⟨rfl,h2⟩;refine zR ?_;rw[hK];exact⟨es1,rfl,h2⟩
 have e1:¬b.2.2.2≠0:=by simpa using e
 refine zL (h1.self) ?_;rw[hw1.1];refine brn (fun e=>?_) (fun e=>?_)
 ·have e2:b.2.2.1=C.w.snap:=Zd0 e;rw[if_pos (.inr e2)] at hK;refine zR ?_;refine(zlC h1 b.2.2.2).mono ?_;rintro v M2 ⟨rfl,h2⟩;refine zR ?_;rw[hK];exact⟨es1,rfl,h2⟩
 have e2:¬b.2.2.1=C.w.snap:=Zd1 e;rw[if_neg (fun hh=>hh.elim e1 e2)] at hK;refine zR ?_;refine(zES h1 hN (by rw[hw1.2];exact hm)).mono ?_;rintro v M2 ⟨es2,rfl,h2⟩;refine zR ?_;refine(zlC h2 _).mono ?_;rintro v M3 ⟨rfl,h3⟩;(conv=>whnf);refine brn (fun e=>?_) (fun e=>?_)
 ·have e3:(zhq C1).2≠0:=by simpa using e
  refine zR ?_;rw[hK,if_pos e3];exact⟨es2,rfl,h3⟩
 have e3:¬(zhq C1).2≠0:=by simpa using e
 rw[if_neg e3] at hK;replace h3:CuAt A M3 c p N _ (zfd (zhq C1)).1:=h3;refine zR ?_;refine(zEn h3 b.2.2.1).mono ?_;rintro v M4 ⟨es4,rfl,h4⟩;refine zR ?_;refine(zlC h4 _).mono ?_;rintro v M5 ⟨rfl,h5⟩;refine zR ?_;rw[hK];exact⟨es4,rfl,h5⟩
end
section
variable {A M M':Mem} {c p db:Nat} {N:Int} {h:Hd} {des:FsT} {X:StW} {D:zf} {w:CuW}
structure PureW (X:StW):Prop where
 inv:zeh X.S
 invE:InvE (zdn X.sn)
 room:(zaI (zdn X.sn):Int)≤X.S.qg∧X.S.qg≤256
 go:GoS X.S (zdn X.sn)
 bd:¬zbr X.S.self X.S.qh X.S.qb X.S.qg
 sort:X.sn.Pairwise zbJ
theorem FreshW.pure (h1:FreshW A M h X):PureW X:=by
 have hE:=h1.st.invE
 have hq:∀ q∈zdn X.sn,∃ r∈h.es,zbe r=zbe q:=fun q hq=>by
  have:zbe q∈X.sn:=by
   have h2:zbe q∈(zdn X.sn).map zbe:=List.mem_map.2 ⟨q,hq,rfl⟩
   rwa [zok] at h2
  exact List.mem_map.1 (h1.seen.perm.mem_iff.2 this)
 refine⟨h1.st.inv,⟨?_,fun q hq'=>?_,fun q hq'=>?_⟩,⟨by rw[←h1.seen.gaps];exact h1.st.room.1,h1.st.room.2⟩,⟨h1.go.none,h1.go.own,h1.go.held,fun q hq'=>?_⟩,h1.bd,h1.seen.sort⟩
 ·unfold zdn;rw[List.map_map,List.Nodup,List.pairwise_map];refine h1.seen.sort.imp fun {a b} hab e=>?_
  have e1:=congrArg Prod.fst e;have e2:=congrArg Prod.snd e
  dsimp [toE] at e1 e2;unfold zbJ at hab;omega
 ·obtain⟨r,hr,e⟩:=hq q hq';have:=hE.can r hr
  have e1:r.2.up=q.2.up:=congrArg Mk.up e;have e2:r.2.more=q.2.more:=congrArg Mk.more e
  rw[e1,e2] at this;exact this
 ·obtain⟨r,hr,e⟩:=hq q hq';have:=hE.range r hr
  have e1:r.2.up=q.2.up:=congrArg Mk.up e;have e2:r.2.more=q.2.more:=congrArg Mk.more e
  have e3:r.1.1=q.1.1:=congrArg Mk.o e;have e4:r.1.2=q.1.2:=congrArg Mk.e e
  rw[e1,e2,e3,e4] at this;exact this
 ·obtain⟨r,hr,e⟩:=hq q hq';have e3:r.1.1=q.1.1:=congrArg Mk.o e
  rw[←e3];exact h1.go.seen r hr
theorem PureW.check (hp:PureW X):CheckS X.S.qh X.S.qb X.S.qg X.S.self X.S.epoch (zG X.S.used) X.S.l X.sn 0:=
 GoS.check hp.inv hp.invE hp.room.1 hp.bd hp.go hp.sort (by rw[zok])
theorem PureW.snap (hp:PureW X) (hm:X.sn.length≤65535):SnapOk (zcK X):=by
 have hb2:=hp.bd;have hbd:=hp.bd
 unfold zbr at hbd
 have hF:zky X.S.self X.S.epoch (zG X.S.used) X.S.l X.sn∧¬zfa X.S.qh X.S.qb X.S.qg X.S.l X.sn:=by
  rcases hp.check with ⟨h2,_⟩|⟨_,_,h2⟩|⟨_,_,_,h2⟩|⟨_,h2,h3,_⟩
  ·exact absurd h2 hb2
  ·cases h2
  ·cases h2
  ·exact⟨h2,h3⟩
 refine⟨by unfold zbr;dsimp only;omega,hF.1,fun hh=>hF.2 ?_,hm⟩;unfold zfa at hh ⊢;dsimp only at hh;omega
structure CuPre (A M:Mem) (c p db:Nat) (N:Int) (h:Hd) (des:FsT) (X:StW) (D:zf) (w:CuW):Prop where
 st:FreshW A M h X
 disk:FreshD A M p db D des
 self:M.has c T.zP (zeR h.p p (.pointer none) w)
 cf:A c=none
 dj:∀ y,hB h y→¬zac p db des y
 cs:¬hB h c
 cl:¬zac p db des c
 nm:NamesC D
 cm:h.came≤N
theorem CuPre.to (h1:CuPre A M c p db N h des X D w) (hle:M.le M'):CuPre A M' c p db N h des X D w:=⟨h1.st.to hle,h1.disk.to hle,h1.self.le hle,h1.cf,h1.dj,h1.cs,h1.cl,h1.nm,h1.cm⟩
theorem FreshD.keepS {D:zf} (h1:FreshD A M p db D des) {S:Nat→Prop} (hk:Mem.keep S M M') (hS:∀ y,S y→A y=none∧¬zac p db des y):FreshD A M' p db D des:=
 ⟨hk.le h1.le fun y hy=>(hS y hy).1,h1.at'.mono fun y o hy ho=>hk y o (fun e=>(hS y e).2 hy) ho,h1.rel,h1.inv,h1.fresh⟩
theorem CuPre.some (h1:CuPre A M c p db N h des X D w):M c≠none:=by
 have:=h1.self;unfold Mem.has at this;rw[this];simp
theorem CuPre.turnD (h1:CuPre A M c p db N h des X D w) {D':zf} {es':FsT} (h':FreshD (M.minus (zac p db des)) M' p db D' es') (hn:NamesC D'):CuPre A M' c p db N h es' X D' w:=by
 have hk:Mem.keep (zac p db des) M M':=Mem.keep_minus.2 h'.le
 have hout:∀ y,¬zac p db des y→M y≠none→¬zac p db es' y:=fun y h2 h3 h4=>by
  have h5:=h'.fresh y h4;unfold Mem.minus at h5;rw[if_neg h2] at h5;exact h3 h5
 exact⟨h1.st.keepS hk fun y hy=>⟨h1.disk.fresh y hy,fun h2=>h1.dj y h2 hy⟩,h'.mono h1.disk.base.2,hk _ _ h1.cl h1.self,h1.cf,fun y hy=>hout y (h1.dj y hy) (h1.st.some hy),h1.cs,hout c h1.cl h1.some,hn,h1.cm⟩
theorem CuPre.turnC (h1:CuPre A M c p db N h des X D w) {h2:Hd} {X2:StW} {N2:Int} (hs:FreshW A M h2 X2) (hn:∀ y,hB h2 y→¬zac p db des y∧y≠c) (hc:h2.came≤N2) (w2:CuW) :
  CuPre A (M.setCells c T.zP (zeR h2.p p (.pointer none) w2)) c p db N2 h2 des X2 D w2:=by
 have hk:Mem.keep (fun y=>y=c) M (M.setCells c T.zP (zeR h2.p p (.pointer none) w2)):=fun y o hy ho=>by
  unfold Mem.setCells;rw[Mem.upd_ne _ _ hy];exact ho
 exact⟨hs.keepS hk fun y hy=>hy▸⟨h1.cf,fun hb=>(hn c hb).2 rfl⟩,h1.disk.keepS hk fun y hy=>hy▸⟨h1.cf,h1.cl⟩,Mem.has_setCells,h1.cf,fun y hy=>(hn y hy).1,fun hb=>(hn c hb).2 rfl,h1.cl,h1.nm,hc⟩
def rmSn (D:zf):List Int→zf×Int
 | []=>(D,0)
 | k::r=>if (zC D (zt k)).2≠0 then zC D (zt k) else rmSn (zC D (zt k)).1 r
theorem NamesC.rmSn:∀ {ks:List Int} {D:zf},NamesC D→NamesC (rmSn D ks).1
 | [],_,h=>h
 | k::r,D,h=>by
  rw[Go.Proofs.YtpdkkbpkplhdpaaGreat.rmSn];split
  ·exact h.remove _
  ·exact NamesC.rmSn (h.remove _)
structure zAZ (D:zf) (me qh qb qg:Int) (k:Int) (X:StW):Prop where
 file:∃ f,zg D.l (zt k)=some f∧bl f.all=zaq (zcK X)
 pure:PureW X
 few:X.sn.length≤65535
 set:X.S.self=me∧X.S.qh=qh∧X.S.qb=qb∧X.S.qg=qg
def zf7 (D:zf) (k:Int):zf×Int:=if D.down=true then (D,9) else rmSn D (zci D).dropLast
theorem zA0 (h1:CuPre A M c p db N h des X D w) (hs:zci D=[]) (self:Int) (q:Value) (hq:∃ a b d,q = .agg #[.int .i64 a,.int .i64 b,.int .i64 d]):CallsM Tryz.prog F.zds [ptr c,.int .i64 self,q] M fun v M'=>v = .int .i64 0∧M.le M':=by
 obtain⟨qa,qb,qc,rfl⟩:=hq;refine zf9 (by simp) ?_;refine zR ?_;refine(zv7 h1.self rfl h1.disk h1.nm).mono ?_;rintro v M1 ⟨a,n,cc,rfl,hn,hN⟩;rw[hs,List.length_nil] at hn;subst hn;refine zR ?_;exact⟨rfl,hN.le⟩
theorem zrX (h1:CuPre A M c p db N h des X D w) {s:ByteArray} (hs:s.size≤4611686018427387904):CallsM Tryz.prog F.zbl [ptr p,.string s] M fun v M'=>∃ es',v = .int .i64 (zC D s).2∧CuPre A M' c p db N h es' X (zC D s).1 w∧(M.minus (zac p db des)).le (M'.minus (zac p db es')):=
 (zsT h1.disk.base.1 hs).mono fun _ _ ⟨es',hv,h'⟩=>⟨es',hv,h1.turnD h' (h1.nm.remove _),h'.base.2⟩
theorem zA1 {D:zf} {s:ByteArray} {f:FileR} (hf:zg D.l s=some f) (hn:zbd s=true):(D.down=true→zas D s=(.empty,9))∧(D.down=false→zas D s=(f.all,0)):=by
 refine⟨fun hd=>?_,fun hd=>(zeI hd hn hf).1⟩;have:zaA D s=9:=by unfold zaA z8;simp[hd]
 unfold zas;rw[if_pos (by rw[this];decide),this]
theorem zmF {k:Int} (h:¬(k<1∨99999<k)):zbd (zt k)=true:=by
 have hn:=zce (k:=k) (by omega);rw[zfD h] at hn;rw[zcT h];have hnn:0≤k:=by omega
 have d0:=zbx hnn 0;have d1:=zbx hnn 1
 have d2:=zbx hnn 2;have d3:=zbx hnn 3
 have d4:=zbx hnn 4;unfold zbd;rw[Bool.and_eq_true,List.all_eq_true];refine⟨rfl,fun c hc=>?_⟩;have hc':c∈[115,dgB k 4,dgB k 3,dgB k 2,dgB k 1,dgB k 0]:=hc
 simp only[List.mem_cons,List.not_mem_nil,or_false] at hc';apply decide_eq_true;rcases hc' with rfl|rfl|rfl|rfl|rfl|rfl
 ·right;right;decide
 all_goals right;left;omega
set_option maxHeartbeats 1000000 in
theorem zA2 (h1:CuPre A M c p db N h des X D w) {ks:List Int} {k:Int} (hs:zci D=ks++[k]) (hk:¬(k<1∨99999<k)) {self qh qb qg:Int} {X2:StW} (hX:zAZ D self qh qb qg k X2) :
  CallsM Tryz.prog F.zds [ptr c,.int .i64 self,.agg #[.int .i64 qh,.int .i64 qb,.int .i64 qg]] M fun v M'=>v = .int .i64 (zf7 D k).2∧(∃ des',FreshD A M' p db (zf7 D k).1 des') ∧
   ((zf7 D k).2=0→∃ h2 des2,CuPre A M' c p db 256 h2 des2 X2 (zf7 D k).1 { w with snap:=k }):=by
 refine zf9 (by simp) ?_;refine zR ?_;refine(zv7 h1.self rfl h1.disk h1.nm).mono ?_;rintro v M1 ⟨a,n,cc,rfl,hn,hN⟩;rw[hs] at hn hN;rw[List.length_append] at hn;have hn':n=ks.length+1:=hn
 have hlen:n≤64:=by
  have h2:=h1.disk.inv.len;have h3:(zci D).length≤D.l.length:=by unfold zci;exact Nat.le_trans (List.length_filter_le _ _) (by simp)
  rw[hs,List.length_append] at h3;simp at h3;omega
 have p1:=h1.to hN.le;have hcc:n≤cc:=(newSl_iff.1 hN).2.2.1
 have hdrop:(zci D).dropLast=ks:=by rw[hs];simp
 (conv=>whnf);refine brn_f (decide_eq_false (by omega)) ?_;(conv=>whnf);refine ob (zd (by omega)) ?_;(conv=>whnf);refine ob ⟨by omega,by omega⟩ ?_;obtain⟨hk1,b1,o1,e1,hr1⟩:=hN.src.at (i:=ks.length) (by omega);have hkk:(ks++[k])[ks.length]'hk1=k:=by simp
 rw[hkk] at hr1;(conv=>whnf);refine atp e1 ?_;have hnat:((n:Int) - 1).toNat=ks.length:=by omega
 (conv=>whnf);rw[show (((n:Nat):Int) - 1).toNat=ks.length from hnat];refine on hr1 ?_;refine zL (p1.self) ?_;refine on p1.self.cells ?_;(conv=>whnf);refine ob (by simp) ?_;have p2:=p1.turnC p1.st (fun y hy=>⟨p1.dj y hy,fun e=>p1.cs (e▸hy)⟩) p1.cm { w with snap:=k }
 have hNs2:SrcOk (M1.setCells c T.zP (zeR h.p p (.pointer none) { w with snap:=k })) 1 a n ((ks++[k]).map zaa):=by
  unfold Mem.setCells;refine SrcOk.upd hN.src fun q hq e=>?_
  have:=(hN.block hq).1;rw[e] at this;exact h1.some this
 obtain⟨M2,hM2⟩:∃ M2,M2=M1.setCells c T.zP (zeR h.p p (.pointer none) { w with snap:=k }):=⟨_,rfl⟩
 rw[←hM2] at p2 hNs2;(conv=>whnf)
 erw [←hM2];refine zL (p2.self) ?_;refine(zjT k).mono ?_;rintro v M3 ⟨rfl,hle3⟩;have p3:=p2.to hle3
 refine zT (hle3) ?_;refine zR ?_;refine(zza p3.disk (zi7 k)).mono ?_;rintro v M4 ⟨a4,n4,c4,rfl,hn4,hN4⟩;have p4:=p3.to hN4.le
 obtain⟨f,hf,hfb⟩:=hX.file;obtain⟨hrd1,hrd2⟩:=zA1 hf (zmF hk);cases hd:D.down
 case true=>
  rw[hrd1 hd]
  repeat' ((conv=>whnf);first|refine⟨?_,True.intro⟩|refine⟨?_,?_,True.intro⟩|refine brn_t rfl ?_|refine brn_f rfl ?_|refine ob rfl ?_|refine ob (by decide) ?_|refine grow_same (Mem.le_refl _) ?_|refine ob (Mem.le_refl _) ?_|refine⟨_,Mem.le_refl _,?_⟩|fail)
  have hL:zf7 D k=(D,9):=by unfold zf7;rw[if_pos hd]
  rw[hL];exact⟨rfl,⟨des,p4.disk⟩,fun h=>by cases h⟩
 have hL:zf7 D k=rmSn D ks:=by unfold zf7;rw[if_neg (by simp[hd]),hdrop]
 rw[hrd2 hd] at hn4 hN4 ⊢;dsimp only at hn4 hN4;rw[hfb] at hn4 hN4
 have hfl:(zaq (zcK X2)).length≤1048576:=by
  have h2:=(zbs h1.disk.inv.sort hf).2;have h3:=h1.disk.inv.used
  rw[←hfb,zaH,all_size];omega
 obtain⟨Z,hZ⟩:∃ Z,Z=M4.minus (zac p db des):=⟨_,rfl⟩
 have hZk:SrcOk Z 1 (subA a 0 cc 1) ks.length (ks.map zaa):=by
  have h2:=((hNs2.le hle3).le hN4.le)
  have h3:SrcOk Z 1 a n ((ks++[k]).map zaa):=by
   rw[hZ];exact h2.minus fun q hq hb=>h1.disk.at'.full hb (hN.block hq).1
  have h4:=h3.subm (lo:=0) (hi:=ks.length) (by omega) (by omega) hcc;simpa using h4
 have hZp:SrcOk Z 1 a4 n4 ((zaq (zcK X2)).map zl):=by
  rw[hZ];exact hN4.src.minus fun q hq hb=>p3.disk.at'.full hb (hN4.block hq).1
 have hc4:n4≤c4:=(newSl_iff.1 hN4).2.2.1
 repeat' ((conv=>whnf);first|refine⟨?_,True.intro⟩|refine⟨?_,?_,True.intro⟩|refine brn_t rfl ?_|refine brn_f rfl ?_|refine ob rfl ?_|refine ob (by decide) ?_|refine grow_same (Mem.le_refl _) ?_|refine ob (Mem.le_refl _) ?_|refine⟨_,Mem.le_refl _,?_⟩|fail)
 (conv=>whnf);refine ob (zd (by omega)) ?_;(conv=>whnf);refine ob ⟨by decide,by omega,by omega⟩ ?_;(conv=>whnf)
 rw[show (((n:Nat):Int) - 1).toNat - Int.toNat 0=ks.length by have:Int.toNat 0=0:=rfl;omega]
 refine za6 (σ:=Nat×Mem×zf×FsT) [51] (fun y=>[(51,.int .i64 y.1)]) (fun y=>[.live T.zgo [.v (.int .i64 qh),.v (.int .i64 qb),.v (.int .i64 qg)]]) (fun y=>y.2.1)
  (fun|⟨i,Mc,Dc,ec⟩=>i≤ks.length∧CuPre A Mc c p db N h ec X Dc { w with snap:=k }∧Z.le (Mc.minus (zac p db ec))∧rmSn D ks=rmSn Dc (ks.drop i)) (fun y=>ks.length - y.1) ⟨0,M4,D,des⟩ ⟨by omega,p4,by rw[hZ];exact Mem.le_refl _,rfl⟩ zS ?_
 rintro ⟨i,Mc,Dc,ec⟩ ⟨hi,pc,hzc,hrm⟩;(conv=>whnf);refine brn (fun e=>?_) (fun e=>?_)
 ·have hlt:i<ks.length:=by have:=Zd0 e;dsimp only at this;omega
  obtain⟨hk1,b1,o1,e1,hr1⟩:=((hZk.le hzc).le (Mem.minus_le _ _)).at hlt;rw[List.drop_eq_getElem_cons hk1] at hrm;generalize ks[i]=z at *;(conv=>whnf);refine ob (by first|omega|(dsimp only;omega)) ?_;(conv=>whnf);refine atp e1 ?_;(conv=>whnf);refine on hr1 ?_;refine zL (pc.self) ?_;refine(zjT z).mono ?_;rintro v M5 ⟨rfl,hle5⟩;have p5:=pc.to hle5
  refine zT (hle5) ?_;refine zR ?_;refine(zrX p5 (zi7 z)).mono ?_;rintro v M6 ⟨es6,rfl,p6,hz6⟩;(conv=>whnf);refine brn (fun e=>?_) (fun e=>?_)
  ·have e2:(zC Dc (zt z)).2≠0:=by simpa using e
   refine zR ?_;rw[hL,hrm,rmSn,if_pos e2];exact⟨rfl,⟨es6,p6.disk⟩,fun h=>absurd h e2⟩
  ·have e2:¬(zC Dc (zt z)).2≠0:=by simpa using e
   rw[rmSn,if_neg e2] at hrm;refine zR ?_;refine ob (zd (by first|omega|(dsimp only;omega))) ?_;(conv=>whnf)
   have hz5:(Mc.minus (zac p db ec)).le (M5.minus (zac p db ec)):=(pc.disk.base.1.to hle5).base.2;exact⟨⟨i+1,M6,_,es6⟩,⟨by omega,p6,Mem.le_trans hzc (Mem.le_trans hz5 hz6),hrm⟩,by dsimp only;omega,zS⟩
 have hge:i=ks.length:=by have:=Zd1 e;dsimp only at this;omega
 subst hge;rw[List.drop_of_length_le (by omega),rmSn] at hrm;have hSn:=hX.pure.snap hX.few
 have hZM:=Mem.le_trans hzc (Mem.minus_le _ _);subst hn4
 repeat' ((conv=>whnf);first|refine⟨?_,True.intro⟩|refine⟨?_,?_,True.intro⟩|refine brn_t rfl ?_|refine brn_f rfl ?_|refine ob rfl ?_|refine ob (by decide) ?_|refine grow_same (Mem.le_refl _) ?_|refine ob (Mem.le_refl _) ?_|refine⟨_,Mem.le_refl _,?_⟩|fail)
 refine(zzE hSn (hZp.le hZM) hc4 hfl).mono ?_;rintro v M7 ⟨ua,uc,ha,hc,ma,mc,ms,mk,rfl,hat,hle7⟩;obtain⟨q1,q2,q3,q4⟩:=hX.set;subst q1 q2 q3 q4;have p7:=pc.to hle7
 repeat' ((conv=>whnf);first|refine⟨?_,True.intro⟩|refine⟨?_,?_,True.intro⟩|refine brn_t rfl ?_|refine brn_f rfl ?_|refine ob rfl ?_|refine ob (by decide) ?_|refine grow_same (Mem.le_refl _) ?_|refine ob (Mem.le_refl _) ?_|refine⟨_,Mem.le_refl _,?_⟩|fail)
 refine brn_f (by simp) ?_
 repeat' ((conv=>whnf);first|refine⟨?_,True.intro⟩|refine⟨?_,?_,True.intro⟩|refine brn_t rfl ?_|refine brn_f rfl ?_|refine ob rfl ?_|refine ob (by decide) ?_|refine grow_same (Mem.le_refl _) ?_|refine ob (Mem.le_refl _) ?_|refine⟨_,Mem.le_refl _,?_⟩|fail)
 refine(ztA X2.S.qh X2.S.qb X2.S.qg hat.stat hat.big).mono ?_;rw[hat.held,hat.seen];rintro v M8 ⟨e,hC,⟨he0, -⟩|⟨-, p8,b8,sp8,sb8,came8,xs8,es8,rfl,h8,hcm8,hes8⟩⟩
 ·exact absurd (hC.uniq hX.pure.check) he0
 dsimp only [zcK] at hes8 hcm8;have hS:mkS X2.S.self X2.S.qh X2.S.qb X2.S.qg X2.S.epoch (zaL (zG X2.S.used)) X2.S.l=X2.S:=by rw[zzx hX.pure.inv hX.pure.go]
 rw[hS] at h8;have p8':=p7.to h8.le
 have hW:FreshW A M8 ⟨p8,b8,sp8,sb8,came8,xs8,es8⟩ X2:=by
  refine(FreshW.mono (A':=M7) ⟨h8,⟨by rw[hes8],hX.pure.sort⟩,⟨hX.pure.go.none,hX.pure.go.own,hX.pure.go.held,fun q hq=>?_⟩,hX.pure.bd⟩ p7.st.st.le);have h9:zbe q∈X2.sn:=hes8▸List.mem_map.2 ⟨q,hq,rfl⟩
  exact hX.pure.go.seen (toE (zbe q)) (List.mem_map.2 ⟨_,h9,rfl⟩)
 have hcm:came8≤256:=by
  have h9:=hSn.full;unfold zfa at h9;dsimp only at h9;omega
 have hnew:∀ y,hB ⟨p8,b8,sp8,sb8,came8,xs8,es8⟩ y→¬zac p db ec y∧y≠c:=fun y hy=>by
  have h9:=h8.fresh y hy;exact⟨fun hb=>p7.disk.at'.full hb h9,fun e=>p7.some (e▸h9)⟩
 have p9:=p8'.turnC hW hnew hcm { w with snap:=k }
 repeat' ((conv=>whnf);first|refine⟨?_,True.intro⟩|refine⟨?_,?_,True.intro⟩|refine brn_t rfl ?_|refine brn_f rfl ?_|refine ob rfl ?_|refine ob (by decide) ?_|refine grow_same (Mem.le_refl _) ?_|refine ob (Mem.le_refl _) ?_|refine⟨_,Mem.le_refl _,?_⟩|fail)
 refine on p8'.self.cells ?_;(conv=>whnf);refine ob (by simp) ?_;obtain⟨M9,hM9⟩:∃ M9,M9=M8.setCells c T.zP (zeR p8 p (.pointer none) { w with snap:=k }):=⟨_,rfl⟩
 dsimp only at p9;rw[←hM9] at p9;(conv=>whnf)
 erw [←hM9]
 repeat' ((conv=>whnf);first|refine⟨?_,True.intro⟩|refine⟨?_,?_,True.intro⟩|refine brn_t rfl ?_|refine brn_f rfl ?_|refine ob rfl ?_|refine ob (by decide) ?_|refine grow_same (Mem.le_refl _) ?_|refine ob (Mem.le_refl _) ?_|refine⟨_,Mem.le_refl _,?_⟩|fail)
 rw[hL,hrm];exact⟨rfl,⟨ec,p9.disk⟩,fun _=>⟨_,ec,p9⟩⟩
end
section
variable {A M M':Mem} {c p db:Nat} {N:Int} {h:Hd} {des:FsT} {X:StW} {D:zf} {w:CuW} {H:CuH} {C:CuR}
theorem NamesC.cut {D:zf} (h:NamesC D) (k:Int) (n:Int):NamesC (zcB D (zc k) n).1:=by
 unfold zcB;split
 ·exact h
 ·rename_i h0;split
  ·exact h
  ·have hk:=zld (zbR (by simpa using h0)).1;refine h.l fun f hf=>?_
   rcases withR_mem.1 hf with rfl|⟨hf,_⟩
   ·exact .inr (.inl ⟨k,hk,rfl⟩)
   ·exact .inl hf
theorem zpt:∀ {f:Nat} {D:zf} {next last:Int} {all:List (List UInt8)},NamesC D→(1≤last∧last≤99999)→1≤next→(∀ q∈all,zcS q) →
  NamesC (zai f D next last all).1∧(1≤(zai f D next last all).2.2.1∧(zai f D next last all).2.2.1≤99999)∧∀ q∈(zai f D next last all).2.2.2.1,zcS q
 | 0,_,_,_,_,h,hl,_,ho=>⟨h,hl,ho⟩
 | f+1,D,next,last,all,h,hl,hn,ho=>by
  rw[zai];split
  ·exact⟨h,hl,ho⟩
  rename_i h0;split
  ·exact⟨h,hl,by simp⟩
  have hs:=(znU _ (bl (zas D (zc next)).1) (Nat.le_refl _)).2.1
  have ho2:∀ q∈all++zaN (bl (zas D (zc next)).1),zcS q:=fun q hq=>by
   rcases List.mem_append.1 hq with hq|hq
   ·exact ho q hq
   ·exact hs q hq
  split
  ·split
   ·exact⟨h.cut _ _,⟨hn,by dsimp only;omega⟩,by simp⟩
   ·exact⟨h.cut _ _,⟨hn,by dsimp only;omega⟩,ho2⟩
  ·exact zpt h ⟨hn,by omega⟩ (by omega) ho2
theorem zqC {D:zf} {first size:Int} (h:NamesC D) (hf:1≤first∧first≤99999) (hz:0≤size∧size≤1048576):NamesC (zbP D (L0 first size)).1∧LgOk (zbP D (L0 first size)).2.1∧∀ q∈(zbP D (L0 first size)).2.2.1,zcS q:=by
 have h1:NamesC (removeAll D (zaW D fun k=>decide (k<(L0 first size).first))).1:=h.removeAll;obtain⟨a1,a2,a3⟩:=zpt (f:=(100000 - (L0 first size).first).toNat) (next:=(L0 first size).first) (last:=(L0 first size).last) (all:=[]) h1 hf hf.1 (by simp);unfold zbP;dsimp only;split
 ·exact⟨h1,⟨hf,hz⟩,by simp⟩
 split
 ·exact⟨a1,⟨a2,hz⟩,by simp⟩
 ·exact⟨a1.removeAll,⟨a2,hz⟩,a3⟩
def zdo (X:StW):List (List UInt8)→StW×Int
 | []=>(X,0)
 | q::r=>if zgs q≠0 then (X,2) else if (zcX X (zbO q).kind (zbO q).id (zbO q).p).2≠0 then ((zcX X (zbO q).kind (zbO q).id (zbO q).p).1,2) else zdo (zcX X (zbO q).kind (zbO q).id (zbO q).p).1 r
theorem CuAt.aside (h:CuAt A M c p N H C) {f:Nat} {args:List Value} {R:Value→Mem→Prop} (hc:CallsM Tryz.prog f args (M.minus (cuB c p H)) R) :
  CallsM Tryz.prog f args M fun v M'=>∃ A',R v A'∧CuAt A' M' c p N H C:=
 (hc.frame (Mem.minus_le _ _)).mono fun v M' ⟨A',hR,hle,hk⟩=>by
  have hkk:∀ y o,cuB c p H y→M y=Option.some o→M' y=Option.some o∧A' y=none:=fun y o hy ho=>hk y o (Mem.minus_in hy) ho
  have hno:∀ y,cuB c p H y→A' y=none:=fun y hy=>by
   cases e:M y with
   | none=>exact absurd e (h.some hy)
   | some o=>exact(hkk y o hy e).2
  refine⟨A',hR,⟨⟨hle,h.st.st.at'.mono fun y o hy ho=>(hkk y o (.inr (.inl hy)) ho).1,h.st.st.inv,h.st.st.invE,h.st.st.room,fun y hy=>hno y (.inr (.inl hy))⟩,h.st.seen,h.st.go,h.st.bd⟩,
   ⟨⟨hle,h.log.disk.at'.mono fun y o hy ho=>(hkk y o (.inr (.inr (.inr hy))) ho).1,h.log.disk.rel,h.log.disk.inv,fun y hy=>hno y (.inr (.inr (.inr hy)))⟩,(hkk _ _ (.inr (.inr (.inl rfl))) h.log.self).1,hno _ (.inr (.inr (.inl rfl)))⟩,
   (hkk _ _ (.inl rfl) h.self).1,hno c (.inl rfl),h.dj,h.cs,h.cl,h.lg,h.nm,h.cm⟩
def firstC (w:CuW):Int:=max w.snap 1
def zaT (D:zf) (w:CuW) (seg:Int):zf×zaE×List (List UInt8)×Int:=if D.down=true then (D,L0 (firstC w) seg,[],9) else zbP D (L0 (firstC w) seg)
def zdE (X:StW) (D:zf) (w:CuW) (seg:Int):Int:=if (zaT D w seg).2.2.2≠0 then (zaT D w seg).2.2.2 else (zdo X (zaT D w seg).2.2.1).2
theorem CuPre.logged (h1:CuPre A M c p db N h des X D w) {A2 M2:Mem} {g:Nat} {D2:zf} {L2:zaE} {es2:FsT} (hl:LogAt ((M.minus fun y=>y=c∨hB h y).minus (zac p db des)) A2 g p db D2 es2 L2) (hle:A2.le M2)
  (hk:∀ y o,(y=c∨hB h y)→M y=Option.some o→M2 y=Option.some o∧A2 y=none) (hlg:LgOk L2) (hnm:NamesC D2) :
  CuAt A (M2.setCells c T.zP (zeR h.p p (ptr g) w)) c p N ⟨h,g,db,es2⟩ ⟨X,D2,L2,w⟩:=by
 have hA:A.le ((M.minus fun y=>y=c∨hB h y).minus (zac p db des)):=Mem.le_minus (Mem.le_minus h1.disk.le fun y hy=>by
  rcases hy with rfl|hy
  ·exact h1.cf
  ·exact h1.st.st.fresh y hy) h1.disk.fresh
 have hl2:=(hl.mono hA).to hle
 have hno:∀ y,(y=c∨hB h y)→A2 y=none:=fun y hy=>by
  cases e:M y with
  | none=>
   rcases hy with rfl|hy
   ·exact absurd e h1.some
   ·exact absurd e (h1.st.some hy)
  | some o=>exact(hk y o hy e).2
 have hlb:∀ y,zbj g p db es2 y→¬(y=c∨hB h y):=fun y hy h3=>hl.full hy (hno y h3)
 have hs2:FreshW A M2 h X:=⟨⟨hl2.disk.le,h1.st.st.at'.mono fun y o hy ho=>(hk y o (.inr hy) ho).1,h1.st.st.inv,h1.st.st.invE,h1.st.st.room,h1.st.st.fresh⟩,h1.st.seen,h1.st.go,h1.st.bd⟩
 have hkc:Mem.keep (fun y=>y=c) M2 (M2.setCells c T.zP (zeR h.p p (ptr g) w)):=fun y o hy ho=>by
  unfold Mem.setCells;rw[Mem.upd_ne _ _ hy];exact ho
 exact⟨hs2.keepS hkc fun y hy=>hy▸⟨h1.cf,h1.cs⟩,hl2.keepS hkc fun y hy=>hy▸⟨h1.cf,fun h3=>hlb c h3 (.inl rfl)⟩,Mem.has_setCells,h1.cf,fun y hy h3=>hlb y h3 (.inr hy),h1.cs,fun h3=>hlb c h3 (.inl rfl),hlg,hnm,h1.cm⟩
set_option maxHeartbeats 1000000 in
theorem zwC (h1:CuPre A M c p db N h des X D w) {seg:Int} (hseg:16≤seg∧seg≤1048576) (hsn:w.snap≤99999) (hN0:0≤N) (hN:N+(zaT D w seg).2.2.1.length≤4611686018427387904) :
  CallsM Tryz.prog F.zd3 [ptr c,.int .i64 seg] M fun v M'=>v = .int .i64 (zdE X D w seg)∧(∃ des',FreshD A M' p db (zaT D w seg).1 des') ∧
   (zdE X D w seg=0→∃ H',CuAt A M' c p (N+(zaT D w seg).2.2.1.length) H' ⟨(zdo X (zaT D w seg).2.2.1).1,(zaT D w seg).1,(zaT D w seg).2.1,w⟩):=by
 refine ziP (by simp) ?_;refine zLX (h1.self) ?_;(conv=>whnf)
 obtain⟨Ma,hMa⟩:∃ Ma,Ma=M.minus fun y=>y=c∨hB h y:=⟨_,rfl⟩
 have hda:FreshD (Ma.minus (zac p db des)) Ma p db D des:=by
  refine⟨Mem.minus_le _ _,h1.disk.at'.mono fun y o hy ho=>?_,h1.disk.rel,h1.disk.inv,fun y hy=>Mem.minus_in hy⟩;rw[hMa];unfold Mem.minus;rw[if_neg]
  ·exact ho
  ·rintro (rfl|h3)
   ·exact h1.cl hy
   ·exact h1.dj y h3 hy
 have hA:A.le (Ma.minus (zac p db des)):=by
  rw[hMa]
  exact Mem.le_minus (Mem.le_minus h1.disk.le fun y hy=>by
   rcases hy with rfl|hy
   ·exact h1.cf
   ·exact h1.st.st.fresh y hy) h1.disk.fresh
 refine((zC2 hda h1.nm.w (max w.snap 1) seg).frame (hMa▸Mem.minus_le _ _)).mono ?_;rintro v M2 ⟨A2,hO,hle2,hk2⟩;unfold zx2 at hO;have hbad:¬(max w.snap 1<1∨99999<max w.snap 1∨seg<16∨1048576<seg):=by omega
 have hfi:firstC w=max w.snap 1:=rfl;rcases hO with ⟨h3, -⟩|⟨-, hd,rfl,es2,h2⟩|⟨-, hd,h3,rfl,es2,h2⟩|⟨-, hd,h3,g,es2,a,n,cc,rfl,h2,hrec⟩
 ·exact absurd h3 hbad
 ·have hR:zaT D w seg=(D,L0 (firstC w) seg,[],9):=by unfold zaT;rw[if_pos hd]
  have hE:zdE X D w seg=9:=by unfold zdE;rw[hR];rfl
  repeat' ((conv=>whnf);first|refine⟨?_,True.intro⟩|refine⟨?_,?_,True.intro⟩|refine brn_t rfl ?_|refine brn_f rfl ?_|refine ob rfl ?_|refine ob (by decide) ?_|refine grow_same (Mem.le_refl _) ?_|refine ob (Mem.le_refl _) ?_|refine⟨_,Mem.le_refl _,?_⟩|fail)
  rw[hE,hR];exact⟨rfl,⟨es2,(h2.mono hA).to hle2⟩,fun h=>by cases h⟩
 ·have hR:zaT D w seg=zbP D (L0 (max w.snap 1) seg):=by unfold zaT;rw[if_neg (by simp[hd]),hfi]
  have hE:zdE X D w seg=(zbP D (L0 (max w.snap 1) seg)).2.2.2:=by unfold zdE;rw[hR,if_pos h3]
  repeat' ((conv=>whnf);first|refine⟨?_,True.intro⟩|refine⟨?_,?_,True.intro⟩|refine brn_t rfl ?_|refine brn_f rfl ?_|refine ob rfl ?_|refine ob (by decide) ?_|refine grow_same (Mem.le_refl _) ?_|refine ob (Mem.le_refl _) ?_|refine⟨_,Mem.le_refl _,?_⟩|fail)
  (conv=>whnf);refine brn_t (by rw[decide_eq_false h3];rfl) ?_
  repeat' ((conv=>whnf);first|refine⟨?_,True.intro⟩|refine⟨?_,?_,True.intro⟩|refine brn_t rfl ?_|refine brn_f rfl ?_|refine ob rfl ?_|refine ob (by decide) ?_|refine grow_same (Mem.le_refl _) ?_|refine ob (Mem.le_refl _) ?_|refine⟨_,Mem.le_refl _,?_⟩|fail)
  rw[hE,hR];exact⟨rfl,⟨es2,(h2.mono hA).to hle2⟩,fun h=>absurd h h3⟩
 obtain⟨nm1,nm2,nm3⟩:=zqC (first:=max w.snap 1) (size:=seg) h1.nm (by omega) (by omega);have hR:zaT D w seg=zbP D (L0 (max w.snap 1) seg):=by unfold zaT;rw[if_neg (by simp[hd]),hfi]
 have hE:zdE X D w seg=(zdo X (zbP D (L0 (max w.snap 1) seg)).2.2.1).2:=by unfold zdE;rw[hR,if_neg (by simp[h3])]
 rw[hR] at hN ⊢;rw[hE];obtain⟨o,ho⟩:∃ o,o=zbP D (L0 (max w.snap 1) seg):=⟨_,rfl⟩
 rw[←ho] at h2 hrec nm1 nm2 nm3 hN h3 ⊢;have hkk:∀ y o,(y=c∨hB h y)→M y=Option.some o→M2 y=Option.some o∧A2 y=none:=fun y o hy hy2=>hk2 y o (by rw[hMa];exact Mem.minus_in hy) hy2
 have h4:=h1.logged (hMa▸h2) hle2 hkk nm2 nm1
 repeat' ((conv=>whnf);first|refine⟨?_,True.intro⟩|refine⟨?_,?_,True.intro⟩|refine brn_t rfl ?_|refine brn_f rfl ?_|refine ob rfl ?_|refine ob (by decide) ?_|refine grow_same (Mem.le_refl _) ?_|refine ob (Mem.le_refl _) ?_|refine⟨_,Mem.le_refl _,?_⟩|fail)
 have hc2:M2.has c T.zP (zeR h.p p (.pointer none) w):=(hkk c _ (.inl rfl) h1.self).1;refine on hc2.cells ?_;(conv=>whnf);refine ob (by simp) ?_;obtain⟨M3,hM3⟩:∃ M3,M3=M2.setCells c T.zP (zeR h.p p (ptr g) w):=⟨_,rfl⟩
 rw[←hM3] at h4;(conv=>whnf)
 erw [←hM3];obtain⟨Z,hZ⟩:∃ Z,Z=M3.minus (cuB c p ⟨h,g,db,es2⟩):=⟨_,rfl⟩
 have hAZ:A.le Z:=by rw[hZ];exact h4.base.2
 have hzz:(A2.minus (zbj g p db es2)).le Z:=fun y o2 hy=>by
  have hy2:A2 y=Option.some o2:=Mem.minus_le _ _ y o2 hy;have hnl:¬zbj g p db es2 y:=fun hb=>by rw[Mem.minus_in hb] at hy;cases hy
  have hnc:¬(y=c∨hB h y):=fun hb=>by
   cases e:M y with
   | none=>
    rcases hb with rfl|hb
    ·exact absurd e h1.some
    ·exact absurd e (h1.st.some hb)
   | some o3=>rw[(hkk y o3 hb e).2] at hy2;cases hy2
  rw[hZ];unfold Mem.minus;rw[if_neg,hM3,zbS,if_neg fun e=>hnc (.inl e)]
  ·exact hle2 y o2 hy2
  ·rintro (h5|h5|h5)
   ·exact hnc (.inl h5)
   ·exact hnc (.inr h5)
   ·exact hnl h5
 have hel:Elems Z 1 a n (BytesW Z) o.2.2.1:=by
  have h5:Elems _ 1 a n (BytesW _) o.2.2.1:=NewEls.elems hrec;exact h5.imp hzz fun cs x _ ⟨pa,pn,pc,e,hw⟩=>⟨pa,pn,pc,e,hw.le hzz⟩
 have hnl:=hel.len
 refine za6 (σ:=Nat×Mem×CuH×StW) [36] (fun y=>[(36,.int .i64 y.1)]) (fun _=>[]) (fun y=>y.2.1)
  (fun|⟨i,Mc,H,Xc⟩=>i≤n∧H.db=db∧CuAt Z Mc c p (N+i) H ⟨Xc,o.1,o.2.1,w⟩∧zdo X o.2.2.1=zdo Xc (o.2.2.1.drop i)) (fun y=>n - y.1) ⟨0,M3,⟨h,g,db,es2⟩,X⟩ ⟨by omega,rfl,by rw[hZ];exact h4.base.1.more (by omega),rfl⟩ zS ?_
 rintro ⟨i,Mc,⟨Hh,Hg,Hdb,Hes⟩,Xc⟩ ⟨hi,rfl,pc,hrw⟩;(conv=>whnf);refine brn (fun e=>?_) (fun e=>?_)
 rotate_left
 ·have hge:i=n:=by have:=Zd1 e;dsimp only at this;omega
  subst hge;rw[List.drop_of_length_le (by omega),zdo] at hrw
  repeat' ((conv=>whnf);first|refine⟨?_,True.intro⟩|refine⟨?_,?_,True.intro⟩|refine brn_t rfl ?_|refine brn_f rfl ?_|refine ob rfl ?_|refine ob (by decide) ?_|refine grow_same (Mem.le_refl _) ?_|refine ob (Mem.le_refl _) ?_|refine⟨_,Mem.le_refl _,?_⟩|fail)
  rw[hrw,hnl];exact⟨rfl,⟨Hes,pc.disk.mono hAZ⟩,fun _=>⟨_,pc.mono hAZ⟩⟩
 have hlt:i<n:=by have:=Zd0 e;dsimp only at this;omega
 obtain⟨hl9,bb,oo,cs,ha9, -, hrow, -, xa,xn,xc,rfl,hxw⟩:=(hel.imp (M':=Z) (Mem.le_refl _) fun _ _ _ h=>h).at (by decide) hlt;have hok:=nm3 _ (List.getElem_mem hl9)
 rw[List.drop_eq_getElem_cons hl9] at hrw;generalize o.2.2.1[i]=x at *;have hxl:x.length=xn:=hxw.src.maplen
 obtain⟨hok1,hok2⟩:=hok;have hxc:xn≤xc:=by have h5:=hxw;unfold Wr at h5;exact h5.2.1
 (conv=>whnf);refine ob (by first|omega|(dsimp only;omega)) ?_;(conv=>whnf);refine atp ha9 ?_;(conv=>whnf);refine on (Mem.row_le pc.le hrow) ?_
 repeat' ((conv=>whnf);first|refine⟨?_,True.intro⟩|refine⟨?_,?_,True.intro⟩|refine brn_t rfl ?_|refine brn_f rfl ?_|refine ob rfl ?_|refine ob (by decide) ?_|refine grow_same (Mem.le_refl _) ?_|refine ob (Mem.le_refl _) ?_|refine⟨_,Mem.le_refl _,?_⟩|fail)
 refine(pc.aside (zB3 (hxw.src.le pc.base.2) (by omega) hxc)).mono ?_;rintro v M5 ⟨A5,hG,p5⟩;obtain⟨a5,c5,rfl,hle5,hs5⟩:=hG.all;have hZA:Z.le A5:=Mem.le_trans pc.base.2 hle5
 (conv=>whnf);refine brn (fun e=>?_) (fun e=>?_)
 ·have e1:zgs x≠0:=by simpa using e
  rw[zdo,if_pos e1] at hrw
  repeat' ((conv=>whnf);first|refine⟨?_,True.intro⟩|refine⟨?_,?_,True.intro⟩|refine brn_t rfl ?_|refine brn_f rfl ?_|refine ob rfl ?_|refine ob (by decide) ?_|refine grow_same (Mem.le_refl _) ?_|refine ob (Mem.le_refl _) ?_|refine⟨_,Mem.le_refl _,?_⟩|fail)
  rw[hrw];exact⟨rfl,⟨Hes,(p5.mono hZA).disk.mono hAZ⟩,fun h=>by cases h⟩
 have e1:¬zgs x≠0:=by simpa using e
 rw[zdo,if_neg e1] at hrw
 have hpl:(zbO x).p.length≤1048576:=by
  have h6:=(zEN (by simpa using e1)).1;have h7:zcw (zbO x)=zaF (zbO x).kind (zbO x).id (zbO x).p.length:=rfl
  rcases zmA h6 with hk|hk|hk|hk
  ·have:=(ztB h6 hk).2;rw[this];decide
  ·have:=zh6 h6 hk;omega
  ·have:=(zf5 h6 (.inl hk)).2;rw[this];decide
  ·have:=(zf5 h6 (.inr hk)).2;rw[this];decide
 refine zL (p5.self) ?_;refine(zs2 p5 (by omega) (zbO x).kind (zbO x).id hs5 hpl).mono ?_;rintro v M6 ⟨h6,rfl, -, p6⟩;obtain⟨ap,hap⟩:∃ ap,ap=zcX Xc (zbO x).kind (zbO x).id (zbO x).p:=⟨_,rfl⟩
 rw[←hap] at p6 hrw ⊢
 repeat' ((conv=>whnf);first|refine⟨?_,True.intro⟩|refine⟨?_,?_,True.intro⟩|refine brn_t rfl ?_|refine brn_f rfl ?_|refine ob rfl ?_|refine ob (by decide) ?_|refine grow_same (Mem.le_refl _) ?_|refine ob (Mem.le_refl _) ?_|refine⟨_,Mem.le_refl _,?_⟩|fail)
 refine brn (fun e=>?_) (fun e=>?_)
 ·have e2:ap.2≠0:=by simpa using e
  rw[if_pos e2] at hrw
  repeat' ((conv=>whnf);first|refine⟨?_,True.intro⟩|refine⟨?_,?_,True.intro⟩|refine brn_t rfl ?_|refine brn_f rfl ?_|refine ob rfl ?_|refine ob (by decide) ?_|refine grow_same (Mem.le_refl _) ?_|refine ob (Mem.le_refl _) ?_|refine⟨_,Mem.le_refl _,?_⟩|fail)
  rw[hrw];exact⟨rfl,⟨_,(p6.mono hZA).disk.mono hAZ⟩,fun h=>by cases h⟩
 have e2:¬ap.2≠0:=by simpa using e
 rw[if_neg e2] at hrw
 repeat' ((conv=>whnf);first|refine⟨?_,True.intro⟩|refine⟨?_,?_,True.intro⟩|refine brn_t rfl ?_|refine brn_f rfl ?_|refine ob rfl ?_|refine ob (by decide) ?_|refine grow_same (Mem.le_refl _) ?_|refine ob (Mem.le_refl _) ?_|refine⟨_,Mem.le_refl _,?_⟩|fail)
 refine ob (zd (by first|omega|(dsimp only;omega))) ?_;(conv=>whnf)
 exact⟨⟨i+1,M6,⟨h6,Hg,Hdb,Hes⟩,ap.1⟩,⟨by omega,rfl,(p6.mono hZA).more (N':=N+((i+1:Nat):Int)) (by omega),hrw⟩,by dsimp only;omega,zS⟩
def zi8 (C:CuR):CuR×Int:=if (zbg C 1 zcr [] true).2=10 then ({ (zbg C 1 zcr [] true).1 with w:={ (zbg C 1 zcr [] true).1.w with spent:=true } },0) else zbg C 1 zcr [] true
theorem zA3 (h:CuAt A M c p N H C) (hN:N≤4611686018427387904):CallsM Tryz.prog F.zeD [ptr c] M fun v M'=>∃ H',v = .int .i64 (zi8 C).2∧CuAt A M' c p (N+1) H' (zi8 C).1:=by
 refine zkf (by simp) ?_
 repeat' ((conv=>whnf);first|refine⟨?_,True.intro⟩|refine⟨?_,?_,True.intro⟩|refine brn_t rfl ?_|refine brn_f rfl ?_|refine ob rfl ?_|refine ob (by decide) ?_|refine grow_same (Mem.le_refl _) ?_|refine ob (Mem.le_refl _) ?_|refine⟨_,Mem.le_refl _,?_⟩|fail)
 refine(zrW (l:=[]) (a:=none) (cc:=0) h hN 1 zcr (SrcOk.nil _ _) (by decide) true).mono ?_;rintro v M1 ⟨H1,rfl,h1⟩;obtain⟨r,hr⟩:∃ r,r=zbg C 1 zcr [] true:=⟨_,rfl⟩
 have hB:zi8 C=if r.2=10 then ({ r.1 with w:={ r.1.w with spent:=true } },0) else r:=by rw[hr];rfl
 rw[←hr] at h1 ⊢
 repeat' ((conv=>whnf);first|refine⟨?_,True.intro⟩|refine⟨?_,?_,True.intro⟩|refine brn_t rfl ?_|refine brn_f rfl ?_|refine ob rfl ?_|refine ob (by decide) ?_|refine grow_same (Mem.le_refl _) ?_|refine ob (Mem.le_refl _) ?_|refine⟨_,Mem.le_refl _,?_⟩|fail)
 refine brn (fun e=>?_) (fun e=>?_)
 ·have e1:r.2=10:=Zd0 e
  repeat' ((conv=>whnf);first|refine⟨?_,True.intro⟩|refine⟨?_,?_,True.intro⟩|refine brn_t rfl ?_|refine brn_f rfl ?_|refine ob rfl ?_|refine ob (by decide) ?_|refine grow_same (Mem.le_refl _) ?_|refine ob (Mem.le_refl _) ?_|refine⟨_,Mem.le_refl _,?_⟩|fail)
  refine on h1.self.cells ?_;(conv=>whnf);refine ob (by simp) ?_
  repeat' ((conv=>whnf);first|refine⟨?_,True.intro⟩|refine⟨?_,?_,True.intro⟩|refine brn_t rfl ?_|refine brn_f rfl ?_|refine ob rfl ?_|refine ob (by decide) ?_|refine grow_same (Mem.le_refl _) ?_|refine ob (Mem.le_refl _) ?_|refine⟨_,Mem.le_refl _,?_⟩|fail)
  rw[hB,if_pos e1];exact⟨H1,rfl,h1.turnC { r.1.w with spent:=true }⟩
 ·have e1:¬r.2=10:=Zd1 e
  repeat' ((conv=>whnf);first|refine⟨?_,True.intro⟩|refine⟨?_,?_,True.intro⟩|refine brn_t rfl ?_|refine brn_f rfl ?_|refine ob rfl ?_|refine ob (by decide) ?_|refine grow_same (Mem.le_refl _) ?_|refine ob (Mem.le_refl _) ?_|refine⟨_,Mem.le_refl _,?_⟩|fail)
  rw[hB,if_neg e1];exact⟨H1,rfl,h1⟩
end
end Go.Proofs.YtpdkkbpkplhdpaaGreat
