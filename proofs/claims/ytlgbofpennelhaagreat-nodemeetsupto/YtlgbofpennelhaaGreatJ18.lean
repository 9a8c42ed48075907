/- Part. -/
import Derived.Test.YtlgbofpennelhaaGreatJ17
set_option linter.all false
set_option maxHeartbeats 0
namespace Go.Proofs.YtlgbofpennelhaaGreat
open Go Go.Vm
attribute [local irreducible] Brn Ob Grow CallsM inR zI zF Mem.row Mem.cells Mem.setCells Mem.upd Go.Vm.Own zZ zaj zam zO New SrcOk subA NewSl Mem.textAt Mem.mapAt Mem.iterAt zC zB Wr NewEls Elems zc9 zeK zfF zef zeg
set_option maxRecDepth 10000
variable {B0 M0 B M B' M':Mem} {S0:Nat→Prop} {R:List Pt} {ps:List Pt}
structure W2 where
 a:NodX
 b:NodX
def zeX (w:W2):W2:=⟨(zdG (zgU w.a 1) 1 (w.b.sd 0).out).1,(zdG (zgU w.b 0) 0 (w.a.sd 1).out).1⟩
def zhN (w:W2):W2:=⟨(zkK w.a).1,(zkK w.b).1⟩
def zsn (w:W2):W2:=zeX (zeX (zeX (zhN w)))
def zfx:Nat→W2→W2
 | 0,w=>w
 | n+1,w=>zfx n (zsn w)
def crs:Nat→W2→W2
 | 0,w=>w
 | n+1,w=>zeX (crs n w)
structure Fit (w:W2):Prop where
 a1:1∈w.a.nb
 b0:0∈w.b.nb
 ra:zmX w.a 65536
 rb:zmX w.b 65536
 ta:w.a.told.length≤1000000
 tb:w.b.told.length≤1000000
 ma:1≤w.a.set.timer∧w.a.set.timer≤64
 mb:1≤w.b.set.timer∧w.b.set.timer≤64
def zq0:Nat→W2→Prop
 | 0,w=>Fit w
 | n+1,w=>Fit w∧Fit (zhN w)∧Fit (zeX (zhN w))∧Fit (zeX (zeX (zhN w)))∧zq0 n (zsn w)
theorem zun {X:NodX} {q:Nat} (h:zmX X q) (k:Int):zmX (zgU X k) q:=fun j hj=>by
 have hj:j∈X.nb:=hj;obtain⟨h1,h2,h3⟩:=h j hj;unfold zgU NodX.setSd;dsimp only;split
 ·simp_all
 ·simp_all
section
variable {P Q:NP} {X Y:NodX}
theorem zdn (h:At B0 M0 S0 B M ps) (i:Nat) (hi:ps[i]? = some (zbi P X)):NodeAt B M (zbi P X).d B M P X []:=zC4 (h.part i hi)
theorem zm1 (h:At B0 M0 S0 B M ps) (i:Nat) (hi:ps[i]? = some (zbi P X)) {X':NodX} {dN:Int} {dK:Nat} (h':NTo B M (zbi P X).d B M' P X' [] dN dK):∃ B' P',B.le B'∧P.same P' dN dK∧At B0 M0 S0 B' M' (rpl ps i [zbi P' X']):=by
 obtain⟨B',P',h1,h2,h3⟩:=h';exact⟨B',P',h1,h2,h.call i hi (zfY h3)⟩
theorem zEX {w:W2} (h:At B0 M0 S0 B M ([zbi P w.a,zbi Q w.b]++R)) (hF:Fit w) (pN:P.N+8500000≤4611686018427387904) (pK:P.K+8500000≤999999999000) (qN:Q.N+8500000≤4611686018427387904) (qK:Q.K+8500000≤999999999000) :
  CallsM Tryz.prog 32 [ptr P.n,ptr Q.n] M fun v M'=>v = .tuple #[]∧∃ B' P' Q',B.le B'∧P.same P' 8500000 8500256∧Q.same Q' 8500000 8500256∧At B0 M0 S0 B' M' ([zbi P' (zeX w).a,zbi Q' (zeX w).b]++R):=by
 refine zsG oS ?_;refine zM (zwP (zdn h 0 rfl) hF.a1) ?_;rintro v M1 ⟨B1,a1,c1,P1,rfl,hb1,hs1,hp1,h1⟩;have h2:=h.call 0 rfl (zfY h1)
 refine zM (zwP (zdn h2 1 rfl) hF.b0) ?_;rintro v M2 ⟨B2,a2,c2,Q2,rfl,hb2,hs2,hq2,h3⟩;have h4:=h2.call 1 rfl (zfY h3)
 have la:(w.a.sd 1).out.length≤65536:=(hF.ra 1 hF.a1).2.2;have lb:(w.b.sd 0).out.length≤65536:=(hF.rb 0 hF.b0).2.2
 have q2N:=hq2.N;have q2K:=hq2.K
 have p1N:=hp1.N;have p1K:=hp1.K
 have hr1:=zwS (k:=0) (c:=c1) (zdn h4 1 rfl) oM oM (by show w.b.told.length+_≤_;have:=hF.tb;omega) (zun hF.rb 0) oD (hs1.le hb2) la;rw[hq2.n] at hr1;refine zR ?_;refine hr1.mono ?_;rintro v M3 ⟨rfl,h5⟩;obtain⟨B4,Q4,hb4,hq4,h6⟩:=zm1 h4 1 rfl h5;have hr2:=zwS (k:=1) (c:=c2) (zdn h6 0 rfl) oM oM (by show w.a.told.length+_≤_;have:=hF.ta;omega) (zun hF.ra 1) oD (hs2.le hb4) lb
 rw[hp1.n] at hr2;refine zR ?_;refine hr2.mono ?_;rintro v M5 ⟨rfl,h7⟩;obtain⟨B6,P6,hb6,hp6,h8⟩:=zm1 h6 0 rfl h7;refine zR ?_;refine⟨rfl,B6,P6,Q4,Yc hb1 (Yc hb2 (Yc hb4 hb6)),by have:=hp1.trans hp6;simpa using this,by have:=hq2.trans hq4;simpa using this,h8⟩
theorem zoE {w:W2} (h:At B0 M0 S0 B M ([zbi P w.a,zbi Q w.b]++R)) {n:Nat} (hF:zq0 n w) (hn:n≤100) (pN:P.N≤1000000000000) (pK:P.K≤100000000000) (qN:Q.N≤1000000000000) (qK:Q.K≤100000000000) :
  CallsM Tryz.prog 9 [ptr P.n,ptr Q.n,.int .i64 n] M fun v M'=>v = .tuple #[]∧∃ B' P' Q',B.le B'∧P.same P' (25500000*n) (25501024*n)∧Q.same Q' (25500000*n) (25501024*n)∧At B0 M0 S0 B' M' ([zbi P' (zfx n w).a,zbi Q' (zfx n w).b]++R):=by
 refine zrz oS ?_;refine zR ?_
 refine zak (σ:=Nat×Mem×Mem×NP×NP×W2) [6] (fun y=>[(6,.int .i64 y.1)]) (fun _=>[]) (fun y=>y.2.1)
  (fun|⟨i,Mc,Bc,Pc,Qc,x⟩=>i≤n∧At B0 M0 S0 Bc Mc ([zbi Pc x.a,zbi Qc x.b]++R)∧B.le Bc∧P.same Pc (25500000*i) (25501024*i)∧Q.same Qc (25500000*i) (25501024*i)∧zq0 (n - i) x∧zfx (n - i) x=zfx n w) (fun y=>n - y.1)
  ⟨0,M,B,P,Q,w⟩ ⟨Y5 _,h,Ya _,NP.same.refl P oM,NP.same.refl Q oM,hF,rfl⟩ zS ?_
 rintro ⟨i,Mc,Bc,Pc,Qc,x⟩ ⟨hi,hc,hbc,hp,hq,hf,hr⟩;have p1:=hp.N
 have p2:=hp.K;have q1:=hq.N
 have q2:=hq.K;refine brn (fun g=>?_) (fun g=>?_)
 ·have hlt:i<n:=by have:=Zd0 g;dsimp only at this;omega
  rw[show n - i=(n - (i+1))+1 by omega] at hf hr;obtain⟨f1,f2,f3,f4,f5⟩:=hf;have ht1:=zwR (zdn hc 0 rfl) oM oM f1.ra oD f1.ma
  rw[hp.n] at ht1;refine zR ?_;refine ht1.mono ?_;rintro v M1 ⟨rfl,h1⟩;obtain⟨B1,P1,hb1,hp1,h2⟩:=zm1 hc 0 rfl h1;have ht2:=zwR (zdn h2 1 rfl) oM oM f1.rb oD f1.mb
  rw[hq.n] at ht2;refine zR ?_;refine ht2.mono ?_;rintro v M2 ⟨rfl,h3⟩;obtain⟨B2,Q1,hb2,hq1,h4⟩:=zm1 h2 1 rfl h3;refine zR ?_
  refine zak (σ:=Nat×Mem×Mem×NP×NP) [7] (fun y=>[(7,.int .i64 y.1)]) (fun _=>[]) (fun y=>y.2.1)
   (fun|⟨k,Md,Bd,Pd,Qd⟩=>k≤3∧At B0 M0 S0 Bd Md ([zbi Pd (crs k (zhN x)).a,zbi Qd (crs k (zhN x)).b]++R)∧B2.le Bd∧P1.same Pd (8500000*k) (8500256*k)∧Q1.same Qd (8500000*k) (8500256*k)) (fun y=>3 - y.1)
   ⟨0,M2,B2,P1,Q1⟩ ⟨Y5 _,h4,Ya _,NP.same.refl P1 oM,NP.same.refl Q1 oM⟩ zS ?_
  rintro ⟨k,Md,Bd,Pd,Qd⟩ ⟨hk,hd,hbd,hpd,hqd⟩;have e1:Pd.n=P.n:=hpd.n.trans (hp1.n.trans hp.n)
  have e2:Qd.n=Q.n:=hqd.n.trans (hq1.n.trans hq.n);have a1:=hp1.N
  have a2:=hp1.K;have a3:=hq1.N
  have a4:=hq1.K;have a5:=hpd.N
  have a6:=hpd.K;have a7:=hqd.N
  have a8:=hqd.K;refine brn (fun g=>?_) (fun g=>?_)
  ·have hlt2:k<3:=by have:=Zd0 g;dsimp only at this;omega
   have hfk:Fit (crs k (zhN x)):=by
    match k,hlt2 with
    | 0,_=>exact f2
    | 1,_=>exact f3
    | 2,_=>exact f4
   have hcr:=zEX hd hfk oM oM oM oM;rw[e1,e2] at hcr;refine zR ?_;refine hcr.mono ?_;rintro v M3 ⟨rfl,B3,P3,Q3,hb3,hp3,hq3,h5⟩;refine zR ?_;refine obr (inR_i64 (by omega)) ?_;exact⟨⟨k+1,M3,B3,P3,Q3⟩,⟨hlt2,h5,Yc hbd hb3,(hpd.trans hp3).more oM oM,(hqd.trans hq3).more oM oM⟩,by omega,zS⟩
  ·have hge:k=3:=by have:=Zd1 g;dsimp only at this;omega
   subst hge;refine zR ?_;refine obr (inR_i64 (by omega)) ?_;exact⟨⟨i+1,Md,Bd,Pd,Qd,zsn x⟩,⟨hlt,hd,Yc hbc (Yc hb1 (Yc hb2 hbd)),((hp.trans hp1).trans hpd).more oM oM,((hq.trans hq1).trans hqd).more oM oM,f5,hr⟩,by omega,zS⟩
 ·have hge:i=n:=by have:=Zd1 g;dsimp only at this;omega
  subst hge;rw[Nat.sub_self] at hr;have hr:x=zfx i w:=hr
  subst hr;refine zR ?_;exact⟨rfl,Bc,Pc,Qc,hbc,hp,hq,hc⟩
end
end Go.Proofs.YtlgbofpennelhaaGreat
namespace Go.Proofs.YtlgbofpennelhaaGreat
open Go Go.Vm
attribute [local irreducible] Brn Ob Grow CallsM inR zI zF Mem.row Mem.cells Mem.setCells Mem.upd Go.Vm.Own zZ zaj zam zO New SrcOk subA NewSl Mem.textAt Mem.mapAt Mem.iterAt zC zB Wr NewEls Elems
set_option maxRecDepth 10000
variable {A M M':Mem} {c p db:Nat} {N:Int} {h:Hd} {des:FsT} {X:StW} {D:zf} {w:CuW} {H:CuH} {C:CuR}
set_option maxHeartbeats 1000000 in
theorem zI3 (hd:FreshD A M p db D des) (hnm:NamesC D) {me qh qb qg seg:Int} {ld:Option (Int×StW)} (l0:ld=none) (hld:D.down=false→(zbE D).2=0→Ld (zbE D).1 me qh qb qg ld) :
  CallsM Tryz.prog 39 [ptr p,.int .i64 me,.agg #[.int .i64 qh,.int .i64 qb,.int .i64 qg],.int .i64 seg] M fun v M'=>zIX A M' p (za1 D me qh qb qg seg ld) v:=by
 refine zrA oS ?_;refine zM (zF4 me qh qb qg) ?_;rintro v M1 (⟨hb,rfl,rfl⟩|⟨hb,h,rfl,h1,hc0⟩)
 ·refine zR ?_;have e:za1 D me qh qb qg seg ld=(zfU D,1):=by unfold za1;rw[if_pos hb]
  rw[e];exact .inl ⟨(by omega),rfl,hnm,db,des,hd⟩
 have d1:=hd.to h1.st.le;refine zR ?_;refine brn (fun e=>?_) (fun e=>?_)
 ·have e1:=Zd0 e;have e:za1 D me qh qb qg seg ld=(zfU D,1):=by unfold za1;rw[if_neg hb,if_pos oM]
  refine zR ?_;rw[e];exact .inl ⟨(by omega),rfl,hnm,db,des,d1⟩
 have e1:=Zd1 e;refine zR ?_;refine brn (fun e=>?_) (fun e=>?_)
 ·have e1:=Zd0 e;have e:za1 D me qh qb qg seg ld=(zfU D,1):=by unfold za1;rw[if_neg hb,if_pos oM]
  refine zR ?_;rw[e];exact .inl ⟨(by omega),rfl,hnm,db,des,d1⟩
 have e2:=Zd1 e;refine zJ (zmL d1) ?_;cases hdn:D.down
 case true=>
  have e:za1 D me qh qb qg seg ld=(zfU D,9):=by unfold za1;rw[if_neg hb,if_neg oM,if_pos hdn]
  refine zR ?_;rw[e];exact .inl ⟨(by omega),rfl,hnm,db,des,d1⟩
 refine zR ?_;refine new (fun c hc=>?_);replace hc:M1 c=none:=hc;have hdj:∀ y,hB h y→¬zav p db des y:=fun y hy hb=>hd.at'.full hb (h1.st.fresh y hy)
 have p2:=CuPre.new (c:=c) (h1.mono hd.le) d1 hnm hdj hc (by rw[hc0];exact Yae 0) ⟨0,false,false⟩;obtain⟨M2,hM2⟩:∃ M2,M2=M1.setCells c 153 (zhH h.p p (.pointer none) ⟨0,false,false⟩):=⟨_,rfl⟩
 rw[←hM2] at p2;erw [←hM2]
 have hO:za1 D me qh qb qg seg ld=if (zbE D).2≠0 then (zfU (zbE D).1,(zbE D).2) else zoY (zbE D).1 me qh qb qg seg ld:=by
  unfold za1;rw[if_neg hb,if_neg oM,if_neg (by simp[hdn])]
 refine(zCV p2).mono ?_;rintro v M3 ⟨es3,rfl,p3⟩;obtain⟨s,hs⟩:=oI (zbE D);rw[←hs] at p3 hO hld ⊢;refine brn (fun e=>?_) (fun e=>?_)
 ·have e3:s.2≠0:=by simpa using e
  rw[if_pos e3] at hO;refine zR ?_;rw[hO];exact .inl ⟨e3,rfl,p3.nm,db,es3,p3.disk⟩
 have e3:¬s.2≠0:=by simpa using e
 rw[if_neg e3] at hO;have hL:=hld hdn (by omega)
 rw[hO];subst l0;refine zM (zCT p3 hL me _ ⟨qh,qb,qg,rfl⟩) ?_;rintro v M4 ⟨rfl,hle4⟩;have p4:=(p3.to hle4)
 obtain⟨ld1,hld1⟩:∃ ld1:Option (Int×StW),ld1=none:=⟨_,rfl⟩
 have e4:¬(ldD s.1 ld1).2≠0:=by rw[hld1];simp[ldD]
 have hsn:(ldW ld1).snap≤99999:=by rw[hld1];simp[ldW]
 rw[←hld1]
 replace p4:CuPre A M4 c p db 256 h es3 (ldX me qh qb qg ld1) (ldD s.1 ld1).1 (ldW ld1):=by
  rw[hld1];exact⟨p4.st,p4.disk,p4.self,p4.cf,p4.dj,p4.cs,p4.cl,p4.nm,by omega⟩
 unfold zoY;rw[if_neg e4];refine zR ?_;refine(zEL p4 (by omega) hsn (by decide) (by have:=zsi p4.disk.inv (ldW ld1) seg;omega)).mono ?_;rintro v M5 ⟨rfl,⟨es5,d5⟩,hK⟩
 have hn5:NamesC (zaT (ldD s.1 ld1).1 (ldW ld1) seg).1:=by
  unfold zaT;split
  ·exact p4.nm
  ·exact(zwG p4.nm (by unfold firstC;omega) oM).1
 obtain⟨rp,hrp⟩:=oI (zdY (ldX me qh qb qg ld1) (ldD s.1 ld1).1 (ldW ld1) seg);rw[←hrp] at hK ⊢;refine ?_;refine brn (fun e=>?_) (fun e=>?_)
 ·have e5:rp≠0:=by simpa using e
  refine zR ?_;rw[if_pos e5];exact .inl ⟨e5,rfl,hn5,db,es5,d5⟩
 have e5:¬rp≠0:=by simpa using e
 rw[if_neg e5];obtain⟨H5,p5⟩:=hK (by omega);have hfew:=zsi p4.disk.inv (ldW ld1) seg
 have p5':=p5.more (N':=104857600256) oM;refine zM (zIW p5' oD) ?_;rintro v M6 ⟨H6,rfl,p6⟩;obtain⟨b,hb6⟩:∃ b,b=zkH ⟨(zdz (ldX me qh qb qg ld1) (zaT (ldD s.1 ld1).1 (ldW ld1) seg).2.2.1).1,(zaT (ldD s.1 ld1).1 (ldW ld1) seg).1,(zaT (ldD s.1 ld1).1 (ldW ld1) seg).2.1,ldW ld1⟩:=⟨_,rfl⟩
 rw[←hb6] at p6 ⊢;refine brn (fun e=>?_) (fun e=>?_)
 ·have e6:b.2≠0:=by simpa using e
  refine zR ?_;exact .inl ⟨e6,rfl,p6.nm,_,_,p6.disk⟩
 ·have e6:¬b.2≠0:=by simpa using e
  refine zR ?_;exact .inr ⟨by omega,c,H6,rfl,p6.more oM⟩
end Go.Proofs.YtlgbofpennelhaaGreat
namespace Go.Proofs.YtlgbofpennelhaaGreat
open Go Go.Vm
attribute [local irreducible] Brn Ob Grow CallsM inR zI zF Mem.row Mem.cells Mem.setCells Mem.upd Go.Vm.Own zZ zaj zam zO New SrcOk subA NewSl Mem.textAt Mem.mapAt Mem.iterAt zC zB Wr NewEls Elems zc9 zeK zfF zef zeg
set_option maxRecDepth 10000
section
variable {B0 M0 B M B' M':Mem} {S0:Nat→Prop} {R:List Pt} {ps:List Pt}
theorem zwU (h:At B0 M0 S0 B M ps) (i:Nat) {p db:Nat} {es:FsT} {D:zf} (hi:ps[i]? = some (zhL p db es D)) (hnm:NamesC D) (S:ziX) (me:Int) {a:Option Addr} {n c:Nat} {nb:List Int} (hs:SrcOk B 1 a n (nb.map zi)) (hn:n≤4194304) {ld:Option (Int×StW)} (l0:ld=none) (hld:D.down=false→(zbE D).2=0→Ld (zbE D).1 me S.qh S.qb S.qg ld) (hsn:(za1 D me S.qh S.qb S.qg S.seg ld).1.X.sn.length≤1048576) :
  CallsM Tryz.prog 16 [.int .i64 me,.slice a n c,ptr p,zve S] M fun v M'=>
   (zhM D me nb S ld≠0∧v = .tuple #[.pointer none,.int .i64 (zhM D me nb S ld)]∧NamesC (zkL D me nb S ld)∧∃ B' db' es',B.le B'∧At B0 M0 S0 B' M' (rpl ps i [zhL p db' es' (zkL D me nb S ld)])) ∨
   (zhM D me nb S ld=0∧∃ B' P,v = .tuple #[ptr P.n,.int .i64 0]∧B.le B'∧P.p=p∧P.N≤104857600300∧P.K≤256∧At B0 M0 S0 B' M' (rpl ps i [zbi P (zc1 (zm0 me S nb (za1 D me S.qh S.qb S.qg S.seg ld).1))])):=by
 have hnl:nb.length=n:=hs.maplen;have h0:=h.inn i hi
 refine zxy oS ?_;refine zM (zCt me 64 a n c nb (hs.le h.le) hn) ?_;rintro v M1 (⟨he,rfl,rfl⟩|⟨he,tp,b1,b2,a1,c1,rfl,hp1,hp2,hp3,hp4,hle1,ht⟩)
 ·have e1:zhM D me nb S ld=zg0 me nb 64:=by unfold zhM;rw[if_pos he]
  have e2:zkL D me nb S ld=D:=by unfold zkL;rw[if_pos he]
  refine zR ?_;refine brn_t (by simp_all) ?_;refine zR ?_;refine .inl ⟨by omega,by rw[e1],by simp_all,B,db,es,Ya _,?_⟩;rw[e2];exact h.view i hi (h.part i hi) fun y hy=>hy
 obtain⟨m1,m2,m3,m4,m5⟩:=zC7 he;obtain⟨B1,hb1,h1⟩:=zHi h0 hp1 hp2 hp3 hp4 hle1 ht (fun k hk=>(m3 k hk).1) oM;refine zM (zC3 S) ?_;rintro v M2 ⟨rfl,hle2⟩;have h2:=h1.up hle2
 have hne:∀ x,zhM D me nb S ld=x↔(if zg4 S≠0 then zg4 S else (za1 D me S.qh S.qb S.qg S.seg ld).2)=x:=fun x=>by unfold zhM;rw[if_neg (fun hh=>hh he)]
 have hnd:zkL D me nb S ld=if zg4 S≠0 then D else (za1 D me S.qh S.qb S.qg S.seg ld).1.D:=by unfold zkL;rw[if_neg (fun hh=>hh he)]
 refine zR ?_;refine brn (fun g=>?_) (fun g=>?_)
 ·have g1:zg4 S≠0:=by simpa using g
  have e1:zhM D me nb S ld=zg4 S:=(hne _).2 (if_pos g1);have e2:zkL D me nb S ld=D:=by rw[hnd,if_pos g1]
  refine zR ?_;refine .inl ⟨by omega,by rw[e1],by simp_all,B1,db,es,hb1,?_⟩;rw[e2];exact h.call i hi (h2.drop 1 rfl)
 have g1:zg4 S=0:=by simpa using g
 obtain⟨s1,s2,s3,s4,s5,s6⟩:=zC8 g1;have e1:zhM D me nb S ld=(za1 D me S.qh S.qb S.qg S.seg ld).2:=(hne _).2 (if_neg (fun hh=>hh g1))
 have e2:zkL D me nb S ld=(za1 D me S.qh S.qb S.qg S.seg ld).1.D:=by rw[hnd,if_neg (fun hh=>hh g1)]
 have hfd:FreshD B1 M2 p db D es:=h2.part 0 rfl;refine zM (zI3 hfd.base.1 hnm l0 hld) ?_;rw[e1,e2];clear hne hnd e1 e2;obtain⟨O,hO⟩:=oI (za1 D me S.qh S.qb S.qg S.seg ld);rw[←hO] at hsn ⊢;rintro v M3 (⟨ho,rfl,hnm3,db3,es3,hf3⟩|⟨ho,cc,H3,rfl,hc3⟩)
 ·have h3:=zC6 h2 0 rfl hf3;refine zR ?_;refine brn_t (by simp_all) ?_;refine zR ?_;exact .inl ⟨ho,rfl,hnm3,B1,db3,es3,hb1,h.call i hi (h3.drop 1 rfl)⟩
 have h3:=zET h2 0 rfl hc3;refine zM (zAw S.wait M3) ?_;rintro v M4 (⟨hbad,_⟩|⟨hw,dp,dbk,rfl,hd1,hd2,hle4,hda⟩)
 ·omega
 have h4:=zEV h3 hw hd1 hd2 hle4 hda;refine zR ?_;refine h4.mapV (kv:=zi) (vv:=zmR) fun ms M5 h5=>?_
 have hC5:CuAt B1 M5 cc p 104857600300 H3 O.1:=h5.part 0 rfl;have hep:=hC5.st.st.inv.epoch
 refine(zyZ hC5 oD hsn).mono ?_;rintro v M7 ⟨hle7,hS⟩;obtain⟨ua,uc,ha,hc,xs,ma,mc,mk,rfl,hrest⟩:=hS.ex;clear hrest hS;have h9:=h5.up hle7
 refine zV ?_
 have hme:0≤zgi O.1∧zgi O.1≤65535:=by
  unfold zgi;have:=Int.tmod_nonneg (a:=512*O.1.X.S.epoch) 65536 oM
  have:=Int.tmod_lt_of_pos (512*O.1.X.S.epoch) (b:=65536) oD;omega
 obtain⟨fm,hfm⟩:=oI (zgi O.1);have hfm':Int.tmod (512*O.1.X.S.epoch) 65536=fm:=hfm.symm
 rw[←hfm] at hme;rw[hfm']
 refine zak (σ:=Nat×Mem×(Int→SP)) [70] (fun y=>[(70,.int .i64 y.1)]) (fun _=>[.live 29 [.v (.int .i64 S.qh),.v (.int .i64 S.qb),.v (.int .i64 S.qg),.v (.int .i64 S.disk),.v (.int .i64 S.seg),.v (.int .i64 S.win),.v (.int .i64 S.timer),.v (.int .i64 S.tries),.v (.int .i64 S.wait),.v (.int .i64 S.delay)],
  .live 96 [.v (.int .i64 me),.v (.int .i64 S.qh),.v (.int .i64 S.qb),.v (.int .i64 S.qg),.v (.int .i64 S.disk),.v (.int .i64 S.seg),.v (.int .i64 S.win),.v (.int .i64 S.timer),.v (.int .i64 S.tries),.v (.int .i64 S.wait),.v (.int .i64 S.delay),.v (ptr cc),.v (.map (some ms)),.v (ptr tp),.v (ptr dp),.v (.slice none 0 0),.v (.int .i64 0),.v (.int .i64 0)]]) (fun y=>y.2.1)
  (fun|⟨j,Mc,sp⟩=>j≤n∧At B M (zhL p db es D).d B1 Mc ([zdx cc p 104857600300 H3 O.1,zlm ⟨tp,b1,b2,a1,n,c1⟩ me 64 nb fun _=>none,zdy ⟨dp,dbk⟩ S.wait 0 0 fun _=>none,zgn zi zmR ms ((nb.take j).map fun k=>(k,(sp k).s))]++(nb.take j).map fun k=>zeF (sp k) (zjw fm S))) (fun y=>n - y.1)
  ⟨0,M7,fun _=>⟨0,0,⟨0,none,0,0,0,0,none,0,none,0⟩,0,DQ0,none,0⟩⟩ ⟨Y5 _,h9⟩ zS ?_
 rintro ⟨j,Mc,sp⟩ ⟨hj,hc⟩;refine brn (fun g=>?_) (fun g=>?_)
 ·have hlt:j<n:=by have:=Zd0 g;dsimp only at this;omega
  obtain⟨hk1,bb,o1,ea,hr1⟩:=((hs.le hb1).le hc.le).at hlt;obtain⟨k,hk⟩:=oI (nb[j]);rw[←hk] at hr1;refine ob (by omega) ?_;refine atp ea ?_;refine zR ?_;refine on hr1 ?_;refine zM (zB7 hme s3 s4 s5 hc) ?_;rintro v M8 ⟨le,lp,rfl,hle8,h10⟩;have h11:=zy8 hc h10.cls
  refine zM (zC5 h11.le) ?_;rintro v M9 ⟨dd,rfl,h12⟩;have h13:=zy8 h11 h12
  have hle9:M8.le M9:=fun y o ho=>h12.tn.keep y o (fun h=>h) ho
  refine zT (hle9) ?_;refine zR ?_;refine h13.newV fun sb M10 h14=>?_
  refine zR ?_;refine h14.putV 3 rfl zcY k sb fun M11 h15=>?_
  have h16:=h15.row0 5 1;have hnk:k∉nb.take j:=by rw[hk];exact zEW m4 hk1
  have htk:nb.take (j+1)=nb.take j++[k]:=by rw[Y1,Yb hk1,hk];rfl
  obtain⟨sp2,hsp⟩:∃ sp2:Int→SP,sp2=fun y=>if y=k then ⟨sb,le,lp,dd,DQ0,none,0⟩ else sp y:=⟨_,rfl⟩
  have hspk:sp2 k=⟨sb,le,lp,dd,DQ0,none,0⟩:=by rw[hsp];exact if_pos rfl
  have hspo:∀ y∈nb.take j,sp2 y=sp y:=fun y hy=>by grind
  have hm1:zt ((nb.take j).map fun k=>(k,(sp k).s)) k sb=(nb.take (j+1)).map fun k=>(k,(sp2 k).s):=by
   rw[htk,Yv,zjT ?_]
   ·rw[Yav (g:=fun k=>(k,(sp2 k).s)) fun y hy=>by rw[hspo y hy]];simp[hspk]
   ·cases hg:ze ((nb.take j).map fun k=>(k,(sp k).s)) k with
    | none=>rfl
    | some v=>
     obtain⟨y,hy,e⟩:=Yj.1 (zG hg);cases e;exact absurd hy hnk
  have h17:=h16.c (zI2 _ _ _ _ _ _ _ _ _ _);have h18:=zEU (h17.perm (Yc9 _ (zJ2 _ _ _ _)))
  rw[hm1] at h18
  have hs2:((nb.take j).map fun k=>zeF (sp k) (zjw fm S))++[zeF ⟨sb,le,lp,dd,DQ0,none,0⟩ (zjw fm S)]=(nb.take (j+1)).map fun k=>zeF (sp2 k) (zjw fm S):=by
   rw[htk,Yv,Yav (g:=fun k=>zeF (sp2 k) (zjw fm S)) fun y hy=>by rw[hspo y hy]];simp[hspk]
  have h19:At B M (zhL p db es D).d B1 M11 ([zdx cc p 104857600300 H3 O.1,zlm ⟨tp,b1,b2,a1,n,c1⟩ me 64 nb fun _=>none,zdy ⟨dp,dbk⟩ S.wait 0 0 fun _=>none,zgn zi zmR ms ((nb.take (j+1)).map fun k=>(k,(sp2 k).s))]++(nb.take (j+1)).map fun k=>zeF (sp2 k) (zjw fm S)):=by
   rw[←hs2,←Yr];exact h18
  refine zR ?_;refine obr (inR_i64 (by omega)) ?_;exact⟨⟨j+1,M11,sp2⟩,⟨hlt,h19⟩,by omega,zS⟩
 have hge:j=n:=by have:=Zd1 g;dsimp only at this;omega
 subst hge;rw[Yf oM] at hc;refine hc.newV fun nn M20 h20=>?_
 have h21:=(h20.row0 82 5)
 have h22:At B M (zhL p db es D).d B1 M20 ((([zdx cc p 104857600300 H3 O.1,zlm ⟨tp,b1,b2,a1,j,c1⟩ me 64 nb fun _=>none,zdy ⟨dp,dbk⟩ S.wait 0 0 fun _=>none,zgn zi zmR ms (nb.map fun k=>(k,(sp k).s))]++nb.map fun k=>zeF (sp k) (zjw fm S))++[zby nn 96 [.int .i64 me,.int .i64 S.qh,.int .i64 S.qb,.int .i64 S.qg,.int .i64 S.disk,.int .i64 S.seg,.int .i64 S.win,.int .i64 S.timer,.int .i64 S.tries,.int .i64 S.wait,.int .i64 S.delay,ptr cc,.map (some ms),ptr tp,ptr dp,.slice none 0 0,.int .i64 0,.int .i64 0]])++[zmS none 0 []]):=by
  have:=h21.view (((([zdx cc p 104857600300 H3 O.1,zlm ⟨tp,b1,b2,a1,j,c1⟩ me 64 nb fun _=>none,zdy ⟨dp,dbk⟩ S.wait 0 0 fun _=>none,zgn zi zmR ms (nb.map fun k=>(k,(sp k).s))]++nb.map fun k=>zeF (sp k) (zjw fm S))++[zby nn 96 [.int .i64 me,.int .i64 S.qh,.int .i64 S.qb,.int .i64 S.qg,.int .i64 S.disk,.int .i64 S.seg,.int .i64 S.win,.int .i64 S.timer,.int .i64 S.tries,.int .i64 S.wait,.int .i64 S.delay,ptr cc,.map (some ms),ptr tp,ptr dp,.slice none 0 0,.int .i64 0,.int .i64 0]])).length) (zmT _ _) (q:=zmS none 0 []) ⟨[],(Yaw M20 _ _).mono h21.le,MsgsB.nil _⟩ fun y hy=>hy
  rw[zh4] at this;exact this
 rw[Yr] at h22;have h23:=h22.perm (zJ3 _ _ _ _ _ _ _)
 have h24:NodeAt B M (zhL p db es D).d B1 M20 ⟨nn,ms,nb.map fun k=>(k,(sp k).s),cc,p,104857600300,H3,⟨tp,b1,b2,a1,j,c1⟩,⟨dp,dbk⟩,0,none,0,sp⟩ (zm0 me S nb O.1) []:=by
  refine⟨?_,m4,m5,?_,fun q hq=>?_⟩
  ·rw[Yt];unfold zm0;rw[←hfm];exact h23
  ·rw[Ya4]
   have:(nb.map ((fun x:Int×Nat=>x.1)∘fun k=>(k,(sp k).s)))=nb:=by
    exact List.map_id' nb
   rw[this];exact .refl _
  ·grind
 refine(zmW h24 (by simp) (Y5 _) fun k hk=>⟨?_,Y5 _⟩).mono ?_
 ·show 1+20000≤1000000000;decide
 rintro v M21 ⟨rfl,B21,P21,hb21,hs21,h25⟩;refine zR ?_;refine .inr ⟨ho,B21,P21,by rw[show P21.n=nn from hs21.n],Yc hb1 hb21,hs21.p,hs21.N,Yz hs21.K (by simp),h.call i hi (zfY h25)⟩
end
section
variable {B0 M0 B M B' M':Mem} {S0:Nat→Prop} {R:List Pt} {ps:List Pt}
@[reducible] def zie:ziX:=⟨50,2000,50,100000,200,4,3,3,3,0⟩
theorem plain_ok:CallsM Tryz.prog 8 [] M fun v M'=>v=zve zie∧M=M':=by
 refine zsE oS ?_;refine zR ?_;exact⟨rfl,rfl⟩
theorem zwV (h:At B0 M0 S0 B M ps) {p b:Nat} {D:zf} {es:FsT} (hd:FreshD M M' p b D es):At B0 M0 S0 B M' (ps++[zhL p b es D]):=
 h.more hd.le ⟨Yc h.le hd.le,hd.at',hd.rel,hd.inv,fun y hy=>by
  cases e:B y with
  | none=>rfl
  | some o=>have:=h.le y o e;rw[hd.fresh y hy] at this;cases this⟩ fun y hy=>hd.fresh y hy
@[reducible] def D00:zf:=⟨100000,[], -1,false⟩
def w00:W2:=⟨zc1 (zm0 0 zie [1] (za1 D00 0 50 2000 50 200 none).1),zc1 (zm0 1 zie [0] (za1 D00 1 50 2000 50 200 none).1)⟩
theorem ne0:zhM D00 0 [1] zie none=0:=by kernel_rfl
theorem ne1:zhM D00 1 [0] zie none=0:=by kernel_rfl
theorem sn0:(za1 D00 0 50 2000 50 200 none).1.X.sn.length=0:=by kernel_rfl
theorem sn1:(za1 D00 1 50 2000 50 200 none).1.X.sn.length=0:=by kernel_rfl
theorem pair_ok:CallsM Tryz.prog 7 [zve zie] M fun v M'=>∃ B' P Q,v = .tuple #[ptr P.n,ptr Q.n,.bool true]∧(P.N≤104857600300∧P.K≤256)∧(Q.N≤104857600300∧Q.K≤256)∧M.le B'∧At M M (fun _=>False) B' M' [zbi P w00.a,zbi Q w00.b]:=by
 refine zuE oS ?_;have h0:=Yd0 M
 refine zM (zIC 100000) ?_;rintro v M1 (⟨hbad,_⟩|⟨_,p,b,rfl,hd1⟩)
 ·omega
 have h1:=zwV h0 hd1;refine zM (zIC 100000) ?_;rintro v M2 (⟨hbad,_⟩|⟨_,p2,b2,rfl,hd2⟩)
 ·omega
 have h2:=zwV h1 hd2;refine zR ?_;refine h2.newRV (s:=1) (n:=1) rfl fun r1 M3 h3=>?_
 obtain⟨B3,hb3,hs3,h4⟩:=h3.cede 2 rfl;have hw1:=zwU (c:=1) h4 0 rfl (D:=D00) (fun f hf=>by cases hf) zie 0 (nb:=[1]) hs3 oD (ld:=none) rfl (fun _ _=>rfl) (by rw[sn0];decide)
 refine zR ?_;refine hw1.mono ?_;rintro v M4 (⟨hbad,_⟩|⟨_,B4,P,rfl,hb4,hp1,hp2,hp3,h5⟩)
 ·exact absurd ne0 hbad
 refine zR ?_;refine h5.newRV (s:=1) (n:=1) rfl fun r2 M5 h6=>?_
 obtain⟨B6,hb6,hs6,h7⟩:=h6.cede 2 rfl;have hw2:=zwU (c:=1) h7 1 rfl (D:=D00) (fun f hf=>by cases hf) zie 1 (nb:=[0]) hs6 oD (ld:=none) rfl (fun _ _=>rfl) (by rw[sn1];decide)
 refine zR ?_;refine hw2.mono ?_;rintro v M8 (⟨hbad,_⟩|⟨_,B8,Q,rfl,hb8,hq1,hq2,hq3,h9⟩)
 ·exact absurd ne1 hbad
 refine zR ?_;exact⟨B8,P,Q,rfl,⟨hp2,hp3⟩,⟨hq2,hq3⟩,Yc hb3 (Yc hb4 (Yc hb6 hb8)),h9⟩
end
end Go.Proofs.YtlgbofpennelhaaGreat
namespace Go.Proofs.YtlgbofpennelhaaGreat
open Go Go.Vm
section
variable {C D E:zf} {f0 last:Int} {l:List FileR} {put:List (List UInt8)} {safe:Nat}
structure LessD (E C:zf):Prop where
 len:E.l.length≤C.l.length
 used:za0 E.l≤za0 C.l
 nm:∀ f∈E.l,∃ f'∈C.l,f'.name=f.name
 lim:E.limit=C.limit
theorem LessD.refl (C:zf):LessD C C:=⟨Yd _,Yd _,fun f hf=>⟨f,hf,rfl⟩,rfl⟩
theorem LessD.trans {A B C:zf} (h:LessD A B) (h':LessD B C):LessD A C:=⟨Yz h.len h'.len,Yz h.used h'.used,fun f hf=>by
 obtain⟨f1,a,b⟩:=h.nm f hf;obtain⟨f2,c,d⟩:=h'.nm f1 a
 exact⟨f2,c,d.trans b⟩,h.lim.trans h'.lim⟩
theorem zoF {l:List FileR} (hs:SortedR l) {x:FileR} {n:ByteArray} (hx:zh l n=some x) {f:FileR} (hf:f.name=n):(za5 l f).length=l.length∧za0 (za5 l f)+(x.safe.size+x.tail.size)=za0 l+(f.safe.size+f.tail.size):=by
 obtain⟨h1,h2⟩:=zci hs hx;unfold za5;rw[zik,zkA,hf];omega
theorem LessD.remove (h:InvD C) (s:ByteArray):LessD (z7 C s).1 C:=by
 unfold z7;split
 ·exact .refl C
 ·rename_i h0;have:=zci h.sort (zcl (by simpa using h0)).2
  exact⟨by show (zaP C.l s).length≤_;omega,by show za0 (zaP C.l s)≤_;omega,fun f hf=>⟨f,(withoutR_mem.1 hf).1,rfl⟩,rfl⟩
theorem LessD.cut (h:InvD C) (s:ByteArray) (k:Int):LessD (zcp C s k).1 C:=by
 unfold zcp;split
 ·exact .refl C
 ·rename_i h0;split
  ·exact .refl C
  ·rename_i h1;have hf:=(zcl (by simpa using h0)).2
   have:=zoF h.sort hf (f:=⟨s,(zq C s).all.extract 0 k.toNat,.empty⟩) rfl
   have hz:((zq C s).all.extract 0 k.toNat).size≤(zq C s).safe.size+(zq C s).tail.size:=by
    rw[←all_size,←zbP,zhF,Ya2,zbP];omega
   have he:ByteArray.empty.size=0:=rfl;dsimp only at this;refine⟨by show (za5 C.l _).length≤_;omega,by show za0 (za5 C.l _)≤_;omega,fun f hf2=>?_,rfl⟩;rcases withR_mem.1 hf2 with rfl|⟨hf2,_⟩
   ·exact⟨_,((zaC h.sort).1 hf).1,((zaC h.sort).1 hf).2⟩
   ·grind
theorem LessD.removeAll:∀ {ks:List Int} {C:zf},InvD C→LessD (removeAll C ks).1 C
 | [],C,_ => .refl C
 | k::r,C,h=>by
  rw[Go.Proofs.YtlgbofpennelhaaGreat.removeAll];split
  ·exact .remove h _
  ·exact(LessD.removeAll (zez h _)).trans (.remove h _)
theorem zlo (h:InvD C) {s n:ByteArray} (hn:n≠s):zh (z7 C s).1.l n=zh C.l n:=by
 unfold z7;split
 ·rfl
 ·show zh (zaP C.l s) n=_;rw[zgI h.sort,if_neg hn]
theorem zlK:∀ {ks:List Int} {C:zf},InvD C→∀ {n:ByteArray},(∀ k∈ks,n≠zb k)→zh (removeAll C ks).1.l n=zh C.l n
 | [],_,_,_,_=>rfl
 | k::r,C,h,n,hn=>by
  rw[removeAll];split
  ·exact zlo h (hn k oS)
  ·rw[zlK (zez h _) fun j hj=>hn j (by simp[hj]),zlo h (hn k (by simp))]
theorem zka {pick:Int→Bool} {k:Int} (h:PowW C):k∈za7 C pick↔okK k∧pick k=true∧∃ f,zh C.l (zb k)=some f:=by
 unfold za7;rw[Ya3,Yj];constructor
 ·rintro ⟨⟨f,hf,rfl⟩,hk⟩;rw[Yl] at hk;have h0:=Zd0 hk.1
  obtain⟨h1,h2⟩:=(h.nm.num hf).resolve_right fun h6=>by omega
  exact⟨⟨by omega,by omega⟩,hk.2,f,(zaC h.inv.sort).2 ⟨hf,h2⟩⟩
 ·rintro ⟨hk,hp,f,hf⟩;obtain⟨h1,h2⟩:=(zaC h.inv.sort).1 hf;unfold okK at hk;exact⟨⟨f,h1,by rw[h2,zcd (by omega)]⟩,by grind⟩
theorem zso (h:PowW C) (pick:Int→Bool):(removeAll C (za7 C pick)).2=0∧PowW (removeAll C (za7 C pick)).1∧(∀ k,okK k→zh (removeAll C (za7 C pick)).1.l (zb k)=if pick k=true then none else zh C.l (zb k)) ∧
  (∀ n,(∀ k,okK k→n≠zb k)→zh (removeAll C (za7 C pick)).1.l n=zh C.l n)∧LessD (removeAll C (za7 C pick)).1 C:=by
 obtain⟨r1,r2,r3⟩:=znh h (zAE h pick) fun k hk=>⟨((zka h).1 hk).1,((zka h).1 hk).2.2⟩
 refine⟨r1,r2,fun k hk=>?_,fun n hn=>zlK h.inv fun k hk=>hn k ((zka h).1 hk).1,.removeAll h.inv⟩;rw[r3 k hk];by_cases hm:k∈za7 C pick
 ·rw[if_pos hm,if_pos ((zka h).1 hm).2.1]
 ·rw[if_neg hm];split
  ·rename_i hp;cases hf:zh C.l (zb k) with
   | none=>rfl
   | some f=>exact absurd ((zka h).2 ⟨hk,hp,f,hf⟩) hm
  ·rfl
def CutAt:Option FileR→Option FileR→Prop
 | none,none=>True
 | some f,some f'=>f'.name=f.name∧f.safe.size≤f'.safe.size∧(∃ m,bl f'.all=(bl f.all).take m)∧(f.tail = .empty→f'.tail = .empty)
 | _,_=>False
theorem CutAt.refl:∀ o:Option FileR,CutAt o o
 | none=>trivial
 | some f=>⟨rfl,Yd _,⟨(bl f.all).length,(Yaj).symm⟩,id⟩
theorem CutAt.none' {o:Option FileR} (h:CutAt none o):o=none:=by
 cases o with
 | none=>rfl
 | some f=>exact h.elim
theorem CutAt.some' {f:FileR} {o:Option FileR} (h:CutAt (some f) o):∃ f' m,o=some f'∧f'.name=f.name∧f.safe.size≤f'.safe.size∧bl f'.all=(bl f.all).take m∧m≤(bl f.all).length∧f'.all.size=m∧(f.tail = .empty→f'.tail = .empty):=by
 cases o with
 | none=>exact h.elim
 | some f'=>
  obtain⟨h1,h2,⟨m,h3⟩,h4⟩:=h;refine⟨f',min m (bl f.all).length,rfl,h1,h2,?_,by omega,?_,h4⟩
  ·simp_all
  ·rw[←zbP,h3,Ya2]
theorem CutAt.whole {n:ByteArray} {s:ByteArray} {o:Option FileR} (h:CutAt (some ⟨n,s,.empty⟩) o):∃ s',o=some ⟨n,s',.empty⟩∧bl s'=bl s:=by
 obtain⟨f',m,rfl,h1,h2,h3,h4,h5,h6⟩:=h.some';obtain⟨n',s',t'⟩:=f';dsimp only at h1 h2;have ht:=h6 rfl
 dsimp only at ht;subst h1 ht;have e1:FileR.all ⟨n',s,.empty⟩=s:=zlF (by unfold FileR.all;dsimp only;rw[zbv,zd5,Yt])
 have e2:FileR.all ⟨n',s',.empty⟩=s':=zlF (by unfold FileR.all;dsimp only;rw[zbv,zd5,Yt]);rw[e1,e2] at h3;rw[e1] at h4;rw[e2] at h5;refine⟨s',rfl,?_⟩;rw[h3,Yf (by rw[zbP];omega)]
theorem zuo (hd:C.down=false) (h1:1≤f0) {parts:List (List (List UInt8))} (hok:∀ q∈parts,∀ p∈q,zcH p) (hlen:f0+parts.length≤99999)
  (hf:∀ (i:Nat) q,parts[i]? = some q→∃ f,zh C.l (zb (f0+i))=some f∧bl f.all=za6 q):∀ i,i≤parts.length →
  zab (100000 - f0).toNat C f0 f0 []=zab ((100000 - f0).toNat - i) C (f0+i) (if i=0 then f0 else f0+i - 1) ((parts.take i).flatten)
 | 0,_=>by simp
 | i+1,hi=>by
  rw[zuo hd h1 hok hlen hf i oM];have hx:parts[i]? = some parts[i]:=Yb oM
  have hm:parts[i]∈parts:=Yai _;obtain⟨f,h2,h3⟩:=hf i _ hx;have htk:(parts.take (i+1)).flatten=(parts.take i).flatten++parts[i]:=by rw[Y1,hx,Ydi];simp
  generalize parts[i]=q at *;obtain⟨h4, -, -⟩:=zgD hd (zcI (k:=f0+(i:Int)) oM) h2
  have hsc:zay (za6 q)=q:=by
   have:=zAA (hok q hm) [];rw[Yt] at this;rw[this];have e0:zay ([]:List UInt8)=[]:=rfl
   rw[e0,Yt]
  rw[show (100000 - f0).toNat - i=((100000 - f0).toNat - (i+1))+1 by omega,zab,h4];dsimp only;rw[if_neg oM,if_neg oS,h3,hsc,zdU,if_neg oM,htk,if_neg oM];congr 1<;>omega
theorem zC9 (hp:PowW C) {size:Int} {E:zf} {nx la:Int} {all:List (List UInt8)}
  (he:zab (100000 - f0).toNat (removeAll C (za7 C fun k=>decide (k<f0))).1 f0 f0 []=(E,nx,la,all,0)) (hn:∀ f∈E.l,0<zcB f.name→¬nx≤zcB f.name):zbI C (L0 f0 size)=(E,{ L0 f0 size with last:=la },all,0):=by
 have hs2:za7 E (fun k=>decide (nx≤k))=[]:=zCD fun f hf h0=>decide_eq_false (hn f hf h0)
 have r1:=(zso hp fun k=>decide (k<f0)).1;unfold zbI;have he':zab (100000 - (L0 f0 size).first).toNat (removeAll C (za7 C fun k=>decide (k<(L0 f0 size).first))).1 (L0 f0 size).first (L0 f0 size).last []=(E,nx,la,all,0):=he
 have r1':(removeAll C (za7 C fun k=>decide (k<(L0 f0 size).first))).2=0:=r1;dsimp only;rw[if_neg (by omega),he'];dsimp only;rw[if_neg oS,hs2];rfl
def NmI (last:Int) (l:List FileR):Prop:=∀ f∈l,(∃ k:Int,1≤k∧k≤last∧f.name=zb k)∨zhE f.name
theorem NmI.less (h:NmI last C.l) (hl:LessD E C):NmI last E.l:=fun f hf=>by
 obtain⟨f',h1,h2⟩:=hl.nm f hf;have:=h f' h1
 rw[h2] at this;exact this
theorem NmI.num (h:NmI last l) (hl:last≤99999) {f:FileR} (hf:f∈l) (h0:0<zcB f.name):zcB f.name≤last∧f.name=zb (zcB f.name):=by
 rcases h f hf with ⟨k,h1,h2,h3⟩|h1
 ·rw[h3,zcd oM];exact⟨h2,rfl⟩
 ·rw[zgf h1] at h0;omega
set_option maxHeartbeats 1000000 in
theorem SegI.reopen (h:SegI f0 last l put safe) (hp:PowW C) (hl:last<90000) (hnm:NmI last C.l) (hc:∀ k,f0≤k→k≤last→CutAt (zh l (zb k)) (zh C.l (zb k))) (size:Int) :
  ∃ m E la,safe≤m∧m≤put.length∧zbI C (L0 f0 size)=(E,{ L0 f0 size with last:=la },put.take m,0)∧PowW E∧SegI f0 la E.l (put.take m) safe ∧
   (∀ n,(∀ k,okK k→n≠zb k)→zh E.l n=zh C.l n)∧(f0≤la∧la≤last)∧LessD E C∧(∀ f∈E.l,∀ k,okK k→k<f0→f.name≠zb k)∧((∀ k f f',f0≤k→k≤last→zh l (zb k)=some f→zh C.l (zb k)=some f'→bl f'.all=bl f.all)→m=put.length):=by
 obtain⟨parts,cur,h1,h2,h3,h4⟩:=h.seg;have hl1:=h.f1
 have hok:=h.ok;obtain⟨-, p1,p2,p3,p4⟩:=zso hp fun k=>decide (k<f0)
 have key:=fun {E:zf} {nx la:Int} {all:List (List UInt8)}=>zC9 (f0:=f0) hp (size:=size) (E:=E) (nx:=nx) (la:=la) (all:=all)
 obtain⟨B,hB⟩:=oI ((removeAll C (za7 C fun k=>decide (k<f0))).1);rw[←hB] at p1 p2 p3 p4 key;have hnB:NmI last B.l:=hnm.less p4
 have hlow:∀ {E:zf},LessD E B→∀ f∈E.l,∀ k,okK k→k<f0→f.name≠zb k:=fun {E} hE f hf k hk hlt e=>by
  obtain⟨f',g1,g2⟩:=hE.nm f hf;have g3:=p2 k hk
  rw[if_pos (by simp_all)] at g3;exact(findR_none.1 g3) f' g1 (g2.trans e)
 have hfB:∀ k,f0≤k→k≤last→zh B.l (zb k)=zh C.l (zb k):=fun k g1 g2=>by
  rw[p2 k ⟨by omega,by omega⟩,if_neg (by simp;omega)]
 have hcB:∀ k,f0≤k→k≤last→CutAt (zh l (zb k)) (zh B.l (zb k)):=fun k g1 g2=>by simp_all
 have hparts:∀ (i:Nat) q,parts[i]? = some q→∃ s,zh B.l (zb (f0+i))=some ⟨zb (f0+i),s,.empty⟩∧bl s=za6 q:=fun i q hq=>by
  have hi:=(Yu.1 hq).1;obtain⟨s,g1,g2⟩:=h3 i q hq;have g3:=hcB (f0+i) oM oM
  rw[g1] at g3;obtain⟨s',g4,g5⟩:=g3.whole;exact⟨s',g4,g5.trans g2⟩
 have hw:=zuo p1.down hl1.1 (fun q hq p hp=>hok p (by rw[h2];exact Ych _ (List.mem_flatten.2 ⟨q,hq,hp⟩))) oM (fun i q hq=>by
  obtain⟨s,g1,g2⟩:=hparts i q hq
  exact⟨_,g1,by unfold FileR.all;dsimp only;rw[zbv,zd5,Yt];exact g2⟩) parts.length (Yd _)
 rw[Yaj,show f0+(parts.length:Int)=last by omega] at hw;obtain⟨F,hF⟩:∃ F,(100000 - f0).toNat - parts.length=F+2:=⟨(100000 - f0).toNat - parts.length - 2,by omega⟩
 rw[hF] at hw;have hd:=p1.down
 rcases h4 with ⟨h5,h6,h7⟩|⟨s,t,j,h5,h6,h7,h8,h9⟩
 ·have hn:zh B.l (zb last)=none:=by
   have:=hcB last oM oM;rw[h5] at this;exact this.none'
  have hr:=zud hd (zcI oM) hn;rw[zab,if_pos (.inr hr)] at hw
  have hlast:∀ f∈B.l,0<zcB f.name→¬last≤zcB f.name:=fun f hf h0 hle=>by
   obtain⟨g1,g2⟩:=hnB.num oM hf h0;rw[show zcB f.name=last by omega] at g2;exact(findR_none.1 hn) f hf g2
  have hk:=key hw hlast;have hput:put.take put.length=put:=Yaj
  have hpf:put=parts.flatten:=by rw[h2,h6,Yt]
  refine⟨put.length,B,if parts.length=0 then f0 else last - 1,by simp_all,Yd _,by simp_all,p1,?_,p3,by omega,p4,hlow (.refl B),fun _=>rfl⟩;rw[hput];split
  ·rename_i h0;have hp0:parts=[]:=Y8 h0
   have e:f0=last:=by rw[h0] at h1;omega
   refine⟨hok,by omega,fun f hf=>?_,[],[],by simp,by simp_all,by simp,.inl ⟨by simp_all,rfl,by simp_all⟩⟩;rw[e];exact hnB f hf
  ·rename_i h0;obtain⟨ps,q,rfl⟩:∃ ps q,parts=ps++[q]:=⟨parts.dropLast,parts.getLast (by simp_all),(List.dropLast_concat_getLast _).symm⟩
   rw[Yi,Ybv] at h1;obtain⟨s,g1,g2⟩:=hparts ps.length q oS;have e:f0+(ps.length:Int)=last - 1:=by omega
   rw[e] at g1;refine⟨hok,by omega,fun f hf=>?_,ps,q,by omega,by simp_all,fun i q' hq=>?_,.inr ⟨s,.empty,q.length,g1,by rw[zd5,Yt];exact g2,Yd _,?_,?_⟩⟩
   ·rcases hnB f hf with ⟨k,q1,q2,q3⟩|q1
    ·by_cases hkl:k=last
     ·rw[hkl] at q3;exact absurd q3 ((findR_none.1 hn) f hf)
     ·grind
    ·simp_all
   ·have hi:=(Yu.1 hq).1;exact hparts i q' (by grind)
   ·rw[Yaj,←zdU,←g2,zbP];exact Yd _
   ·simp_all
 ·have hcl:=hcB last oM oM;rw[h5] at hcl;obtain⟨f,m,g1,g2,g3,g4,g5,g6, -⟩:=hcl.some';have hall:bl (FileR.all ⟨zb last,s,t⟩)=za6 cur:=by unfold FileR.all;dsimp only;rw[zbv,h6]
  rw[hall] at g4 g5;rw[zdU] at g5;dsimp only at g2 g3;obtain⟨j2,k1,k2,k3,k4⟩:=zCx (fun p hp=>hok p (by simp_all)) (ps:=cur) (m:=m) g5;have hsm:f.safe.size≤m:=by rw[←g6,all_size];omega
  have hj2:j≤j2:=k4 j h7 oM;obtain⟨r1,r2,r3⟩:=zgD hd (zcI oM) g1;have hrl:(bl f.all).length=m:=by rw[zbP,g6]
  have hrow:(za6 cur).take (zah (cur.take j2))=za6 (cur.take j2):=by
   have:za6 cur=za6 (cur.take j2)++za6 (cur.drop j2):=by rw[←zj2,Ycu]
   rw[this,Y4 (by rw[zdU];exact Yd _),Yf (by rw[zdU];exact Yd _)]
  have hto:put.take (parts.flatten.length+j2)=parts.flatten++cur.take j2:=by rw[h2,List.take_length_add_append]
  have hmm:(∀ k f f',f0≤k→k≤last→zh l (zb k)=some f→zh C.l (zb k)=some f'→bl f'.all=bl f.all)→j2=cur.length:=fun he=>by
   have e1:=he last _ f oM oM h5 (by simp_all);have e3:m=zah cur:=by rw[←hrl,e1,hall,zdU]
   have:=k4 cur.length (Yd _) (by grind);omega
  have hres:∀ {E:zf} (s' t':ByteArray),zab (100000 - f0).toNat B f0 f0 []=(E,last+1,last,parts.flatten++cur.take j2,0)→PowW E→LessD E B→(∀ n,n≠zb last→zh E.l n=zh B.l n) →
    zh E.l (zb last)=some ⟨zb last,s',t'⟩→bl s'++bl t'=za6 (cur.take j2)→zah (cur.take j)≤s'.size →
    ∃ m E la,safe≤m∧m≤put.length∧zbI C (L0 f0 size)=(E,{ L0 f0 size with last:=la },put.take m,0)∧PowW E∧SegI f0 la E.l (put.take m) safe ∧
     (∀ n,(∀ k,okK k→n≠zb k)→zh E.l n=zh C.l n)∧(f0≤la∧la≤last)∧LessD E C∧(∀ f∈E.l,∀ k,okK k→k<f0→f.name≠zb k)∧((∀ k f f',f0≤k→k≤last→zh l (zb k)=some f→zh C.l (zb k)=some f'→bl f'.all=bl f.all)→m=put.length):=fun {E} s' t' he hE hlE hfE hc1 hc2 hc3=>by
   have hnE:NmI last E.l:=hnB.less hlE
   have hk:=key he fun x hx h0 hle=>by
    have:=(hnE.num oM hx h0).1;omega
   refine⟨parts.flatten.length+j2,E,last,by omega,by simp_all,by rw[hk,hto],hE,?_,fun n hn=>?_,by omega,hlE.trans p4,hlow hlE,fun hh=>by rw[hmm hh,h2,Yi]⟩
   ·rw[hto];refine⟨fun q hq=>hok q ?_,hl1,hnE,parts,cur.take j2,h1,rfl,fun i q hq=>?_,.inr ⟨s',t',j,hc1,hc2,by simp_all,by grind,h9⟩⟩
    ·grind
    ·have hi:=(Yu.1 hq).1;rw[hfE _ (zlH oM oM oM)];exact hparts i q hq
   ·rw[hfE n (hn last ⟨by omega,by omega⟩)];exact p3 n hn
  by_cases hcut:zah (cur.take j2)<m
  ·obtain⟨c1,c2,c3⟩:=p1.cut (k:=last) ⟨by omega,by omega⟩ g1 (m:=zah (cur.take j2)) (by omega);have c4:=LessD.cut p1.inv (zb last) (zah (cur.take j2):Int)
   have hb:bl (f.all.extract 0 (zah (cur.take j2)))=za6 (cur.take j2):=by
    rw[zhF,g4,Yb0,Ybg (by omega),hrow]
   refine hres (E:=(zcp B (zb last) (zah (cur.take j2))).1) (f.all.extract 0 (zah (cur.take j2))) .empty ?_ c2 c4 (fun n hn=>by rw[c3,if_neg hn]) (by grind) (by rw[zd5,Yt];exact hb) ?_
   ·rw[hw,zab,r1];dsimp only;rw[if_neg oM,if_neg oS,g4,k2,←g4,hrl,if_pos hcut,if_neg (by simp[c1])]
   ·rw[←zbP,hb,zdU];have:cur.take j=(cur.take j2).take j:=by rw[Yb0,Ybg hj2]
    have e2:za6 (cur.take j2)=za6 ((cur.take j2).take j)++za6 ((cur.take j2).drop j):=by rw[←zj2,Ycu]
    rw[this,←zdU,←zdU,e2,Yi];omega
  ·have hme:zah (cur.take j2)=m:=by omega
   have hn2:zh B.l (zb (last+1))=none:=by
    rw[findR_none];intro x hx e;rcases hnB x hx with ⟨k,q1,q2,q3⟩|q1
    ·rw[q3] at e;exact zlH oM oM oM e
    ·rw[e] at q1;have:=zgf q1
     rw[zcd oM] at this;omega
   have hr2:=zud hd (zcI (k:=last+1) oM) hn2;obtain⟨n',s',t'⟩:=f;dsimp only at g2 g3;subst g2;refine hres (E:=B) s' t' ?_ p1 (.refl B) (fun n _=>rfl) g1 ?_ oM
   ·rw[hw,zab,r1];dsimp only;rw[if_neg oM,if_neg oS,g4,k2,←g4,hrl,if_neg hcut,zab,if_pos (.inr hr2)]
   ·rw[←hrow,hme,←g4];unfold FileR.all;rw[zbv]
end
section
def zcf (X:StW) (e:EvX):StW:=(zct X e.kind e.id e.p).1
def zdA (X:StW) (E:List EvX):StW:=E.foldl zcf X
def okW (X:StW):List EvX→Prop
 | []=>True
 | e::r=>zbB X e.kind e.id e.p.length=0∧okW (zcf X e) r
theorem zkb (X:StW) (E F:List EvX):zdA X (E++F)=zdA (zdA X E) F:=Ya0 ..
theorem okW_append:∀ {E F:List EvX} {X:StW},okW X (E++F)↔okW X E∧okW (zdA X E) F
 | [],F,X=>by simp[okW,zdA]
 | e::r,F,X=>by
  show (_∧okW _ (r++F))↔(_∧okW _ r)∧okW (zdA (zcf X e) r) F;rw[okW_append];constructor
  ·simp_all
  ·simp_all
theorem zEY {E:List EvX} {X:StW} (h:okW X E) (m:Nat):okW X (E.take m):=by
 rw[←Ycu m E] at h;exact(okW_append.1 h).1
theorem zyc {e:EvX} (h:zcn e=0):zb0 e=zx e:=by unfold zb0;rw[if_pos h]
theorem zsp:∀ {E:List EvX} {X:StW},okW X E→zdz X (E.map zx)=(zdA X E,0)
 | [],X,_=>rfl
 | e::r,X,h=>by
  have he:zcn e=0:=ziH h.1;obtain⟨b1,b2⟩:=back he;rw[zyc he] at b1 b2;have ha:(zct X e.kind e.id e.p).2=0:=by unfold zct;rw[if_pos h.1]
  rw[Yq,zdz,if_neg (by simp[b2]),b1,if_neg (by simp[ha])];exact zsp h.2
theorem zup (m:Mk):∀ l:List Mk,(zgQ m l).length≤l.length+1
 | []=>by simp[zgQ]
 | y::r=>by
  have:=zup m r;unfold zgQ
  repeat' split
  all_goals simp
  exact this
theorem zEZ (S:StR) (k:Int) (i:IdT) (p:List UInt8):(zai S k i p).l.length≤S.l.length+1∧(zai S k i p).epoch≤S.epoch+1:=by
 have:=Yat (fun m:zcF=>decide (m.id≠i)) S.l;unfold zai;split
 ·simp
 split
 ·grind
 split
 ·grind
 ·omega
theorem zI4 (X:StW) (e:EvX):(zcf X e).S.l.length≤X.S.l.length+1∧(zcf X e).sn.length≤X.sn.length+1∧(zcf X e).S.epoch≤X.S.epoch+1:=by
 unfold zcf zct;split
 ·obtain⟨h1,h2⟩:=zEZ X.S e.kind e.id e.p;refine⟨h1,?_,h2⟩;dsimp only;split
  ·exact zup _ _
  ·omega
 ·grind
theorem zDa:∀ (E:List EvX) (X:StW),(zdA X E).S.l.length≤X.S.l.length+E.length∧(zdA X E).sn.length≤X.sn.length+E.length∧(zdA X E).S.epoch≤X.S.epoch+E.length
 | [],X=>by simp[zdA]
 | e::r,X=>by
  have h1:=zDa r (zcf X e);have h2:=zI4 X e
  have h3:zdA X (e::r)=zdA (zcf X e) r:=rfl;rw[h3,Ym];omega
theorem zqi {e:EvX} (h:zcn e=0):(zx e).length≤55∧1≤(zx e).length:=by
 have h1:(zX e.id.o e.id.d e.id.e e.id.c).length=6:=by simp[zX,two]
 unfold zx;rw[Ym];split
 ·simp
 ·split
  ·rename_i h2;have:=(ziG h h2).2.2
   rw[Yi];omega
  ·omega
theorem zAT {e:EvX} (h:zcn e=0):zcH (zx e):=by
 have:=zqi h;unfold zcH;omega
theorem zHj {q:List UInt8} (h:zcH q):zgo q=0:=by
 unfold zcH at h;unfold zgo;rw[if_neg oM,if_neg oM]
end
section
variable {D D' D'':zf} {L:zaz} {ns ms:ByteArray→Prop} {a b u v:Nat}
def PowD (D:zf):Prop:=D.down=false∧D.left = -1
structure Turn (D D':zf) (ns:ByteArray→Prop) (a u:Nat):Prop where
 inv:InvD D'
 lim:D'.limit=D.limit
 len:D'.l.length≤D.l.length+a
 used:za0 D'.l≤za0 D.l+u
 find:∀ n,¬ns n→zh D'.l n=zh D.l n
 pow:PowD D→PowD D'
theorem Turn.refl (h:InvD D) (ns:ByteArray→Prop):Turn D D ns 0 0:=⟨h,rfl,Yd _,Yd _,fun _ _=>rfl,id⟩
theorem Turn.trans (h:Turn D D' ns a u) (h':Turn D' D'' ms b v):Turn D D'' (fun n=>ns n∨ms n) (a+b) (u+v):=
 ⟨h'.inv,h'.lim.trans h.lim,by have:=h.len;have:=h'.len;omega,by have:=h.used;have:=h'.used;omega,fun n hn=>by rw[h'.find n fun e=>hn (.inr e),h.find n fun e=>hn (.inl e)],fun hp=>h'.pow (h.pow hp)⟩
theorem Turn.more (h:Turn D D' ns a u) (hn:∀ n,ns n→ms n) (ha:a≤b) (hu:u≤v):Turn D D' ms b v:=
 ⟨h.inv,h.lim,by have:=h.len;omega,by have:=h.used;omega,fun n hm=>h.find n fun e=>hm (hn n e),h.pow⟩
theorem Turn.mem (h:Turn D D' ns a u) (hi:InvD D) {f:FileR} (hf:f∈D'.l):f∈D.l∨ns f.name:=by
 by_cases hn:ns f.name
 ·simp_all
 ·have:=h.find _ hn;rw[(zaC h.inv.sort).2 ⟨hf,rfl⟩] at this;exact .inl ((zaC hi.sort).1 this.symm).1
theorem PowD.changed (h:PowD D) (l:List FileR):PowD (zbb D l):=by
 unfold PowD zbb;dsimp only;rw[h.2];exact⟨by decide,by decide⟩
theorem Turn.sync (h:InvD D) (s:ByteArray):Turn D (zbz D s).1 (· = s) 0 0:=by
 have hi:=zot h s;revert hi;unfold zbz;split
 ·exact fun _ => .refl h _
 ·rename_i h0;intro hi;have hf:=(zcl (by simpa using h0)).2
  have:=zoF h.sort hf (f:=⟨s,(zq D s).all,.empty⟩) rfl;have he:ByteArray.empty.size=0:=rfl
  have hz:=all_size (zq D s);dsimp only at this;exact⟨hi,rfl,by show (za5 D.l _).length≤_;omega,by show za0 (za5 D.l _)≤_;omega,fun n hn=>(zdN h.sort _ n).trans (if_neg hn),fun hp=>hp.changed _⟩
theorem Turn.remove (h:InvD D) (s:ByteArray):Turn D (z7 D s).1 (· = s) 0 0:=by
 have hl:=LessD.remove h s;refine⟨zez h s,hl.lim,hl.len,hl.used,fun n hn=>zlo h hn,fun hp=>?_⟩;unfold z7;split
 ·exact hp
 ·exact hp.changed _
theorem Turn.append (h:InvD D) (s:ByteArray) (p:List UInt8):Turn D (zap D s p).1 (· = s) 1 p.length:=by
 have hi:=zqc h s p;revert hi;unfold zap;split
 ·exact fun _=>(Turn.refl h _).more (fun _=>id) oM oM
 split
 ·exact fun _=>(Turn.refl h _).more (fun _=>id) oM oM
 ·intro hi;have hp:(⟨p.toArray⟩:ByteArray).size=p.length:=by rw[←zbP,zmj]
  have hn:(za5 D.l ⟨s,(zq D s).safe,(zq D s).tail++⟨p.toArray⟩⟩).length≤D.l.length+1∧za0 (za5 D.l ⟨s,(zq D s).safe,(zq D s).tail++⟨p.toArray⟩⟩)≤za0 D.l+p.length:=by
   have hz:((zq D s).tail++(⟨p.toArray⟩:ByteArray)).size=(zq D s).tail.size+p.length:=by rw[←zbP,zbv,Yi,zbP,zmj]
   cases hf:zh D.l s with
   | none=>
    have e:zq D s=⟨s,.empty,.empty⟩:=by unfold zq;rw[hf];rfl
    have he:ByteArray.empty.size=0:=rfl;rw[e] at hz ⊢;dsimp only at hz ⊢;unfold za5;dsimp only;rw[zfL hf,zik,zkA];dsimp only;omega
   | some x=>
    have e:zq D s=x:=by unfold zq;rw[hf];rfl
    rw[e] at hz ⊢;have:=zoF h.sort hf (f:=⟨s,x.safe,x.tail++⟨p.toArray⟩⟩) rfl
    dsimp only at this;omega
  exact⟨hi,rfl,hn.1,hn.2,fun n hn=>(zdN h.sort _ n).trans (if_neg hn),fun hp=>hp.changed _⟩
theorem zHk (h:InvD D) (hd:D.down=false) {s:ByteArray} (hs:zbZ s=true) {f:FileR} (hf:zh D.l s=some f):(zbz D s).2=0∧zh (zbz D s).1.l s=some ⟨s,f.all,.empty⟩:=by
 obtain⟨-, h2,h3⟩:=zgD hd hs hf;unfold zbz;rw[if_neg (by simp[h2]),h3];exact⟨rfl,(zdN h.sort _ s).trans (if_pos rfl)⟩
theorem zDb (h:InvD D) (hd:D.down=false) {s:ByteArray} (hs:zbZ s=true) {p:List UInt8} (h1:za0 D.l+p.length≤D.limit) (h2:D.l.length<64) :
  (zap D s p).2=0∧zh (zap D s p).1.l s=some ⟨s,(zq D s).safe,(zq D s).tail++⟨p.toArray⟩⟩:=by
 have hr:zaM D s=0:=by unfold zaM;simp[hd,hs]
 unfold zap;rw[if_neg (by simp[hr]),if_neg oM];exact⟨rfl,(zdN h.sort _ s).trans (if_pos rfl)⟩
theorem zDc (h:InvD D) (hd:D.down=false) {s:ByteArray} (hs:zbZ s=true) {f:FileR} (hf:zh D.l s=some f):(z7 D s).2=0∧zh (z7 D s).1.l s=none:=by
 obtain⟨-, h2,h3⟩:=zgD hd hs hf;unfold z7;rw[if_neg (by simp[h2])];exact⟨rfl,(zgI h.sort s s).trans (if_pos rfl)⟩
theorem zAU (hd:D.down=true) (s:ByteArray):zaM D s=9∧zat D s=9:=by
 have h:zaM D s=9:=by unfold zaM;rw[if_pos hd]
 exact⟨h,by unfold zat;rw[if_pos (by rw[h];decide),h]⟩
theorem zyd (hd:D.down=true) (s:ByteArray) (p:List UInt8):zap D s p=(D,9):=by
 unfold zap;rw[(zAU hd s).1,if_pos oD]
theorem zsq (hf:L.failed=false) {e:Int} (he:e≠9):zdw L e=L:=by
 obtain⟨a,b,c,d⟩:=L;dsimp only at hf;subst hf;unfold zdw;dsimp only;rw[decide_eq_false he];rfl
theorem zoG (hd:D.down=false) {k:Int} (hk:1≤k∧k≤99999):zcP D k=match zh D.l (zb k) with|some f=>f.all.size|none=>0:=by
 unfold zcP;rw[if_neg (by simp[hd]),zju hd (zcI hk)];cases zh D.l (zb k) with
 | none=>rfl
 | some f=>rfl
theorem zsr (h:InvD D) (hf:L.failed=false) (hl:1≤L.last∧L.last≤99999):Turn D (syncL D L).1 (· = zb L.last) 0 0 ∧
  ((D.down=true∧(syncL D L).1=D∧(syncL D L).2.1=zdw L 9∧(syncL D L).2.2=9)∨(D.down=false∧(syncL D L).2.1=L∧(syncL D L).2.2=0 ∧
   ((zh D.l (zb L.last)=none∧(syncL D L).1=D)∨∃ f,zh D.l (zb L.last)=some f∧((f.tail = .empty∧(syncL D L).1=D)∨zh (syncL D L).1.l (zb L.last)=some ⟨zb L.last,f.all,.empty⟩)))):=by
 unfold syncL;rw[if_neg (by simp[hf])];split
 ·rename_i hd;exact⟨.refl h _,.inl ⟨hd,rfl,rfl,rfl⟩⟩
 ·rename_i hd;have hd':D.down=false:=by simpa using hd
  split
  ·rename_i he;refine⟨.refl h _,.inr ⟨hd',rfl,rfl,?_⟩⟩;rw[zoG hd' hl] at he;cases hx:zh D.l (zb L.last) with
   | none=>simp
   | some f=>
    refine .inr ⟨f,rfl,.inl ⟨?_,rfl⟩⟩;rw[hx] at he;unfold zgN at he;rw[hx] at he;dsimp only at he;rw[all_size] at he;exact zuc oM
  ·rename_i he;refine⟨.sync h _,?_⟩;rw[zoG hd' hl] at he;cases hx:zh D.l (zb L.last) with
   | none=>
    rw[hx] at he;unfold zgN at he;rw[hx] at he;exact absurd rfl he
   | some f=>
    obtain⟨h1,h2⟩:=zHk h hd' (zcI hl) hx;exact .inr ⟨hd',by dsimp only;rw[h1];exact zsq hf oD,h1,.inr ⟨f,rfl,.inr h2⟩⟩
theorem zye (h:InvD D) (hf:L.failed=false) (hl:1≤L.last∧L.last<99999):Turn D (beginL D L).1 (· = zb L.last) 0 0 ∧
  ((D.down=true∧(beginL D L).2.2.2=9∧(beginL D L).2.1=zdw L 9)∨(D.down=false∧(beginL D L).2.2.2=0∧(beginL D L).2.2.1=(beginL D L).2.1.last ∧
   ((zcP D L.last=0∧(beginL D L).2.1=L∧(zh D.l (zb L.last)=none→(beginL D L).1=D))∨(0<zcP D L.last∧(beginL D L).2.1={ L with last:=L.last+1 })))):=by
 obtain⟨h1,h2⟩:=zsr h hf oM;unfold beginL;rcases h2 with ⟨a1,a2,a3,a4⟩|⟨a1,a2,a3,a4⟩
 ·simp_all
 ·rw[if_neg (by simp[a3])]
  have hlen:(zcP (syncL D L).1 L.last=0)=(zcP D L.last=0):=by
   rcases a4 with ⟨b1,b2⟩|⟨f,b1,⟨b2,b3⟩|b2⟩
   ·rw[b2]
   ·rw[b3]
   ·rw[zoG a1 oM,b1];unfold zcP;split
    ·unfold zgN;rw[b2]
    ·rename_i hd;have e:FileR.all ⟨zb L.last,f.all,.empty⟩=f.all:=zlF (by unfold FileR.all;rw[zbv,zd5,Yt])
     rw[zju (by simpa using hd) (zcI oM),b2];dsimp only;rw[e]
  split
  ·grind
  ·grind
theorem zwW (h:InvD D) (hf:L.failed=false) (hl:1≤L.last∧L.last<99999) {q:List UInt8} (hq:zcH q) (hr:za0 D.l+(zag q).length≤D.limit) (hn:D.l.length<64) :
  Turn D (z8 D L q).1 (fun n=>n=zb L.last∨n=zb (L.last+1)) 1 (zag q).length∧(z8 D L q).2.1.first=L.first∧(L.last≤(z8 D L q).2.1.last∧(z8 D L q).2.1.last≤L.last+1) ∧
  (((z8 D L q).2.2=9∧¬PowD D)∨((z8 D L q).2.2=0∧(z8 D L q).2.1.failed=false∧∃ f,zh (z8 D L q).1.l (zb (z8 D L q).2.1.last)=some f∧0<f.all.size)):=by
 unfold z8;rw[if_neg (by simp[hf]),zHj hq,if_neg oD];split
 ·rename_i hd;exact⟨(Turn.refl h _).more (fun _=>id) oM oM,rfl,by unfold zdw;dsimp only;omega,.inl ⟨rfl,fun hp=>by rw[hp.1] at hd;cases hd⟩⟩
 rename_i hd;have hd':D.down=false:=by simpa using hd
 obtain⟨r,hrm⟩:=oI (zbA D L (zag q).length)
 have hroom:Turn D r.1 (· = zb L.last) 0 0∧r.2.2=0∧r.2.1.failed=false∧r.2.1.first=L.first∧L.last≤r.2.1.last∧r.2.1.last≤L.last+1:=by
  rw[hrm];unfold zbA;split
  ·obtain⟨b1,b2⟩:=zye h hf hl;rcases b2 with ⟨c1,_⟩|⟨_,c2,_,c4⟩
   ·simp_all
   ·grind
  ·exact⟨.refl h _,rfl,hf,rfl,by simp,by grind⟩
 rw[←hrm];obtain⟨t1,t2,t3,t4,t5,t6⟩:=hroom;rw[if_neg (by simp[t2])];have ht:=(t1.trans (Turn.append t1.inv (zb r.2.1.last) (zag q))).more (ms:=fun n=>n=zb L.last∨n=zb (L.last+1)) (b:=1) (v:=(zag q).length) (fun n hn=>by grind) oM oM
 refine⟨ht,t4,⟨t5,t6⟩,?_⟩;cases hd2:r.1.down
 ·obtain⟨c1,c2⟩:=zDb t1.inv hd2 (zcI (k:=r.2.1.last) oM) (p:=zag q) (by rw[t1.lim];have:=t1.used;omega) (by have:=t1.len;omega);refine .inr ⟨c1,by dsimp only;rw[c1,zsq t3 oD];exact t3,_,c2,?_⟩;rw[←zbP];unfold FileR.all;dsimp only;rw[zbv,zbv,zmj (zag q),Yi,Yi,zd4];omega
 ·rw[zyd hd2];exact .inl ⟨rfl,fun hp=>by rw[(t1.pow hp).1] at hd2;cases hd2⟩
end
section
variable {D D':zf} {C:CuR} {k0 last:Int} {E0 E1:List EvX} {s n:Nat} {ns:ByteArray→Prop} {a u:Nat}
structure Par where
 me:Int
 qh:Int
 qb:Int
 qg:Int
 seg:Int
variable {P:Par}
def Par.x0 (P:Par):StW:=⟨zli P.me P.qh P.qb P.qg,[]⟩
theorem zo1 {j k:Int} (hj:okK j) (hk:okK k):zar j≠zb k:=fun e=>by
 unfold okK at hj hk;have:=zgf (zwv (k:=j) oM)
 rw[e,zcd oM] at this;omega
theorem zI5 {k:Int} (hk:okK k):zff≠zb k:=fun e=>by
 unfold okK at hk;have:=zgf (e▸zID:zhE (zb k))
 rw[zcd oM] at this;omega
theorem zGa {k:Int} (hk:okK k):zff≠zar k:=fun e=>by
 unfold okK at hk;rw[zfT oM] at e;have:=congrArg ByteArray.size e
 exact absurd this (by show ¬(1=6);decide)
structure RecI (P:Par) (D:zf) (k0:Int) (E0 E1:List EvX) (last:Int) (s:Nat):Prop where
 inv:InvD D
 nm:NamesC D
 seg:SegI (max k0 1) last D.l (E1.map zx) s
 ok:okW P.x0 (E0++E1)
 snap:k0=0∧E0=[]∧∀ f∈D.l,∀ k,okK k→f.name≠zar k
structure Cnt (n:Nat) (D:zf) (last:Int) (m:Nat):Prop where
 files:D.l.length≤n
 used:za0 D.l≤1000*n
 last:last≤n
 evs:m≤n
 lim:D.limit=100000
structure LiveB (P:Par) (n:Nat) (C:CuR) (E0 E1:List EvX) (s:Nat):Prop where
 rc:RecI P C.D C.w.snap E0 E1 C.L.last s
 cnt:Cnt n C.D C.L.last (E0++E1).length
 X:C.X=zdA P.x0 (E0++E1)
 up:C.w.failed=false∧C.L.failed=false∧C.w.spent=false
 first:C.L.first=max C.w.snap 1
 lg:LgOk C.L
 own:∀ f∈C.D.l,(∃ k,C.L.first≤k∧k≤C.L.last∧f.name=zb k)∨(okK C.w.snap∧f.name=zar C.w.snap)
structure zjx (P:Par) (n:Nat) (C:CuR) (E0 E1:List EvX) (s:Nat):Prop extends LiveB P n C E0 E1 s where
 cur:(E1=[]∧C.L.last=C.w.snap∧zh C.D.l (zb C.L.last)=none)∨∃ f,zh C.D.l (zb C.L.last)=some f∧0<f.all.size
def RecD (P:Par) (n:Nat) (D:zf) (E0 E1:List EvX) (s:Nat):Prop:=∃ k0 last,RecI P D k0 E0 E1 last s∧Cnt n D last (E0++E1).length
theorem RecI.rng (h:RecI P D k0 E0 E1 last s):0≤k0∧k0≤99999:=by
 have:=h.snap.1;omega
theorem RecI.turn2 (h:RecI P D k0 E0 E1 last s) (ht:Turn D D' ns a u) (h0:okK k0→¬ns (zar k0)) (hin:∀ f∈D'.l,∀ k,okK k→f.name=zar k→f∈D.l) (hnm:NamesC D') {E1':List EvX} {last':Int} {s':Nat} (hseg:SegI (max k0 1) last' D'.l (E1'.map zx) s') (hok:okW P.x0 (E0++E1')):RecI P D' k0 E0 E1' last' s':=by
 refine⟨ht.inv,hnm,hseg,hok,?_⟩;obtain⟨e1,e2,e3⟩:=h.snap;exact⟨e1,e2,fun f hf k hk e=>e3 f (hin f hf k hk e) k hk e⟩
theorem RecI.turn (h:RecI P D k0 E0 E1 last s) (ht:Turn D D' ns a u) (hns:∀ j,okK j→¬ns (zar j)) (hnm:NamesC D') {E1':List EvX} {last':Int} {s':Nat} (hseg:SegI (max k0 1) last' D'.l (E1'.map zx) s') (hok:okW P.x0 (E0++E1')):RecI P D' k0 E0 E1' last' s':=
 h.turn2 ht (hns k0) (fun _ hf k hk e=>(ht.mem h.inv hf).resolve_right fun hn=>hns k hk (e▸hn)) hnm hseg hok
theorem Cnt.turn {m m':Nat} {last':Int} (h:Cnt n D last m) (ht:Turn D D' ns a u) (ha:a≤1) (hu:u≤1000) (hl:last'≤last+1) (hm:m'≤m+1):Cnt (n+1) D' last' m':=
 ⟨by have:=ht.len;have:=h.files;omega,by have:=ht.used;have:=h.used;omega,by have:=h.last;omega,by have:=h.evs;omega,ht.lim.trans h.lim⟩
theorem LiveB.evs (h:LiveB P n C E0 E1 s):C.X.S.l.length≤n∧C.X.sn.length≤n∧C.X.S.epoch≤n:=by
 have h1:=zDa (E0++E1) P.x0;have h2:=h.cnt.evs
 rw[←h.X] at h1;have e1:P.x0.S.l.length=0:=rfl
 have e2:P.x0.sn.length=0:=rfl;have e3:P.x0.S.epoch=0:=rfl
 omega
theorem zqj (C:CuR) (e:EvX) (h:zbB C.X e.kind e.id e.p.length=0):zlJ C e.kind e.id e.p=({ C with X:=zcf C.X e },0):=by
 unfold zlJ zcf zct;rw[if_pos h]
theorem zwX (h:LiveB P n C E0 E1 s) (ht:Turn C.D D' (fun n=>n=zb C.L.last∨n=zb (C.L.last+1)) a u) {last':Int} (hl:C.L.last≤last') (hl2:C.L.last<99999) {E1':List EvX} {s':Nat} (hseg:SegI (max C.w.snap 1) last' D'.l (E1'.map zx) s') :
  ∀ f∈D'.l,(∃ k,C.L.first≤k∧k≤last'∧f.name=zb k)∨(okK C.w.snap∧f.name=zar C.w.snap):=fun f hf=>by
 have hf1:=h.first;have hs1:=h.rc.seg.f1
 have hs2:=hseg.f1;rcases ht.mem h.rc.inv hf with hf2|hf2
 ·rcases h.own f hf2 with ⟨k,b1,b2,b3⟩|b
  ·exact .inl ⟨k,b1,by omega,b3⟩
  ·exact .inr b
 ·rcases hseg.names f hf with ⟨k,b1,b2,b3⟩|b
  ·refine .inl ⟨k,?_,b2,b3⟩;rcases hf2 with e|e
   ·have:=zj3 (j:=k) (k:=C.L.last) oM oM (b3▸e);omega
   ·have:=zj3 (j:=k) (k:=C.L.last+1) oM oM (b3▸e);omega
  ·exfalso;have:=zgf b
   rcases hf2 with e|e
   ·rw[e,zcd oM] at this;omega
   ·rw[e,zcd oM] at this;omega
theorem zwY {w:CuW} (h:w.failed=false) {e:Int} (he:e≠9):zir w e=w:=by
 obtain⟨a,b,c⟩:=w;dsimp only at h;subst h;unfold zir;dsimp only;rw[decide_eq_false he];rfl
set_option maxHeartbeats 1000000 in
theorem LiveB.put (h:LiveB P n C E0 E1 s) (hn:n≤62) (e:EvX) (safely:Bool) {r:CuR×Int} (hr:r=zad C e.kind e.id e.p safely) :
  (zbB C.X e.kind e.id e.p.length≠0∧r=(C,zbB C.X e.kind e.id e.p.length)) ∨
  (zbB C.X e.kind e.id e.p.length=0∧r.2=0∧(∃ s',zjx P (n+1) r.1 E0 (E1++[e]) s'∧s≤s'∧(safely=true→s'=E1.length+1))∧(PowD C.D→PowD r.1.D)∧r.1.w=C.w) ∨
  (zbB C.X e.kind e.id e.p.length=0∧r.2=9∧¬PowD C.D∧r.1.w.failed=true∧r.1.X=C.X∧(RecD P (n+1) r.1.D E0 E1 s∨RecD P (n+1) r.1.D E0 (E1++[e]) s)):=by
 obtain⟨u1,u2,u3⟩:=h.up;unfold zad at hr;rw[if_neg (by simp[u1])] at hr;by_cases hm:zbB C.X e.kind e.id e.p.length=0
 case neg=>rw[if_pos hm] at hr;exact .inl ⟨hm,hr⟩
 rw[if_neg (by simp[hm])] at hr;have hev:zcn e=0:=ziH hm
 have hq:=zAT hev;have hql:=(zqi hev).1
 have hpl:=zd4 (zx e);have hc:=h.cnt
 have hl1:=h.rc.seg.f1;have hlast:=hc.last
 obtain⟨t1,t2,t3,t4⟩:=zwW (D:=C.D) (L:=C.L) (q:=zx e) h.rc.inv u2 oM hq (by have:=hc.used;have:=hc.lim;omega) (by have:=hc.files;omega);obtain⟨s1,s2, -⟩:=h.rc.seg.append h.rc.inv (zx e);obtain⟨m1,m2⟩:=zsg h.rc.nm h.lg (zx e)
 have hns:∀ j,okK j→¬(fun n=>n=zb C.L.last∨n=zb (C.L.last+1)) (zar j):=fun j hj hh=>by
  rcases hh with hh|hh
  ·exact zo1 hj ⟨by omega,by omega⟩ hh
  ·exact zo1 hj ⟨by omega,by omega⟩ hh
 have hok:okW P.x0 (E0++(E1++[e])):=by
  rw[←Yr];refine okW_append.2 ⟨h.rc.ok,?_,trivial⟩;rw[←h.X];exact hm
 have hmap:(E1++[e]).map zx=E1.map zx++[zx e]:=by simp
 obtain⟨A,hA⟩:=oI (z8 C.D C.L (zx e));have hApp:ziW C (zx ⟨e.kind,e.id,e.p⟩)=({ C with D:=A.1,L:=A.2.1,w:=zir C.w A.2.2 },A.2.2):=by unfold ziW;rw[hA]
 have hApp2:(ziW C (zx ⟨e.kind,e.id,e.p⟩)).2=A.2.2:=by rw[hApp]
 rw[←hA] at t1 t2 t3 t4 s1 s2 m1 m2;rw[hApp2,hApp] at hr;rcases t4 with ⟨w1,w2⟩|⟨w1,w2,w3⟩
 ·rw[if_pos (by rw[w1];decide)] at hr;refine .inr (.inr ⟨hm,by rw[hr];exact w1,w2,by rw[hr];show (C.w.failed||decide (A.2.2=9))=true;rw[w1];simp,by rw[hr],.inl ?_⟩);rw[hr];exact⟨_,_,h.rc.turn t1 hns m1 (s2 (by rw[w1];decide)) h.rc.ok,hc.turn t1 oM oM t3.2 oM⟩
 rw[if_neg (by simp[w1])] at hr;have hw:zir C.w A.2.2=C.w:=zwY u1 (by rw[w1];decide)
 rw[hw] at hr;have g1:=s1 w1
 rw[←hmap] at g1;have hm2:(E0++(E1++[e])).length≤(E0++E1).length+1:=by simp;omega
 have r1:RecI P A.1 C.w.snap E0 (E1++[e]) A.2.1.last s:=h.rc.turn t1 hns m1 g1 hok;have c1:Cnt (n+1) A.1 A.2.1.last (E0++(E1++[e])).length:=hc.turn t1 oM oM t3.2 hm2
 have hX:zcf C.X e=zdA P.x0 (E0++(E1++[e])):=by rw[←Yr,zkb,←h.X];rfl
 cases safely with
 | false=>
  rw[if_neg oD] at hr;replace hr:=hr.trans (zqj { C with D:=A.1,L:=A.2.1 } e hm);refine .inr (.inl ⟨hm,by rw[hr],⟨s,?_,Yd _,fun h=>by cases h⟩,by rw[hr];exact t1.pow,by rw[hr]⟩);rw[hr];exact⟨⟨r1,c1,hX,⟨u1,w2,u3⟩,t2.trans h.first,m2,by dsimp only;rw[t2];exact zwX h t1 t3.1 oM g1⟩,.inr w3⟩
 | true=>
  rw[if_pos rfl] at hr;have hAl:1≤A.2.1.last∧A.2.1.last≤99999:=by omega
  obtain⟨y1,y2⟩:=zsr (D:=A.1) (L:=A.2.1) t1.inv w2 hAl;obtain⟨z1,z2⟩:=g1.sync t1.inv;have z3:=m1.syncL A.2.1
  have z4:=m2.sync A.1
  have y3:=(t1.trans y1).more (ms:=fun n=>n=zb C.L.last∨n=zb (C.L.last+1)) (b:=1) (v:=(zag (zx e)).length) (fun n hn=>by
   rcases hn with hn|hn
   ·exact hn
   ·rcases(show A.2.1.last=C.L.last∨A.2.1.last=C.L.last+1 by omega) with e2|e2
    ·rw[e2] at hn;exact .inl hn
    ·rw[e2] at hn;exact .inr hn) oM oM
  obtain⟨B,hB⟩:=oI (syncL A.1 A.2.1);have hSy:zgR { C with D:=A.1,L:=A.2.1 }=({ C with D:=B.1,L:=B.2.1,w:=zir C.w B.2.2 },B.2.2):=by unfold zgR;rw[hB]
  rw[←hB] at y1 y2 y3 z1 z2 z3 z4;have hSy2:(zgR { C with D:=A.1,L:=A.2.1 }).2=B.2.2:=by rw[hSy]
  rw[hSy2,hSy] at hr
  have hBl:B.2.1.last=A.2.1.last:=by
   rcases y2 with ⟨_,_,y,_⟩|⟨_,y,_⟩
   ·rw[y];rfl
   ·rw[y]
  rcases y2 with ⟨q1,q2,q3,q4⟩|⟨q1,q2,q3,q4⟩
  ·rw[if_pos (by rw[q4];decide)] at hr;refine .inr (.inr ⟨hm,by rw[hr];exact q4,(fun hp=>by rw[(t1.pow hp).1] at q1;cases q1),by rw[hr];show (C.w.failed||decide (B.2.2=9))=true;rw[q4];simp,by rw[hr],.inr ?_⟩);rw[hr];dsimp only;rw[q2];exact⟨_,_,r1,c1⟩
  ·have hw2:zir C.w B.2.2=C.w:=zwY u1 (by rw[q3];decide);rw[if_neg (by simp[q3]),hw2] at hr;replace hr:=hr.trans (zqj { C with D:=B.1,L:=B.2.1 } e hm);have z5:=z1.full (z2 q3)
   rw[←hBl] at z5;have hlen:((E1++[e]).map zx).length=E1.length+1:=by simp
   rw[hlen] at z5;have hs:s≤E1.length+1:=by have:=g1.safe_le;rw[hlen] at this;exact this
   refine .inr (.inl ⟨hm,by rw[hr],⟨E1.length+1,?_,hs,fun _=>rfl⟩,by rw[hr];exact y3.pow,by rw[hr]⟩);rw[hr];refine⟨⟨h.rc.turn y3 hns z3 z5 hok,hc.turn y3 oM oM (by dsimp only;rw[hBl];exact t3.2) hm2,hX,⟨u1,by dsimp only;rw[q2];exact w2,u3⟩,by dsimp only;rw[q2,t2];exact h.first,z4,?_⟩,.inr ?_⟩
   ·dsimp only;rw[q2,t2];exact zwX h y3 t3.1 oM (q2▸z5)
   ·dsimp only;rw[q2];obtain⟨f,f1,f2⟩:=w3;rcases q4 with ⟨o1,o2⟩|⟨x,o1,⟨o2,o3⟩|o2⟩
    ·rw[f1] at o1;cases o1
    ·rw[o3];exact⟨f,f1,f2⟩
    ·rw[f1] at o1;cases o1;refine⟨_,o2,?_⟩;have e:FileR.all ⟨zb A.2.1.last,f.all,.empty⟩=f.all:=zlF (by unfold FileR.all;rw[zbv,zd5,Yt])
     rw[e];exact f2
end
section
variable {C D E T:zf} {k0 last:Int} {E0 E1:List EvX} {s n:Nat} {P:Par}
theorem zDd (hi:InvD C) (hn:NamesC C) {k:Int}:k∈zgC C↔okK k∧∃ f,zh C.l (zar k)=some f:=by
 unfold zgC;rw[Ya3,Yj];constructor
 ·rintro ⟨⟨f,hf,rfl⟩,hk⟩;have h0:=Zd0 hk
  obtain⟨k,h1,h2,h3⟩:=(hn.num hf).resolve_right fun h6=>by have:=h6.2;omega
  rw[h3];exact⟨⟨by omega,by omega⟩,f,(zaC hi.sort).2 ⟨hf,h2⟩⟩
 ·rintro ⟨hk,f,hf⟩;obtain⟨h1,h2⟩:=(zaC hi.sort).1 hf;unfold okK at hk;exact⟨⟨f,h1,by rw[h2,zsd oM]⟩,decide_eq_true oM⟩
structure CutD (D C:zf):Prop where
 inv:InvD C
 pow:PowD C
 lim:C.limit=D.limit
 cut:∀ n,CutAt (zh D.l n) (zh C.l n)
 len:C.l.length≤D.l.length
 used:za0 C.l≤za0 D.l
theorem CutD.refl (h:InvD D) (hp:PowD D):CutD D D:=⟨h,hp,rfl,fun _ => .refl _,Yd _,Yd _⟩
theorem CutD.nm (h:CutD D C) (hi:InvD D):∀ f∈C.l,∃ f'∈D.l,f'.name=f.name:=fun f hf=>by
 have h1:=h.cut f.name;rw[(zaC h.inv.sort).2 ⟨hf,rfl⟩] at h1;cases hx:zh D.l f.name with
 | none=>rw[hx] at h1;exact h1.elim
 | some f'=>exact⟨f',((zaC hi.sort).1 hx).1,((zaC hi.sort).1 hx).2⟩
@[reducible] def bootX:EvX:=⟨1,zaV,[]⟩
theorem NamesC.less (h:NamesC C) (hl:∀ f∈E.l,∃ f'∈C.l,f'.name=f.name):NamesC E:=fun f hf=>by
 obtain⟨f',h1,h2⟩:=hl f hf;have:=h f' h1
 rw[h2] at this;exact this
theorem zDe (hi:InvD C) (hp:PowD C):(zbE C).2=0∧InvD (zbE C).1∧PowD (zbE C).1∧LessD (zbE C).1 C∧(∀ n,n≠zff→zh (zbE C).1.l n=zh C.l n)∧zh (zbE C).1.l zff=none:=by
 unfold zbE;split
 ·rename_i h
  have hf:∃ f,zh C.l zff=some f:=by
   rw[Yb7] at h;obtain⟨f,h1,h2⟩:=h;exact⟨f,(zaC hi.sort).2 ⟨h1,Zd0 h2⟩⟩
  obtain⟨f,hf⟩:=hf;obtain⟨g1,g2⟩:=zDc hi hp.1 (s:=zff) oD hf;have t:=Turn.remove hi zff
  exact⟨g1,t.inv,t.pow hp,.remove hi _,t.find,g2⟩
 ·rename_i h;refine⟨rfl,hi,hp,.refl C,fun _ _=>rfl,?_⟩;rw[findR_none];intro f hf e;exact h (Yb7.2 ⟨f,hf,decide_eq_true e⟩)
set_option maxHeartbeats 1000000 in
theorem RecD.open (h:RecD P n D E0 E1 s) (hn:n≤60) (hC:CutD D C) (hb:¬zcN P.me P.qh P.qb P.qg) (hseg:16≤P.seg∧P.seg≤1048576) :
  ∃ ld m,ld=none∧s≤m∧m≤E1.length∧Ld (zbE C).1 P.me P.qh P.qb P.qg ld∧(za1 C P.me P.qh P.qb P.qg P.seg ld).2=0∧zjx P (n+1) (za1 C P.me P.qh P.qb P.qg P.seg ld).1 E0 (E1.take m++[bootX]) (m+1)∧PowD (za1 C P.me P.qh P.qb P.qg P.seg ld).1.D ∧
   ((∀ n f f',zh D.l n=some f→zh C.l n=some f'→bl f'.all=bl f.all)→m=E1.length):=by
 obtain⟨k0,last,hr,hc⟩:=h;obtain⟨w1,w2,w3,w4,w5,w6⟩:=zDe hC.inv hC.pow;obtain⟨S,hS⟩:=oI ((zbE C).1);have hD:C.down=false:=hC.pow.1
 have hl1:=hr.seg.f1;have hlast:=hc.last
 have hk0:=hr.rng;rw[←hS] at w2 w3 w4 w5 w6 ⊢;have nmC:NamesC C:=hr.nm.less (hC.nm hr.inv)
 have nmS:NamesC S:=nmC.less w4.nm
 have hop:∀ ld,za1 C P.me P.qh P.qb P.qg P.seg ld=zoY S P.me P.qh P.qb P.qg P.seg ld:=fun ld=>by
  unfold za1;rw[if_neg hb,if_neg oM,if_neg (by simp[hD]),if_neg (by simp[w1]),hS]
 have hld:∃ ld,ld=none∧Ld S P.me P.qh P.qb P.qg ld∧(ldD S ld).2=0∧InvD (ldD S ld).1∧PowD (ldD S ld).1∧LessD (ldD S ld).1 S∧ldW ld=⟨k0,false,false⟩∧ldX P.me P.qh P.qb P.qg ld=zdA P.x0 E0 ∧
   (∀ n,(∀ k,okK k→n≠zar k)→zh (ldD S ld).1.l n=zh S.l n)∧(okK k0→zh (ldD S ld).1.l (zar k0)=zh S.l (zar k0))∧(∀ k,okK k→k≠k0→zh (ldD S ld).1.l (zar k)=none):=by
  have hsnS:∀ k,okK k→zh S.l (zar k)=zh C.l (zar k):=fun k hk=>w5 _ (zGa hk).symm
  have hmax:∀ k,okK k→(∃ f,zh S.l (zar k)=some f)→∃ f∈D.l,f.name=zar k:=fun k hk ⟨f,hf⟩=>by
   rw[hsnS k hk] at hf;obtain⟨f1,f2⟩:=(zaC hC.inv.sort).1 hf;obtain⟨f',g1,g2⟩:=hC.nm hr.inv f f1;exact⟨f',g1,g2.trans f2⟩
  obtain⟨e1,e2,e3⟩:=hr.snap
  have hno:∀ k,okK k→zh S.l (zar k)=none:=fun k hk=>by
   cases hx:zh S.l (zar k) with
   | none=>rfl
   | some f=>
    obtain⟨f',g1,g2⟩:=hmax k hk ⟨f,hx⟩;exact absurd g2 (e3 f' g1 k hk)
  have hs0:zgC S=[]:=List.eq_nil_iff_forall_not_mem.2 fun k hk=>by
   obtain⟨a1,f,a2⟩:=(zDd w2 nmS).1 hk;rw[hno k a1] at a2;cases a2
  exact⟨none,rfl,hs0,rfl,w2,w3,.refl S,by rw[e1];rfl,by rw[e2];rfl,fun _ _=>rfl,fun _=>rfl,fun k hk _=>hno k hk⟩
 obtain⟨ld,l0,l1,l2,l3,l4,l5,l6,l7,l8,l9,l10⟩:=hld;obtain⟨T,hT⟩:=oI ((ldD S ld).1);rw[←hT] at l3 l4 l5 l8 l9 l10;have nmT:NamesC T:=nmS.less l5.nm
 have lTC:=l5.trans w4
 have hsegT:∀ k,okK k→zh T.l (zb k)=zh C.l (zb k):=fun k hk=>by
  rw[l8 _ fun j hj e=>zo1 hj hk e.symm,w5 _ (zI5 hk).symm]
 have hNmI:NmI last T.l:=fun f hf=>by
  obtain⟨f',g1,g2⟩:=lTC.nm f hf;obtain⟨f2,g3,g4⟩:=hC.nm hr.inv f' g1;have:=hr.seg.names f2 g3
  rw[g4.trans g2] at this;exact this
 obtain⟨m,E,la,q1,q2,q3,q4,q5,q6,q7,q8,q9,q10⟩:=hr.seg.reopen (C:=T) ⟨l3,nmT.w,l4.1,l4.2⟩ oM hNmI (fun k h1 h2=>by rw[hsegT k ⟨by omega,by omega⟩];exact hC.cut _) P.seg;have hml:m≤E1.length:=by simpa using q2
 rw[←List.map_take] at q3 q5
 have hre:zaT T ⟨k0,false,false⟩ P.seg=(E,{ L0 (max k0 1) P.seg with last:=la },(E1.take m).map zx,0):=by
  unfold zaT;rw[if_neg (by simp[l4.1])];exact q3
 have hok:=hr.ok
 have hokT:okW P.x0 (E0++E1.take m):=by
  obtain⟨a1,a2⟩:=okW_append.1 hok;exact okW_append.2 ⟨a1,zEY a2 m⟩
 have hrp:zdz (zdA P.x0 E0) ((E1.take m).map zx)=(zdA P.x0 (E0++E1.take m),0):=by
  rw[zsp (okW_append.1 hokT).2,zkb]
 obtain⟨B,hB⟩:∃ B:CuR,B=⟨zdA P.x0 (E0++E1.take m),E,{ L0 (max k0 1) P.seg with last:=la },⟨k0,false,false⟩⟩:=⟨_,rfl⟩
 have hfin:zoY S P.me P.qh P.qb P.qg P.seg ld=zkH B:=by
  unfold zoY;rw[if_neg (by simp[l2]),l6,l7,←hT,hre]
  have he:zdY (zdA P.x0 E0) T ⟨k0,false,false⟩ P.seg=0:=by
   unfold zdY;rw[hre];dsimp only;rw[if_neg oS,hrp]
  rw[he,if_neg oS];dsimp only;rw[hrp,hB]
 have lEC:=q8.trans lTC;have nmE:NamesC E:=nmT.less q8.nm
 have hsnE:∀ k,okK k→zh E.l (zar k)=zh T.l (zar k):=fun k hk=>q6 _ fun j hj=>zo1 hk hj
 have nost:zh E.l zff=none:=by
  rw[q6 _ fun j hj=>zI5 hj,l8 _ fun j hj=>zGa hj];exact w6
 have lens:=hc.evs
 have hlb:LiveB P n B E0 (E1.take m) s:=by
  have rcE:RecI P E k0 E0 (E1.take m) la s:=by
   refine⟨q4.inv,nmE,q5,hokT,?_⟩
   have hle:∀ f∈E.l,∀ k,okK k→f.name=zar k→k=k0:=fun f hf k hk e=>by
    by_cases hx:k=k0
    ·exact hx
    ·have h1:=l10 k hk hx;rw[←hsnE k hk] at h1;exact absurd e ((findR_none.1 h1) f hf)
   obtain⟨e1,e2,e3⟩:=hr.snap;refine⟨e1,e2,fun f hf k hk e=>?_⟩;have:=hle f hf k hk e
   unfold okK at hk;omega
  rw[hB];refine⟨rcE,⟨by have:=lEC.len;have:=hC.len;have:=hc.files;dsimp only;omega,by have:=lEC.used;have:=hC.used;have:=hc.used;dsimp only;omega,by dsimp only;omega,by rw[Yi] at lens ⊢; rw[Ya2];omega,(lEC.lim.trans hC.lim).trans hc.lim⟩,rfl,⟨rfl,rfl,rfl⟩,rfl,⟨by dsimp only;omega,by show 0≤P.seg;omega,by show P.seg≤_;omega⟩,fun f hf=>?_⟩;dsimp only;rcases nmE f hf with ⟨k,h1,h2⟩|⟨k,h1,h2⟩|h1
  ·left;have h3:¬k<max k0 1:=fun hlt=>q9 f hf k ⟨by omega,by omega⟩ hlt h2
   rcases q5.names f hf with ⟨j,j1,j2,j3⟩|j1
   ·have:j=k:=zj3 oM oM (by rw[←j3,h2]);refine⟨k,?_,by omega,h2⟩;show max k0 1≤k
    omega
   ·have:=zgf j1;rw[h2,zcd h1] at this;omega
  ·right;have hk:okK k:=⟨by omega,by omega⟩
   have:k=k0:=by
    by_cases hx:k=k0
    ·exact hx
    ·have h3:=l10 k hk hx;rw[←hsnE k hk] at h3;exact absurd h2 ((findR_none.1 h3) f hf)
   rw[←this];exact⟨hk,h2⟩
  ·exact absurd h1 ((findR_none.1 nost) f hf)
 have hBD:B.D=E:=by rw[hB]
 have hpE:PowD B.D:=by rw[hBD];exact⟨q4.down,q4.left⟩
 have hmay:zbB B.X bootX.kind bootX.id bootX.p.length=0:=by
  have h1:=hlb.evs.2.2;show za2 B.X.S _ 1 zaV 0=0
  unfold za2;have hf0:zba 1 zaV 0=0:=rfl
  rw[hf0,if_neg oD,if_pos rfl,if_neg oM]
 have hbt:zkH B=zad B bootX.kind bootX.id bootX.p true:=by
  rcases hlb.put oM bootX true (r:=zad B bootX.kind bootX.id bootX.p true) rfl with ⟨a1,_⟩|⟨_,a2,_⟩|⟨_,_,a3,_⟩
  ·exact absurd hmay a1
  ·unfold zkH;rw[if_neg (by show ¬(zad B 1 zaV [] true).2=10;have:(zad B 1 zaV [] true).2=0:=a2;omega)]
  ·exact absurd hpE a3
 refine⟨ld,m,l0,q1,hml,l1,?_⟩;rw[hop,hfin,hbt];rcases hlb.put oM bootX true (r:=zad B bootX.kind bootX.id bootX.p true) rfl with ⟨a1,_⟩|⟨_,a2,⟨s',a3,_,a5⟩,a6,_⟩|⟨_,_,a3,_⟩
 ·exact absurd hmay a1
 ·have:=a5 rfl;rw[Ya2,Ybg hml] at this;subst this;refine⟨a2,a3,a6 hpE,fun hh=>?_⟩;have:=q10 fun k f f' h1 h2 h3 h4=>hh _ f f' h3 (by rw[←hsegT k ⟨by omega,by omega⟩];exact h4)
  simpa using this
 ·exact absurd hpE a3
end
section
section
variable {D:zf} {C:CuR} {E0 E1:List EvX} {s n:Nat} {P:Par}
end
section
variable {C:CuR} {E0 E1:List EvX} {s n:Nat} {P:Par}
theorem zwZ (h:zjx P n C E0 E1 s) (d:Int) (q:List UInt8):zbm C d q=if (zaW C.X.S d).2≠0 then (C,zaV,(zaW C.X.S d).2) else
  if (zad C 2 (zaW C.X.S d).1 q true).2≠0 then ((zad C 2 (zaW C.X.S d).1 q true).1,zaV,(zad C 2 (zaW C.X.S d).1 q true).2) else ((zad C 2 (zaW C.X.S d).1 q true).1,(zaW C.X.S d).1,0):=by
 have hf:zj5 C d=(zaW C.X.S d).2:=by unfold zj5;rw[if_neg (by rw[h.up.2.2];simp)]
 unfold zbm;rw[if_neg (by simp[h.up.1]),hf]
end
end
section
def Pa:Par:=⟨0,50,2000,50,200⟩
def Pb:Par:=⟨1,50,2000,50,200⟩
@[reducible] def idC (c:Int):IdT:=⟨0,1,1,c⟩
def dEv (c:Int):EvX:=⟨4,idC c,[]⟩
def evB (cs:List Int):List EvX:=bootX::cs.map dEv
structure CB (cs:List Int) (C:CuR):Prop where
 nd:cs.Nodup
 rg:∀ c∈cs,1≤c∧c≤12
 held:C.X.S.l=[]
 self:C.X.S.self=1
 st:zjx Pb (cs.length+2) C [] (evB cs) (cs.length+1)∨(C.w.failed=true∧∃ E,RecD Pb 20 C.D [] (evB cs++E) (cs.length+1))
def Dl (cs:List Int) (i:IdT):Prop:=i.o=0∧i.e=1∧i.c∈cs
structure GA where
 evs:List EvX
 safe:Nat
 h:Nat
structure CA (cs:List Int) (g:GA) (C:CuR):Prop where
 st:∃ s,zjx Pa (g.evs.length+1) C [] g.evs s∧g.safe≤s
 pw:PowD C.D
 cnt:g.evs.length+C.X.S.l.length≤1+2*g.h
 h12:g.h≤12
 rel:∀ x∈g.evs,x.kind=3→Dl cs x.id
 held:∀ m∈C.X.S.l,∃ c,m.id=idC c∧1≤c∧c≤12
 last:0≤zdt C.X.S 1∧zdt C.X.S 1≤g.h
 ep:C.X.S.epoch=1∧C.X.S.self=0
end
end Go.Proofs.YtlgbofpennelhaaGreat
namespace Go.Proofs.YtlgbofpennelhaaGreat
open Go Go.Vm
attribute [local irreducible] Brn Ob Grow CallsM inR zI zF Mem.row Mem.cells Mem.setCells Mem.upd Go.Vm.Own zZ zaj zam zO New SrcOk subA NewSl Mem.textAt Mem.mapAt Mem.iterAt zC zB Wr NewEls Elems
set_option maxRecDepth 10000
theorem Word.zero {x:Word} (h:x.err=0):(1≤x.kind∧x.kind≤4∧0≤x.n∧x.n≤65535) ∧
  (x.kind=4→(x.costs.all cost=true∧x.costs.length=64)∧x.id=zaV∧x.data=[]∧x.n=0)∧(x.kind≠4→x.id.err=0∧x.costs=[])∧(x.kind=1→1≤x.data.length∧x.data.length≤48)∧(x.kind≠1→x.data=[]):=by
 obtain⟨h1,h2,h3,h4,h5⟩:=W.err_zero (w:=x.w none 0 none 0) rfl rfl h;refine⟨h1,fun hk=>?_,fun hk=>⟨(h3 hk).1,Y8 (h3 hk).2⟩,h4,fun hk=>Y8 (h5 hk)⟩;obtain⟨g1,⟨⟨e1,e2,e3,e4⟩,e5⟩,g3⟩:=h2 hk;refine⟨g1,?_,e5,g3⟩;obtain⟨kind,n,⟨o,d,e,c⟩,data,costs⟩:=x;simp only[Word.w] at e1 e2 e3 e4;subst e1 e2 e3 e4;rfl
theorem Word.bytes4 {x:Word} (h:x.kind=4):x.bytes=zp x.kind::x.costs.map zp:=by
 unfold Word.bytes W.bytes;rw[if_pos (show (x.w none 0 none 0).kind=4 from h)];rfl
theorem Word.bytesN {x:Word} (h:x.kind≠4):x.bytes=zp x.kind::(two x.n++zX x.id.o x.id.d x.id.e x.id.c++x.data):=by
 unfold Word.bytes W.bytes;rw[if_neg (show (x.w none 0 none 0).kind≠4 from h)];rfl
theorem zyf {l:List UInt8} (h1:l.length=6) (h2:(zcA l).err=0):zan l=0:=by
 unfold zan;rw[if_neg oM,if_neg (by simp[h2])]
theorem zDf {l:List Int} (h:l.all cost=true):(l.map zp).map (fun b=>(b.toNat:Int))=l:=by
 rw[Ya4]
 conv=>rhs;rw[←Ydh l]
 apply Yav;intro b hb;have:=Yaz.1 h b hb
 simp only[cost,decide_eq_true_eq] at this;exact zd3 oM
theorem zAV {l:List UInt8} {x:Word} (h:x.err=0) (hb:x.bytes=l):zcw l=some x:=by
 obtain⟨hr,h4,hn4,hk1,hkn⟩:=x.zero h;have hkb:((zp x.kind).toNat:Int)=x.kind:=zd3 oM
 have key:zfw l=(x,0)→zcw l=some x:=fun hs=>by
  unfold zcw
  have hne:l≠[]:=by
   rw[←hb];by_cases hk:x.kind=4
   ·rw[Word.bytes4 hk];simp
   ·rw[Word.bytesN hk];simp
  rw[hs,if_neg (by simp_all)]
 apply key;by_cases hk:x.kind=4
 ·obtain⟨⟨hc,hcl⟩,hi,hd,hn⟩:=h4 hk;rw[Word.bytes4 hk] at hb;rw[←hb];unfold zfw;have hd0:(zp x.kind::x.costs.map zp).getD 0 0=zp x.kind:=rfl
  simp only[hd0,hkb,hk,if_true,List.drop_succ_cons,Ycn];rw[zDf hc];obtain⟨kind,n,id,data,costs⟩:=x;simp only at hk hi hd hn;subst hk hi hd hn;rfl
 ·obtain⟨hid,hcosts⟩:=hn4 hk;rw[Word.bytesN hk] at hb;obtain⟨q1,q2⟩:=zrZ hid;rw[←hb];unfold zfw;have hd0:(zp x.kind::(two x.n++zX x.id.o x.id.d x.id.e x.id.c++x.data)).getD 0 0=zp x.kind:=rfl
  have hd3:(zp x.kind::(two x.n++zX x.id.o x.id.d x.id.e x.id.c++x.data)).drop 3=zX x.id.o x.id.d x.id.e x.id.c++x.data:=rfl
  have hnum:(zaf (zp x.kind::(two x.n++zX x.id.o x.id.d x.id.e x.id.c++x.data)) 1 2:Int)=x.n:=by
   have:zaf (zp x.kind::(two x.n++zX x.id.o x.id.d x.id.e x.id.c++x.data)) 1 2=num (two x.n) 0:=rfl;rw[this];exact zoo oM
  simp only[hd0,hkb,hd3,hnum];rw[if_neg hk,if_neg (by simp[two])];have htake:(zX x.id.o x.id.d x.id.e x.id.c++x.data).take 6=zX x.id.o x.id.d x.id.e x.id.c:=by rw[←q2];simp
  have hdrop:(zX x.id.o x.id.d x.id.e x.id.c++x.data).drop 6=x.data:=by rw[←q2];simp
  have hge:zan (zX x.id.o x.id.d x.id.e x.id.c)=0:=zyf q2 (by simp_all);by_cases hk':x.kind=1
  ·rw[if_pos hk'];have:=hk1 hk'
   have hme:zaJ (zX x.id.o x.id.d x.id.e x.id.c++x.data)=0:=by
    unfold zaJ;rw[if_neg (by simp[q2]),htake,if_neg (by simp[hge]),if_neg (by grind)]
   rw[zaw,hme,if_pos rfl,htake,hdrop,q1];obtain⟨kind,n,id,data,costs⟩:=x;simp only at hk' hcosts;subst hk' hcosts;rfl
  ·rw[if_neg hk'];have hdata:=hkn hk'
   rw[hdata,Yt,zcG,hge,if_pos rfl,q1];obtain⟨kind,n,id,data,costs⟩:=x;simp only at hdata hcosts;subst hdata hcosts;rfl
theorem zHl (w:Word) (h:w.err=0):zcw w.bytes=some w:=zAV h rfl
theorem zDg {w:Word} (h:w.err=0):0<w.bytes.length∧w.bytes.length≤121:=by
 obtain⟨hr,h4,hn4,hk1,hkn⟩:=w.zero h;by_cases hk:w.kind=4
 ·rw[Word.bytes4 hk,Ym,Y9,(h4 hk).1.2];omega
 ·rw[Word.bytesN hk,Ym,Yi,Yi];have h6:(zX w.id.o w.id.d w.id.e w.id.c).length=6:=rfl
  have h2:(two w.n).length=2:=rfl;by_cases k1:w.kind=1
  ·omega
  ·simp_all
end Go.Proofs.YtlgbofpennelhaaGreat
namespace Go.Proofs.YtlgbofpennelhaaGreat
open Go Go.Vm
section
section
variable {α:Type} [Pay α] {G:α→Prop}
structure ztn (G:α→Prop) (X:LnkR α) (B W:Nat):Prop where
 up:X.up=true
 nb:X.busy=false
 nh:X.held=false
 tm:X.timer=3
 sz:X.S.size=4
 rz:X.R.size=4
 base:X.S.base=(B:Int) % 128
 wait:X.R.waits=(W:Int) % 128
 kept:X.R.kept=[]
 un:X.S.under≤4∧X.S.under≤X.S.all.length
 good:∀ p∈X.S.all,G p
def zto (G:α→Prop) (me peer:Int) (hi v:Nat):Nat→Nat→List (CtlR α)→Prop
 | lo,w,[]=>lo=hi∧w=v
 | lo,w,c::Fs=>(c.me=me∧c.peer=peer∧c.p=false)∧∃ r,(lo≤r∧r≤hi)∧c.nr=(r:Int) % 128∧((c.kind=1∧c.ns=(w:Int) % 128∧G c.data∧zto G me peer hi v r (w+1) Fs)∨(c.kind=2∧c.ns=0∧c.data=Pay.emp∧zto G me peer hi v r w Fs))
def Lf (X:LnkR α) (B V0:Nat):Prop:=(X.S.under=0→X.left=0)∧(0<X.S.under→X.left=3∨(X.left=2∧B<V0))
structure ETo (G:α→Prop) (X Y:LnkR α) (B W B' W':Nat):Prop where
 e:ztn G Y B' W'
 b:B≤B'
 w:W≤W'
 v:B+X.S.under≤B'+Y.S.under
 me:Y.me=X.me∧Y.peer=X.peer
 rs:Y.resets=X.resets
 out:∃ new,Y.out=X.out++new∧new.length=(B'+Y.S.under - (B+X.S.under))+(W' - W)∧zto G X.me X.peer W' (B'+Y.S.under) W (B+X.S.under) new
 lf:∀ V0,Lf X B V0→Lf Y B' V0
theorem zw0:∀ (n:Nat) (X:LnkR α),(zcv n X).inn=X.inn
 | 0,_=>rfl
 | n+1,X=>by
  unfold zcv;split
  ·rfl
  split
  ·rfl
  ·rw[zw0 n];dsimp only;split<;>rfl
theorem zE0 (X:LnkR α) (l:α):(zds X l).inn=X.inn:=by
 unfold zds;split
 ·exact zw0 _ _
 ·rfl
set_option linter.unusedSectionVars false in
end
end
section
theorem zE1 (b:UInt8) (r:List UInt8):zdj false (zh9 b++r)=(zdj false r).map (b :: ·):=by
 unfold zh9;split
 ·rename_i h;rcases h with rfl|rfl
  ·rfl
  ·rfl
 ·rename_i h;have h1:b≠126:=fun e=>h (.inl e)
  have h2:b≠125:=fun e=>h (.inr e)
  simp[zdj,h1,h2]
theorem zm2:∀ l:List UInt8,zdj false (zaI l)=some l
 | []=>rfl
 | b::r=>by
  unfold zaI;rw[Ybn,zE1];have:=zm2 r
  unfold zaI at this;rw[this];rfl
theorem zDh (q:List UInt8):zjU (zc7 q)=true:=by
 have h:=zyL q;unfold zjU zc7;have hl:(q++[UInt8.ofNat (zex q % 256),UInt8.ofNat (zex q / 256)]).length=q.length+2:=by simp
 rw[hl,show q.length+2 - 2=q.length by omega,show q.length+2 - 1=q.length+1 by omega,List.take_left']
 ·simp[Ybj];omega
 ·rfl
theorem zuq:∀ l:List UInt8,∀ b∈zaI l,b≠126
 | [],_,h=>by simp[zaI] at h
 | x::r,b,h=>by
  unfold zaI at h;rw[Ybn,Yy] at h;rcases h with h|h
  ·unfold zh9 at h;split at h
   ·rename_i h2;rcases h2 with rfl|rfl<;>simp at h<;>rcases h with rfl|rfl<;>decide
   ·simp_all
  ·exact zuq r b h
theorem zur (X:zdR) (l r:List UInt8):zbH X (l++r)=zbH (zbH X l) r:=Ya0
theorem zw1:∀ (m:List UInt8) (i:List UInt8) (t:List (List UInt8)),(∀ b∈m,b≠126)→i.length+m.length≤260→zbH ⟨false,i,t⟩ m=⟨false,i++m,t⟩
 | [],i,t,_,_=>by rw[Yt];rfl
 | b::r,i,t,h1,h2=>by
  have hb:=h1 b oS;rw[Ym] at h2;have e:zbH ⟨false,i,t⟩ (b::r)=zbH (zbQ ⟨false,i,t⟩ b) r:=rfl
  have e2:zbQ ⟨false,i,t⟩ b=⟨false,i++[b],t⟩:=by
   unfold zbQ;rw[if_neg hb];simp only[Ybp,if_false];rw[if_neg oM]
  rw[e,e2,zw1 r (i++[b]) t (fun x hx=>h1 x (by simp[hx])) (by grind),Yr];rfl
theorem zE2 (q:List UInt8):(zc7 q).length=q.length+2:=by simp[zc7]
theorem zAW (X:zdR) (hX:X.inn=[]) (q:List UInt8) (hq:0<q.length∧q.length≤128):zbH X (zeq q)=⟨false,[],X.told++[q]⟩:=by
 have h1:zbQ X 126=⟨false,[],X.told⟩:=by unfold zbQ;rw[if_pos rfl,if_neg (fun h=>h.2 hX)]
 have hl:=zE2 q;have h2:=zhx (zc7 q)
 have hne:zaI (zc7 q)≠[]:=fun h=>by
  have:=zm2 (zc7 q);rw[h] at this;have:zc7 q=[]:=by simpa[zdj] using this.symm
  rw[this] at hl;simp at hl
 have h3:zeq q=126::(zaI (zc7 q)++[126]):=rfl;rw[h3];show zbH (zbQ X 126) _=_
 rw[h1,zur,zw1 _ _ _ (zuq _) (by grind),Yaa];show zbQ ⟨false,zaI (zc7 q),X.told⟩ 126=_
 unfold zbQ;rw[if_pos rfl,if_pos ⟨rfl,hne⟩];unfold zgq;dsimp only;rw[zm2];dsimp only;rw[if_pos ⟨by omega,zDh q,by omega⟩,hl];simp[zc7]
theorem zqk:∀ (qs:List (List UInt8)) (X:zdR),X.inn=[]→(∀ q∈qs,0<q.length∧q.length≤128)→(zbH X (qs.flatMap zeq)).inn=[]∧(zbH X (qs.flatMap zeq)).told=X.told++qs
 | [],X,hX,_=>⟨hX,by simp[zbH]⟩
 | q::r,X,hX,h=>by
  rw[Ybn,zur,zAW X hX q (h q oS)];have:=zqk r ⟨false,[],X.told++[q]⟩ rfl fun x hx=>h x (by simp[hx])
  exact⟨this.1,by simp_all⟩
def nsB (n:Int):Bool:=decide (zjp (u8 (zjV n 1))=(1,true))&&decide (zjX (u8 (zjV n 1))=n)
def nrB (n:Int):Bool:=decide (zjX (zjW n false)=n) && !decide (zD .and .u8 ((zjW n false).toNat:Nat) 1=1)
theorem zI8:((List.range 128).all fun (n:Nat)=>nsB n&&nrB n)=true:=by rfl
theorem zGb {n:Int} (h:0≤n∧n≤127):nsB n=true∧nrB n=true:=by
 have:=Yaz.1 zI8 n.toNat (Ydv.2 oM);rw[Ydk h.1,Yl] at this;exact this
theorem zJ4:zjp (u8 (zD .or .u8 1 (zjV (IntKind.i64.wrap (2 - 2)) 2)))=(2,true):=by rfl
theorem zDi (x:Int) (h:0≤x∧x≤65535) (l r:List UInt8):IntKind.i64.wrap (zaf (l++(be 2 x++r)) l.length 2)=x:=by
 have h1:be 2 x=[zbq x 8,zbq x 0]:=rfl
 have h2:(zbq x 8).toNat=x.toNat / 256:=by
  unfold zbq;rw[show x.fdiv (2 ^ (8:Int).toNat)=((x.toNat / 256:Nat):Int) by grind];rw[Yc2];omega
 have h3:(zbq x 0).toNat=x.toNat % 256:=by
  unfold zbq;rw[show x.fdiv (2 ^ (0:Int).toNat)=x by simp];rw[Yc2];omega
 unfold zaf;rw[Yc4,List.drop_left,h1];show IntKind.i64.wrap (num [zbq x 8,zbq x 0] 0:Nat)=x
 have h4:num [zbq x 8,zbq x 0] 0=x.toNat:=by
  simp only[num,h2,h3];omega
 rw[h4,Ydk h.1];simp only[IntKind.wrap,IntKind.signed,IntKind.bits];simp;omega
theorem zHm {c:zdD} (h:zcj c=0) (hk:c.kind=1∨(c.kind=2∧c.ns=0)) (hp:c.p=false):zdk (za9 c)=some c:=by
 obtain⟨d1,d2,d3,d4,d5,d6⟩:=ziE h
 obtain⟨b1,b2,e0,e1,e2⟩:∃ b1 b2,hdC c=[b1,b2]∧zjp b1=(c.kind,true)∧(c.kind=1→zjX b1=c.ns)∧b2=zjW c.nr false:=by
  rcases hk with hk|⟨hk,_⟩
  ·have:=(zGb d5).1;unfold nsB at this;rw[Yl,decide_eq_true_eq,decide_eq_true_eq] at this;exact⟨_,_,by unfold hdC;rw[if_pos hk],by simp_all,fun _=>this.2,by rw[hp]⟩
  ·refine⟨_,_,by unfold hdC;rw[if_neg oM,if_pos (.inl hk)],by rw[hk];exact zJ4,fun h=>by omega,by rw[hp]⟩
 have hn:=(zGb d6).2;unfold nrB at hn;rw[Yl,decide_eq_true_eq,Yah,decide_eq_false_iff_not,←e2.2] at hn;have hP:za9 c=3::b1::b2::(be 2 c.me++(be 2 c.peer++c.data)):=by unfold za9;rw[e0];simp
 have hlen:(za9 c).length=7+c.data.length:=by rw[hP];simp[zcs];omega
 have ha:zh8 (za9 c)=3:=by
  unfold zh8;have:(za9 c).getD 1 0=b1:=by rw[hP];rfl
  rw[this,e1];rfl
 have g1:(za9 c).getD 1 0=b1:=by rw[hP];rfl
 have g2:(za9 c).getD 2 0=b2:=by rw[hP];rfl
 have n1:IntKind.i64.wrap (zaf (za9 c) 3 2)=c.me:=by
  have:=zDi c.me d2 [3,b1,b2] (be 2 c.peer++c.data);rw[hP];exact this
 have n2:IntKind.i64.wrap (zaf (za9 c) (3+2) 2)=c.peer:=by
  have:=zDi c.peer d3 ([3,b1,b2]++be 2 c.me) c.data;rw[Yr] at this;rw[hP];have hl:(([3,b1,b2]++be 2 c.me).length:Int)=3+2:=by simp[zcs]
  rw[hl] at this;exact this
 have n3:(za9 c).drop ((3:Int)+4).toNat=c.data:=by
  rw[hP];have:3::b1::b2::(be 2 c.me++(be 2 c.peer++c.data))=([3,b1,b2]++be 2 c.me++be 2 c.peer)++c.data:=by simp
  rw[this];have hl:((3:Int)+4).toNat=([3,b1,b2]++be 2 c.me++be 2 c.peer).length:=by simp[zcs]
  rw[hl,List.drop_left]
 have hX:zgr (za9 c)=c:=by
  unfold zgr;rw[ha,g1,g2,e1,n1,n2,n3];dsimp only;obtain⟨kind,ns,nr,p,me,peer,data⟩:=c;dsimp only at *;subst hp;simp only[if_true,hn.1];have h2:decide (zD .and .u8 ((b2.toNat:Nat):Int) 1=1)=false:=decide_eq_false hn.2
  rw[h2];rcases hk with hk|⟨hk,hz⟩
  ·simp_all
  ·simp_all
 unfold zdk;rw[if_neg oM,if_neg (by grind),if_neg (by omega),hX,if_pos h]
end
section
section
variable {G G':List UInt8→Prop}
structure STo (G:List UInt8→Prop) (X Y:NodX) (k:Int) (B W B' W':Nat):Prop where
 lk:ETo G (X.sd k).L (Y.sd k).L B W B' W'
 inn:(Y.sd k).L.inn=(X.sd k).L.inn
 dec:(Y.sd k).hunts=(X.sd k).hunts∧(Y.sd k).inn=(X.sd k).inn∧(Y.sd k).resets=(X.sd k).resets∧(Y.sd k).out=(X.sd k).out
 nd:Y.nb=X.nb∧Y.me=X.me∧Y.set=X.set
 told:Y.told.length+W≤X.told.length+W'
structure zE3 (σ:Type) (k:Int) (Gin:List UInt8→Prop) where
 le:σ→σ→Prop
 rfl':∀ s,le s s
 trs:∀ s t u,le s t→le t u→le s u
 g:σ→List UInt8→Prop
 mono:∀ s t,le s t→∀ p,g s p→g t p
 len:∀ s p,g s p→0<p.length∧p.length≤121
 lin:∀ p,Gin p→0<p.length∧p.length≤121
 I:σ→NodX→Prop
 lnk:∀ s X L,I s X→L.resets=(X.sd k).L.resets→I s (X.setSd k { X.sd k with L:=L })
 word:∀ s X p B W,I s X→ztn (g s) (X.sd k).L B W→Gin p→∃ s',le s s'∧I s' (zcT k X p)∧STo (g s') { X with told:=(zcT k X p).told } (zcT k X p) k B W B W∧(zcT k X p).told.length≤X.told.length+1
 dec:∀ s X h,I s X→I s (X.setSd k { X.sd k with hunts:=h,inn:=[] })
 drain:∀ s X,I s X→I s (zc0 X k)
 take:∀ s X,I s X→I s (zgU X k)
 side:∀ s X S,I s X→S.L.resets=S.resets→I s (X.setSd k S)
 nb:∀ s X,I s X→X.nb=[k]∧(X.sd k).L.resets=(X.sd k).resets
 off:∀ s X B W,I s X→ztn (g s) (X.sd k).L B W→I s (zdm X [k])∧STo (g s) X (zdm X [k]) k B W B W
 oth:∀ s X t f d,I s X→I s { X with ticks:=t,tab:=f,dsk:=d }
 nxt:∀ s X d n,I s X→I s { X with dsk:=d,next:=n }
 vec:∀ s (w:Word),w.kind=4→w.err=0→g s w.bytes
section
variable {σ:Type} {k:Int} {Gin:List UInt8→Prop}
structure CTo (G:List UInt8→Prop) (X Y:NodX) (k:Int) (B W B' W':Nat):Prop where
 e:ztn G (Y.sd k).L B' W'
 b:B≤B'
 w:W≤W'
 v:B+(X.sd k).L.S.under≤B'+(Y.sd k).L.S.under
 me:(Y.sd k).L.me=(X.sd k).L.me∧(Y.sd k).L.peer=(X.sd k).L.peer
 rest:(Y.sd k).L.out=[]∧(Y.sd k).L.inn=[]
 out:∃ new,(Y.sd k).out=(X.sd k).out++new.flatMap zb5∧new.length=(B'+(Y.sd k).L.S.under - (B+(X.sd k).L.S.under))+(W' - W)∧zto G (X.sd k).L.me (X.sd k).L.peer W' (B'+(Y.sd k).L.S.under) W (B+(X.sd k).L.S.under) new
 dec:(Y.sd k).inn=[]
 nd:Y.nb=X.nb∧Y.me=X.me∧Y.set=X.set
 told:Y.told.length+W≤X.told.length+W'
end
end
end
section
structure Pair (σa σb:Type) where
 ga:List UInt8→Prop
 Ab:zE3 σb 0 ga
 Aa:(sb:σb)→zE3 σa 1 (Ab.g sb)
 hg:∀ sb s,(Aa sb).g s=ga
 hI:∀ sb sb' sa X,Ab.le sb sb'→(Aa sb).I sa X→(Aa sb').I sa X
 la:σa→σa→Prop
 hl:∀ sb,(Aa sb).le=la
 na:∀ sb sa X,(Aa sb).I sa X→X.C.w.failed=false
section
variable {σa σb:Type} (Q:Pair σa σb)
structure Sys (sa:σa) (sb:σb) (w:W2) (Ba Wa Bb Wb:Nat):Prop where
 Ia:(Q.Aa sb).I sa w.a
 Ib:Q.Ab.I sb w.b
 ea:ztn Q.ga (w.a.sd 1).L Ba Wa
 eb:ztn (Q.Ab.g sb) (w.b.sd 0).L Bb Wb
 pr:(w.a.sd 1).L.peer=(w.b.sd 0).L.me∧(w.b.sd 0).L.peer=(w.a.sd 1).L.me
 rg:(0≤(w.a.sd 1).L.me∧(w.a.sd 1).L.me≤65535)∧0≤(w.b.sd 0).L.me∧(w.b.sd 0).L.me≤65535
 ra:((w.a.sd 1).L.out=[]∧(w.a.sd 1).L.inn=[])∧(w.a.sd 1).inn=[]
 rb:((w.b.sd 0).L.out=[]∧(w.b.sd 0).L.inn=[])∧(w.b.sd 0).inn=[]
 oa:∃ Fs,(w.a.sd 1).out=Fs.flatMap zb5∧Fs.length=(Ba+(w.a.sd 1).L.S.under - Wb)+(Wa - Bb)∧zto Q.ga (w.a.sd 1).L.me (w.a.sd 1).L.peer Wa (Ba+(w.a.sd 1).L.S.under) Bb Wb Fs
 ob:∃ Fs,(w.b.sd 0).out=Fs.flatMap zb5∧Fs.length=(Bb+(w.b.sd 0).L.S.under - Wa)+(Wb - Ba)∧zto (Q.Ab.g sb) (w.b.sd 0).L.me (w.b.sd 0).L.peer Wb (Bb+(w.b.sd 0).L.S.under) Ba Wa Fs
variable {Q} {sa:σa} {sb:σb} {w:W2} {Ba Wa Bb Wb:Nat}
def Hl (X:za8):Prop:=(X.S.under=0→X.left=0)∧(0<X.S.under→X.left=3)
end
end
section
structure PTo (X Y:NodX) (k:Int):Prop where
 cl:∀ P:za8→Prop,(∀ L l,P L→P (zds L l))→P (X.sd k).L→P (Y.sd k).L
 C:Y.C=X.C
 nd:Y.nb=X.nb∧Y.me=X.me∧Y.set=X.set
 told:Y.told=X.told
 sd:(Y.sd k).out=(X.sd k).out∧(Y.sd k).inn=(X.sd k).inn
structure zKY (X:NodX) (k:Int) (q:Nat):Prop where
 nb:X.nb=[k]
 sz:(X.sd k).L.S.size=4
 un:(X.sd k).L.S.under≤4
 lo:(X.sd k).L.out=[]∧(X.sd k).L.inn=[]
 out:(X.sd k).out.length≤q
end
section
section
variable {σa σb:Type} (Q:Pair σa σb) (Ja:σb→σa→CuR→Prop) (Jb:σb→CuR→Prop)
structure zMb (w:W2) (T:Nat):Prop where
 ta:w.a.told.length≤T
 tb:w.b.told.length≤T
 ma:w.a.set.timer=3
 mb:w.b.set.timer=3
 b0:w.b.nb=[0]
structure zKZ (sa:σa) (sb:σb) (w:W2) (q:Nat):Prop where
 f:w.b.C.w.failed=true
 l:zKY w.a 1 q
 o:(w.b.sd 0).out=[]
 rb:(w.b.sd 0).L.out=[]∧(w.b.sd 0).L.inn=[]
 na:w.a.C.w.failed=false
 ja:Ja sb sa w.a.C
 jb:Jb sb w.b.C
def St (qm:Nat) (sa:σa) (sb:σb) (w:W2):Prop:=
 (∃ Ba Wa Bb Wb,Sys Q sa sb w Ba Wa Bb Wb∧Hl (w.a.sd 1).L∧(w.b.C.w.failed=false→Hl (w.b.sd 0).L))∨∃ q,q≤qm∧zKZ Ja Jb sa sb w q
end
section
variable {σa σb:Type} {Q:Pair σa σb} {Ja:σb→σa→CuR→Prop} {Jb:σb→CuR→Prop} {sa:σa} {sb:σb} {w:W2} {T qm:Nat}
structure Laws (Q:Pair σa σb) (Ja:σb→σa→CuR→Prop) (Jb:σb→CuR→Prop):Prop where
 ja:∀ sb sa X,(Q.Aa sb).I sa X→Ja sb sa X.C
 jb:∀ sb X,Q.Ab.I sb X→Jb sb X.C
 tC:∀ X:NodX,X.C.w.failed=false→(zkK X).1.C=X.C
 setA:∀ sb sa X,(Q.Aa sb).I sa X→X.set.timer=3
 setB:∀ sb X,Q.Ab.I sb X→X.set.timer=3
end
end
section
def c10:zdD:=⟨6,0,0,false,512,512,[]⟩
section
variable {σ:Type} {k:Int} {Gin:List UInt8→Prop}
structure Pre (A:zE3 σ k Gin) (s:σ) (X:NodX) (S:SideR):Prop where
 I:A.I s X
 sd:X.sd k=S
 told:X.told=[]
 set:X.set.timer=3
end
section
variable {σa σb:Type} {Q:Pair σa σb} {Ja:σb→σa→CuR→Prop} {Jb:σb→CuR→Prop} {sa:σa} {sb:σb} {w:W2} {T:Nat}
end
end
section
structure IB (cs:List Int) (X:NodX):Prop where
 nb:X.nb=[0]
 me:X.me=1
 set:X.set=zie
 rs:(X.sd 0).L.resets=(X.sd 0).resets
 cu:CB cs X.C
structure IA (cs:List Int) (g:GA) (X:NodX):Prop where
 nb:X.nb=[1]
 me:X.me=0
 set:X.set=zie
 rs:(X.sd 1).L.resets=(X.sd 1).resets
 cu:CA cs g X.C
end
section
theorem zza:InvD D00:=zwr (limit:=100000) oM
theorem zJ5 (P:Par):RecD P 1 D00 [] [] 0:=by
 have hn:∀ f∈D00.l,False:=fun f hf=>by cases hf
 exact⟨0,1,⟨zza,fun f hf=>(hn f hf).elim,SegI.start oM (fun f hf=>(hn f hf).elim) rfl,trivial,⟨rfl,rfl,fun f hf=>(hn f hf).elim⟩⟩,⟨by decide,by decide,by decide,by decide,rfl⟩⟩
theorem zJa {P:Par} (hb:¬zcN P.me P.qh P.qb P.qg) (hseg:16≤P.seg∧P.seg≤1048576):zjx P 2 (za1 D00 P.me P.qh P.qb P.qg P.seg none).1 [] [bootX] 1∧PowD (za1 D00 P.me P.qh P.qb P.qg P.seg none).1.D:=by
 have hp:PowD D00:=⟨rfl,rfl⟩
 obtain⟨ld,m,h0,m1,m2,m3,m4,m5,m6, -⟩:=(zJ5 P).open oD (CutD.refl zza hp) hb hseg;subst h0;have hm:m=0:=Nat.le_zero.1 m2
 subst hm;exact⟨m5,m6⟩
def CA0:CuR:=(za1 D00 0 50 2000 50 200 none).1
def CB0:CuR:=(za1 D00 1 50 2000 50 200 none).1
theorem zJb {P:Par} {n s:Nat} {C:CuR} (h:zjx P n C [] [bootX] s):C.X=zcf P.x0 bootX:=by have:=h.X;rw[Yaa] at this;exact this
theorem zJc {X:StW} (h:zbB X 1 zaV 0=0):(zcf X bootX).S={ X.S with epoch:=X.S.epoch+1,used:=List.replicate 64 0 }∧(zcf X bootX).sn=X.sn:=by
 unfold zcf zct;rw[if_pos (show zbB X bootX.kind bootX.id bootX.p.length=0 from h)];exact⟨rfl,rfl⟩
theorem zE4 {P:Par} {n s:Nat} {C:CuR} (h:zjx P n C [] [bootX] s):zbB P.x0 1 zaV 0=0:=h.rc.ok.1
theorem zK0:zgi CA0=512:=by kernel_rfl
theorem zK1:zgi CB0=512:=by kernel_rfl
end
end Go.Proofs.YtlgbofpennelhaaGreat
namespace Go.Proofs.YtlgbofpennelhaaGreat
open Go Go.Vm
attribute [local irreducible] Brn Ob Grow CallsM inR zI zF Mem.row Mem.cells Mem.setCells Mem.upd Go.Vm.Own zZ zaj zam zO New SrcOk subA NewSl Mem.textAt Mem.mapAt Mem.iterAt zC zB Wr NewEls Elems zc9 zeK zfF zef zeg
set_option maxRecDepth 10000
section
variable {B0 M0 B M B' M':Mem} {S0:Nat→Prop} {R:List Pt} {ps:List Pt}
def zAX (X:NodX):Bool:=X.nb.all fun k=>(X.sd k).L.out.isEmpty&&(X.sd k).L.inn.isEmpty&&decide ((X.sd k).out.length≤65536)
def zoH (w:W2):Bool:=decide (1∈w.a.nb)&&decide (0∈w.b.nb)&&zAX w.a&&zAX w.b&&decide (w.a.told.length≤1000000)&&decide (w.b.told.length≤1000000)&&decide (1≤w.a.set.timer∧w.a.set.timer≤64)&&decide (1≤w.b.set.timer∧w.b.set.timer≤64)
def zvf:Nat→W2→Bool
 | 0,w=>zoH w
 | n+1,w=>zoH w&&zoH (zhN w)&&zoH (zeX (zhN w))&&zoH (zeX (zeX (zhN w)))&&zvf n (zsn w)
theorem zus {X:NodX} (h:zAX X=true):zmX X 65536:=fun k hk=>by
 have:=Yaz.1 h k hk;simp only[Yl,List.isEmpty_iff,decide_eq_true_eq] at this;exact⟨this.1.1,this.1.2,this.2⟩
theorem zif {w:W2} (h:zoH w=true):Fit w:=by
 simp only[zoH,Yl,decide_eq_true_eq] at h;obtain⟨⟨⟨⟨⟨⟨⟨h1,h2⟩,h3⟩,h4⟩,h5⟩,h6⟩,h7⟩,h8⟩:=h;exact⟨h1,h2,zus h3,zus h4,h5,h6,h7,h8⟩
theorem zut:∀ {n:Nat} {w:W2},zvf n w=true→zq0 n w
 | 0,_,h=>zif h
 | n+1,w,h=>by
  simp only[zvf,Yl] at h;obtain⟨⟨⟨⟨h1,h2⟩,h3⟩,h4⟩,h5⟩:=h;exact⟨zif h1,zif h2,zif h3,zif h4,zut h5⟩
def w01:W2:=⟨(zbd w00.a 1 [120]).1,w00.b⟩
theorem zJ6:zoH w00=true:=by kernel_rfl
theorem zJd:zvf 12 w01=true:=by kernel_rfl
theorem zJ7:(zbd w00.a 1 [120]).2.2=0:=by kernel_rfl
theorem zDj:(zfx 12 w01).b.told.map (fun m=>m.data)=[[120]]:=by kernel_rfl
theorem zJe:(zfx 12 w01).a.C.X.S.l.length=0:=by kernel_rfl
theorem zK2:decide ((zfx 12 w01).a.C.X.sn.length≤1048576)=true:=by kernel_rfl
end
section
variable {B0 M0 B M B' M':Mem} {S0:Nat→Prop} {R:List Pt} {ps:List Pt}
theorem awake21_ok:CallsM Tryz.prog 14 [] M fun v M'=>v = .bool true∧M.le M':=by
 refine zsF oS ?_;refine zR ?_;refine plain_ok.mono ?_;rintro v _ ⟨rfl,rfl⟩;refine zR ?_;refine pair_ok.mono ?_;rintro v M1 ⟨B1,P,Q,rfl,⟨p1,p2⟩,⟨q1,q2⟩,hb1,h1⟩;refine zR ?_;(conv=>whnf)
 delta zeK New
 intro b1 hb1';refine on Mem.textAt_setCells ?_
 have hle1:M1.le ((M1.setCells b1 5 [S.u 120]).upd b1 (.cells [S.u 120].toArray 5 (1,2))):=by
  intro c o hc;have hne:c≠b1:=fun e=>by simp_all
  unfold Mem.setCells;rw[Yh _ _ hne,Yh _ _ hne];exact hc
 have hs1:SrcOk ((M1.setCells b1 5 [S.u 120]).upd b1 (.cells [S.u 120].toArray 5 (1,2))) 1 (some ⟨b1,0,none⟩) 1 (([120]:List UInt8).map zc):=by unfold SrcOk;exact⟨rfl,.inr ⟨b1,0,rfl,Mem.row_obj (Yam _ _ _) oD⟩⟩
 obtain⟨M2,hM2⟩:=oI ((M1.setCells b1 5 [S.u 120]).upd b1 (.cells [S.u 120].toArray 5 (1,2)));rw[←hM2] at hle1 hs1;(conv=>whnf)
 erw [←hM2];have h2:=h1.upN hle1
 have hs2:SrcOk (newB B1 M1 M2) 1 (some ⟨b1,0,none⟩) 1 (([120]:List UInt8).map zc):=zc5 hs1 fun r hr=>by grind
 have hfit:=zif zJ6;have hsub:=zmY (l:=[120]) (cc:=1) (zdn h2 0 rfl) oM oM hfit.ra oD 1 hs2 oD
 have esub:(zbd w00.a 1 [120]).2.2=0:=zJ7;refine hsub.mono ?_;rintro v M3 ⟨rfl,h3⟩;obtain⟨B3,P3,hb3,hp3,h4⟩:=zm1 h2 0 rfl h3;rw[esub];refine zR ?_;have p3N:=hp3.N
 have p3K:=hp3.K;have hr:=zoE (w:=w01) (P:=P3) (Q:=Q) (R:=[]) (n:=12) (by rw[Yt];exact h4) (zut zJd) oD oM oM oM oM
 rw[hp3.n] at hr;refine hr.mono ?_;rintro v M4 ⟨rfl,B4,P4,Q4,hb4,hp4,hq4,h5⟩;refine zR ?_;have hq:Q4.n=Q.n:=hq4.n
 have htd:=zqZ (zdn h5 1 rfl);rw[hq] at htd;refine htd.mono ?_;rintro v M5 ⟨B5,a5,c5,Q5,rfl,hb5,hel,hq5,h6⟩;have h7:=h5.call 1 rfl (zfY h6)
 have hlen:(zfx 12 w01).b.told.length=1:=by
  have:=congrArg List.length zDj;simpa using this
 rw[hlen] at hel ⊢;obtain⟨q1',bt,ot,cs,rfl,hrows,hrow,hcs,pt,nt,kt,rfl,hpt,hnt⟩:=hel.at (i:=0) oD oD
 have hdat:((zfx 12 w01).b.told[0]'oM).data=[120]:=by
  have h:=zDj;have:((zfx 12 w01).b.told.map (fun m=>m.data))[0]? = some [120]:=by rw[h];rfl
  rw[Ya7,Yb oM] at this;simpa using this
 rw[hdat] at hpt;have hle5:B5.le M5:=h7.le
 refine zR ?_;refine on (Ycg hle5 (hrows 4 1 oD)) ?_;refine zR ?_;refine zsD (hpt.le hle5) ?_;refine zR ?_;have hp4n:P4.n=P.n:=hp4.n.trans hp3.n
 have hN4:=hp4.N;have hst:=ziL (zdn h7 0 rfl) oM (Zd0 zK2)
 rw[hp4n] at hst;refine hst.mono ?_;rintro v M6 ⟨hle6,hS⟩;obtain⟨ua,uc,ha,hc,ms,ma,mc,mk,rfl,_,_,hms,_⟩:=hS.ex
 have hml:ms.length=0:=by
  have:=congrArg List.length hms;rw[Y9] at this;rw[this];exact zJe
 have hle:M.le M6:=fun y o ho=>hle6 _ _ (h7.tn.keep y o (fun h=>h) ho)
 obtain rfl:ms=[]:=Y8 hml;refine zR ?_;exact⟨rfl,hle⟩
end
section
variable {B0 M0 B M B' M':Mem} {S0:Nat→Prop} {R:List Pt} {ps:List Pt}
def zE5 (M:Mem) (cs:List Value) (x:List UInt8):Prop:=∃ a n c,cs=[.slice a n c]∧SrcOk M 1 a n (x.map zc)∧n≤1048576∧n≤c
end
end Go.Proofs.YtlgbofpennelhaaGreat
namespace Go.Proofs.YtlgbofpennelhaaGreat
open Go Go.Vm
attribute [local irreducible] Brn Ob Grow CallsM inR zI zF Mem.row Mem.cells Mem.setCells Mem.upd Go.Vm.Own zZ zaj zam zO New SrcOk subA NewSl Mem.textAt Mem.mapAt Mem.iterAt zC zB Wr NewEls Elems
set_option maxRecDepth 10000
open Br
theorem zHn:Reads 5 1 fun (_:Mem) cs (n:Int)=>cs=[.int .u8 n]∧zvU .u8 n:=Reads.int (by kernel_rfl)
theorem zDk {α:Type} {M:Mem} {a:Option Addr} {n:Nat} {R:List Value→α→Prop} {l:List α} {β:Type} (f:β→Value) (h:Elems M 1 a n R l) (hR:∀ cs x,R cs x→∃ y,cs=[f y]):∃ l':List β,SrcOk M 1 a n (l'.map f):=by
 unfold Elems at h;obtain⟨css,h1,h2,h3,h4,h5⟩:=h
 have:∃ l':List β,css.flatten=l'.map f:=by
  clear h1 h4
  induction css generalizing l n with
  | nil=>simp
  | cons cs r ih=>
   match l,h3 with
   | [],h3=>grind
   | x::l,h3=>
    obtain⟨y,hy⟩:=hR cs x (h5 0 cs x rfl rfl);obtain⟨l',hl'⟩:=ih (n:=n - 1) (l:=l) (by grind) (by grind) (fun i c z hi hz=>h5 (i+1) c z (by simp_all) (by simp_all));exact⟨y::l',by simp_all⟩
 obtain⟨l',e⟩:=this;exact⟨l',e▸h1⟩
theorem zHo {n:Int} (h:zvU .u8 n):Value.int .u8 n=zc (UInt8.ofNat n.toNat):=by
 have:=bounds_u8 h;simp only[zc];congr 1;simp;omega
theorem zE6:Reads 37 1 fun M cs (l:List UInt8)=>∃ a n c,cs=[.slice a n c]∧SrcOk M 1 a n (l.map zc)∧n≤1048576∧n≤c:=fun H enc W fuel cs d ps h hb=>by
 obtain⟨h1,l,a,n,c,h2,h3,h4⟩:=Reads.slice (t:=37) (e:=5) (by kernel_rfl) (by kernel_rfl) oD zHn H enc W fuel cs d ps h hb;obtain⟨l',h5⟩:=zDk zc h3 (fun cs x hx=>⟨_,hx.1.trans (by rw[zHo hx.2])⟩);exact⟨h1,l',a,n,c,h2,h5,h4⟩
theorem zzb:Reads 22 1 fun M cs (l:List (List UInt8))=>∃ a n c,cs=[.slice a n c]∧Elems M 1 a n (zE5 M) l∧n≤1048576∧n≤c:=fun H enc W fuel cs d ps h hb=>
 Reads.slice (t:=22) (e:=37) (by kernel_rfl) (by kernel_rfl) oD zE6 H enc W fuel cs d ps h hb
end Go.Proofs.YtlgbofpennelhaaGreat
namespace Go.Proofs.YtlgbofpennelhaaGreat
open Go Go.Vm
section
structure zbG {α β:Type} [Pay α] [Pay β] (f:α→β):Prop where
 emp:f Pay.emp=Pay.emp
 zero:∀ a,Pay.len (f a)=0↔Pay.len a=0
 len:∀ a,(121<Pay.len (f a))↔(121<Pay.len a)
section
variable {α β:Type}
def SndR.to (f:α→β) (X:SndR α):SndR β:=⟨X.size,X.base,X.all.map f,X.under⟩
def zdB (f:α→β) (l:List (Int×α)):List (Int×β):=l.map fun q=>(q.1,f q.2)
def RcvR.to (f:α→β) (X:RcvR α):RcvR β:=⟨X.size,X.waits,zdB f X.kept,X.asked⟩
def CtlR.to (f:α→β) (c:CtlR α):CtlR β:=⟨c.kind,c.ns,c.nr,c.p,c.me,c.peer,f c.data⟩
def LnkR.to (f:α→β) (X:LnkR α):LnkR β:=
 ⟨X.me,X.peer,X.up,X.size,X.timer,X.tries,X.left,X.tried,X.resets,X.busy,X.held,X.S.to f,X.R.to f,X.out.map (CtlR.to f),X.inn.map f⟩
def TakeO.to (f:α→β) (t:TakeO α):TakeO β:=⟨t.X.to f,t.told.map f,t.asks,t.e⟩
variable [Pay α] [Pay β] {f:α→β}
theorem zw2 (hf:zbG f) (X:SndR α) (l:α):zdO (X.to f) (f l)=zdO X l:=by
 unfold zdO;simp only[hf.zero,hf.len,SndR.to,Y9]
theorem zE7 (hf:zbG f) (X:SndR α) (l:α):zfA (X.to f) (f l)=(zfA X l).to f:=by
 unfold zfA;rw[zw2 hf];split
 ·simp[SndR.to]
 ·rfl
theorem zHp (X:SndR α) (n:Int):zfM (X.to f) n=zfM X n:=rfl
theorem zHq (X:SndR α) (n:Int):zgp (X.to f) n=zgp X n:=rfl
theorem zHr (X:SndR α) (n:Int):zdP (X.to f) n=(zdP X n).to f:=by
 unfold zdP;rw[zHp,zHq];split
 ·simp[SndR.to]
 ·rfl
theorem zDl (X:SndR α) (n:Int):zeO (X.to f) n=zeO X n:=rfl
theorem zzc (hf:zbG f) (l:List α) (i:Nat):(l.map f).getD i Pay.emp=f (l.getD i Pay.emp):=by
 rw[←hf.emp,Ys,Ys,Ya7];cases l[i]? <;> rfl
theorem zuv (hf:zbG f) (X:SndR α) (n:Int):zcX (X.to f) n=f (zcX X n):=by
 unfold zcX;rw[zDl];split
 ·exact zzc hf _ _
 ·exact hf.emp.symm
theorem ztp (l:List (Int×α)) (k:Int):ze (zdB f l) k=(ze l k).map f:=by
 induction l with
 | nil=>rfl
 | cons q r ih=>
  show ze ((q.1,f q.2)::zdB f r) k=_;rw[ze,ze];split
  ·rfl
  ·exact ih
theorem zHs (l:List (Int×α)) (k:Int) (x:α):zbX (zdB f l) k (f x)=zdB f (zbX l k x):=by
 induction l with
 | nil=>rfl
 | cons q r ih=>
  show zbX ((q.1,f q.2)::zdB f r) k (f x)=_;rw[zbX,zbX];split
  ·rfl
  ·rw[ih];rfl
theorem zHt (l:List (Int×α)) (k:Int) (x:α):zt (zdB f l) k (f x)=zdB f (zt l k x):=by
 unfold zt;rw[ztp];cases ze l k with
 | none=>simp[zdB]
 | some y=>exact zHs l k x
theorem zHu (l:List (Int×α)) (k:Int):zaO (zdB f l) k=zdB f (zaO l k):=by
 unfold zaO zdB;rw[Ydn];rfl
theorem zHv (l:List (Int×α)):(zdB f l).map (·.1)=l.map (·.1):=by simp[zdB]
theorem zDm (hf:zbG f) (X:RcvR α) (n:Int) (l:α):zeP (X.to f) n (f l)=zeP X n l:=by
 unfold zeP;simp only[hf.zero,hf.len];show (if _ then _ else if _ then _ else if _ then _ else if zb9 X.waits n<X.size then (if (ze (zdB f X.kept) n).isSome then _ else _) else _)=_
 rw[ztp,Option.isSome_map]
theorem zzd:∀ (n:Nat) (X:RcvR α) (t:List α),zd1 n (X.to f) (t.map f)=((zd1 n X t).1.to f,(zd1 n X t).2.map f)
 | 0,X,t=>rfl
 | n+1,X,t=>by
  rw[zd1,zd1];show (match ze (zdB f X.kept) X.waits with|none=>_|some l=>_)=_
  rw[ztp];cases ze X.kept X.waits with
  | none=>rfl
  | some l=>
   dsimp only [Option.map_some];have:=zzd n { X with kept:=zaO X.kept X.waits,asked:=zaO X.asked X.waits,waits:=(X.waits+1) % 128 } (t++[l])
   rw[←this,Yv];show zd1 n ⟨X.size,_,zaO (zdB f X.kept) X.waits,_⟩ _=_
   rw[zHu];rfl
theorem zE8 (X:RcvR α):zdc (X.to f)=zdc X:=by
 unfold zdc;show zht X.waits ((zdB f X.kept).map (·.1))=_
 rw[zHv]
theorem zE9 (X:RcvR α):zdd (X.to f)=zdd X:=by
 unfold zdd;rw[zE8];rfl
theorem zFa (hf:zbG f) (X:RcvR α) (n:Int) (l:α):zaG (X.to f) n (f l)=(zaG X n l).to f:=by
 unfold zaG;rw[zDm hf];split
 ·rfl
 ·have e:({ X.to f with kept:=zt (X.to f).kept n (f l) }:RcvR β)=RcvR.to f { X with kept:=zt X.kept n l }:=by
   show (⟨X.size,X.waits,zt (zdB f X.kept) n (f l),X.asked⟩:RcvR β)=_;rw[zHt];rfl
  have e2:(X.to f).kept.length=X.kept.length:=by simp[RcvR.to,zdB]
  rw[e,e2];have e3:=zzd (f:=f) (X.kept.length+1) { X with kept:=zt X.kept n l } []
  rw[Ybz] at e3;rw[e3];dsimp only;rw[zE9];rfl
theorem zw3 (X:LnkR α) (c:CtlR α):(X.to f).add (c.to f)=(X.add c).to f:=by
 unfold LnkR.add LnkR.to;simp[CtlR.to]
theorem zuw (hf:zbG f) (X:LnkR α) (p:Bool):zfN (X.to f) p=(zfN X p).to f:=by
 unfold zfN;have:=zw3 (f:=f) X ⟨5,0,0,p,0,0,Pay.emp⟩
 unfold CtlR.to at this;rw[hf.emp] at this;rw[this];rfl
theorem zw4 (hf:zbG f) (X:LnkR α):zjn (X.to f)=(zjn X).to f:=by
 unfold zjn;rw[←zuw hf];rfl
theorem zq1 (X:LnkR α) (n:Int) (l:α) (p:Bool):zcu (X.to f) n (f l) p=(zcu X n l p).to f:=by
 unfold zcu;exact zw3 (f:=f) X ⟨1,n,X.R.waits,p,0,X.peer,l⟩
theorem zoI (hf:zbG f) (X:LnkR α) (k a b:Int) (p:Bool) (m:Int):(X.to f).add ⟨k,a,b,p,0,m,Pay.emp⟩=(X.add ⟨k,a,b,p,0,m,Pay.emp⟩).to f:=by
 have:=zw3 (f:=f) X ⟨k,a,b,p,0,m,Pay.emp⟩;unfold CtlR.to at this
 rwa [hf.emp] at this
theorem zw5 (hf:zbG f):∀ (n:Nat) (X:LnkR α),zcv n (X.to f)=(zcv n X).to f
 | 0,X=>rfl
 | n+1,X=>by
  rw[zcv,zcv];show (if X.up=false∨X.busy=true then _ else if X.S.under=(X.S.all.map f).length∨(X.S.under:Int)=X.S.size then _ else _)=_
  rw[Y9];split
  ·rfl
  split
  ·rfl
  have e:zcu { X.to f with S:=zcm (X.to f).S } (((X.to f).S.base+(X.to f).S.under) % 128) ((X.to f).S.all.getD (X.to f).S.under Pay.emp) false=(zcu { X with S:=zcm X.S } ((X.S.base+X.S.under) % 128) (X.S.all.getD X.S.under Pay.emp) false).to f:=by
   rw[←zq1];show zcu _ _ ((X.S.all.map f).getD X.S.under Pay.emp) false=_
   rw[zzc hf];rfl
  dsimp only;rw[e,←zw5 hf n];show zcv n (if X.left=0 then _ else _)=zcv n (LnkR.to f (if X.left=0 then _ else _))
  split<;>rfl
theorem zq2 (hf:zbG f) (X:LnkR α):zcQ (X.to f)=(zcQ X).to f:=zw5 hf 65 X
theorem zss (hf:zbG f) (X:LnkR α):zdX (X.to f)=(zdX X).to f:=zoI hf X _ _ _ _ _
theorem zze (X:LnkR α) (n:Int):zcz (X.to f) n=(zcz X n).to f:=by
 unfold zcz;show (if zfM X.S n=0∧zgp X.S n≠0 then ({ X.to f with S:=zdP (X.S.to f) n,tried:=0,left:=if 0<(zdP (X.S.to f) n).under then X.timer else 0 }:LnkR β) else { X.to f with S:=zdP (X.S.to f) n })=_
 rw[zHr];split<;>rfl
theorem zux (hf:zbG f) (X:LnkR α) (l:α):zeQ (X.to f) (f l)=zeQ X l:=by
 unfold zeQ;show (if X.up then zdO (X.S.to f) (f l) else 7)=_
 rw[zw2 hf]
theorem zFb (hf:zbG f) (X:LnkR α) (l:α):zds (X.to f) (f l)=(zds X l).to f:=by
 unfold zds;rw[zux hf];split
 ·rw[←zq2 hf];show zcQ { X.to f with S:=zfA (X.S.to f) (f l) }=_
  rw[zE7 hf];rfl
 ·rfl
theorem zDn (hf:zbG f) (X:LnkR α) (c:CtlR α):zd2 (X.to f) (c.to f)=(zd2 X c).to f:=by
 obtain⟨Y,hY⟩:=oI ((if c.me=X.peer then X else if X.up then zb3 { X with peer:=c.me } else { zb3 { X with peer:=c.me } with left:=X.left }));have h1:zd2 X c=Y.add ⟨6,0,0,c.p,0,Y.peer,Pay.emp⟩:=by rw[hY];rfl
 have h2:zd2 (X.to f) (c.to f)=(Y.to f).add ⟨6,0,0,c.p,0,Y.peer,Pay.emp⟩:=by
  have h3:(if c.me=X.peer then X.to f else if X.up then zb3 { X.to f with peer:=c.me } else { zb3 { X.to f with peer:=c.me } with left:=X.left })=Y.to f:=by
   rw[hY];split
   ·rfl
   split<;>rfl
  show (LnkR.add (if c.me=X.peer then X.to f else if X.up then zb3 { X.to f with peer:=c.me } else { zb3 { X.to f with peer:=c.me } with left:=X.left }) ⟨6,0,0,c.p,0,(if c.me=X.peer then X.to f else if X.up then zb3 { X.to f with peer:=c.me } else { zb3 { X.to f with peer:=c.me } with left:=X.left }).peer,Pay.emp⟩)=_;rw[h3];rfl
 rw[h1,h2];exact zoI hf Y _ _ _ _ _
theorem zJf (X:LnkR α) (c:CtlR α):uaL (X.to f) (c.to f)=(uaL X c).to f:=by
 unfold uaL;show (if c.peer≠X.me∨X.up=true then _ else zdK (if c.me=X.peer then _ else _))=_
 split
 ·rfl
 split<;>rfl
theorem zJg (hf:zbG f) (X:LnkR α) (c:CtlR α):dmL (X.to f) (c.to f)=(dmL X c).to f:=by
 unfold dmL;show (if X.up=true∧c.peer=X.me∧c.me≠X.peer then _ else _)=_
 split
 ·exact zw4 hf X
 ·rfl
theorem zDo (hf:zbG f) (X:LnkR α) (c:CtlR α):zfO (X.to f) (c.to f)=(zfO X c).to f:=by
 unfold zfO
 have e:zcQ (zcz { X.to f with busy:=decide ((c.to f).kind=3) } (c.to f).nr)=(zcQ (zcz { X with busy:=decide (c.kind=3) } c.nr)).to f:=by
  rw[←zq2 hf,←zze];rfl
 rw[e];dsimp only;generalize zcQ (zcz { X with busy:=decide (c.kind=3) } c.nr)=Y
 have e2:(if (Y.to f).busy=true∧0<(Y.to f).S.all.length∧(Y.to f).left=0 then { Y.to f with left:=(Y.to f).timer } else Y.to f)=LnkR.to f (if Y.busy=true∧0<Y.S.all.length∧Y.left=0 then { Y with left:=Y.timer } else Y):=by
  show (if Y.busy=true∧0<(Y.S.all.map f).length∧Y.left=0 then _ else _)=_;rw[Y9];split<;>rfl
 rw[e2];show (if c.p then _ else _)=_
 split
 ·exact zss hf _
 ·rfl
theorem zDp (hf:zbG f) (X:LnkR α) (c:CtlR α):zgB (X.to f) (c.to f)=(zgB X c).to f:=by
 unfold zgB;show (if zeO X.S c.nr=0 then zcu (X.to f) c.nr (zcX (X.S.to f) c.nr) false else _)=_
 rw[zuv hf,zq1];split<;>rfl
theorem zw6 (hf:zbG f):∀ (l:List Int) (X:LnkR α),zdQ l (X.to f)=(zdQ l X).to f
 | [],X=>rfl
 | n::r,X=>by
  rw[zdQ,zdQ,←zw6 hf r];exact congrArg _ (zoI hf X _ _ _ _ _)
theorem zDq (hf:zbG f) (X:LnkR α) (c:CtlR α):zeR (X.to f) (c.to f)=(zeR X c).to f:=by
 unfold zeR;have e:zcQ (zcz (X.to f) (c.to f).nr)=(zcQ (zcz X c.nr)).to f:=by rw[←zq2 hf,←zze];rfl
 rw[e];dsimp only;generalize zcQ (zcz X c.nr)=Y
 have e2:(if (c.to f).p then { Y.to f with R:={ (Y.to f).R with asked:=[] } } else Y.to f)=LnkR.to f (if c.p then { Y with R:={ Y.R with asked:=[] } } else Y):=by
  show (if c.p then _ else _)=_;split<;>rfl
 rw[e2];generalize (if c.p then { Y with R:={ Y.R with asked:=[] } } else Y)=Z;rw[←zss hf];show zdX (if Z.held then _ else zdQ (zaG (Z.R.to f) c.ns (f c.data)).asks { Z.to f with R:=(zaG (Z.R.to f) c.ns (f c.data)).X,inn:=Z.inn.map f++(zaG (Z.R.to f) c.ns (f c.data)).told })=_
 rw[zFa hf];split
 ·rfl
 ·rw[←zw6 hf];congr 1;show zdQ (zaG Z.R c.ns c.data).asks { Z.to f with R:=(zaG Z.R c.ns c.data).X.to f,inn:=Z.inn.map f++(zaG Z.R c.ns c.data).told.map f }=_
  rw[←Yv];rfl
theorem zFc (hf:zbG f) (X:LnkR α) (c:CtlR α):zgb (X.to f) (c.to f)=(zgb X c).to f:=by
 unfold zgb
 have e:(if (X.to f).up then X.to f else zdK (X.to f))=LnkR.to f (if X.up then X else zdK X):=by
  show (if X.up then _ else _)=_;split<;>rfl
 rw[e];dsimp only;show (if c.kind=1 then _ else if c.kind=4 then _ else _)=_
 rw[zDq hf,zDp hf,zDo hf];split
 ·rfl
 split<;>rfl
theorem zFd (hf:zbG f) (X:LnkR α) (c:CtlR α):zde (X.to f) (c.to f)=(zde X c).to f:=by
 unfold zde;show (if c.kind=5 then _ else if c.kind=6 then _ else if c.kind=7 then _ else if c.me=X.peer∧c.peer=X.me then _ else if X.up then _ else _)=_
 rw[zDn hf,zJf,zJg hf,zFc hf];split
 ·rfl
 split
 ·rfl
 split
 ·rfl
 split
 ·rfl
 split
 ·rfl
 ·exact zoI hf X _ _ _ _ _
theorem zFe (hf:zbG f) (X:LnkR α):zcR (X.to f)=(zcR X).to f:=by
 unfold zcR;dsimp only;show (if X.left=0 then _ else if 0<X.left - 1 then _ else if X.up=false then _ else if 0<X.S.under then (if X.tried=X.tries then _ else _) else if X.busy=true∧0<(X.S.all.map f).length then _ else _)=_
 rw[Y9];split
 ·rfl
 split
 ·rfl
 split
 ·exact zuw hf { X with left:=X.left - 1 } true
 split
 ·split
  ·exact zw4 hf { X with left:=X.left - 1 }
  ·have:=zq1 (f:=f) { X with left:=X.left - 1,tried:=X.tried+1 } X.S.base (zcX X.S X.S.base) true;rw[←zuv hf] at this;show ({ zcu { LnkR.to f { X with left:=X.left - 1 } with tried:=X.tried+1 } X.S.base (zcX (X.S.to f) X.S.base) true with left:=X.timer }:LnkR β)=_
   exact congrArg (fun Z:LnkR β=>{ Z with left:=X.timer }) this
 split
 ·exact congrArg (fun Z:LnkR β=>{ Z with left:=X.timer }) (zoI hf { X with left:=X.left - 1 } 2 0 X.R.waits true X.peer)
 ·rfl
theorem ztq (hf:zbG f) (c:CtlR α):(zcj (c.to f)=0)=(zcj c=0):=by
 unfold zcj
 have h1:(0<Pay.len (c.to f).data)↔(0<Pay.len c.data):=by
  have:=hf.zero c.data;show 0<Pay.len (f c.data)↔_
  omega
 have h2:(121<Pay.len (c.to f).data)↔(121<Pay.len c.data):=hf.len c.data;dsimp only;simp only[h1,h2];rfl
end
end
section
inductive AW where
 | nil
 | off (o n c:Int)
 | ack (o n c:Int)
 | vec (o:Int)
deriving DecidableEq
instance:Pay AW:=⟨fun w=>match w with | .nil=>0|_=>1,.nil⟩
structure AN where
 me:Int
 pe:Int
 L:LnkR AW
 rs:Int
 so:List (CtlR AW)
 tab:Int
 next:Int
 held:List (Int×Option (Int×Int))
 last:Int
 got:Int
 ticks:Int
section
variable {α:Type} [Pay α]
def zAY (X:RcvR α):List Int:=match X.kept with
 | []=>[]
 | _=>zdd X
theorem zFf (X:RcvR α):zAY X=zdd X:=by
 unfold zAY;split
 ·rename_i e
  have:zdc X=[]:=by
   unfold zdc;rw[e];exact List.filter_eq_nil_iff.2 fun _ _=>by simp[zfk]
  unfold zdd;rw[this];rfl
 ·rfl
def zAZ (X:RcvR α) (ns:Int) (l:α):TakeO α:=
 if zeP X ns l≠0 then ⟨X,[],[],zeP X ns l⟩ else
  let a:=zd1 (X.kept.length+1) { X with kept:=zt X.kept ns l } []
  let b:=zgK (zAY a.1) a.1.asked []
  ⟨{ a.1 with asked:=b.1 },a.2,b.2,0⟩
theorem zFg (X:RcvR α) (ns:Int) (l:α):zAZ X ns l=zaG X ns l:=by
 unfold zAZ zaG;simp only[zFf]
def zw7 (X:LnkR α) (c:CtlR α):LnkR α:=
 let Y:=zcQ (zcz X c.nr)
 let Z:=if c.p then { Y with R:={ Y.R with asked:=[] } } else Y
 let t:=zAZ Z.R c.ns c.data
 zdX (if Z.held then Z else zdQ t.asks { Z with R:=t.X,inn:=Z.inn++t.told })
def zA0 (X:LnkR α) (c:CtlR α):LnkR α:=
 let Y:=if X.up then X else zdK X
 if c.kind=1 then zw7 Y c else if c.kind=4 then zgB Y c else zfO Y c
def zvg (X:LnkR α) (c:CtlR α):LnkR α:=
 if c.kind=5 then zd2 X c else if c.kind=6 then uaL X c else if c.kind=7 then dmL X c else
 if c.me=X.peer∧c.peer=X.me then zA0 X c else
 if X.up then X else X.add ⟨7,0,0,false,0,c.me,Pay.emp⟩
theorem zFh (X:LnkR α) (c:CtlR α):zvg X c=zde X c:=by
 have h1:∀ Y:LnkR α,zw7 Y c=zeR Y c:=fun Y=>by unfold zw7 zeR;simp only[zFg]
 have h2:∀ Y:LnkR α,zA0 Y c=zgb Y c:=fun Y=>by unfold zA0 zgb;simp only[h1]
 unfold zvg zde;simp only[h2]
end
def zfD (X:AN) (w:AW):Option AN:=if zeQ X.L w=0 then some { X with L:=zds X.L w } else none
def zbo:List (Int×Option (Int×Int))→Int→List (Int×Option (Int×Int))×Int×List (Int×Int)
 | [],n=>([],n,[])
 | (c,none)::r,n=>((c,some (n,0))::(zbo r ((n+1) % 65536)).1,(zbo r ((n+1) % 65536)).2.1,(n,c)::(zbo r ((n+1) % 65536)).2.2)
 | (c,some k)::r,n=>((c,some k)::(zbo r n).1,(zbo r n).2.1,(zbo r n).2.2)
def zkc:List (Int×Int)→AN→Option AN
 | [],X=>some X
 | (n,c)::r,X=>(zfD X (.off X.me n c)).bind (zkc r)
def zgF (X:AN):Option AN:=
 if X.tab≠0∧X.L.up=true then zkc (zbo X.held X.next).2.2 { X with held:=(zbo X.held X.next).1,next:=(zbo X.held X.next).2.1 } else some X
def zlL (X:AN):AN:={ X with L:={ X.L with out:=[] },so:=X.so++X.L.out }
def zhO (X:AN):AN:=if X.L.resets≠X.rs then { X with rs:=X.L.resets,held:=X.held.map fun h=>(h.1,none) } else X
def zhP (X:AN):Option AN:=(zgF (zhO X)).map zlL
def zoJ:Option (Int×Int)→Option (Int×Int)
 | some (n,t)=>if t+1=64 then none else some (n,t+1)
 | none=>none
def zkd (X:AN):AN:={ X with L:=zcR X.L,ticks:=X.ticks+1,tab:=if X.tab=0 then 0 else X.tab - 1,held:=X.held.map fun h=>(h.1,zoJ h.2) }
def zo2 (X:AN):Option AN:=if X.ticks<1000 then (if Int.tmod (X.ticks+1) 3=0∧(zcR X.L).up=true then zfD (zkd X) (.vec X.me) else some (zkd X)).bind zhP else none
def zw8 (l:List (Int×Option (Int×Int))) (n c:Int):Bool:=match ze l c with
 | some (some k)=>decide (k.1=n)
 | _=>false
def zo3 (X:AN):AW→Option AN
 | .nil=>none
 | .off o n c=>if o=X.pe∧(0≤n∧n≤65535)∧1≤c∧c≤X.got+1∧c≤20 then zfD { X with got:=if c≤X.got then X.got else c } (.ack o n c) else none
 | .ack o n c=>if o=X.me∧(0≤n∧n≤65535)∧1≤c∧c≤20 then (if zw8 X.held n c=true then some { X with held:=X.held.filter fun h=>decide (h.1≠c) } else some X) else none
 | .vec o=>if o=X.pe then some { X with tab:=64 } else none
def c5:CtlR AW:=⟨5,0,0,false,512,0,.nil⟩
def c6:CtlR AW:=⟨6,0,0,false,512,512,.nil⟩
def isC (c d:CtlR AW):Bool:=decide (c.kind=d.kind)&&decide (c.ns=d.ns)&&decide (c.nr=d.nr)&&(c.p == d.p)&&decide (c.me=d.me)&&decide (c.peer=d.peer)&&decide (c.data=d.data)
def okC (c:CtlR AW):Bool:=isC c c5||isC c c6||(decide (zcj c=0)&&(!c.p)&&(decide (c.kind=1)||(decide (c.kind=2)&&decide (c.ns=0)&&decide (c.data = .nil))))
def zst:List AW→AN→Option AN
 | [],X=>some X
 | w::r,X=>(zo3 X w).bind (zst r)
def zA1 (X:AN) (c:CtlR AW):Option AN:=zst (zvg X.L c).inn { X with L:={ zvg X.L c with inn:=[] } }
def zlM:List (CtlR AW)→AN→Option AN
 | [],X=>some X
 | c::r,X=>(zA1 X c).bind (zlM r)
def zig (X:AN) (l:List (CtlR AW)):Option AN:=if l.all okC=true then (zlM l X).bind zhP else none
def zxa (X:AN):AN:={ X with so:=[] }
structure A2 where
 a:AN
 b:AN
def zkM (X:AN):Bool:=X.L.out.isEmpty&&decide (X.so.length≤200)
def zhQ (a b:Option AN):Option A2:=match a,b with
 | some a,some b=>if (zkM a&&zkM b)=true then some ⟨a,b⟩ else none
 | _,_=>none
def zke (w:A2):Option A2:=zhQ (zig (zxa w.a) w.b.so) (zig (zxa w.b) w.a.so)
def zxb (w:A2):Option A2:=zhQ (zo2 w.a) (zo2 w.b)
def zDr (w:A2):Option A2:=(zxb w).bind fun w=>(zke w).bind fun w=>(zke w).bind zke
def ztr:Nat→A2→Option A2
 | 0,w=>some w
 | n+1,w=>(zDr w).bind (ztr n)
def zgj (X:AN):Option AN:=zhP { X with held:=X.held++[(X.last+1,none)],last:=X.last+1 }
def an0 (me pe:Int):AN:=zlL ⟨me,pe,zv2 512 4 3 3,0,[],0,0,[],0,0,0⟩
def zco:Nat→AN→Option AN
 | 0,X=>some X
 | n+1,X=>(zgj X).bind (zco n)
def zfZ (X:AN):Bool:=X.L.out.isEmpty&&decide (X.L.resets=X.rs)&&X.held.all fun h=>h.2.isSome
def zsu (w:A2):Nat:=w.a.held.length+w.b.held.length
def zsv:Nat→A2→Option A2
 | 0,w=>some w
 | n+1,w=>if zsu w=0 then some w else (ztr 6 w).bind (zsv n)
def begA:Option A2:=ztr 6 ⟨an0 0 1,an0 1 0⟩
def zsw (ka kb:Nat) (w:A2):Option A2:=zhQ (zco ka w.a) (zco kb w.b)
def zA2 (ka kb:Nat) (w:A2):Bool:=decide (zsu w=0)&&decide (w.a.got=kb)&&decide (w.b.got=ka)
def zdH (ka kb:Nat):Bool:=match (begA.bind (zsw ka kb)).bind (zsv 10) with
 | some w=>zA2 ka kb w
 | none=>false
def zA3 (k:Nat):Bool:=match begA.bind (zsw k k) with
 | some w=>zfZ w.a&&zfZ w.b&&decide (w.a.last=k)&&decide (w.b.last=k)
 | none=>false
end
section
def zhR (me:Int):Par:=⟨me,50,2000,50,200⟩
@[reducible] def idO (o c:Int):IdT:=⟨o,1 - o,1,c⟩
def snO (pe got:Int):List Mk:=if got=0 then [] else [⟨pe,1,got,[]⟩]
def stO (D:Int→Int→List UInt8) (me:Int) (hs:List Int) (last got:Int):StW:=
 ⟨⟨me,50,2000,50,1,(List.replicate 64 0).set (1 - me).toNat last,hs.map fun c=>⟨idO me c,D me c⟩⟩,snO (1 - me) got⟩
structure RC (D:Int→Int→List UInt8) (me:Int) (hs:List Int) (last got:Int) (C:CuR):Prop where
 st:∃ evs s,zjx (zhR me) (evs.length+1) C [] evs s∧(evs.length:Int)+hs.length≤1+2*last+got
 pw:PowD C.D
 X:C.X=stO D me hs last got
 me01:me=0∨me=1
 rg:(0≤last∧last≤20)∧0≤got∧got≤20
 cs:∀ c∈hs,1≤c∧c≤last
 nd:hs.Nodup
variable {D:Int→Int→List UInt8} {me last got:Int} {hs:List Int} {C:CuR}
theorem RC.live (h:RC D me hs last got C):C.w.failed=false:=by obtain⟨_,_,h1,_⟩:=h.st;exact h1.up.1
theorem RC.put (h:RC D me hs last got C) (e:EvX) (sf:Bool) (hm:zbB (stO D me hs last got) e.kind e.id e.p.length=0) {last' got':Int} {hs':List Int}
  (hX:zcf (stO D me hs last got) e=stO D me hs' last' got') (hr:(0≤last'∧last'≤20)∧0≤got'∧got'≤20) (h1:∀ c∈hs',1≤c∧c≤last') (h2:hs'.Nodup)
  (hn:(hs'.length:Int) - hs.length+1≤2*(last' - last)+(got' - got)) (hk:(hs.length:Int)≥1∨last'=last+1∨got'=got+1) (hl:last≤last'∧got≤got') (hlh:(hs'.length:Int)≤hs.length+1) :
  (zad C e.kind e.id e.p sf).2=0∧RC D me hs' last' got' (zad C e.kind e.id e.p sf).1:=by
 obtain⟨evs,s,hL,hc⟩:=h.st;obtain⟨r,hr'⟩:=oI (zad C e.kind e.id e.p sf);have hrg:=h.rg
 have hev:evs.length≤61:=by omega
 rw[←hr'];rcases hL.toLiveB.put oM e sf (r:=r) hr' with ⟨a1,_⟩|⟨_,a2,⟨s',a3,_⟩,a6,_⟩|⟨_,_,a3,_⟩
 ·rw[h.X] at a1;exact absurd hm a1
 ·refine⟨a2,⟨evs++[e],s',by rw[Yi,Ybv];exact a3,?_⟩,a6 h.pw,?_,h.me01,hr,h1,h2⟩
  ·rw[Yi,Ybv];omega
  ·rw[a3.X,Yaa,zkb];have:=hL.X
   rw[Yaa] at this;rw[←this,h.X];exact hX
 ·exact absurd h.pw a3
theorem zlN (hm:me=0∨me=1) {c:Int} (h1:1≤c) (h2:c≤65535):idErr me (1 - me) 1 c=0:=by
 unfold idErr;rcases hm with rfl|rfl<;>rw[if_pos oM,if_neg oD]
theorem zK3 {X:StW} {i:IdT} (hid:idErr i.o i.d i.e i.c=0) (hh:zfQ X.S.l i=true):zbB X 3 i 0=0:=by
 have hf:zba 3 i 0=0:=by unfold zba;simp[zer,hid]
 unfold zbB za2;rw[hf];simp[hh]
theorem zK4 {X:StW} {i:IdT} (hid:idErr i.o i.d i.e i.c=0) (hd:i.d=X.S.self) (hh:zes X.S (zcJ X.sn) i=0):zbB X 4 i 0=0:=by
 have hf:zba 4 i 0=0:=by unfold zba;simp[zer,hid]
 unfold zbB za2;rw[hf];simp[hh,hd]
theorem zJ8 {X:StW} {i:IdT} (hm:zbB X 3 i 0=0):zcf X ⟨3,i,[]⟩=⟨{ X.S with l:=X.S.l.filter fun m=>decide (m.id≠i) },X.sn⟩:=by
 unfold zcf zct;rw[if_pos (show zbB X (EvX.kind ⟨3,i,[]⟩) (EvX.id ⟨3,i,[]⟩) (EvX.p ⟨3,i,[]⟩).length=0 from hm)];rfl
theorem zJ9 {X:StW} {i:IdT} (hm:zbB X 4 i 0=0):zcf X ⟨4,i,[]⟩=⟨X.S,zlI X.sn i.o i.e i.c⟩:=by
 unfold zcf zct;rw[if_pos (show zbB X (EvX.kind ⟨4,i,[]⟩) (EvX.id ⟨4,i,[]⟩) (EvX.p ⟨4,i,[]⟩).length=0 from hm)];rfl
theorem RC.release (h:RC D me hs last got C) {c:Int} (hc:c∈hs):(zad C 3 (idO me c) [] false).2=0∧RC D me (hs.filter fun x=>decide (x≠c)) last got (zad C 3 (idO me c) [] false).1:=by
 have hcs:=h.cs c hc;have hrg:=h.rg
 have hm:zbB (stO D me hs last got) 3 (idO me c) 0=0:=
  zK3 (zlN (c:=c) h.me01 hcs.1 oM) (Yb7.2 ⟨⟨idO me c,D me c⟩,Yj.2 ⟨c,hc,rfl⟩,by simp⟩)
 have hlt:(hs.filter fun x=>decide (x≠c)).length<hs.length:=List.length_filter_lt_length_iff_exists.2 ⟨c,hc,by simp⟩;have hpos:=List.length_pos_of_mem hc
 refine h.put ⟨3,idO me c,[]⟩ false hm (hs':=hs.filter fun x=>decide (x≠c)) (last':=last) (got':=got) ?_ hrg (fun x hx=>h.cs x (Ya3.1 hx).1) (h.nd.filter _) oM (.inl oM) ⟨Yae _,Yae _⟩ oM;rw[zJ8 hm];unfold stO;dsimp only;rw[Ydn];congr 3;exact List.filter_congr fun x _=>by simp
theorem zDt (pe got:Int) (h:0≤got):zca (zcJ (snO pe got)) (pe,1)=got∧zbw (zcJ (snO pe got)) (pe,1)=[]∧zaD (zcJ (snO pe got))=0:=by
 unfold snO;split
 ·rename_i e;subst e;exact⟨rfl,rfl,rfl⟩
 ·have e:ze (zcJ [⟨pe,1,got,[]⟩]) (pe,1)=some ⟨0,none,0,got,[]⟩:=by simp[zcJ,toE,ze]
  unfold zca zbw;rw[e];exact⟨rfl,rfl,rfl⟩
theorem RC.seen (h:RC D me hs last got C) {c:Int} (h1:1≤c) (h2:c≤65535):zkI C (idO (1 - me) c)=decide (c≤got):=by
 have hrg:=h.rg;obtain⟨u1,u2,_⟩:=zDt (1 - me) got hrg.2.1;unfold zkI zft;rw[h.X];show (decide (1 - (1 - me)=me)&&(decide (idErr (1 - me) (1 - (1 - me)) 1 c=0)&&(decide (c≤zca (zcJ (snO (1 - me) got)) (1 - me,1))||decide (c∈zbw (zcJ (snO (1 - me) got)) (1 - me,1)))))=_
 rw[u1,u2,zlN (by have:=h.me01;omega) h1 h2];simp;omega
theorem RC.deliver (h:RC D me hs last got C) (hg:got+1≤20):(zad C 4 (idO (1 - me) (got+1)) [] true).2=0∧RC D me hs last (got+1) (zad C 4 (idO (1 - me) (got+1)) [] true).1:=by
 have hrg:=h.rg;have hm01:=h.me01
 obtain⟨u1,u2,u3⟩:=zDt (1 - me) got hrg.2.1;have hid:idErr (1 - me) (1 - (1 - me)) 1 (got+1)=0:=zlN oM oM oM
 have hm:zbB (stO D me hs last got) 4 (idO (1 - me) (got+1)) 0=0:=by
  refine zK4 hid (by show 1 - (1 - me)=me;omega) ?_;show mayE 50 (zcJ (snO (1 - me) got)) (1 - me) (1 - (1 - me)) 1 (got+1)=0
  unfold mayE zft;rw[u1,u2,hid];simp;omega
 refine h.put ⟨4,idO (1 - me) (got+1),[]⟩ true hm (hs':=hs) (last':=last) (got':=got+1) ?_ oM h.cs h.nd oM (.inr (.inr rfl)) oM oM;rw[zJ9 hm];unfold stO;congr 1;show zlI (snO (1 - me) got) (1 - me) 1 (got+1)=snO (1 - me) (got+1)
 unfold zlI zfu;rw[u1,u2];have e:normC got (zdE (got+1) [])=(got+1,[]):=by simp[zdE,normC]
 rw[e];unfold snO;rw[if_neg (show ¬got+1=0 by omega)];split
 ·rfl
 ·simp[zgQ]
theorem zHw (hm:me=0∨me=1):zdt (stO D me hs last got).S (1 - me)=last:=by
 unfold zdt stO;rcases hm with rfl|rfl<;>simp
theorem RC.submit (h:RC D me hs last got C) (hl:last+1≤20) (p:List UInt8) (hD:(zbm C (1 - me) p).2.2=0→D me (last+1)=p) :
  ((zbm C (1 - me) p).2.2≠0∧(zbm C (1 - me) p).1=C)∨((zbm C (1 - me) p).2.2=0∧(1≤p.length∧p.length≤48)∧RC D me (hs++[last+1]) (last+1) got (zbm C (1 - me) p).1):=by
 obtain⟨evs,s,hL,hc⟩:=h.st;have hrg:=h.rg
 have e0:=zwZ hL (1 - me) p;have hlast:=zHw (D:=D) (hs:=hs) (last:=last) (got:=got) h.me01
 have hfr:zaW C.X.S (1 - me)=(idO me (last+1),0):=by
  rw[h.X];unfold zaW;rw[hlast];have h0:(stO D me hs last got).S.epoch=1:=rfl
  have h1:(stO D me hs last got).S.self=me:=rfl;have hm01:=h.me01
  rw[h0,h1,if_neg oD,if_neg oM,if_neg oM,if_neg oM]
 rw[hfr] at e0;rw[if_neg (by exact fun h=>h rfl)] at e0;dsimp only at e0;by_cases hm:zbB (stO D me hs last got) 2 (idO me (last+1)) p.length=0
 case neg=>
  have e1:zad C 2 (idO me (last+1)) p true=(C,zbB C.X 2 (idO me (last+1)) p.length):=by
   unfold zad;rw[if_neg (by rw[hL.up.1];decide),if_pos (by rw[h.X];exact hm)]
  rw[e1,if_pos (by rw[h.X];exact hm)] at e0;rw[e0];exact .inl ⟨by rw[h.X];exact hm,rfl⟩
 have hf:msgErr me (1 - me) 1 (last+1) p.length=0:=by
  have:=ziH hm;exact this
 have hlen:1≤p.length∧p.length≤48:=by
  unfold msgErr at hf;split at hf
  ·rename_i g;exact absurd hf g
  split at hf
  ·exact absurd hf oD
  split at hf
  ·exact absurd hf oD
  ·omega
 have hS:zcf (stO D me hs last got) ⟨2,idO me (last+1),p⟩=⟨⟨me,50,2000,50,1,(List.replicate 64 0).set (1 - me).toNat (last+1),(hs.map fun c=>(⟨idO me c,D me c⟩:zcF))++[⟨idO me (last+1),p⟩]⟩,snO (1 - me) got⟩:=by
  unfold zcf zct;rw[if_pos (show zbB _ (EvX.kind ⟨2,idO me (last+1),p⟩) (EvX.id ⟨2,idO me (last+1),p⟩) (EvX.p ⟨2,idO me (last+1),p⟩).length=0 from hm)];show (⟨{ (stO D me hs last got).S with l:=_,used:=if me=me∧(1:Int)=1 then _ else _ },_⟩:StW)=_
  rw[if_pos ⟨rfl,rfl⟩,hlast];unfold stO;dsimp only;rw[List.set_set,show max last (last+1)=last+1 by omega];rfl
 obtain⟨D',hD'⟩:∃ D':Int→Int→List UInt8,D'=fun o c=>if c=last+1 then p else D o c:=⟨_,rfl⟩
 have hne:∀ c∈hs,c≠last+1:=fun c hx=>by have:=h.cs c hx;omega
 have hmap:(hs.map fun c=>(⟨idO me c,D' me c⟩:zcF))=hs.map fun c=>(⟨idO me c,D me c⟩:zcF):=Yav fun c hx=>by rw[hD'];dsimp only;rw[if_neg (hne c hx)]
 have h':RC D' me hs last got C:=⟨h.st,h.pw,by rw[h.X];unfold stO;rw[hmap],h.me01,h.rg,h.cs,h.nd⟩
 have hsO:stO D' me hs last got=stO D me hs last got:=by unfold stO;rw[hmap]
 have hput:=h'.put ⟨2,idO me (last+1),p⟩ true (by rw[hsO];exact hm) (hs':=hs++[last+1]) (last':=last+1) (got':=got) (by
  rw[hsO,hS];unfold stO;rw[Yv,hmap];congr 3
  rw[hD'];simp) oM (fun c hx=>by
   rcases Yy.1 hx with hx|hx
   ·have:=h.cs c hx;omega
   ·rw[Y0.1 hx];omega) (Ydw.2 ⟨h.nd,by simp,fun a ha b hb e=>hne a ha (by rw[e];exact Y0.1 hb)⟩) oE (.inr (.inl rfl)) oM oS
 rw[if_neg (by rw[hput.1];exact fun h=>h rfl)] at e0;rw[e0] at hD ⊢;refine .inr ⟨rfl,hlen,?_⟩;have hr:=hput.2
 refine⟨hr.st,hr.pw,?_,hr.me01,hr.rg,hr.cs,hr.nd⟩;rw[hr.X];have:=hD rfl
 unfold stO;rw[Yv,Yv,hmap];congr 3;rw[hD'];simp[this]
theorem rc0 (hm:me=0∨me=1):RC D me [] 0 0 (za1 D00 me 50 2000 50 200 none).1:=by
 have hb:¬zcN (zhR me).me (zhR me).qh (zhR me).qb (zhR me).qg:=by show ¬zcN me 50 2000 50;unfold zcN;omega
 obtain⟨h1,h2⟩:=zJa (P:=zhR me) hb (by show 16≤(200:Int)∧(200:Int)≤1048576;omega);have hX:=zJb h1
 have hS:=zJc (zE4 h1);refine⟨⟨[bootX],1,h1,by simp⟩,h2,?_,hm,by omega,by simp,List.nodup_nil⟩;show (za1 D00 (zhR me).me (zhR me).qh (zhR me).qb (zhR me).qg (zhR me).seg none).1.X=_
 rw[hX];have e:zcf (zhR me).x0 bootX=⟨(zcf (zhR me).x0 bootX).S,(zcf (zhR me).x0 bootX).sn⟩:=rfl
 rw[e,hS.1,hS.2];rcases hm with rfl|rfl<;>rfl
end
end Go.Proofs.YtlgbofpennelhaaGreat
