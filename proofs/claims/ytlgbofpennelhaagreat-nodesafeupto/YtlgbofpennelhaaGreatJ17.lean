/- Part. -/
import Derived.Test.YtlgbofpennelhaaGreatJ16
set_option linter.all false
set_option maxHeartbeats 0
namespace Go.Proofs.YtlgbofpennelhaaGreat
open Go Go.Vm Go.Proofs.Tryz
attribute [local irreducible] Brn Ob Grow CallsM inR zX zI Mem.row Mem.cells Mem.setCells Mem.upd Go.Vm.Own zac zar zas zab New SrcOk subA NewSl Mem.textAt Mem.mapAt Mem.iterAt zH zF Wr NewEls Elems
set_option maxRecDepth 10000
section
variable {A M M':Mem} {c p db:Nat} {N:Int} {h:Hd} {des:FsT} {X:StW} {D:ze} {w:CuW} {H:CuH} {C:CuR}
theorem NamesC.cut {D:ze} (h:NamesC D) (k:Int) (n:Int):NamesC (zcC D (zb k) n).1:=by
 unfold zcC;split
 ·exact h
 ·rename_i h0;split
  ·exact h
  ·have hk:=zkZ (zcA (by simpa using h0)).1;refine h.l fun f hf=>?_
   rcases withR_mem.1 hf with rfl|⟨hf,_⟩
   ·grind
   ·simp_all
theorem zqh:∀ {f:Nat} {D:ze} {next last:Int} {all:List (List UInt8)},NamesC D→(1≤last∧last≤99999)→1≤next→(∀ q∈all,zcV q) →
  NamesC (zai f D next last all).1∧(1≤(zai f D next last all).2.2.1∧(zai f D next last all).2.2.1≤99999)∧∀ q∈(zai f D next last all).2.2.2.1,zcV q
 | 0,_,_,_,_,h,hl,_,ho=>⟨h,hl,ho⟩
 | f+1,D,next,last,all,h,hl,hn,ho=>by
  rw[zai];split
  ·simp_all
  rename_i h0;split
  ·simp_all
  have hs:=(zop _ (bl (zax D (zb next)).1) (Yd _)).2.1;have ho2:∀ q∈all++zaK (bl (zax D (zb next)).1),zcV q:=fun q hq=>by grind
  split
  ·split
   ·exact⟨h.cut _ _,⟨hn,by simp_all⟩,by simp⟩
   ·exact⟨h.cut _ _,⟨hn,by simp_all⟩,ho2⟩
  ·exact zqh h ⟨hn,by omega⟩ oM ho2
theorem zwp {D:ze} {first size:Int} (h:NamesC D) (hf:1≤first∧first≤99999) (hz:0≤size∧size≤1048576):NamesC (zbR D (L0 first size)).1∧LgOk (zbR D (L0 first size)).2.1∧∀ q∈(zbR D (L0 first size)).2.2.1,zcV q:=by
 have h1:NamesC (removeAll D (zbp D fun k=>decide (k<(L0 first size).first))).1:=h.removeAll;obtain⟨a1,a2,a3⟩:=zqh (f:=(100000 - (L0 first size).first).toNat) (next:=(L0 first size).first) (last:=(L0 first size).last) (all:=[]) h1 hf hf.1 oS;unfold zbR;dsimp only;split
 ·exact⟨h1,⟨hf,hz⟩,by simp⟩
 split
 ·exact⟨a1,⟨a2,hz⟩,by simp⟩
 ·exact⟨a1.removeAll,⟨a2,hz⟩,a3⟩
def zdt (X:StW):List (List UInt8)→StW×Int
 | []=>(X,0)
 | q::r=>if zgE q≠0 then (X,2) else if (zck X (zbP q).kind (zbP q).id (zbP q).p).2≠0 then ((zck X (zbP q).kind (zbP q).id (zbP q).p).1,2) else zdt (zck X (zbP q).kind (zbP q).id (zbP q).p).1 r
theorem CuAt.aside (h:CuAt A M c p N H C) {f:Nat} {args:List Value} {R:Value→Mem→Prop} (hc:CallsM prog f args (M.minus (cuB c p H)) R) :
  CallsM prog f args M fun v M'=>∃ A',R v A'∧CuAt A' M' c p N H C:=
 (hc.frame (Yac _ _)).mono fun v M' ⟨A',hR,hle,hk⟩=>by
  have hkk:∀ y o,cuB c p H y→M y=Option.some o→M' y=Option.some o∧A' y=none:=fun y o hy ho=>hk y o (Yao hy) ho
  have hno:∀ y,cuB c p H y→A' y=none:=fun y hy=>by
   cases e:M y with
   | none=>exact absurd e (h.some hy)
   | some o=>simp_all
  refine⟨A',hR,⟨⟨hle,h.st.st.at'.mono fun y o hy ho=>(hkk y o (.inr (.inl hy)) ho).1,h.st.st.inv,h.st.st.invE,h.st.st.room,fun y hy=>hno y (.inr (.inl hy))⟩,h.st.seen,h.st.go,h.st.bd⟩,
   ⟨⟨hle,h.log.disk.at'.mono fun y o hy ho=>(hkk y o (.inr (.inr (.inr hy))) ho).1,h.log.disk.rel,h.log.disk.inv,fun y hy=>hno y (.inr (.inr (.inr hy)))⟩,(hkk _ _ (.inr (.inr (.inl rfl))) h.log.self).1,hno _ (.inr (.inr (.inl rfl)))⟩,
   (hkk _ _ (.inl rfl) h.self).1,hno c (.inl rfl),h.dj,h.cs,h.cl,h.lg,h.nm,h.cm⟩
def firstC (w:CuW):Int:=max w.snap 1
def zbd (D:ze) (w:CuW) (seg:Int):ze×zaM×List (List UInt8)×Int:=if D.down=true then (D,L0 (firstC w) seg,[],9) else zbR D (L0 (firstC w) seg)
def zdP (X:StW) (D:ze) (w:CuW) (seg:Int):Int:=if (zbd D w seg).2.2.2≠0 then (zbd D w seg).2.2.2 else (zdt X (zbd D w seg).2.2.1).2
theorem CuPre.logged (h1:CuPre A M c p db N h des X D w) {A2 M2:Mem} {g:Nat} {D2:ze} {L2:zaM} {es2:FsT} (hl:LogAt ((M.minus fun y=>y=c∨hB h y).minus (zao p db des)) A2 g p db D2 es2 L2) (hle:A2.le M2)
  (hk:∀ y o,(y=c∨hB h y)→M y=Option.some o→M2 y=Option.some o∧A2 y=none) (hlg:LgOk L2) (hnm:NamesC D2) :
  CuAt A (M2.setCells c 153 (zhB h.p p (ptr g) w)) c p N ⟨h,g,db,es2⟩ ⟨X,D2,L2,w⟩:=by
 have hA:A.le ((M.minus fun y=>y=c∨hB h y).minus (zao p db des)):=Ybw (Ybw h1.disk.le fun y hy=>by
  rcases hy with rfl|hy
  ·exact h1.cf
  ·exact h1.st.st.fresh y hy) h1.disk.fresh
 have hl2:=(hl.mono hA).to hle
 have hno:∀ y,(y=c∨hB h y)→A2 y=none:=fun y hy=>by
  cases e:M y with
  | none=>
   rcases hy with rfl|hy
   ·exact absurd e h1.some
   ·exact absurd e (h1.st.some hy)
  | some o=>simp_all
 have hlb:∀ y,zbK g p db es2 y→¬(y=c∨hB h y):=fun y hy h3=>hl.full hy (hno y h3)
 have hs2:FreshW A M2 h X:=⟨⟨hl2.disk.le,h1.st.st.at'.mono fun y o hy ho=>(hk y o (.inr hy) ho).1,h1.st.st.inv,h1.st.st.invE,h1.st.st.room,h1.st.st.fresh⟩,h1.st.seen,h1.st.go,h1.st.bd⟩
 have hkc:Mem.keep (fun y=>y=c) M2 (M2.setCells c 153 (zhB h.p p (ptr g) w)):=fun y o hy ho=>by
  unfold Mem.setCells;rw[Yg _ _ hy];exact ho
 exact⟨hs2.keepS hkc fun y hy=>hy▸⟨h1.cf,h1.cs⟩,hl2.keepS hkc fun y hy=>hy▸⟨h1.cf,fun h3=>hlb c h3 (.inl rfl)⟩,Ye,h1.cf,fun y hy h3=>hlb y h3 (.inr hy),h1.cs,fun h3=>hlb c h3 (.inl rfl),hlg,hnm,h1.cm⟩
set_option maxHeartbeats 1000000 in
theorem zD7 (h1:CuPre A M c p db N h des X D w) {seg:Int} (hseg:16≤seg∧seg≤1048576) (hsn:w.snap≤99999) (hN0:0≤N) (hN:N+(zbd D w seg).2.2.1.length≤4611686018427387904) :
  CallsM prog 84 [ptr c,.int .i64 seg] M fun v M'=>v = .int .i64 (zdP X D w seg)∧(∃ des',FreshD A M' p db (zbd D w seg).1 des') ∧
   (zdP X D w seg=0→∃ H',CuAt A M' c p (N+(zbd D w seg).2.2.1.length) H' ⟨(zdt X (zbd D w seg).2.2.1).1,(zbd D w seg).1,(zbd D w seg).2.1,w⟩):=by
 refine ziY oS ?_;refine zLX (h1.self) ?_;obtain⟨Ma,hMa⟩:=oI (M.minus fun y=>y=c∨hB h y)
 have hda:FreshD (Ma.minus (zao p db des)) Ma p db D des:=by
  refine⟨Yac _ _,h1.disk.at'.mono fun y o hy ho=>?_,h1.disk.rel,h1.disk.inv,fun y hy=>Yao hy⟩;rw[hMa];unfold Mem.minus;rw[if_neg]
  ·omega
  ·rintro (rfl|h3)
   ·exact h1.cl hy
   ·exact h1.dj y h3 hy
 have hA:A.le (Ma.minus (zao p db des)):=by
  rw[hMa]
  exact Ybw (Ybw h1.disk.le fun y hy=>by
   rcases hy with rfl|hy
   ·exact h1.cf
   ·exact h1.st.st.fresh y hy) h1.disk.fresh
 refine((zGr hda h1.nm.w (max w.snap 1) seg).frame (hMa▸Yac _ _)).mono ?_;rintro v M2 ⟨A2,hO,hle2,hk2⟩;unfold zyr at hO;have hbad:¬(max w.snap 1<1∨99999<max w.snap 1∨seg<16∨1048576<seg):=by omega
 have hfi:firstC w=max w.snap 1:=rfl;rcases hO with ⟨h3, -⟩|⟨-, hd,rfl,es2,h2⟩|⟨-, hd,h3,rfl,es2,h2⟩|⟨-, hd,h3,g,es2,a,n,cc,rfl,h2,hrec⟩
 ·omega
 ·have hR:zbd D w seg=(D,L0 (firstC w) seg,[],9):=by unfold zbd;rw[if_pos hd]
  have hE:zdP X D w seg=9:=by unfold zdP;rw[hR];rfl
  repeat' (first|refine⟨?_,True.intro⟩|refine⟨?_,?_,True.intro⟩|refine brn_t rfl ?_|refine brn_f rfl ?_|refine ob rfl ?_|refine obr rfl ?_|refine ob oD ?_|refine obr oD ?_|refine grow_same (Ya _) ?_|refine ob (Ya _) ?_|refine⟨_,Ya _,?_⟩|fail)
  rw[hE,hR];exact⟨rfl,⟨es2,(h2.mono hA).to hle2⟩,fun h=>by cases h⟩
 ·have hR:zbd D w seg=zbR D (L0 (max w.snap 1) seg):=by unfold zbd;rw[if_neg (by simp[hd]),hfi]
  have hE:zdP X D w seg=(zbR D (L0 (max w.snap 1) seg)).2.2.2:=by unfold zdP;rw[hR,if_pos h3]
  repeat' (first|refine⟨?_,True.intro⟩|refine⟨?_,?_,True.intro⟩|refine brn_t rfl ?_|refine brn_f rfl ?_|refine ob rfl ?_|refine obr rfl ?_|refine ob oD ?_|refine obr oD ?_|refine grow_same (Ya _) ?_|refine ob (Ya _) ?_|refine⟨_,Ya _,?_⟩|fail)
  refine brn_t (by simp_all) ?_
  repeat' (first|refine⟨?_,True.intro⟩|refine⟨?_,?_,True.intro⟩|refine brn_t rfl ?_|refine brn_f rfl ?_|refine ob rfl ?_|refine obr rfl ?_|refine ob oD ?_|refine obr oD ?_|refine grow_same (Ya _) ?_|refine ob (Ya _) ?_|refine⟨_,Ya _,?_⟩|fail)
  rw[hE,hR];exact⟨rfl,⟨es2,(h2.mono hA).to hle2⟩,fun h=>absurd h h3⟩
 obtain⟨nm1,nm2,nm3⟩:=zwp (first:=max w.snap 1) (size:=seg) h1.nm oM oM;have hR:zbd D w seg=zbR D (L0 (max w.snap 1) seg):=by unfold zbd;rw[if_neg (by simp[hd]),hfi]
 have hE:zdP X D w seg=(zdt X (zbR D (L0 (max w.snap 1) seg)).2.2.1).2:=by unfold zdP;rw[hR,if_neg (by simp[h3])]
 rw[hR] at hN ⊢;rw[hE];obtain⟨o,ho⟩:=oI (zbR D (L0 (max w.snap 1) seg));rw[←ho] at h2 hrec nm1 nm2 nm3 hN h3 ⊢;have hkk:∀ y o,(y=c∨hB h y)→M y=Option.some o→M2 y=Option.some o∧A2 y=none:=fun y o hy hy2=>hk2 y o (by rw[hMa];exact Yao hy) hy2
 have h4:=h1.logged (hMa▸h2) hle2 hkk nm2 nm1
 repeat' (first|refine⟨?_,True.intro⟩|refine⟨?_,?_,True.intro⟩|refine brn_t rfl ?_|refine brn_f rfl ?_|refine ob rfl ?_|refine obr rfl ?_|refine ob oD ?_|refine obr oD ?_|refine grow_same (Ya _) ?_|refine ob (Ya _) ?_|refine⟨_,Ya _,?_⟩|fail)
 have hc2:M2.has c 153 (zhB h.p p (.pointer none) w):=(hkk c _ (.inl rfl) h1.self).1;refine on hc2.cells ?_;refine ob oS ?_;obtain⟨M3,hM3⟩:=oI (M2.setCells c 153 (zhB h.p p (ptr g) w));rw[←hM3] at h4;erw [←hM3];obtain⟨Z,hZ⟩:∃ Z,Z=M3.minus (cuB c p ⟨h,g,db,es2⟩):=⟨_,rfl⟩
 have hAZ:A.le Z:=by rw[hZ];exact h4.base.2
 have hzz:(A2.minus (zbK g p db es2)).le Z:=fun y o2 hy=>by
  have hy2:A2 y=Option.some o2:=Yac _ _ y o2 hy;have hnl:¬zbK g p db es2 y:=fun hb=>by rw[Yao hb] at hy;cases hy
  have hnc:¬(y=c∨hB h y):=fun hb=>by
   cases e:M y with
   | none=>
    rcases hb with rfl|hb
    ·exact absurd e h1.some
    ·exact absurd e (h1.st.some hb)
   | some o3=>simp_all
  rw[hZ];unfold Mem.minus;rw[if_neg,hM3,zxC,if_neg fun e=>hnc (.inl e)]
  ·exact hle2 y o2 hy2
  ·rintro (h5|h5|h5)
   ·omega
   ·simp_all
   ·simp_all
 have hel:Elems Z 1 a n (BytesW Z) o.2.2.1:=by
  have h5:Elems _ 1 a n (BytesW _) o.2.2.1:=NewEls.elems hrec;exact h5.imp hzz fun cs x _ ⟨pa,pn,pc,e,hw⟩=>⟨pa,pn,pc,e,hw.le hzz⟩
 have hnl:=hel.len
 refine zan (σ:=Nat×Mem×CuH×StW) [36] (fun y=>[(36,.int .i64 y.1)]) (fun _=>[]) (fun y=>y.2.1)
  (fun|⟨i,Mc,H,Xc⟩=>i≤n∧H.db=db∧CuAt Z Mc c p (N+i) H ⟨Xc,o.1,o.2.1,w⟩∧zdt X o.2.2.1=zdt Xc (o.2.2.1.drop i)) (fun y=>n - y.1) ⟨0,M3,⟨h,g,db,es2⟩,X⟩ ⟨by omega,rfl,by rw[hZ];exact h4.base.1.more oM,rfl⟩ zS ?_
 rintro ⟨i,Mc,⟨Hh,Hg,Hdb,Hes⟩,Xc⟩ ⟨hi,rfl,pc,hrw⟩;refine brn (fun e=>?_) (fun e=>?_)
 rotate_left
 ·have hge:i=n:=by have:=Zd1 e;dsimp only at this;omega
  subst hge;rw[Yaf oM,zdt] at hrw
  repeat' (first|refine⟨?_,True.intro⟩|refine⟨?_,?_,True.intro⟩|refine brn_t rfl ?_|refine brn_f rfl ?_|refine ob rfl ?_|refine obr rfl ?_|refine ob oD ?_|refine obr oD ?_|refine grow_same (Ya _) ?_|refine ob (Ya _) ?_|refine⟨_,Ya _,?_⟩|fail)
  rw[hrw,hnl];exact⟨rfl,⟨Hes,pc.disk.mono hAZ⟩,fun _=>⟨_,pc.mono hAZ⟩⟩
 have hlt:i<n:=by have:=Zd0 e;dsimp only at this;omega
 obtain⟨hl9,bb,oo,cs,ha9, -, hrow, -, xa,xn,xc,rfl,hxw⟩:=(hel.imp (M':=Z) (Ya _) fun _ _ _ h=>h).at oD hlt;have hok:=nm3 _ (Yab hl9)
 rw[Y2 hl9] at hrw;generalize o.2.2.1[i]=x at *;have hxl:x.length=xn:=hxw.src.maplen
 obtain⟨hok1,hok2⟩:=hok;have hxc:xn≤xc:=by have h5:=hxw;unfold Wr at h5;exact h5.2.1
 refine ob (by omega) ?_;refine atp ha9 ?_;refine on (Yc5 pc.le hrow) ?_
 repeat' (first|refine⟨?_,True.intro⟩|refine⟨?_,?_,True.intro⟩|refine brn_t rfl ?_|refine brn_f rfl ?_|refine ob rfl ?_|refine obr rfl ?_|refine ob oD ?_|refine obr oD ?_|refine grow_same (Ya _) ?_|refine ob (Ya _) ?_|refine⟨_,Ya _,?_⟩|fail)
 refine(pc.aside (zD3 (hxw.src.le pc.base.2) oM hxc)).mono ?_;rintro v M5 ⟨A5,hG,p5⟩;obtain⟨a5,c5,rfl,hle5,hs5⟩:=hG.all;have hZA:Z.le A5:=Yc pc.base.2 hle5
 refine brn (fun e=>?_) (fun e=>?_)
 ·have e1:zgE x≠0:=by simpa using e
  rw[zdt,if_pos e1] at hrw
  repeat' (first|refine⟨?_,True.intro⟩|refine⟨?_,?_,True.intro⟩|refine brn_t rfl ?_|refine brn_f rfl ?_|refine ob rfl ?_|refine obr rfl ?_|refine ob oD ?_|refine obr oD ?_|refine grow_same (Ya _) ?_|refine ob (Ya _) ?_|refine⟨_,Ya _,?_⟩|fail)
  rw[hrw];exact⟨rfl,⟨Hes,(p5.mono hZA).disk.mono hAZ⟩,fun h=>by cases h⟩
 have e1:¬zgE x≠0:=by simpa using e
 rw[zdt,if_neg e1] at hrw
 have hpl:(zbP x).p.length≤1048576:=by
  have h6:=(zJd (by simpa using e1)).1;have h7:zcB (zbP x)=zbB (zbP x).kind (zbP x).id (zbP x).p.length:=rfl
  rcases zmy h6 with hk|hk|hk|hk
  ·have:=(ztW h6 hk).2;rw[this];decide
  ·have:=ziq h6 hk;omega
  ·have:=(zf9 h6 (.inl hk)).2;rw[this];decide
  ·have:=(zf9 h6 (.inr hk)).2;rw[this];decide
 refine zL (p5.self) ?_;refine(zs9 p5 oM (zbP x).kind (zbP x).id hs5 hpl).mono ?_;rintro v M6 ⟨h6,rfl, -, p6⟩;obtain⟨ap,hap⟩:=oI (zck Xc (zbP x).kind (zbP x).id (zbP x).p);rw[←hap] at p6 hrw ⊢
 repeat' (first|refine⟨?_,True.intro⟩|refine⟨?_,?_,True.intro⟩|refine brn_t rfl ?_|refine brn_f rfl ?_|refine ob rfl ?_|refine obr rfl ?_|refine ob oD ?_|refine obr oD ?_|refine grow_same (Ya _) ?_|refine ob (Ya _) ?_|refine⟨_,Ya _,?_⟩|fail)
 refine brn (fun e=>?_) (fun e=>?_)
 ·have e2:ap.2≠0:=by simpa using e
  rw[if_pos e2] at hrw
  repeat' (first|refine⟨?_,True.intro⟩|refine⟨?_,?_,True.intro⟩|refine brn_t rfl ?_|refine brn_f rfl ?_|refine ob rfl ?_|refine obr rfl ?_|refine ob oD ?_|refine obr oD ?_|refine grow_same (Ya _) ?_|refine ob (Ya _) ?_|refine⟨_,Ya _,?_⟩|fail)
  rw[hrw];exact⟨rfl,⟨_,(p6.mono hZA).disk.mono hAZ⟩,fun h=>by cases h⟩
 have e2:¬ap.2≠0:=by simpa using e
 rw[if_neg e2] at hrw
 repeat' (first|refine⟨?_,True.intro⟩|refine⟨?_,?_,True.intro⟩|refine brn_t rfl ?_|refine brn_f rfl ?_|refine ob rfl ?_|refine obr rfl ?_|refine ob oD ?_|refine obr oD ?_|refine grow_same (Ya _) ?_|refine ob (Ya _) ?_|refine⟨_,Ya _,?_⟩|fail)
 refine obr (inR_i64 (by omega)) ?_;exact⟨⟨i+1,M6,⟨h6,Hg,Hdb,Hes⟩,ap.1⟩,⟨by omega,rfl,(p6.mono hZA).more (N':=N+((i+1:Nat):Int)) oM,hrw⟩,by omega,zS⟩
def zkm (C:CuR):CuR×Int:=if (zaC C 1 za7 [] true).2=10 then ({ (zaC C 1 za7 [] true).1 with w:={ (zaC C 1 za7 [] true).1.w with spent:=true } },0) else zaC C 1 za7 [] true
theorem zIj (h:CuAt A M c p N H C) (hN:N≤4611686018427387904):CallsM prog 85 [ptr c] M fun v M'=>∃ H',v = .int .i64 (zkm C).2∧CuAt A M' c p (N+1) H' (zkm C).1:=by
 refine zjR oS ?_
 repeat' (first|refine⟨?_,True.intro⟩|refine⟨?_,?_,True.intro⟩|refine brn_t rfl ?_|refine brn_f rfl ?_|refine ob rfl ?_|refine obr rfl ?_|refine ob oD ?_|refine obr oD ?_|refine grow_same (Ya _) ?_|refine ob (Ya _) ?_|refine⟨_,Ya _,?_⟩|fail)
 refine(zsc (l:=[]) (a:=none) (cc:=0) h hN 1 za7 (Ybj _ _) oD true).mono ?_;rintro v M1 ⟨H1,rfl,h1⟩;obtain⟨r,hr⟩:=oI (zaC C 1 za7 [] true);have hB:zkm C=if r.2=10 then ({ r.1 with w:={ r.1.w with spent:=true } },0) else r:=by rw[hr];rfl
 rw[←hr] at h1 ⊢
 repeat' (first|refine⟨?_,True.intro⟩|refine⟨?_,?_,True.intro⟩|refine brn_t rfl ?_|refine brn_f rfl ?_|refine ob rfl ?_|refine obr rfl ?_|refine ob oD ?_|refine obr oD ?_|refine grow_same (Ya _) ?_|refine ob (Ya _) ?_|refine⟨_,Ya _,?_⟩|fail)
 refine brn (fun e=>?_) (fun e=>?_)
 ·have e1:r.2=10:=Zd0 e
  repeat' (first|refine⟨?_,True.intro⟩|refine⟨?_,?_,True.intro⟩|refine brn_t rfl ?_|refine brn_f rfl ?_|refine ob rfl ?_|refine obr rfl ?_|refine ob oD ?_|refine obr oD ?_|refine grow_same (Ya _) ?_|refine ob (Ya _) ?_|refine⟨_,Ya _,?_⟩|fail)
  refine on h1.self.cells ?_;refine ob oS ?_
  repeat' (first|refine⟨?_,True.intro⟩|refine⟨?_,?_,True.intro⟩|refine brn_t rfl ?_|refine brn_f rfl ?_|refine ob rfl ?_|refine obr rfl ?_|refine ob oD ?_|refine obr oD ?_|refine grow_same (Ya _) ?_|refine ob (Ya _) ?_|refine⟨_,Ya _,?_⟩|fail)
  rw[hB,if_pos e1];exact⟨H1,rfl,h1.turnC { r.1.w with spent:=true }⟩
 ·have e1:¬r.2=10:=Zd1 e
  repeat' (first|refine⟨?_,True.intro⟩|refine⟨?_,?_,True.intro⟩|refine brn_t rfl ?_|refine brn_f rfl ?_|refine ob rfl ?_|refine obr rfl ?_|refine ob oD ?_|refine obr oD ?_|refine grow_same (Ya _) ?_|refine ob (Ya _) ?_|refine⟨_,Ya _,?_⟩|fail)
  rw[hB,if_neg e1];exact⟨H1,rfl,h1⟩
end
section
variable {A M M':Mem} {c p db:Nat} {N:Int} {h:Hd} {des:FsT} {X:StW} {D:ze} {w:CuW} {H:CuH} {C:CuR}
theorem zD8 (l:List UInt8):(zaK l).length≤l.length:=by
 obtain⟨-, h2,h3⟩:=zop l.length l (Yd _)
 have key:∀ ps:List (List UInt8),ps.length≤zap ps:=fun ps=>by
  induction ps with
  | nil=>simp[zap]
  | cons q r ih=>simp only[zap,Yv,Ya5,Ym] at ih ⊢; omega
 exact Yn (key _) h3
theorem zCk (h:InvD D) (s:ByteArray):(bl (zax D s).1).length≤1048576:=by
 unfold zax;split
 ·show (0:Nat)≤_;decide
 ·rename_i g;have h1:=(zcA (by simpa using g)).2
  have:=(zcx h.sort h1).2;have hu:=h.used
  rw[za4,all_size];omega
theorem zov:∀ {f:Nat} {D:ze} {next last:Int} {all:List (List UInt8)},InvD D→(zai f D next last all).2.2.2.1.length≤all.length+f*1048576
 | 0,_,_,_,_,_=>by rw[zai];dsimp only;omega
 | f+1,D,next,last,all,h=>by
  rw[zai];have h1:=zD8 (bl (zax D (zb next)).1)
  have h2:=zCk h (zb next);have h4:(f+1)*1048576=f*1048576+1048576:=by omega
  split
  ·simp
  split
  ·simp
  split
  ·grind
  ·have h3:=zov (f:=f) (next:=next+1) (last:=next) (all:=all++zaK (bl (zax D (zb next)).1)) h;rw[Yi] at h3;omega
theorem zm5:∀ {ks:List Int} {D:ze},InvD D→InvD (removeAll D ks).1
 | [],_,h=>h
 | k::r,D,h=>by
  rw[removeAll];split
  ·exact zer h _
  ·exact zm5 (zer h _)
theorem zsd (h:InvD D) (w:CuW) (seg:Int):(zbd D w seg).2.2.1.length≤104857600000:=by
 unfold zbd;split
 ·simp
 unfold zbR;dsimp only;have h1:=zov (f:=(100000 - (L0 (firstC w) seg).first).toNat) (next:=(L0 (firstC w) seg).first) (last:=(L0 (firstC w) seg).last) (all:=[]) (zm5 (ks:=zbp D fun k=>decide (k<(L0 (firstC w) seg).first)) h)
 have h2:(L0 (firstC w) seg).first=firstC w:=rfl;have h3:1≤firstC w:=by unfold firstC;omega
 have h4:(100000 - (L0 (firstC w) seg).first).toNat≤99999:=by rw[h2];omega
 have h5:=Ybu 1048576 h4;simp only[Yal,Yan] at h1;split
 ·simp
 split
 ·simp
 ·grind
def Ld (D:ze) (me qh qb qg:Int):Option (Int×StW)→Prop
 | none=>zgC D=[]
 | some (k,X)=>¬(k<1∨99999<k)∧(∃ ks,zgC D=ks++[k])∧zIi D me qh qb qg k X
def ldD (D:ze):Option (Int×StW)→ze×Int
 | none=>(D,0)
 | some (k,_)=>zJl D k
def ldW:Option (Int×StW)→CuW
 | none=>⟨0,false,false⟩
 | some (k,_)=>⟨k,false,false⟩
def ldX (me qh qb qg:Int):Option (Int×StW)→StW
 | none=>⟨zkW me qh qb qg,[]⟩
 | some (_,X)=>X
def zfR (D:ze):CuR:=⟨⟨zkW 0 0 0 0,[]⟩,D,L0 0 0,⟨0,false,false⟩⟩
def zoS (D:ze) (me qh qb qg seg:Int) (ld:Option (Int×StW)):CuR×Int:=
 if (ldD D ld).2≠0 then (zfR (ldD D ld).1,(ldD D ld).2)
 else if zdP (ldX me qh qb qg ld) (ldD D ld).1 (ldW ld) seg≠0 then (zfR (zbd (ldD D ld).1 (ldW ld) seg).1,zdP (ldX me qh qb qg ld) (ldD D ld).1 (ldW ld) seg)
 else zkm ⟨(zdt (ldX me qh qb qg ld) (zbd (ldD D ld).1 (ldW ld) seg).2.2.1).1,(zbd (ldD D ld).1 (ldW ld) seg).1,(zbd (ldD D ld).1 (ldW ld) seg).2.1,ldW ld⟩
instance (me qh qb qg:Int):Decidable (zcE me qh qb qg):=by unfold zcE;infer_instance
def zaL (D:ze) (me qh qb qg seg:Int) (ld:Option (Int×StW)):CuR×Int:=
 if zcE me qh qb qg then (zfR D,1) else if seg<16∨1048576<seg then (zfR D,1) else if D.down=true then (zfR D,9)
 else if (zbE D).2≠0 then (zfR (zbE D).1,(zbE D).2)
 else zoS (zbE D).1 me qh qb qg seg ld
def zIk (A M':Mem) (p:Nat) (r:CuR×Int) (v:Value):Prop:=
 (r.2≠0∧v = .tuple #[.pointer none,.int .i64 r.2]∧NamesC r.1.D∧∃ db' des',FreshD A M' p db' r.1.D des') ∨
 (r.2=0∧∃ c H,v = .tuple #[ptr c,.int .i64 0]∧CuAt A M' c p 104857600300 H r.1)
theorem zCl (h1:CuPre A M c p db N h des X D w):CallsM prog 82 [ptr c] M fun v M'=>∃ es',v = .int .i64 (zbE D).2∧CuPre A M' c p db N h es' X (zbE D).1 w:=by
 refine zjr oS ?_;refine zM (zH1 h1.self rfl h1.disk ⟨#[116]⟩) ?_;rintro v M1 ⟨rfl,hle1⟩;have p1:=h1.to hle1
 unfold zbE;cases ha:D.l.any fun f=>decide (f.name=⟨#[116]⟩)
 ·refine zR ?_;rw[if_neg oD];exact⟨des,rfl,p1⟩
 ·refine zL (p1.self) ?_;refine(zAi p1 (by show (1:Nat)≤_;decide)).mono ?_;rintro v M2 ⟨es2,rfl,p2, -⟩;refine zR ?_;rw[if_pos rfl];exact⟨es2,rfl,p2⟩
theorem CuPre.new (hs:FreshW A M h X) (hd:FreshD A M p db D des) (hnm:NamesC D) (hj:∀ y,hB h y→¬zao p db des y) (hc:M c=none) (hcm:h.came≤N) (w:CuW):CuPre A (M.setCells c 153 (zhB h.p p (.pointer none) w)) c p db N h des X D w:=by
 have hle:M.le (M.setCells c 153 (zhB h.p p (.pointer none) w)):=Yw hc;refine⟨hs.to hle,hd.to hle,Ye,?_,hj,fun hb=>hs.some hb hc,fun hb=>hd.at'.full hb hc,hnm,hcm⟩;cases e:A c with
 | none=>rfl
 | some o=>rw[hd.le _ _ e] at hc;cases hc
end
end Go.Proofs.YtlgbofpennelhaaGreat
namespace Go.Proofs.YtlgbofpennelhaaGreat
open Go Go.Vm Go.Proofs.Tryz
attribute [local irreducible] Brn Ob Grow CallsM inR zX zI Mem.row Mem.cells Mem.setCells Mem.upd Go.Vm.Own zac zar zas zab New SrcOk subA NewSl Mem.textAt Mem.mapAt Mem.iterAt zH zF Wr NewEls Elems zdm zeZ zgg zeD zeE
set_option maxRecDepth 10000
section
variable {B0 M0 A B M B' M':Mem} {S0:Nat→Prop} {ps:List Pt} {c p:Nat} {N:Int} {H:CuH} {C:CuR}
def zoT (C:CuR) (i:IdT):Bool:=decide (i.d=C.X.S.self)&&ze8 (zcG C.X.sn) i.o i.d i.e i.c
theorem zIl (h:CuAt A M c p N H C) (i:IdT):CallsM prog 277 [ptr c,idA i] M fun v M'=>v = .bool (zoT C i)∧M.le M':=by
 refine zjV oS ?_;refine zL (h.self) ?_;refine zJ (ze7 i.o i.d i.e i.c M) ?_;refine zU ?_;refine brn (fun g=>?_) (fun g=>?_)
 ·have g1:idErr i.o i.d i.e i.c=0:=Zd0 g;refine zL (h.self) ?_;refine(zCc h.st.st i).mono ?_;rintro v M1 ⟨rfl,h1⟩;refine zR ?_;exact⟨by unfold zoT;rw[h.st.seen.has],h1⟩
 ·have g1:¬idErr i.o i.d i.e i.c=0:=Zd1 g;refine zR ?_;exact⟨by unfold zoT ze8;rw[decide_eq_false g1];simp,Ya _⟩
section
variable {i:Nat}
theorem zlp (h:At B0 M0 S0 B M ps) (hi:ps[i]? = some (zc1 c p N H C)):CuAt (M.minus (cuB c p H)) M c p N H C∧B.le (M.minus (cuB c p H)):=by
 have h0:CuAt B M c p N H C:=h.part i hi;exact h0.base
theorem zxH (h:At B0 M0 S0 B M ps) (i:Nat) (hi:ps[i]? = some (zc1 c p N H C)) (hN:N≤4611686018427387904) (d:Int) {a:Option Addr} {cc:Nat} {l:List UInt8} (hl:SrcOk B 1 a l.length (l.map zc)) (hn:l.length≤1048576) :
  CallsM prog 34 [ptr c,.int .i64 d,.slice a l.length cc] M fun v M'=>∃ H',v = .tuple #[idA (zbt C d l).2.1,.int .i64 (zbt C d l).2.2]∧At B0 M0 S0 B M' (rpl ps i [zc1 c p (N+1) H' (zbt C d l).1]):=by
 obtain⟨h0,hB⟩:=zlp h hi;refine(zD4 h0 hN d (hl.le hB) hn).mono ?_;rintro v M' ⟨H',rfl,h1⟩;exact⟨H',rfl,At.cust h i hi h1⟩
theorem zCm (h:At B0 M0 S0 B M ps) (i:Nat) (hi:ps[i]? = some (zc1 c p N H C)) (hN:N≤4611686018427387904) (d:IdT) {a:Option Addr} {cc:Nat} {l:List UInt8} (hl:SrcOk B 1 a l.length (l.map zc)) (hn:l.length≤1048576) :
  CallsM prog 280 [ptr c,.agg #[.int .i64 d.o,.int .i64 d.d,.int .i64 d.e,.int .i64 d.c,.slice a l.length cc]] M fun v M'=>∃ H',v = .int .i64 (zaC C 2 d l true).2∧At B0 M0 S0 B M' (rpl ps i [zc1 c p (N+1) H' (zaC C 2 d l true).1]):=by
 obtain⟨h0,hB⟩:=zlp h hi;refine(zId h0 hN d (hl.le hB) hn).mono ?_;rintro v M' ⟨H',rfl,h1⟩;exact⟨H',rfl,At.cust h i hi h1⟩
theorem zwr (h:At B0 M0 S0 B M ps) (i:Nat) (hi:ps[i]? = some (zc1 c p N H C)) (hN:N≤4611686018427387904) (d:IdT) :
  CallsM prog 196 [ptr c,idA d] M fun v M'=>∃ H',v = .int .i64 (zaC C 3 d [] false).2∧At B0 M0 S0 B M' (rpl ps i [zc1 c p (N+1) H' (zaC C 3 d [] false).1]):=by
 obtain⟨h0,hB⟩:=zlp h hi;refine(zCa h0 hN d).mono ?_;rintro v M' ⟨H',rfl,h1⟩;exact⟨H',rfl,At.cust h i hi h1⟩
theorem zws (h:At B0 M0 S0 B M ps) (i:Nat) (hi:ps[i]? = some (zc1 c p N H C)) (hN:N≤4611686018427387904) (d:IdT) :
  CallsM prog 278 [ptr c,idA d] M fun v M'=>∃ H',v = .int .i64 (zaC C 4 d [] true).2∧At B0 M0 S0 B M' (rpl ps i [zc1 c p (N+1) H' (zaC C 4 d [] true).1]):=by
 obtain⟨h0,hB⟩:=zlp h hi;refine(zCb h0 hN d).mono ?_;rintro v M' ⟨H',rfl,h1⟩;exact⟨H',rfl,At.cust h i hi h1⟩
@[reducible] def zmC (m:zdH):zeq:=⟨m.id,m.p⟩
theorem zCn (h:At B0 M0 S0 B M ps) (hc:CuAt B M c p N H C) (hN:N≤4611686018427387904) :
  CallsM prog 136 [ptr c] M fun v M'=>∃ a cc,v = .slice a C.X.S.l.length cc∧Elems (newB B M M') 5 a C.X.S.l.length (MsgR (newB B M M')) (C.X.S.l.map zmC)∧At B0 M0 S0 (newB B M M') M' ps:=by
 refine(zIe hc hN).mono ?_;rintro v M' ⟨a,n,cc,ms,rfl,hH,hm⟩;have hl:=hH.len
 have hl2:C.X.S.l.length=n:=by rw[←hm,Ya3,hl]
 subst hl2;refine⟨a,cc,rfl,?_,h.upN hH.row.le⟩;unfold Elems;refine⟨ms.map zzR,?_,by simp[hl],by simp,fun cs hcs=>?_,fun j cs y hj hy=>?_⟩
 ·rw[←List.flatMap_def];exact zc6 hH.row.src fun r hr=>(hH.row.block hr).1
 ·obtain⟨m,_,rfl⟩:=Yj.1 hcs;rfl
 ·rw[Ybd] at hj hy;rw[←hm,Ybd] at hy;cases hq:ms[j]? with
  | none=>simp_all
  | some m=>
   rw[hq] at hj hy;cases hj;cases hy;have hd:=hH.data m (Yak hq)
   refine⟨m.a,m.p.length,m.c,rfl,zc6 hd.src fun r hr=>(hd.block hr).1,?_⟩;have hI:=hc.st.st.inv
   have h2:m.msg∈C.X.S.l:=hm▸Yj.2 ⟨m,Yak hq,rfl⟩;have:=(zdd (hI.msgs _ h2).1).2.2
   dsimp only [MX.msg] at this;omega
end
end
section
variable {B0 M0 B M B' M':Mem} {S0:Nat→Prop}
structure ziJ where
 qh:Int
 qb:Int
 qg:Int
 disk:Int
 seg:Int
 win:Int
 timer:Int
 tries:Int
 wait:Int
 delay:Int
structure NodX where
 me:Int
 set:ziJ
 C:CuR
 nb:List Int
 sd:Int→SideR
 tab:zhD
 next:Int
 dsk:zey
 told:List zeq
 ticks:Int
 bad:Int
structure NP where
 n:Nat
 ms:Nat
 m:List (Int×Nat)
 c:Nat
 p:Nat
 N:Int
 H:CuH
 tx:TX
 dx:DkX
 K:Nat
 ta:Option Addr
 tc:Nat
 sp:Int→SP
@[reducible] def zmD (b:Nat):Value:=ptr b
@[reducible] def zdw (P:NP) (X:NodX):List Value:=[.int .i64 X.me,.int .i64 X.set.qh,.int .i64 X.set.qb,.int .i64 X.set.qg,.int .i64 X.set.disk,.int .i64 X.set.seg,.int .i64 X.set.win,.int .i64 X.set.timer,.int .i64 X.set.tries,.int .i64 X.set.wait,.int .i64 X.set.delay,ptr P.c,.map (some P.ms),ptr P.tx.p,ptr P.dx.p,.slice P.ta X.told.length P.tc,.int .i64 X.ticks,.int .i64 X.bad]
def MsgsB (B:Mem) (L:List Value) (l:List zeq):Prop:=∃ css:List (List Value),L=css.flatten∧css.length=l.length∧(∀ cs∈css,cs.length=5)∧∀ (i:Nat) cs x,css[i]? = some cs→l[i]? = some x→MsgR B cs x
theorem MsgsB.le {B B':Mem} {L:List Value} {l:List zeq} (h:MsgsB B L l) (hle:B.le B'):MsgsB B' L l:=by
 obtain⟨css,h1,h2,h3,h4⟩:=h;exact⟨css,h1,h2,h3,fun i cs x hi hx=>(h4 i cs x hi hx).le hle⟩
theorem MsgsB.nil (B:Mem):MsgsB B [] []:=⟨[],rfl,rfl,by simp,by simp⟩
def zmE (a:Option Addr) (c:Nat) (l:List zeq):Pt:=zIT 82 5 MsgsB (fun h hle=>h.le hle) a l.length c l
@[reducible] def zgQ (P:NP) (X:NodX):List Pt:=[zbL P.n 96 (zdw P X),zgi zj zmD P.ms P.m,zc1 P.c P.p P.N P.H X.C,zk0 P.tx X.me 64 X.nb X.tab,zds P.dx X.set.wait X.next P.K X.dsk,zmE P.ta P.tc X.told]
@[reducible] def zfS (P:NP) (X:NodX):List Pt:=X.nb.map fun k=>zex (P.sp k) (X.sd k)
structure NodI (P:NP) (X:NodX):Prop where
 nbs:X.nb.Pairwise (· < ·)
 len:X.nb.length≤64
 key:(P.m.map (·.1)).Perm X.nb
 val:∀ q∈P.m,q.2=(P.sp q.1).s
structure NodeAt (B0 M0:Mem) (S0:Nat→Prop) (B M:Mem) (P:NP) (X:NodX) (R:List Pt):Prop where
 at':At B0 M0 S0 B M ((zgQ P X++zfS P X)++R)
 inv:NodI P X
section
variable {P:NP} {X:NodX}
theorem NodI.nodup (h:NodI P X):X.nb.Nodup:=h.nbs.imp fun {a b} hab e=>by omega
theorem NodI.get (h:NodI P X) {k:Int} (hk:k∈X.nb):zf P.m k=some (P.sp k).s:=by
 have h1:=h.key.mem_iff.2 hk;obtain⟨q,hq,rfl⟩:=Yj.1 h1;rw[←h.val q hq];exact zbS (h.key.nodup_iff.2 h.nodup) (x:=q.2) hq
theorem NodI.get_no (h:NodI P X) {k:Int} (hk:k∉X.nb):zf P.m k=none:=by
 cases ha:zf P.m k with
 | none=>rfl
 | some b=>exact absurd (h.key.mem_iff.1 (Yj.2 ⟨_,zC ha,rfl⟩)) hk
theorem zCo {nb l:List Int} (hs:nb.Pairwise (· < ·)) (hp:l.Perm nb):zdn l=nb:=
 Yc2 (le:=(· ≤ ·)) (fun x y _ _ h1 h2=>Yec h1 h2) (zhS _) (hs.imp (S:=fun (a b:Int)=>a≤b) fun {a b} h=>by omega) ((zhp _).trans hp)
end
end
end Go.Proofs.YtlgbofpennelhaaGreat
namespace Go.Proofs.YtlgbofpennelhaaGreat
open Go Go.Vm
attribute [local irreducible] Brn Ob Grow CallsM inR zX zI Mem.row Mem.cells Mem.setCells Mem.upd Go.Vm.Own zac zar zas zab New SrcOk subA NewSl Mem.textAt Mem.mapAt Mem.iterAt zH zF Wr NewEls Elems
set_option maxRecDepth 10000
variable {M M':Mem} {P:NP} {X:NodX}
theorem zoU {x:Nat} (h:M.has x 96 (zdw P X)) (hm:MapAt zj zmD M P.ms P.m) (hI:NodI P X) :
  CallsM Tryz.prog 59 [ptr x] M fun v M'=>∃ a' c',v = .slice a' X.nb.length c'∧NewSl M 3 1 a' X.nb.length c' (X.nb.map zj) M':=by
 have hml:P.m.length=X.nb.length:=by have:=hI.key.length_eq;simpa using this
 have hn:=hI.len;refine zo7 oS ?_;refine zK h ?_;refine hm.range fun q bi hbi hIt=>?_
 replace hbi:M bi=none:=hbi
 refine zan (σ:=Mem×Option Addr×Nat×List Int×List (Int×Nat)) [3] (fun x=>[(3,.slice x.2.1 x.2.2.2.1.length x.2.2.1)]) (fun _=>[]) (fun x=>x.1)
  (fun|⟨M1,a',c',ks,todo⟩=>M.le M1∧Iter zj zmD M1 bi P.ms P.m todo∧NewSl M 3 1 a' ks.length c' (ks.map zj) M1∧(ks++todo.map (·.1)).Perm (P.m.map (·.1))) (fun x=>x.2.2.2.2.length) ⟨_,none,0,[],P.m⟩
  ⟨Ya6 hbi,hIt,(Yat M 3 1).up (Ya6 hbi),by simp⟩ zS ?_
 rintro ⟨M1,a',c',ks,todo⟩ ⟨hle,hI1,hN,hp⟩;have hlen:=hp.length_eq
 simp only[Yi,Ya3,hml] at hlen;refine hI1.next (fun h0=>?_) (fun i k todo' o' hperm hI2 hent=>?_)
 ·subst h0;simp only[Yb5,Ys,Yal,Yb2] at hp hlen;refine zM (zyn hN.wr oM) ?_;rintro v M2 ⟨rfl,hw,hk⟩;refine zR ?_;rw[zCo hI.nbs (hp.trans hI.key)] at hw;refine⟨a',c',by rw[hlen],?_⟩;rw[hlen] at hw hN;exact hN.ofWr hw hk rfl
 ·have hne:∀ r,a'=some r→r.block≠bi:=fun r hr=>by obtain⟨_,cs,hh⟩:=hN.block hr;exact(hI1.nb hh).1
  have hk:=Yae (S:=fun y=>y=bi) M1 (b:=bi) o' rfl;have hN2:=hN.keep hk (fun b hb=>by simp_all) fun r hr hb=>hne r hr hb
  obtain⟨M2,hM2⟩:=oI (M1.upd bi o');rw[←hM2] at hI2 hent hN2;have hpl:=hperm.length_eq
  simp only[Ym] at hpl;erw [←hM2];refine zR ?_;refine on hent ?_;refine zR ?_;refine ziz M _ hN2 (by grind) (by simp[maxLen];omega) oC fun a6 c6 M6 hN6 hk6=>?_
  refine⟨⟨M6,a6,c6,ks++[i],todo'⟩,⟨hN6.le,?_,by simpa using hN6,?_⟩,by simp_all,by simp only[Yi,Ym,Yal];exact zS⟩
  ·refine hI2.keep hk6 ?_ ?_
   ·rintro ⟨r,hr,e⟩;obtain⟨_,cs,hh⟩:=hN2.block hr;exact(hI2.nb hh).1 e
   ·rintro ⟨r,hr,e⟩;obtain⟨_,cs,hh⟩:=hN2.block hr;exact(hI2.nb hh).2 e
  ·grind
end Go.Proofs.YtlgbofpennelhaaGreat
namespace Go.Proofs.YtlgbofpennelhaaGreat
open Go Go.Vm Go.Proofs.Tryz
attribute [local irreducible] Brn Ob Grow CallsM inR zX zI Mem.row Mem.cells Mem.setCells Mem.upd Go.Vm.Own zac zar zas zab New SrcOk subA NewSl Mem.textAt Mem.mapAt Mem.iterAt zH zF Wr NewEls Elems zdm zeZ zgg zeD zeE
set_option maxRecDepth 10000
section
variable {B0 M0 B M B' M':Mem} {S0:Nat→Prop} {R:List Pt}
theorem zyx {f g:Int→Pt} {k:Int} (hg:∀ j,j≠k→g j=f j):∀ {nb:List Int} {i:Nat},nb.Nodup→nb[i]? = some k→rpl (nb.map f) i [g k]=nb.map g
 | [],_,_,h=>by cases h
 | a::r,0,hn,h=>by
  obtain rfl:a=k:=by simp_all
  have h2:=(Yax.1 hn).1;show [g a]++r.map f=g a::r.map g
  rw[List.singleton_append,Ya8 fun j hj=>(hg j fun e=>h2 (e▸hj)).symm]
 | a::r,i+1,hn,h=>by
  have h2:=Yax.1 hn;have h3:r[i]? = some k:=h
  show f a::rpl (r.map f) i [g k]=g a::r.map g;rw[zyx hg h2.2 h3,hg a fun e=>h2.1 (e▸Yak h3)]
theorem zyy:∀ (l r:List Pt) (i:Nat) (q:List Pt),rpl (l++r) (l.length+i) q=l++rpl r i q
 | [],r,i,q=>by simp
 | a::l,r,i,q=>by
  rw[show (a::l).length+i=(l.length+i)+1 by simp;omega];show a::rpl (l++r) (l.length+i) q=a::(l++rpl r i q)
  rw[zyy l r i q]
theorem zwt:∀ {l r:List Pt} {i:Nat} {q:List Pt},i<l.length→rpl (l++r) i q=rpl l i q++r
 | [],_,_,_,h=>by simp at h
 | a::l,r,0,q,_=>by simp
 | a::l,r,i+1,q,h=>by
  show a::rpl (l++r) i q=a::(rpl l i q++r);rw[zwt (by simpa using h)]
def NodX.setSd (X:NodX) (k:Int) (s:SideR):NodX:={ X with sd:=fun j=>if j=k then s else X.sd j }
def NP.setSp (P:NP) (k:Int) (s:SP):NP:={ P with sp:=fun j=>if j=k then s else P.sp j }
section
variable {P:NP} {X:NodX} {k:Int}
theorem zse (h:NodeAt B0 M0 S0 B M P X R) (hk:k∈X.nb):∃ i,X.nb[i]? = some k∧((zgQ P X++zfS P X)++R)[(zgQ P X).length+i]? = some (zex (P.sp k) (X.sd k)):=by
 obtain⟨i,hi,e⟩:=Ybi hk;refine⟨i,by rw[Yb hi,e],?_⟩;rw[Yp,Yas (Yd8 _ _),Nat.add_sub_cancel_left,Yag (by simpa[zfS] using hi)];simp[zfS,Ybd,Yb hi,e]
@[reducible] def sdD (P:NP) (X:NodX) (k:Int):Nat→Prop:=zc5 (zeO (P.sp k) (X.sd k))
theorem NodeAt.opn (h:NodeAt B0 M0 S0 B M P X R) (hk:k∈X.nb):At B M (sdD P X k) B M (zeO (P.sp k) (X.sd k)):=by
 obtain⟨i,h1,h2⟩:=zse h hk;exact Sep.at (h.at'.part _ h2)
theorem NodeAt.cls (h:NodeAt B0 M0 S0 B M P X R) (hk:k∈X.nb) {x':SP} {s':SideR} (h':At B M (sdD P X k) B' M' (zeO x' s')) (hs:x'.s=(P.sp k).s):NodeAt B0 M0 S0 B' M' (P.setSp k x') (X.setSd k s') R:=by
 obtain⟨i,h1,h2⟩:=zse h hk;have h3:At B M (zex (P.sp k) (X.sd k)).d B' M' [zex x' s']:=At.pack h'
 have h4:=h.at'.call _ h2 h3;rw[Yp,zyy,zwt (by grind),←Yp] at h4;refine⟨?_,⟨h.inv.nbs,h.inv.len,h.inv.key,fun q hq=>?_⟩⟩
 ·have e:zex x' s'=(fun j=>zex ((P.setSp k x').sp j) ((X.setSd k s').sd j)) k:=by simp[NP.setSp,NodX.setSd]
  rw[e,zyx (f:=fun j=>zex (P.sp j) (X.sd j)) (g:=fun j=>zex ((P.setSp k x').sp j) ((X.setSd k s').sd j)) (fun j hj=>by simp[NP.setSp,NodX.setSd,hj]) h.inv.nodup h1] at h4;exact h4
 ·show q.2=(if q.1=k then x' else P.sp q.1).s;split
  ·rename_i e;rw[hs,←e];exact h.inv.val q hq
  ·exact h.inv.val q hq
theorem NodeAt.self (h:NodeAt B0 M0 S0 B M P X R):M.has P.n 96 (zdw P X):=h.at'.cell 0 rfl
theorem NodeAt.map (h:NodeAt B0 M0 S0 B M P X R):MapAt zj zmD M P.ms P.m:=(h.at'.part 1 rfl).1
theorem NodeAt.upN (h:NodeAt B0 M0 S0 B M P X R) (hM:M.le M'):NodeAt B0 M0 S0 (newB B M M') M' P X R:=⟨h.at'.upN hM,h.inv⟩
theorem NodeAt.le (h:NodeAt B0 M0 S0 B M P X R):B.le M:=h.at'.le
theorem NodeAt.up (h:NodeAt B0 M0 S0 B M P X R) (hM:M.le M'):NodeAt B0 M0 S0 B M' P X R:=⟨h.at'.up hM,h.inv⟩
structure NP.same (P P':NP) (dN:Int) (dK:Nat):Prop where
 n:P'.n=P.n
 s:∀ k,(P'.sp k).s=(P.sp k).s
 N:P'.N≤P.N+dN
 K:P'.K≤P.K+dK
 p:P'.p=P.p
theorem NP.same.refl (P:NP) {a:Int} {b:Nat} (ha:0≤a):P.same P a b:=⟨rfl,fun _=>rfl,by omega,by omega,rfl⟩
theorem NP.same.trans {P P' P2:NP} {a b:Int} {c d:Nat} (h:P.same P' a c) (h':P'.same P2 b d):P.same P2 (a+b) (c+d):=⟨h'.n.trans h.n,fun k=>(h'.s k).trans (h.s k),by have:=h.N;have:=h'.N;omega,by have:=h.K;have:=h'.K;omega,h'.p.trans h.p⟩
theorem NP.same.more {P P':NP} {a b:Int} {c d:Nat} (h:P.same P' a c) (hb:a≤b) (hd:c≤d):P.same P' b d:=⟨h.n,h.s,by have:=h.N;omega,by have:=h.K;omega,h.p⟩
theorem NP.same.set (P:NP) (k:Int) {x':SP} (hs:x'.s=(P.sp k).s) {a:Int} {b:Nat} (ha:0≤a):P.same (P.setSp k x') a b:=⟨rfl,fun j=>by show (if j=k then x' else P.sp j).s=_;split;(rename_i e;rw[hs,e]);rfl,by show P.N≤_;omega,by show P.K≤_;omega,rfl⟩
def NTo (B0 M0:Mem) (S0:Nat→Prop) (B M':Mem) (P:NP) (X':NodX) (R:List Pt) (dN:Int) (dK:Nat):Prop:=∃ B' P',B.le B'∧P.same P' dN dK∧NodeAt B0 M0 S0 B' M' P' X' R
theorem NodeAt.to (h:NodeAt B0 M0 S0 B M P X R) {a:Int} {b:Nat} (ha:0≤a):NTo B0 M0 S0 B M P X R a b:=⟨B,P,Ya _,NP.same.refl P ha,h⟩
end
theorem zfT {x:SP} {s:SideR} (h:At B0 M0 S0 B M (zeO x s)):LkAt B M (zot x.e x.p) B M x.e x.p s.L:=lnkP.opn (h.part 1 rfl)
theorem zGB {x:SP} {s:SideR} {L':zaX} (h:At B0 M0 S0 B M (zeO x s)) (h':LkTo B M (zot x.e x.p) B M' x.e L'):∃ B' p',B.le B'∧At B0 M0 S0 B' M' (zeO { x with p:=p' } { s with L:=L' }):=by
 obtain⟨B',p',h1,h2⟩:=h';exact⟨B',p',h1,h.call 1 rfl h2.cls⟩
section
variable {P:NP} {X:NodX} {k:Int}
theorem NodeAt.lnk (h:NodeAt B0 M0 S0 B M P X R) (hk:k∈X.nb) {L':zaX} (h':LkTo B M (zot (P.sp k).e (P.sp k).p) B M' (P.sp k).e L'):NTo B0 M0 S0 B M' P (X.setSd k { X.sd k with L:=L' }) R 0 0:=by
 obtain⟨B',p',h1,h2⟩:=zGB (h.opn hk) h';exact⟨B',_,h1,NP.same.set P k (x':={ P.sp k with p:=p' }) rfl oM,h.cls hk h2 rfl⟩
theorem NodeAt.scell (h:NodeAt B0 M0 S0 B M P X R) (hk:k∈X.nb):M.has (P.sp k).s 114 (zis (P.sp k) (X.sd k)):=(h.opn hk).cell 0 rfl
def zbf (X:NodX) (k:Int) (w:Word):NodX×Int:=if w.err≠0 then (X,w.err) else (X.setSd k { X.sd k with L:=zei (X.sd k).L w.bytes },zhq (X.sd k).L w.bytes)
theorem zEa {w:W} {M:Mem} (hw:w.Ok M) (he:w.err=0):w.bytes.length≤65:=by
 have h:=W.err_zero hw.lenD hw.lenC he;have h1:=hw.lenD
 have h2:=hw.lenC;unfold W.bytes;by_cases hk:w.kind=4
 ·simp_all
 ·rw[if_neg hk]
  have:w.nD≤48:=by
   by_cases h1:w.kind=1
   ·exact(h.2.2.2.1 h1).2
   ·have:=h.2.2.2.2 h1;omega
  simp[two,zY];omega
theorem zd7 (h:NodeAt B0 M0 S0 B M P X R) (hk:k∈X.nb) (w:Word) {pD pC:Option Addr} {kD kC:Nat} (hw:(w.w pD kD pC kC).Ok M) (ho:(X.sd k).L.out.length+65≤1000000000) :
  CallsM prog 63 [ptr P.n,.int .i64 k,(w.w pD kD pC kC).v] M fun v M'=>v = .int .i64 (zbf X k w).2∧NTo B0 M0 S0 B M' P (zbf X k w).1 R 0 0:=by
 refine zo9 oS ?_;refine(zBP (w.w pD kD pC kC) M hw).mono ?_;rintro v M1 (⟨he,rfl,rfl⟩|⟨he,a',c',rfl,hN⟩)
 ·have e:zbf X k w=(X,w.err):=by unfold zbf;exact if_pos he
  refine zR ?_;refine brn_t (by simp_all) ?_;refine zR ?_;rw[e];exact⟨rfl,h.to oM⟩
 ·have e:zbf X k w=(X.setSd k { X.sd k with L:=zei (X.sd k).L w.bytes },zhq (X.sd k).L w.bytes):=by unfold zbf;exact if_neg (fun h=>h he)
  have h1:=h.up hN.le;refine zW h1.self ?_;refine h1.map.get zc2 k (fun g=>?_) (fun y j g=>?_)
  ·rw[h.inv.get hk] at g;cases g
  ·rw[h.inv.get hk] at g;cases g;refine zW ((h1.scell hk)) ?_;refine(zzB (zfT (h1.opn hk)) hN.src ?_ ho).mono ?_
   ·exact Yn (zEa hw he) oD
   rintro v M2 ⟨rfl,h2⟩;refine zR ?_;rw[e];exact⟨rfl,h1.lnk hk h2⟩
end
end
section
variable {B0 M0 B M B' M':Mem} {S0:Nat→Prop} {R:List Pt} {ps:List Pt}
theorem zmF {α:Type} (ps:List α) (p:α):(ps++[p])[ps.length]? = some p:=by simp
theorem splice_one {cs:List Value} {j:Nat} {v:Value} (h:j<cs.length):zd cs j [v]=cs.set j v:=by
 unfold zd;rw[List.set_eq_take_append_cons_drop,if_pos h];simp
theorem zKd (h:At B0 M0 S0 B M ps) (i:Nat) {E:TypeId} {a:Option Addr} {n c:Nat} {L:List Value} (hi:ps[i]? = some (zaW E 1 a n c L)) {j:Nat} (hj:j<n) {v:Value} {k:Mem→Prop}
  (hk:∀ M1,At B0 M0 S0 B M1 (rpl ps i [zaW E 1 a n c (L.set j v)])→k M1):∃ b,a=some ⟨b,0,none⟩∧zdm M b j 1 [v] k:=by
 have hN:=h.row i hi;have hN':=hN
 rw[newSl_iff] at hN';obtain⟨h0,h4,h5,⟨ha,hc⟩|⟨b,cs,ha,hb,hh,hl,ht⟩⟩:=hN'
 ·omega
 ·refine⟨b,ha,?_⟩
  delta zdm
  refine on hh.cells (ob (by grind) (hk _ ?_));have hd:(zaW E 1 a n c L).d b:=⟨_,ha,rfl⟩
  unfold Mem.setCells;refine At.updO (q:=zaW E 1 a n c (L.set j v)) h i hi hd (fun y hy => .inl hy) ?_;show NewSl B E 1 a n c (L.set j v) _
  rw[newSl_iff];refine⟨le_upd h0 hb,by simp_all,h5,.inr ⟨b,zd cs j [v],ha,hb,(by unfold Mem.has Mem.upd;simp),by simp[zd];omega,?_⟩⟩;have hj2:j<cs.length:=by omega
  rw[splice_one hj2,Ybk,List.take_set,←ht,Ybk]
section
variable {P:NP} {X:NodX} {k:Int}
theorem zJm {E:TypeId} {s bytes n c m:Nat} {a:Option Addr} {L news:List Value} {K:Option Addr→Nat→Mem→Prop} (h:NodeAt B0 M0 S0 B M P X (R++[zaW E s a n c L]))
  (h1:(n+m)*bytes≤140737488355328) (h2:n+m≤maxLen) (h3:∀ u∈news,u.oneCell'=true) (hk:∀ a' c' M1,n+m≤c'→NodeAt B0 M0 S0 B M1 P X (R++[zaW E s a' (n+m) c' (L++news)])→K a' c' M1):zac E s bytes a n c m news M K:=by
 have h':=h.at';rw[←Yp] at h';refine h'.appV ((zgQ P X++zfS P X)++R).length (zmF _ _) h1 h2 h3 fun a' c' M1 hc h5=>hk a' c' M1 hc ⟨?_,h.inv⟩
 rw[zhR,Yp] at h5;exact h5
theorem zJn (h:NodeAt B0 M0 S0 B M P X R) (E:TypeId) (s:Nat):NodeAt B0 M0 S0 B M P X (R++[zaW E s none 0 0 []]):=⟨by rw[←Yp];exact h.at'.row0 E s,h.inv⟩
theorem zFx {E:TypeId} {s n c:Nat} {a:Option Addr} {L:List Value} (h:NodeAt B0 M0 S0 B M P X (R++[zaW E s a n c L])):∃ B',B.le B'∧SrcOk B' s a n L∧NodeAt B0 M0 S0 B' M P X R:=by
 have h':=h.at';rw[←Yp] at h';obtain⟨B',h1,h2,h3⟩:=h'.cede ((zgQ P X++zfS P X)++R).length (zmF _ _);rw[zhR,Ys] at h3;exact⟨B',h1,h2,h3,h.inv⟩
theorem zJo {E:TypeId} {n c:Nat} {a:Option Addr} {L:List Value} (h:NodeAt B0 M0 S0 B M P X (R++[zaW E 1 a n c L])) {j:Nat} (hj:j<n) {v:Value} {K:Mem→Prop}
  (hk:∀ M1,NodeAt B0 M0 S0 B M1 P X (R++[zaW E 1 a n c (L.set j v)])→K M1):∃ b,a=some ⟨b,0,none⟩∧zdm M b j 1 [v] K:=by
 have h':=h.at';rw[←Yp] at h';refine zKd h' ((zgQ P X++zfS P X)++R).length (zmF _ _) hj fun M1 h5=>hk M1 ⟨?_,h.inv⟩
 rw[zhR,Yp] at h5;exact h5
theorem zIm {E:TypeId} {n c b:Nat} {L:List Value} (h:NodeAt B0 M0 S0 B M P X (R++[zaW E 1 (some ⟨b,0,none⟩) n c L])) {j o:Nat} (hj:j<n) (ho:o=j) {v:Value} {K:Mem→Prop}
  (hk:∀ M1,NodeAt B0 M0 S0 B M1 P X (R++[zaW E 1 (some ⟨b,0,none⟩) n c (L.set j v)])→K M1):zdm M b o 1 [v] K:=by
 obtain⟨b',e,h'⟩:=zJo h hj hk;cases e;rw[ho];exact h'
theorem zJp (h:NodeAt B0 M0 S0 B M P X R) {E:TypeId} {s n:Nat} {vs:List Value} {K:Nat→Mem→Prop} (hl:vs.length=n*s) (hk:∀ b M1,NodeAt B0 M0 S0 B M1 P X (R++[zaW E s (some ⟨b,0,none⟩) n n vs])→K b M1):zeZ M E vs K:=
 h.at'.newRV hl fun b M1 h1=>hk b M1 ⟨by simp_all,h.inv⟩
def zmG (X:NodX):List Int:=X.C.X.S.l.foldl (fun v m=>match zkl X.me X.nb X.tab m.id.d with|some k=>v.set m.id.d.toNat k|none=>v) (List.replicate 64 (-1))
def zcX (X:NodX) (o:zfD):NodX:=
 let r:=zbf X o.to ⟨1,o.n,o.msg.id,o.msg.data,[]⟩
 if r.2≠0 then { r.1 with dsk:=if isF r.1.dsk o.msg.id then zou r.1.dsk o.msg.id else r.1.dsk } else r.1
def zdK (X:NodX) (up:List Int):PlF:=zga X.dsk X.next (X.C.X.S.l.map zmC) (zmG X) up
def zcl (X:NodX) (up:List Int):NodX:=if X.C.X.S.l.length=0 then X else (zdK X up).out.foldl zcX { X with dsk:=(zdK X up).f,next:=(zdK X up).next }
theorem zt0 (X:zaX) (l:List UInt8):(zei X l).out.length≤X.out.length+65∧(zei X l).inn=X.inn:=by
 unfold zei;split
 ·exact zim _
 ·simp
theorem zwu (X:NodX) (k:Int) (w:Word):(zbf X k w).1.nb=X.nb:=by unfold zbf;split<;>rfl
theorem zox (X:NodX) (k:Int) (w:Word) (j:Int):((zbf X k w).1.sd j).L.out.length≤(X.sd j).L.out.length+65∧((zbf X k w).1.sd j).L.inn=(X.sd j).L.inn∧((zbf X k w).1.sd j).out=(X.sd j).out:=by
 unfold zbf;split
 ·simp
 ·unfold NodX.setSd;dsimp only;split
  ·rename_i e;rw[e];exact⟨(zt0 _ _).1,(zt0 _ _).2,rfl⟩
  ·simp
theorem zt1 (X:NodX) (o:zfD) (j:Int):((zcX X o).sd j).L.out.length≤(X.sd j).L.out.length+65∧((zcX X o).sd j).L.inn=(X.sd j).L.inn∧((zcX X o).sd j).out=(X.sd j).out:=by
 unfold zcX;dsimp only;split<;>exact zox _ _ _ _
theorem zwv (X:NodX) (o:zfD):(zcX X o).nb=X.nb:=by
 unfold zcX;dsimp only;split<;>exact zwu _ _ _
theorem zoV (via up:List Int):∀ (held:List zeq) (s:PlF),(∀ o∈s.out,o.to∈up)→∀ o∈(held.foldl (zdB via up) s).out,o.to∈up
 | [],s,h=>h
 | x::r,s,h=>by
  rw[Yap];refine zoV via up r _ ?_;unfold zdB;split
  ·grind
  ·exact h
theorem zq4 (via up:List Int):∀ (held:List zeq) (s:PlF),(held.foldl (zdB via up) s).out.length≤s.out.length+held.length
 | [],s=>Yd _
 | x::r,s=>by
  rw[Yap];refine Yn (zq4 via up r _) ?_;unfold zdB;split<;>simp<;>omega
theorem zEb (h:NodeAt B0 M0 S0 B M P X R) {up:List Int} {a:Option Addr} {n c:Nat} (hu:SrcOk B 1 a n (up.map zj)) (hun:n≤64) (hup:∀ k∈up,k∈X.nb) (hN:P.N≤4611686018427387904) (hb:∀ k∈X.nb,(X.sd k).L.out.length+20000≤1000000000) :
  CallsM prog 73 [ptr P.n,.slice a n c] M fun v M'=>v = .tuple #[]∧NTo B0 M0 S0 B M' P (zcl X up) R 0 256:=by
 have hC:CuAt B M P.c P.p P.N P.H X.C:=h.at'.part 2 rfl;have hI:=hC.st.st.inv
 have hqh:X.C.X.S.l.length≤256:=by
  have h1:=hI.qh;have h2:=hC.st.bd
  unfold zcE at h2;omega
 refine znT oS ?_;refine zW h.self ?_;refine(zCn h.at' hC hN).mono ?_;rintro v M1 ⟨ah,ch,rfl,hel,h1⟩;obtain⟨B1,eB1⟩:=oI (newB B M M1);rw[←eB1] at hel h1;have hB1:B.le B1:=by rw[eB1];exact zeH h.le
 have h2:NodeAt B0 M0 S0 B1 M1 P X R:=⟨h1,h.inv⟩
 refine zR ?_;refine brn (fun g=>?_) (fun g=>?_)
 ·have e:zcl X up=X:=by unfold zcl;rw[if_pos];simpa using Zd0 g
  refine zR ?_;rw[e];exact⟨rfl,B1,P,hB1,NP.same.refl P oM,h2⟩
 have g0:¬X.C.X.S.l.length=0:=by have:=Zd1 g;omega
 refine zR ?_;refine zJp (R:=R) h2 (s:=1) (n:=64) oS fun bv M2 h3=>?_
 have e0:(List.replicate (Int.toNat 64) [Value.int .i64 0]).flatten=(List.replicate 64 (0:Int)).map zj:=by rw[List.map_replicate];rfl
 refine zR ?_
 refine zan (σ:=Nat×Mem) [24] (fun y=>[(24,.int .i64 y.1)]) (fun _=>[]) (fun y=>y.2)
  (fun|⟨i,Mc⟩=>i≤64∧NodeAt B0 M0 S0 B1 Mc P X (R++[zaW 3 1 (some ⟨bv,0,none⟩) 64 64 ((List.replicate i (-1:Int)++List.replicate (64 - i) 0).map zj)])) (fun y=>64 - y.1) ⟨0,M2⟩ ⟨Y6 _,by simp_all⟩ zS ?_
 rintro ⟨i,Mc⟩ ⟨hi,hc⟩;refine brn (fun g=>?_) (fun g=>?_)
 ·have hlt:i<64:=by have:=Zd0 g;dsimp only at this;omega
  refine ob (by omega) ?_;refine zR ?_;refine zIm hc hlt oS fun M3 h4=>?_
  refine zR ?_;refine obr (inR_i64 (by omega)) ?_;refine⟨⟨i+1,M3⟩,⟨hlt,?_⟩,by omega,zS⟩
  have e1:((List.replicate i (-1:Int)++List.replicate (64 - i) 0).map zj).set i (.int .i64 (-1))=(List.replicate (i+1) (-1:Int)++List.replicate (64 - (i+1)) 0).map zj:=by
   rw[show 64 - i=(64 - (i+1))+1 by omega,List.replicate_succ,List.replicate_succ'];simp[List.set_append]
  rw[e1] at h4;exact h4
 have hge:i=64:=by have:=Zd1 g;dsimp only at this;omega
 subst hge
 let st (j:Nat):List Int:=(X.C.X.S.l.take j).foldl (fun v m=>match zkl X.me X.nb X.tab m.id.d with|some k=>v.set m.id.d.toNat k|none=>v) (List.replicate 64 (-1))
 have hst:∀ j (hj:j<X.C.X.S.l.length),st (j+1)=(match zkl X.me X.nb X.tab (X.C.X.S.l[j]).id.d with|some k=>(st j).set (X.C.X.S.l[j]).id.d.toNat k|none=>st j):=fun j hj=>by
  simp only[st,Yz,Yb hj,Ya2];rfl
 have hfin:st X.C.X.S.l.length=zmG X:=by simp only[st,zmG];rw[Yai]
 have hsl:∀ j,(st j).length=64:=by
  intro j
  induction j with
  | zero=>simp[st]
  | succ j ih=>
   by_cases hj:j<X.C.X.S.l.length
   ·grind
   ·grind
 refine zR ?_
 refine zan (σ:=Nat×Mem) [33] (fun y=>[(33,.int .i64 y.1)]) (fun _=>[]) (fun y=>y.2)
  (fun|⟨j,Mc⟩=>j≤X.C.X.S.l.length∧NodeAt B0 M0 S0 B1 Mc P X (R++[zaW 3 1 (some ⟨bv,0,none⟩) 64 64 ((st j).map zj)])) (fun y=>X.C.X.S.l.length - y.1) ⟨0,Mc⟩ ⟨Y6 _,by grind⟩ zS ?_
 clear hc;rintro ⟨j,Mc⟩ ⟨hj,hc⟩;refine brn (fun g=>?_) (fun g=>?_)
 ·have hlt:j<X.C.X.S.l.length:=by have:=Zd0 g;dsimp only at this;omega
  obtain⟨q1,b2,o2,cs,rfl,hrows,hrow,hcs,q,nq,kq,rfl,hq,hnq⟩:=hel.at (i:=j) oD oM;obtain⟨m,hm⟩:=oI ((X.C.X.S.l.map zmC)[j]);have hmid:m.id=(X.C.X.S.l[j]).id:=by rw[hm];simp
  have hidd:0≤m.id.d∧m.id.d<64:=by
   rw[hmid];have h8:=zdd (hI.msgs _ (Yab hlt)).1
   have h9:=(zxp h8.1).2.1;omega
  rw[←hm] at hq hrow;have hrow':=Yc5 hc.le hrow
  have hT:TabOk B1 Mc P.tx X.me 64 X.nb X.tab:=hc.at'.part 3 rfl;have hs1:=hst j hlt
  rw[←hmid] at hs1;refine ob (by omega) ?_;refine zR ?_;refine on hrow' ?_;refine zW hc.self ?_;refine(zxD hT m.id.d).mono ?_;rintro v M4 ⟨rfl,hle4⟩;have h4:=hc.up hle4
  cases hf:zkl X.me X.nb X.tab m.id.d with
  | none=>
   rw[hf] at hs1;have hs1:st (j+1)=st j:=hs1
   rw[←hs1] at h4;refine zT (hle4) ?_;refine zR ?_;refine obr (inR_i64 (by omega)) ?_;exact⟨⟨j+1,M4⟩,⟨hlt,h4⟩,by omega,zS⟩
  | some k=>
   rw[hf] at hs1;have hs1:st (j+1)=(st j).set m.id.d.toNat k:=hs1
   refine zT (hle4) ?_;refine zR ?_;refine ob (by omega) ?_;refine zR ?_;refine zIm h4 (j:=m.id.d.toNat) oM oM fun M5 h5=>?_
   rw[←List.map_set (f:=zj),←hs1] at h5;refine zR ?_;refine obr (inR_i64 (by omega)) ?_;exact⟨⟨j+1,M5⟩,⟨hlt,h5⟩,by omega,zS⟩
 have hge:j=X.C.X.S.l.length:=by have:=Zd1 g;dsimp only at this;omega
 subst hge;rw[hfin] at hc;obtain⟨B2,hb2,hvs,h4⟩:=zFx hc;have hB2:=Yc hB1 hb2
 refine zW h4.self ?_;refine(zCi h4.at' 4 rfl (hel.imp hb2 fun cs x _ h=>h.le hb2) hvs (hu.le hB2) oM oM).mono ?_;rintro v M5 ⟨ap,cp,rfl,hof,h5⟩;obtain⟨B5,eB5⟩:=oI (newB B2 Mc M5);rw[←eB5] at hof h5;have hB5:B.le B5:=Yc hB2 (by rw[eB5];exact zeH h4.le)
 obtain⟨pl,hpl⟩:=oI (zdK X up);have hpl':zga X.dsk X.next (X.C.X.S.l.map zmC) (zmG X) up=pl:=hpl.symm
 rw[hpl'] at hof h5;have hto:∀ o∈pl.out,o.to∈up:=by rw[hpl];exact zoV _ _ _ _ oS
 have hpn:pl.out.length≤256:=by
  have:=zq4 (zmG X) up (X.C.X.S.l.map zmC) ⟨X.dsk,X.next,[]⟩;rw[hpl];unfold zdK zga;simp at this;omega
 have h6:NodeAt B0 M0 S0 B5 M5 { P with K:=P.K+X.C.X.S.l.length } { X with dsk:=pl.f,next:=pl.next } R:=⟨h5,h4.inv.nbs,h4.inv.len,h4.inv.key,h4.inv.val⟩
 have eo:zcl X up=pl.out.foldl zcX { X with dsk:=pl.f,next:=pl.next }:=by unfold zcl;rw[if_neg g0,hpl]
 let Y (i:Nat):NodX:=(pl.out.take i).foldl zcX { X with dsk:=pl.f,next:=pl.next }
 have hY:∀ i (hi:i<pl.out.length),Y (i+1)=zcX (Y i) pl.out[i]:=fun i hi=>by
  simp only[Y,Yz,Yb hi,Ya2];rfl
 have hYf:Y pl.out.length=zcl X up:=by rw[eo];simp only[Y];rw[Yai]
 rw[hpl'];refine zR ?_
 refine zan (σ:=Nat×Mem×Mem×NP) [65] (fun y=>[(65,.int .i64 y.1)]) (fun _=>[]) (fun y=>y.2.1)
  (fun|⟨i,Md,Bd,Pd⟩=>i≤pl.out.length∧NodeAt B0 M0 S0 Bd Md Pd (Y i) R∧B5.le Bd∧P.same Pd 0 256∧(Y i).nb=X.nb∧∀ j,((Y i).sd j).L.out.length≤(X.sd j).L.out.length+65*i) (fun y=>pl.out.length - y.1)
  ⟨0,M5,B5,{ P with K:=P.K+X.C.X.S.l.length }⟩ ⟨Y6 _,h6,Ya _,⟨rfl,fun _=>rfl,by simp,by simp_all,rfl⟩,rfl,fun j=>Yd8 _ _⟩ zS ?_
 rintro ⟨i,Md,Bd,Pd⟩ ⟨hi,hd,hbd,hsm,hnb,hbo⟩;have en:Pd.n=P.n:=hsm.n
 refine brn (fun g=>?_) (fun g=>?_)
 ·have hlt:i<pl.out.length:=by have:=Zd0 g;dsimp only at this;omega
  obtain⟨q1,b2,o2,cs,ea,hrows,hrow,hcs,q,nq,kq,rfl,hq,hnq⟩:=(hof.imp hbd fun cs x _ h=>h.le hbd).at (i:=i) oD hlt;obtain⟨o,ho⟩:=oI (pl.out[i]);have hY1:=hY i hlt
  have homem:o.to∈X.nb:=hup _ (hto _ (by simp_all));rw[←ho] at hq hrow hY1;have hql:=hq.maplen
  subst hql;have hrow':=Yc5 hd.le hrow
  refine ob (by omega) ?_;refine atp ea ?_;refine zR ?_;refine on hrow' ?_;refine zR ?_;have hp:=zd7 hd (k:=o.to) (by simp_all) ⟨1,o.n,o.msg.id,o.msg.data,[]⟩ (pD:=q) (kD:=kq) (pC:=none) (kC:=0) ⟨hq.le hd.le,zbZ _,hnq,by show 0≤2097152;decide⟩ (by grind)
  rw[en] at hp;refine hp.mono ?_;rintro v M7 ⟨rfl,B7,P7,hb7,hs7,h7⟩;have hs8:P.same P7 0 256:=by have:=hsm.trans hs7;simpa using this
  obtain⟨W,hW⟩:∃ W:Word,W=⟨1,o.n,o.msg.id,o.msg.data,[]⟩:=⟨_,rfl⟩
  rw[←hW] at h7 ⊢;have hg:zcX (Y i) o=(if (zbf (Y i) o.to W).2≠0 then { (zbf (Y i) o.to W).1 with dsk:=if isF (zbf (Y i) o.to W).1.dsk o.msg.id then zou (zbf (Y i) o.to W).1.dsk o.msg.id else (zbf (Y i) o.to W).1.dsk } else (zbf (Y i) o.to W).1):=by rw[hW];rfl
  have hnb2:(Y (i+1)).nb=X.nb:=by rw[hY1,zwv,hnb]
  have hbo2:∀ j,((Y (i+1)).sd j).L.out.length≤(X.sd j).L.out.length+65*(i+1):=fun j=>by
   rw[hY1];have:=(zt1 (Y i) o j).1;have:=hbo j;omega
  have hbd7:=Yc hbd hb7;refine zR ?_;refine brn (fun g2=>?_) (fun g2=>?_)
  ·have g3:(zbf (Y i) o.to W).2≠0:=by simpa using g2
   rw[if_pos g3] at hg;have hs7':M7.has P.n 96 (zdw P7 (zbf (Y i) o.to W).1):=by rw[←hs8.n];exact h7.self
   refine zW hs7' ?_;refine(zCf h7.at' 4 rfl o.msg.id).mono ?_;rintro v M8 ⟨rfl,h8⟩;have h9:NodeAt B0 M0 S0 B7 M8 P7 (Y (i+1)) R:=by rw[hY1,hg];exact⟨h8,h7.inv.nbs,h7.inv.len,h7.inv.key,h7.inv.val⟩
   refine obr (inR_i64 (by omega)) ?_;exact⟨⟨i+1,M8,B7,P7⟩,⟨hlt,h9,hbd7,hs8,hnb2,hbo2⟩,by omega,zS⟩
  ·have g3:¬(zbf (Y i) o.to W).2≠0:=by simpa using g2
   rw[if_neg g3] at hg;refine zR ?_;refine obr (inR_i64 (by omega)) ?_;exact⟨⟨i+1,M7,B7,P7⟩,⟨hlt,by simp_all,hbd7,hs8,hnb2,hbo2⟩,by omega,zS⟩
 have hge:i=pl.out.length:=by have:=Zd1 g;dsimp only at this;omega
 subst hge;rw[hYf] at hd;refine zR ?_;exact⟨rfl,Bd,Pd,Yc hB5 hbd,hsm,hd⟩
end
end
section
variable {B0 M0 B M B' M':Mem} {S0:Nat→Prop} {R:List Pt} {ps:List Pt}
section
variable {P:NP} {X:NodX} {k:Int}
theorem zIn (h:NodeAt B0 M0 S0 B M P X R) (hk:k∈X.nb) {o n:Nat} {vs:List Value} {K:Mem→Prop} (x':SP) (s':SideR) (hn:o+n≤4) (hx:x'.s=(P.sp k).s)
  (he:rpl (zeO (P.sp k) (X.sd k)) 0 [zbL (P.sp k).s 114 (zd (zis (P.sp k) (X.sd k)) o vs)]=zeO x' s') (hK:∀ M1,NodeAt B0 M0 S0 B M1 (P.setSp k x') (X.setSd k s') R→K M1):zdm M (P.sp k).s o n vs K:=
 (h.opn hk).stoV 0 rfl hn fun M1 h1=>hK M1 (h.cls hk (h1.c he) hx)
def zb4 (X:NodX) (k:Int):NodX:=if (X.sd k).L.resets≠(X.sd k).resets then { X.setSd k { X.sd k with resets:=(X.sd k).L.resets } with dsk:=zlo X.dsk k } else X
def zbh (c:zb9):List UInt8:=if zdi c=0 then zdA (zaP c) else []
def zfU (s:SideR):SideR:={ s with L:={ s.L with out:=[] },out:=s.out++s.L.out.flatMap zbh }
def zcm (X:NodX) (k:Int):NodX:=X.setSd k (zfU (X.sd k))
def ziK (X:NodX):List Int:=X.nb.filter fun k=>(X.sd k).L.up
def zcb (X:NodX):NodX:=if (X.nb.foldl zb4 X).C.w.failed then X.nb.foldl zb4 X else zcl (X.nb.foldl zb4 X) (ziK X)
def zO (X:NodX):NodX:=X.nb.foldl zcm (zcb X)
theorem zww (X:NodX) (k:Int):(zb4 X k).nb=X.nb:=by unfold zb4;split<;>rfl
theorem zyA (X:NodX) (k j:Int):((zb4 X k).sd j).L=(X.sd j).L∧((zb4 X k).sd j).out=(X.sd j).out:=by
 unfold zb4;split
 ·unfold NodX.setSd;dsimp only;split
  ·simp_all
  ·simp
 ·simp
theorem zmH:∀ (l:List Int) (X:NodX),(l.foldl zb4 X).nb=X.nb∧∀ j,((l.foldl zb4 X).sd j).L=(X.sd j).L∧((l.foldl zb4 X).sd j).out=(X.sd j).out
 | [],X=>⟨rfl,fun _=>⟨rfl,rfl⟩⟩
 | a::r,X=>by
  rw[Yap];obtain⟨h1,h2⟩:=zmH r (zb4 X a);refine⟨h1.trans (zww X a),fun j=>?_⟩;rw[(h2 j).1,(h2 j).2];exact zyA X a j
theorem zAj (X:NodX) (up:List Int) (hl:X.C.X.S.l.length≤256) (j:Int):(zcl X up).nb=X.nb∧((zcl X up).sd j).L.out.length≤(X.sd j).L.out.length+16640∧((zcl X up).sd j).out=(X.sd j).out:=by
 have key:∀ (l:List zfD) (Z:NodX),(l.foldl zcX Z).nb=Z.nb∧((l.foldl zcX Z).sd j).L.out.length≤(Z.sd j).L.out.length+65*l.length∧((l.foldl zcX Z).sd j).out=(Z.sd j).out:=by
  intro l
  induction l with
  | nil=>simp
  | cons o r ih=>
   intro Z;rw[Yap];obtain⟨i1,i2,i3⟩:=ih (zcX Z o);have:=zt1 Z o j
   exact⟨i1.trans (zwv Z o),by grind,i3.trans this.2.2⟩
 unfold zcl;split
 ·simp
 ·have h1:=zq4 (zmG X) up (X.C.X.S.l.map zmC) ⟨X.dsk,X.next,[]⟩;have h2:(zdK X up).out.length≤256:=by unfold zdK zga;simp at h1;omega
  obtain⟨k1,k2,k3⟩:=key (zdK X up).out { X with dsk:=(zdK X up).f,next:=(zdK X up).next };exact⟨k1,by grind,k3⟩
theorem zAk (q:Option Addr) (c:Nat):CallsM prog 76 [.slice q 0 c] M fun v M'=>v = .tuple #[.slice none 0 0,.int .i64 2]∧M=M':=by
 refine zla oS ?_;refine brn_t (decide_eq_true oM) ?_;refine zR ?_;exact⟨rfl,rfl⟩
theorem zmI (c:zb9):(zbh c).length≤300:=by
 unfold zbh;split
 ·rename_i h;have h1:=(zkh h).1
  have h2:=zin c;have h3:=zsU c
  have h4:=zhs (zc9 (zaP c));have h5:(zc9 (zaP c)).length=(zaP c).length+2:=by simp[zc9]
  unfold zdA;simp;omega
 ·simp
theorem zCp (x:zb9) {q:Option Addr} {c:Nat} (hs:SrcOk M 1 q (zfB x).length ((zfB x).map zc)):CallsM prog 76 [.slice q (zfB x).length c] M fun v M'=>∃ a' c' e,v = .tuple #[.slice a' (zbh x).length c',.int .i64 e]∧NewSl M 5 1 a' (zbh x).length c' ((zbh x).map zc) M':=by
 by_cases h:zdi x=0
 ·have e1:zfB x=zaP x:=by unfold zfB;rw[if_pos h]
  have e2:zbh x=zdA (zaP x):=by unfold zbh;rw[if_pos h]
  rw[e1] at hs ⊢;rw[e2];refine(zBI hs ?_).mono ?_
  ·have h1:=(zkh h).1;have h2:=zin x
   have h3:=zsU x;omega
  ·rintro v M' ⟨a',c',rfl,hN⟩;exact⟨a',c',0,rfl,hN⟩
 ·have e1:zfB x=[]:=by unfold zfB;rw[if_neg h]
  have e2:zbh x=[]:=by unfold zbh;rw[if_neg h]
  rw[e1,e2];refine zJ (zAk q c) ?_;exact⟨none,0,2,rfl,Yat M _ _⟩
theorem zwx:∀ (l:List Int) (X:NodX),(l.foldl zcm X).nb=X.nb∧∀ j,j∉l→(l.foldl zcm X).sd j=X.sd j
 | [],X=>⟨rfl,fun _ _=>rfl⟩
 | a::r,X=>by
  rw[Yap];obtain⟨h1,h2⟩:=zwx r (zcm X a);refine⟨h1,fun j hj=>?_⟩;rw[h2 j fun e=>hj (Ybv _ e)];unfold zcm NodX.setSd;dsimp only;rw[if_neg fun e=>hj (by rw[e];exact Yc4 ..)]
theorem zmJ (h:NodeAt B0 M0 S0 B M P X R) (hN:P.N≤4611686018427387904) (hK:P.K≤999999999000) (hb:∀ k∈X.nb,(X.sd k).L.out.length+20000≤1000000000∧(X.sd k).out.length≤10000000000000) :
  CallsM prog 35 [ptr P.n] M fun v M'=>v = .tuple #[]∧NTo B0 M0 S0 B M' P (zO X) R 0 256:=by
 have hnl:=h.inv.len;refine znQ oS ?_;refine zM (zoU h.self h.map h.inv) ?_;rintro v M1 ⟨an,cn,rfl,hN1⟩;obtain⟨B1,eB1⟩:=oI (newB B M M1);have hB1:B.le B1:=by rw[eB1];exact zeH h.le
 have hnear:SrcOk B1 1 an X.nb.length (X.nb.map zj):=by rw[eB1];exact zc6 hN1.src fun r hr=>(hN1.block hr).1
 have h1:NodeAt B0 M0 S0 B1 M1 P X R:=by rw[eB1];exact h.upN hN1.le
 have h2:=zJn h1 3 1
 let Y (i:Nat):NodX:=(X.nb.take i).foldl zb4 X
 have hY:∀ i (hi:i<X.nb.length),Y (i+1)=zb4 (Y i) X.nb[i]:=fun i hi=>by
  simp only[Y,Yz,Yb hi,Ya2];rfl
 let U (i:Nat):List Int:=(X.nb.take i).filter fun k=>(X.sd k).L.up
 have hU:∀ i (hi:i<X.nb.length),U (i+1)=U i++(if (X.sd X.nb[i]).L.up then [X.nb[i]] else []):=fun i hi=>by
  simp only[U,Yz,Yb hi,Ycf,Option.toList];congr 1;cases hh:(X.sd X.nb[i]).L.up<;>simp[hh]
 refine zR ?_
 refine zan (σ:=Nat×Mem×Mem×NP×Option Addr×Nat) [18,2] (fun y=>[(18,.int .i64 y.1),(2,.slice y.2.2.2.2.1 (U y.1).length y.2.2.2.2.2)]) (fun _=>[]) (fun y=>y.2.1)
  (fun|⟨i,Mc,Bc,Pc,a,c⟩=>i≤X.nb.length∧NodeAt B0 M0 S0 Bc Mc Pc (Y i) (R++[zaW 3 1 a (U i).length c ((U i).map zj)])∧B1.le Bc∧P.same Pc 0 0) (fun y=>X.nb.length - y.1)
  ⟨0,M1,B1,P,none,0⟩ ⟨Y6 _,h2,Ya _,NP.same.refl P oM⟩ zS ?_
 rintro ⟨i,Mc,Bc,Pc,a,c⟩ ⟨hi,hc,hbc,hsm⟩;have hnbY:=(zmH (X.nb.take i) X).1
 have hLY:=(zmH (X.nb.take i) X).2;have en:=hsm.n
 have hself:Mc.has P.n 96 (zdw Pc (Y i)):=by rw[←en];exact hc.self
 refine brn (fun g=>?_) (fun g=>?_)
 ·have hlt:i<X.nb.length:=by have:=Zd0 g;dsimp only at this;omega
  obtain⟨hk1,b1,o1,e1,hr1⟩:=((hnear.le hbc).le hc.le).at hlt;have hYi:=hY i hlt
  have hUi:=hU i hlt;obtain⟨k,hk⟩:=oI (X.nb[i]);rw[←hk] at hYi hUi hr1;have hkm:k∈(Y i).nb:=by rw[hnbY,hk];exact Yab hlt
  have hsc:=hc.scell hkm;refine ob (by omega) ?_;refine atp e1 ?_;refine zR ?_;refine on hr1 ?_;refine zW hself ?_;refine hc.map.get zc2 k (fun g=>?_) (fun y j g=>?_)
  ·rw[hc.inv.get hkm] at g;cases g
  rw[hc.inv.get hkm] at g;cases g;refine zQ hsc ?_;have hlk:=zfT (hc.opn hkm)
  refine zJ (zob hlk) ?_;refine zU ?_;refine brn (fun g2=>?_) (fun g2=>?_)
  rotate_left
  have g3:¬((Y i).sd k).L.resets≠((Y i).sd k).resets:=by simpa using g2
  have hh:zb4 (Y i) k=Y i:=by unfold zb4;rw[if_neg g3]
  obtain⟨Bz,hBz⟩:=oI Bc;obtain⟨Pz,hPz⟩:=oI Pc;obtain⟨Mz,hMz⟩:=oI Mc
  have hz:NodeAt B0 M0 S0 Bz Mz Pz (Y (i+1)) (R++[zaW 3 1 a (U i).length c ((U i).map zj)]):=by
   rw[hYi,hh,hBz,hPz,hMz];exact hc
  have hsmz:Pc.same Pz 0 0:=by rw[hPz];exact NP.same.refl Pc oM
  have hbz:Bc.le Bz:=by rw[hBz];exact Ya _
  rw[←hMz]
  rotate_left
  have g3:((Y i).sd k).L.resets≠((Y i).sd k).resets:=by simpa using g2
  have hh:zb4 (Y i) k={ (Y i).setSd k { (Y i).sd k with resets:=((Y i).sd k).L.resets } with dsk:=zlo (Y i).dsk k }:=by unfold zb4;rw[if_pos g3]
  refine zW hsc ?_;refine zN (zob hlk) ?_;refine zIn hc hkm (Pc.sp k) { (Y i).sd k with resets:=((Y i).sd k).L.resets } oM rfl (by rfl) fun M3 h3=>?_
  have hself3:M3.has P.n 96 (zdw (Pc.setSp k (Pc.sp k)) ((Y i).setSd k { (Y i).sd k with resets:=((Y i).sd k).L.resets })):=by rw[←en];exact h3.self
  refine zW hself3 ?_;refine(zAh h3.at' 4 rfl (by have:=hsm.K;show Pc.K≤_;omega) k).mono ?_;rintro v Mz ⟨⟨kk,rfl⟩,h5⟩;obtain⟨Bz,hBz⟩:=oI Bc;obtain⟨Pz,hPz⟩:=oI (Pc.setSp k (Pc.sp k))
  have hz:NodeAt B0 M0 S0 Bz Mz Pz (Y (i+1)) (R++[zaW 3 1 a (U i).length c ((U i).map zj)]):=by
   rw[hYi,hh,hBz,hPz];exact⟨h5,h3.inv.nbs,h3.inv.len,h3.inv.key,h3.inv.val⟩
  have hsmz:Pc.same Pz 0 0:=by rw[hPz];exact NP.same.set Pc k rfl oM
  have hbz:Bc.le Bz:=by rw[hBz];exact Ya _
  clear h3 h5 hself3
  all_goals
   have hkmZ:k∈(Y (i+1)).nb:=by rw[hYi,zww];exact hkm
   have hscz:=hz.scell hkmZ;have hUp:((Y (i+1)).sd k).L.up=(X.sd k).L.up:=by rw[hYi,(zyA _ _ _).1,(hLY k).1]
   have hsz:(Pz.sp k).s=(Pc.sp k).s:=hsmz.s k;rw[hsz] at hscz;have hsm2:P.same Pz 0 0:=by have:=hsm.trans hsmz;simpa using this
   refine zW hscz ?_;refine zJ (zvO (zfT (hz.opn hkmZ))) ?_;rw[hUp];refine zR ?_;cases hup:(X.sd k).L.up with
   | false=>
    rw[hup] at hUi;have hUi:U (i+1)=U i:=by simpa using hUi
    rw[←hUi] at hz;refine zR ?_;refine obr (inR_i64 (by omega)) ?_;refine⟨⟨i+1,Mz,Bz,Pz,a,c⟩,⟨hlt,hz,Yc hbc hbz,hsm2⟩,by omega,?_⟩;rw[←hUi];exact zS
   | true=>
    rw[hup] at hUi;have hUi:U (i+1)=U i++[k]:=by simpa using hUi
    have hul:(U i).length≤i:=by simp only[U];exact Yn (Yar _ _) oE
    refine zR ?_;refine zJm hz (by grind) (by simp[maxLen];omega) oC fun a4 c4 M4 hc4 h4=>?_
    have e4:(U i).map zj++[zj k]=(U (i+1)).map zj:=by rw[hUi];simp
    have e5:(U i).length+1=(U (i+1)).length:=by rw[hUi];simp
    rw[e4,e5] at h4;refine zR ?_;refine obr (inR_i64 (by omega)) ?_;refine⟨⟨i+1,M4,Bz,Pz,a4,c4⟩,⟨hlt,h4,Yc hbc hbz,hsm2⟩,by omega,?_⟩;rw[←e5];exact zS
 have hge:i=X.nb.length:=by have:=Zd1 g;dsimp only at this;omega
 subst hge;have eU:U X.nb.length=ziK X:=by simp only[U,ziK];rw[Yai]
 have eY:Y X.nb.length=X.nb.foldl zb4 X:=by simp only[Y];rw[Yai]
 rw[eU,eY] at hc;rw[eY] at hself;obtain⟨B2,hb2,hups,h3⟩:=zFx hc;have hB2:=Yc hB1 (Yc hbc hb2)
 obtain⟨Z,hZ⟩:=oI (X.nb.foldl zb4 X);obtain⟨z1,z2⟩:=zmH X.nb X;rw[←hZ] at h3 hself z1 z2;have hC:CuAt B2 Mc Pc.c Pc.p Pc.N Pc.H Z.C:=h3.at'.part 2 rfl
 have hul:(ziK X).length≤64:=by unfold ziK;exact Yn (Yar _ _) hnl
 have hum:∀ k∈ziK X,k∈Z.nb:=fun k hk=>by grind
 have hlen:Z.C.X.S.l.length≤256:=by
  have h1:=hC.st.st.inv.qh;have h2:=hC.st.bd
  unfold zcE at h2;omega
 rw[eU];refine zW hself ?_;refine zJ (zes hC) ?_;refine brn (fun g2=>?_) (fun g2=>?_)
 rotate_left
 have g3:Z.C.w.failed=true:=by simpa using g2
 have em:zcb X=Z:=by unfold zcb;rw[←hZ,if_pos g3]
 obtain⟨BM,hBM⟩:=oI B2;obtain⟨MM,hMM⟩:=oI Mc;obtain⟨PM,hPM⟩:=oI Pc;have h5:NodeAt B0 M0 S0 BM MM PM (zcb X) R:=by rw[em,hBM,hMM,hPM];exact h3
 have hsm5:P.same PM 0 256:=by rw[hPM];exact hsm.more oM oM
 have hB5:B.le BM:=by rw[hBM];exact hB2
 have hnb5:(zcb X).nb=X.nb:=by rw[em];exact z1
 have hbo5:∀ j,((zcb X).sd j).L.out.length≤(X.sd j).L.out.length+16640∧((zcb X).sd j).out=(X.sd j).out:=fun j=>by simp_all
 refine zR ?_;rw[←hMM]
 rotate_left
 have g3:¬Z.C.w.failed=true:=by simpa using g2
 have em:zcb X=zcl Z (ziK X):=by unfold zcb;rw[←hZ,if_neg g3]
 have hN3:=hsm.N;have hof:=zEb (P:=Pc) (M:=Mc) (c:=c) h3 hups hul hum oM (fun k hk=>by simp_all)
 rw[en] at hof;refine zR ?_;refine hof.mono ?_;rintro v MM ⟨rfl,BM,PM,hbM,hsM,h5⟩;rw[←em] at h5;have hsm5:P.same PM 0 256:=by have:=hsm.trans hsM;simpa using this
 have hB5:=Yc hB2 hbM;have ho:=zAj Z (ziK X) hlen
 rw[←em] at ho;have hnb5:(zcb X).nb=X.nb:=(ho 0).1.trans z1
 have hbo5:∀ j,((zcb X).sd j).L.out.length≤(X.sd j).L.out.length+16640∧((zcb X).sd j).out=(X.sd j).out:=fun j=>by simp_all
 all_goals
  have emn:PM.n=P.n:=hsm5.n;have hlen5:∀ k∈X.nb,((zcb X).sd k).L.out.length+3360≤1000000000∧((zcb X).sd k).out.length≤10000000000000:=fun k hk=>by grind
  have hself5:MM.has P.n 96 (zdw PM (zcb X)):=by rw[←emn];exact h5.self
  refine zM (zoU hself5 h5.map h5.inv) ?_;rintro v M6 ⟨an6,cn6,rfl,hN6⟩;rw[hnb5] at hN6 ⊢;obtain⟨B6,eB6⟩:=oI (newB BM MM M6);have hB6:B.le B6:=Yc hB5 (by rw[eB6];exact zeH h5.le)
  have hnear6:SrcOk B6 1 an6 X.nb.length (X.nb.map zj):=by rw[eB6];exact zc6 hN6.src fun r hr=>(hN6.block hr).1
  have h6:NodeAt B0 M0 S0 B6 M6 PM (zcb X) R:=by rw[eB6];exact h5.upN hN6.le
  refine zR ?_
  refine zan (σ:=Nat×Mem×Mem×NP) [74] (fun y=>[(74,.int .i64 y.1)]) (fun _=>[]) (fun y=>y.2.1)
   (fun|⟨i,Mc,Bc,Pc⟩=>i≤X.nb.length∧NodeAt B0 M0 S0 Bc Mc Pc ((X.nb.take i).foldl zcm (zcb X)) R∧B6.le Bc∧P.same Pc 0 256) (fun y=>X.nb.length - y.1)
   ⟨0,M6,B6,PM⟩ ⟨Y6 _,h6,Ya _,hsm5⟩ zS ?_
  rintro ⟨i,Me,Be,Pe⟩ ⟨hi6,hc6,hbc6,hsm6⟩;refine brn (fun g=>?_) (fun g=>?_)
  ·have hlt:i<X.nb.length:=by have:=Zd0 g;dsimp only at this;omega
   obtain⟨hk1,b1,o1,e1,hr1⟩:=((hnear6.le hbc6).le hc6.le).at hlt;obtain⟨W,hW⟩:=oI ((X.nb.take i).foldl zcm (zcb X))
   have hW1:(X.nb.take (i+1)).foldl zcm (zcb X)=zcm W X.nb[i]:=by
    rw[hW,Yz,Yb hlt,Ya2];rfl
   obtain⟨k,hk⟩:=oI (X.nb[i]);rw[←hk] at hW1 hr1;rw[←hW] at hc6;have hWk:=zwx (X.nb.take i) (zcb X)
   rw[←hW,hnb5] at hWk;have hkm:k∈W.nb:=by rw[hWk.1,hk];exact Yab hlt
   have hwk:W.sd k=(zcb X).sd k:=hWk.2 k (by
    rw[hk];intro hm;obtain⟨j,hj,e⟩:=Ybi hm;rw[List.getElem_take] at e;have hj2:j<min i X.nb.length:=by simpa using hj
    have:=Yci.1 h.inv.nbs j i oM hlt oM
    omega)
   have hkx:k∈X.nb:=by rw[hk];exact Yab hlt
   have hl5:=hlen5 k hkx;rw[←hwk] at hl5;have hself6:Me.has P.n 96 (zdw Pe W):=by rw[←hsm6.n];exact hc6.self
   refine ob (by omega) ?_;refine atp e1 ?_;refine zR ?_;refine on hr1 ?_;refine zW hself6 ?_;refine hc6.map.get zc2 k (fun g=>?_) (fun y j g=>?_)
   ·rw[hc6.inv.get hkm] at g;cases g
   rw[hc6.inv.get hkm] at g;cases g;refine zW ((hc6.scell hkm)) ?_;refine(zBw (zfT (hc6.opn hkm))).mono ?_;rintro v M7 ⟨B7,q7,c7,xs,p7,rfl,hb7,hxs,hxm,hxo,h7⟩;have hq:At Be Me (sdD Pe W k) B7 M7 (zeO { Pe.sp k with p:=p7 } { W.sd k with L:={ (W.sd k).L with out:=[] } }):=(hc6.opn hkm).call 1 rfl h7.cls
   have hxl:xs.length=(W.sd k).L.out.length:=by rw[←hxm,Ya3]
   let F (j:Nat):List UInt8:=(W.sd k).out++(xs.take j).flatMap fun x=>zbh x.x
   have hF:∀ j (hj:j<xs.length),F (j+1)=F j++zbh xs[j].x:=fun j hj=>by
    simp only[F,Yz,Yb hj,List.flatMap_append,Yp];simp
   have hFl:∀ j,(F j).length≤10000000000000+300*j:=by
    intro j
    induction j with
    | zero=>grind
    | succ j ih=>
     by_cases hj:j<xs.length
     ·rw[hF j hj,Yi];have:=zmI xs[j].x;omega
     ·have:F (j+1)=F j:=by simp only[F];rw[Yf oM,Yf oM]
      rw[this];omega
   refine zR ?_
   refine zan (σ:=Nat×Mem×Option Addr×Nat) [90] (fun y=>[(90,.int .i64 y.1)]) (fun _=>[]) (fun y=>y.2.1)
    (fun|⟨j,Mf,oj,cj⟩=>j≤xs.length∧At Be Me (sdD Pe W k) B7 Mf (zeO { Pe.sp k with p:=p7,o:=oj,c:=cj } { W.sd k with L:={ (W.sd k).L with out:=[] },out:=F j })) (fun y=>xs.length - y.1)
    ⟨0,M7,(Pe.sp k).o,(Pe.sp k).c⟩ ⟨Y6 _,by grind⟩ zS ?_
   rintro ⟨j,Mf,oj,cj⟩ ⟨hj,hf⟩;refine brn (fun g=>?_) (fun g=>?_)
   ·have hjl:j<xs.length:=by have:=Zd0 g;dsimp only at this;omega
    obtain⟨x,hx⟩:=oI (xs[j]);obtain⟨b2,o2,e2,hr2⟩:=SrcOk.fall (enc:=CtlX.cs) (s:=7) (fun _=>rfl) (hxs.le hf.le) oD (j:=j) (x:=x) (by simp_all);have hFj:=hF j hjl
    rw[←hx] at hFj;have hxo':=hxo x (by simp_all)
    refine ob (by omega) ?_;refine atp e2 ?_;refine zR ?_;refine on hr2 ?_;refine zR ?_;refine(zBE x (hxo'.1.le hf.le)).mono ?_;rintro v M8 ⟨a8,c8,rfl,hN8⟩;refine zM (zCp x.x hN8.src) ?_;rintro v M9 ⟨a9,c9,e9,rfl,hN9⟩;have hf9:=(hf.up hN8.le).up hN9.le
    have hfl:=zmI x.x;have hFj9:=hFl j
    refine zW ((hf9.cell 0 rfl)) ?_;refine zce hN9.src ?_;refine hf9.appV 3 rfl (by grind) (by simp[maxLen];omega) (zaN _) fun a10 c10 M10 hc10 h10=>?_
    refine zR ?_;refine h10.stoV 0 rfl oS fun M11 h11=>?_
    have h12:At Be Me (sdD Pe W k) B7 M11 (zeO { Pe.sp k with p:=p7,o:=a10,c:=c10 } { W.sd k with L:={ (W.sd k).L with out:=[] },out:=F (j+1) }):=by
     refine h11.c ?_;rw[hFj];simp[zd,zis]
    refine zR ?_;refine obr (inR_i64 (by omega)) ?_;exact⟨⟨j+1,M11,a10,c10⟩,⟨hjl,h12⟩,by omega,zS⟩
   have hge:j=xs.length:=by have:=Zd1 g;dsimp only at this;omega
   subst hge
   have eF:F xs.length=(zfU (W.sd k)).out:=by
    simp only[F,zfU];rw[Yai,←hxm,List.flatMap_map]
   have h13:=hc6.cls hkm hf rfl
   have e13:W.setSd k { W.sd k with L:={ (W.sd k).L with out:=[] },out:=F xs.length }=(X.nb.take (i+1)).foldl zcm (zcb X):=by
    rw[hW1,eF];rfl
   rw[e13] at h13
   have hsm7:P.same (Pe.setSp k { Pe.sp k with p:=p7,o:=oj,c:=cj }) 0 256:=by
    have:=hsm6.trans (NP.same.set Pe k (x':={ Pe.sp k with p:=p7,o:=oj,c:=cj }) rfl (a:=0) (b:=0) oM);simpa using this
   refine zR ?_;refine obr (inR_i64 (by omega)) ?_;exact⟨⟨i+1,Mf,B7,Pe.setSp k { Pe.sp k with p:=p7,o:=oj,c:=cj }⟩,⟨hlt,h13,Yc hbc6 hb7,hsm7⟩,by omega,zS⟩
  have hge:i=X.nb.length:=by have:=Zd1 g;dsimp only at this;omega
  subst hge;rw[Yai] at hc6;refine zR ?_;exact⟨rfl,Be,Pe,Yc hB6 hbc6,hsm6,hc6⟩
end
end
section
variable {B0 M0 B M B' M':Mem} {S0:Nat→Prop} {R:List Pt} {ps:List Pt}
def zmK (X:NodX) (q:Nat):Prop:=∀ k∈X.nb,(X.sd k).L.out=[]∧(X.sd k).L.inn=[]∧(X.sd k).out.length≤q
theorem zoW (l:List zb9):(l.flatMap zbh).length≤300*l.length:=by
 induction l with
 | nil=>simp
 | cons x r ih=>
  have:=zmI x;rw[Ybr,Yi,Ym];omega
section
variable {P:NP} {X:NodX} {k:Int}
def zit (X:NodX):Int:=if X.C.w.failed then 9 else 0
theorem zkn (h:NodeAt B0 M0 S0 B M P X R):CallsM prog 33 [ptr P.n] M fun v M'=>v = .int .i64 (zit X)∧M=M':=by
 have hC:CuAt B M P.c P.p P.N P.H X.C:=h.at'.part 2 rfl;refine znP oS ?_;refine zW h.self ?_;refine zJ (zes hC) ?_;unfold zit;cases X.C.w.failed
 ·refine zR ?_;exact⟨rfl,rfl⟩
 ·refine zR ?_;exact⟨rfl,rfl⟩
theorem NodeAt.cust (h:NodeAt B0 M0 S0 B M P X R) {N':Int} {H':CuH} {C':CuR} (h':At B0 M0 S0 B M' (rpl ((zgQ P X++zfS P X)++R) 2 [zc1 P.c P.p N' H' C'])):NodeAt B0 M0 S0 B M' { P with N:=N',H:=H' } { X with C:=C' } R:=
 ⟨h',h.inv.nbs,h.inv.len,h.inv.key,h.inv.val⟩
def zch (X:NodX) (d:Int) (l:List UInt8):NodX×IdT×Int:=if X.C.w.failed then (X,za7,9) else (zO { X with C:=(zbt X.C d l).1 },(zbt X.C d l).2)
theorem zsf (h:NodeAt B0 M0 S0 B M P X R) (hN:P.N<4611686018427387904) (hK:P.K≤999999999000) {q:Nat} (hr:zmK X q) (hq:q≤10000000000000) (d:Int) {a:Option Addr} {cc:Nat} {l:List UInt8} (hl:SrcOk B 1 a l.length (l.map zc)) (hn:l.length≤1048576) :
  CallsM prog 10 [ptr P.n,.int .i64 d,.slice a l.length cc] M fun v M'=>v = .tuple #[idA (zch X d l).2.1,.int .i64 (zch X d l).2.2]∧NTo B0 M0 S0 B M' P (zch X d l).1 R 1 256:=by
 refine zm8 oS ?_;refine zJ (zkn h) ?_;unfold zit zch;cases hf:X.C.w.failed
 ·refine zW h.self ?_;refine(zxH h.at' 2 rfl oM d hl hn).mono ?_;rintro v M1 ⟨H1,rfl,h1⟩;have h2:=h.cust h1
  refine zR ?_;refine(zmJ h2 (by grind) hK fun k hk=>?_).mono ?_
  ·obtain⟨r1,r2,r3⟩:=hr k hk;show (X.sd k).L.out.length+_≤_∧(X.sd k).out.length≤_
   rw[r1];exact⟨by decide,by omega⟩
  rintro v M2 ⟨rfl,B2,P2,hb2,hs2,h3⟩;refine zR ?_;exact⟨rfl,B2,P2,hb2,⟨hs2.n,hs2.s,by have:=hs2.N;dsimp only at this;omega,hs2.K,hs2.p⟩,h3⟩
 ·refine zR ?_;exact⟨rfl,B,P,Ya _,NP.same.refl P oM,h⟩
end
end
section
variable {B0 M0 B M B' M':Mem} {S0:Nat→Prop} {R:List Pt} {ps:List Pt}
section
variable {P:NP} {X:NodX} {k:Int}
def zaQ (X:NodX) (k:Int):NodX:=X.setSd k { X.sd k with out:=[] }
theorem zwy (h:NodeAt B0 M0 S0 B M P X R) (hk:k∈X.nb):CallsM prog 65 [ptr P.n,.int .i64 k] M fun v M'=>∃ B' a c P',v = .slice a (X.sd k).out.length c∧B.le B'∧SrcOk B' 1 a (X.sd k).out.length ((X.sd k).out.map zc)∧P.same P' 0 0∧NodeAt B0 M0 S0 B' M' P' (zaQ X k) R:=by
 refine zpa oS ?_;have hs:=h.self
 refine zW hs ?_;refine h.map.get zc2 k (fun g=>?_) (fun y j g=>?_)
 ·rw[h.inv.get hk] at g;cases g
 rw[h.inv.get hk] at g;cases g;refine zW hs ?_;refine h.map.get zc2 k (fun g=>?_) (fun y j g=>?_)
 ·rw[h.inv.get hk] at g;cases g
 rw[h.inv.get hk] at g;cases g;refine zW ((h.scell hk)) ?_;refine zW hs ?_;refine h.map.get zc2 k (fun g=>?_) (fun y j g=>?_)
 ·rw[h.inv.get hk] at g;cases g
 rw[h.inv.get hk] at g;cases g;refine zR ?_;refine(h.opn hk).stoV 0 rfl oS fun M1 h1=>?_
 refine zR ?_;obtain⟨B',hb,hsr,h2⟩:=h1.take 3 rfl;refine⟨B',(P.sp k).o,(P.sp k).c,P.setSp k { P.sp k with o:=none,c:=0 },rfl,hb,hsr,NP.same.set P k (x':={ P.sp k with o:=none,c:=0 }) rfl oM,h.cls hk (h2.c ?_) rfl⟩;simp[zd,zis]
theorem zq5 {a:Option Addr} {c:Nat} {l:List zeq} (h:(zmE a c l).ok B M):∃ L,NewSl B 82 5 a l.length c L M∧MsgsB B L l:=h
theorem zEc (h:NodeAt B0 M0 S0 B M P X R):CallsM prog 13 [ptr P.n] M fun v M'=>∃ B' a c P',v = .slice a X.told.length c∧B.le B'∧Elems B' 5 a X.told.length (MsgR B') X.told∧P.same P' 0 0∧NodeAt B0 M0 S0 B' M' P' { X with told:=[] } R:=by
 refine zkF oS ?_;have hs:=h.self
 refine zW hs ?_;refine h.at'.stoV 0 rfl oS fun M1 h1=>?_
 refine zR ?_;obtain⟨L,hN,hL⟩:=zq5 (h.at'.part 5 rfl);have hN1:∃ L,NewSl B 82 5 P.ta X.told.length P.tc L M1∧MsgsB B L X.told:=zq5 (h1.part 5 rfl)
 obtain⟨L1,hN2,hL2⟩:=hN1;obtain⟨B',hb,hle,hsr,t⟩:=zqL hN2;refine⟨B',P.ta,P.tc,{ P with ta:=none,tc:=0 },rfl,hb,?_,⟨rfl,fun _=>rfl,by simp,by simp,rfl⟩,?_,h.inv.nbs,h.inv.len,h.inv.key,h.inv.val⟩
 ·obtain⟨css,rfl,e2,e3,e4⟩:=hL2.le hb;unfold Elems;exact⟨css,hsr,e2,rfl,e3,e4⟩
 ·refine h1.turn 5 rfl (qs:=[zmE none 0 []]) ⟨t.bb,t.keep,t.fresh,fun y hy=>?_⟩ ⟨hle,fun q hq=>?_,Yav ..⟩
  ·obtain⟨q,hq,hy⟩:=hy;rw[Yx.1 hq] at hy;obtain⟨r,hr,_⟩:=hy;cases hr
  ·rw[Yx.1 hq];exact⟨[],(Yat M1 _ _).mono hle,MsgsB.nil _⟩
theorem zko (h:NodeAt B0 M0 S0 B M P X R) (hN:P.N≤4611686018427387904) (hmk:X.C.X.sn.length≤1048576):CallsM prog 11 [ptr P.n] M fun v M'=>M.le M'∧zAb M M' X.C.X v:=by
 have hC:CuAt B M P.c P.p P.N P.H X.C:=h.at'.part 2 rfl;have hs:=h.self
 refine znM oS ?_;refine zW hs ?_;refine(zyu hC hN hmk).mono ?_;rintro v M1 ⟨hle,hS⟩;obtain⟨ua,uc,ha,hc,ms,ma,mc,mk,rfl,hr⟩:=hS.ex;refine zR ?_;exact⟨hle,⟨ua,uc,ha,hc,ms,ma,mc,mk,rfl,hr⟩⟩
end
end
section
variable {B0 M0 B M B' M':Mem} {S0:Nat→Prop} {R:List Pt} {ps:List Pt}
def zjK (X:NodX) (k:Int):List Int:=(List.range 64).map fun (d:Nat)=>zAd X.me X.nb X.tab k d
def zdL (X:NodX) (k:Int):NodX:=X.setSd k { X.sd k with L:=zbN (X.sd k).L }
def zbH (X:NodX) (k:Int):NodX:=if (X.sd k).L.up then (zbf X k ⟨4,0,za7,[],zjK X k⟩).1 else X
def zgb (X:NodX):NodX:=X.nb.foldl zdL { X with ticks:=inc X.ticks,tab:=zd0 X.tab }
def zb5 (X:NodX):NodX:={ zgb X with dsk:=fun j=>((zgb X).dsk j).bind zfa }
def zci (X:NodX):NodX:=if Int.tmod (inc X.ticks) X.set.timer=0 then X.nb.foldl zbH (zb5 X) else zb5 X
def za8 (X:NodX):NodX×Int:=if X.C.w.failed then (X,9) else (zO (zci X),0)
theorem zt2 (X:zaX):(zbN X).out.length≤X.out.length+1∧(zbN X).inn=X.inn:=by
 unfold zbN;dsimp only;split
 ·simp
 split
 ·simp
 split
 ·simp[zgz,LnkR.add]
 split
 ·split
  ·simp[zl2,zgz,zdR,LnkR.add]
  ·simp[zdc,LnkR.add]
 split
 ·simp[LnkR.add]
 ·simp
theorem zoy:∀ (l:List Int) (X:NodX),(l.foldl zdL X).nb=X.nb∧(l.foldl zdL X).C=X.C∧(l.foldl zdL X).set=X.set∧(l.foldl zdL X).ticks=X.ticks∧∀ j,((l.foldl zdL X).sd j).L.out.length≤(X.sd j).L.out.length+l.length∧((l.foldl zdL X).sd j).L.inn=(X.sd j).L.inn∧((l.foldl zdL X).sd j).out=(X.sd j).out
 | [],X=>⟨rfl,rfl,rfl,rfl,fun j=>⟨Yd _,rfl,rfl⟩⟩
 | a::r,X=>by
  rw[Yap];obtain⟨h1,h2,h3,h4,h5⟩:=zoy r (zdL X a);refine⟨h1,h2,h3,h4,fun j=>?_⟩;have h6:=h5 j
  have h7:((zdL X a).sd j).L.out.length≤(X.sd j).L.out.length+1∧((zdL X a).sd j).L.inn=(X.sd j).L.inn∧((zdL X a).sd j).out=(X.sd j).out:=by
   unfold zdL NodX.setSd;dsimp only;split
   ·rename_i e;rw[e];exact⟨(zt2 _).1,(zt2 _).2,rfl⟩
   ·simp
  simp only[Ym];exact⟨by omega,h6.2.1.trans h7.2.1,h6.2.2.trans h7.2.2⟩
theorem zwz:∀ (l:List Int) (X:NodX),(l.foldl zbH X).nb=X.nb∧(l.foldl zbH X).C=X.C∧∀ j,((l.foldl zbH X).sd j).L.out.length≤(X.sd j).L.out.length+65*l.length∧((l.foldl zbH X).sd j).L.inn=(X.sd j).L.inn∧((l.foldl zbH X).sd j).out=(X.sd j).out
 | [],X=>⟨rfl,rfl,fun j=>⟨Yd _,rfl,rfl⟩⟩
 | a::r,X=>by
  rw[Yap];obtain⟨h1,h2,h5⟩:=zwz r (zbH X a)
  have h8:(zbH X a).nb=X.nb∧(zbH X a).C=X.C:=by
   unfold zbH zbf;split
   ·split<;>exact⟨rfl,rfl⟩
   ·exact⟨rfl,rfl⟩
  refine⟨h1.trans h8.1,h2.trans h8.2,fun j=>?_⟩;have h6:=h5 j
  have h7:((zbH X a).sd j).L.out.length≤(X.sd j).L.out.length+65∧((zbH X a).sd j).L.inn=(X.sd j).L.inn∧((zbH X a).sd j).out=(X.sd j).out:=by
   unfold zbH;split
   ·exact zox _ _ _ _
   ·simp
  simp only[Ym];exact⟨by omega,h6.2.1.trans h7.2.1,h6.2.2.trans h7.2.2⟩
theorem zGC (X:NodX) (hl:X.nb.length≤64) (j:Int):(zci X).nb=X.nb∧(zci X).C=X.C∧((zci X).sd j).L.out.length≤(X.sd j).L.out.length+4224∧((zci X).sd j).L.inn=(X.sd j).L.inn∧((zci X).sd j).out=(X.sd j).out:=by
 obtain⟨h1,h2,h3,h4,h5⟩:=zoy X.nb { X with ticks:=inc X.ticks,tab:=zd0 X.tab };have h6:=h5 j
 unfold zci;split
 ·obtain⟨q1,q2,q3⟩:=zwz X.nb (zb5 X);have q4:=q3 j
  refine⟨q1.trans h1,q2.trans h2,?_,q4.2.1.trans h6.2.1,q4.2.2.trans h6.2.2⟩;have:((zb5 X).sd j).L.out.length≤(X.sd j).L.out.length+X.nb.length:=h6.1
  omega
 ·refine⟨h1,h2,?_,h6.2.1,h6.2.2⟩;have:((zb5 X).sd j).L.out.length≤(X.sd j).L.out.length+X.nb.length:=h6.1
  omega
section
variable {P:NP} {X:NodX} {k:Int}
theorem zwA (h:NodeAt B0 M0 S0 B M P X R) (hN:P.N≤4611686018427387904) (hK:P.K≤999999999000) {q:Nat} (hr:zmK X q) (hq:q≤10000000000000) (ht:1≤X.set.timer∧X.set.timer≤64) :
  CallsM prog 31 [ptr P.n] M fun v M'=>v = .int .i64 (za8 X).2∧NTo B0 M0 S0 B M' P (za8 X).1 R 0 256:=by
 have hnl:=h.inv.len;refine zo6 oS ?_;refine zJ (zkn h) ?_;unfold zit za8;cases hf:X.C.w.failed
 rotate_left
 ·refine zR ?_;exact⟨rfl,B,P,Ya _,NP.same.refl P oM,h⟩
 refine zW h.self ?_;refine obw ?_;refine zR ?_;refine h.at'.stoV 0 rfl oS fun M1 h1=>?_
 have h2:NodeAt B0 M0 S0 B M1 P { X with ticks:=inc X.ticks } R:=⟨h1.c (by rfl),h.inv.nbs,h.inv.len,h.inv.key,h.inv.val⟩
 clear h1;refine zW h2.self ?_;refine(zxF h2.at' 3 rfl).mono ?_;rintro v M2 ⟨rfl,h3⟩;have h4:NodeAt B0 M0 S0 B M2 P { X with ticks:=inc X.ticks,tab:=zd0 X.tab } R:=⟨h3,h.inv.nbs,h.inv.len,h.inv.key,h.inv.val⟩
 clear h3;refine zM (zoU h4.self h4.map h4.inv) ?_;rintro v M3 ⟨an,cn,rfl,hN1⟩;obtain⟨B1,eB1⟩:=oI (newB B M2 M3);have hB1:B.le B1:=by rw[eB1];exact zeH h4.le
 have hnear:SrcOk B1 1 an X.nb.length (X.nb.map zj):=by rw[eB1];exact zc6 hN1.src fun r hr=>(hN1.block hr).1
 have h5:NodeAt B0 M0 S0 B1 M3 P { X with ticks:=inc X.ticks,tab:=zd0 X.tab } R:=by rw[eB1];exact h4.upN hN1.le
 let Y (i:Nat):NodX:=(X.nb.take i).foldl zdL { X with ticks:=inc X.ticks,tab:=zd0 X.tab }
 have hY:∀ i (hi:i<X.nb.length),Y (i+1)=zdL (Y i) X.nb[i]:=fun i hi=>by
  simp only[Y,Yz,Yb hi,Ya2];rfl
 refine zR ?_
 refine zan (σ:=Nat×Mem×Mem×NP) [28] (fun y=>[(28,.int .i64 y.1)]) (fun _=>[]) (fun y=>y.2.1)
  (fun|⟨i,Mc,Bc,Pc⟩=>i≤X.nb.length∧NodeAt B0 M0 S0 Bc Mc Pc (Y i) R∧B1.le Bc∧P.same Pc 0 0) (fun y=>X.nb.length - y.1)
  ⟨0,M3,B1,P⟩ ⟨Y6 _,h5,Ya _,NP.same.refl P oM⟩ zS ?_
 rintro ⟨i,Mc,Bc,Pc⟩ ⟨hi,hc,hbc,hsm⟩;obtain⟨y1,y2,y3,y4,y5⟩:=zoy (X.nb.take i) { X with ticks:=inc X.ticks,tab:=zd0 X.tab };have hself:Mc.has P.n 96 (zdw Pc (Y i)):=by rw[←hsm.n];exact hc.self
 refine brn (fun g=>?_) (fun g=>?_)
 ·have hlt:i<X.nb.length:=by have:=Zd0 g;dsimp only at this;omega
  obtain⟨hk1,b1,o1,e1,hr1⟩:=((hnear.le hbc).le hc.le).at hlt;have hYi:=hY i hlt
  obtain⟨k,hk⟩:=oI (X.nb[i]);rw[←hk] at hYi hr1;have hkx:k∈X.nb:=by rw[hk];exact Yab hlt
  have hkm:k∈(Y i).nb:=by rw[y1];exact hkx
  refine ob (by simp_all) ?_;refine atp e1 ?_;refine zR ?_;refine on hr1 ?_;refine zW hself ?_;refine hc.map.get zc2 k (fun g=>?_) (fun y j g=>?_)
  ·rw[hc.inv.get hkm] at g;cases g
  rw[hc.inv.get hkm] at g;cases g;refine zW ((hc.scell hkm)) ?_;refine(zzC (zfT (hc.opn hkm)) ?_).mono ?_
  ·have:=(y5 k).1;rw[(hr k hkx).1] at this;have hll:(X.nb.take i).length≤64:=by simp;omega
   have e0:(Y i).sd k=((X.nb.take i).foldl zdL { X with ticks:=inc X.ticks,tab:=zd0 X.tab }).sd k:=rfl;rw[e0];simp at this;omega
  rintro v M4 ⟨rfl,h6⟩;obtain⟨B5,P5,hb5,hs5,h7⟩:=hc.lnk hkm h6;have h8:NodeAt B0 M0 S0 B5 M4 P5 (Y (i+1)) R:=by rw[hYi];exact h7
  refine zR ?_;refine obr (inR_i64 (by omega)) ?_;exact⟨⟨i+1,M4,B5,P5⟩,⟨hlt,h8,Yc hbc hb5,by have:=hsm.trans hs5;simpa using this⟩,by omega,zS⟩
 have hge:i=X.nb.length:=by have:=Zd1 g;dsimp only at this;omega
 subst hge;have eY:Y X.nb.length=zgb X:=by simp only[Y,zgb];rw[Yai]
 rw[eY] at hc hself;refine zW hself ?_;refine(zCg hc.at' 4 rfl).mono ?_;rintro v M5 ⟨rfl,h6⟩;have h7:NodeAt B0 M0 S0 Bc M5 Pc (zb5 X) R:=⟨h6,hc.inv.nbs,hc.inv.len,hc.inv.key,hc.inv.val⟩
 obtain⟨w1,w2,w3,w4,w5⟩:=zoy X.nb { X with ticks:=inc X.ticks,tab:=zd0 X.tab };have t1:(zb5 X).nb=X.nb:=w1
 have t3:(zb5 X).set=X.set:=w3;have t4:(zb5 X).ticks=inc X.ticks:=w4
 have hs7:M5.has P.n 96 (zdw Pc (zb5 X)):=by rw[←hsm.n];exact h7.self
 unfold zdw at hs7;rw[t3,t4] at hs7;refine zR ?_;refine on (hs7.c1 rfl) ?_;refine zR ?_;refine on (hs7.c1 rfl) ?_;refine zR ?_;refine ob oM ?_;have hb3:∀ k∈X.nb,(X.sd k).L.out=[]∧(X.sd k).L.inn=[]∧(X.sd k).out.length≤q:=hr
 refine brn (fun g=>?_) (fun g=>?_)
 rotate_left
 have g1:¬Int.tmod (inc X.ticks) X.set.timer=0:=Zd1 g;have e3:zci X=zb5 X:=by unfold zci;rw[if_neg g1]
 obtain⟨PZ,hPZ⟩:=oI Pc;obtain⟨BZ,hBZ⟩:=oI Bc;have hz:NodeAt B0 M0 S0 BZ M5 PZ (zci X) R:=by rw[e3,hBZ,hPZ];exact h7
 have hbZ1:Bc.le BZ:=by rw[hBZ];exact Ya _
 have hsmZ:P.same PZ 0 0:=by rw[hPZ];exact hsm
 rotate_left
 have g1:Int.tmod (inc X.ticks) X.set.timer=0:=Zd0 g;have e3:zci X=X.nb.foldl zbH (zb5 X):=by unfold zci;rw[if_pos g1]
 have hs8:M5.has P.n 96 (zdw Pc (zb5 X)):=by rw[←hsm.n];exact h7.self
 refine zM (zoU hs8 h7.map h7.inv) ?_;rintro v M6 ⟨an2,cn2,rfl,hN2⟩;rw[t1] at hN2 ⊢;obtain⟨B2,eB2⟩:=oI (newB Bc M5 M6);have hB2:Bc.le B2:=by rw[eB2];exact zeH h7.le
 have hnear2:SrcOk B2 1 an2 X.nb.length (X.nb.map zj):=by rw[eB2];exact zc6 hN2.src fun r hr=>(hN2.block hr).1
 have h8:NodeAt B0 M0 S0 B2 M6 Pc (zb5 X) R:=by rw[eB2];exact h7.upN hN2.le
 refine zR ?_
 refine zan (σ:=Nat×Mem×Mem×NP) [62] (fun y=>[(62,.int .i64 y.1)]) (fun _=>[]) (fun y=>y.2.1)
  (fun|⟨i,Md,Bd,Pd⟩=>i≤X.nb.length∧NodeAt B0 M0 S0 Bd Md Pd ((X.nb.take i).foldl zbH (zb5 X)) R∧B2.le Bd∧P.same Pd 0 0) (fun y=>X.nb.length - y.1)
  ⟨0,M6,B2,Pc⟩ ⟨Y6 _,h8,Ya _,hsm⟩ zS ?_
 rintro ⟨i,Md,Bd,PZ⟩ ⟨hi,hd,hbd,hsmZ⟩;obtain⟨W,hW⟩:=oI ((X.nb.take i).foldl zbH (zb5 X));obtain⟨y1,y2,y5⟩:=zwz (X.nb.take i) (zb5 X);rw[←hW] at hd y1 y5;have hselfd:Md.has P.n 96 (zdw PZ W):=by rw[←hsmZ.n];exact hd.self
 refine brn (fun g=>?_) (fun g=>?_)
 ·have hlt:i<X.nb.length:=by have:=Zd0 g;dsimp only at this;omega
  obtain⟨hk1,b1,o1,e1,hr1⟩:=((hnear2.le hbd).le hd.le).at hlt
  have hW1:(X.nb.take (i+1)).foldl zbH (zb5 X)=zbH W X.nb[i]:=by
   rw[hW,Yz,Yb hlt,Ya2];rfl
  obtain⟨k,hk⟩:=oI (X.nb[i]);rw[←hk] at hW1 hr1;have hkx:k∈X.nb:=by rw[hk];exact Yab hlt
  have hkm:k∈W.nb:=by rw[y1,t1];exact hkx
  refine ob (by omega) ?_;refine atp e1 ?_;refine zR ?_;refine on hr1 ?_;refine zW hselfd ?_;refine hd.map.get zc2 k (fun g=>?_) (fun y j g=>?_)
  ·rw[hd.inv.get hkm] at g;cases g
  rw[hd.inv.get hkm] at g;cases g;refine zW ((hd.scell hkm)) ?_;refine zJ (zvO (zfT (hd.opn hkm))) ?_;cases hup:(W.sd k).L.up with
  | false=>
   have e5:zbH W k=W:=by unfold zbH;rw[if_neg (by rw[hup];decide)]
   refine zR ?_;refine obr (inR_i64 (by omega)) ?_;exact⟨⟨i+1,Md,Bd,PZ⟩,⟨hlt,by simp_all,hbd,hsmZ⟩,by omega,zS⟩
  | true=>
   have e5:zbH W k=(zbf W k ⟨4,0,za7,[],zjK W k⟩).1:=by unfold zbH;rw[if_pos hup]
   refine zW hselfd ?_;refine(zAf (hd.at'.part 3 rfl) hkm).mono ?_;rintro v M7 ⟨av,rfl,hNv⟩;have h9:=hd.up hNv.le
   have hvl:(zjK W k).length=64:=by simp[zjK]
   have hp:=zd7 h9 hkm ⟨4,0,za7,[],zjK W k⟩ (pD:=none) (kD:=0) (pC:=av) (kC:=64) ⟨zbZ _,by show SrcOk M7 1 av (zjK W k).length _;rw[hvl];exact hNv.src,by show 0≤2097152;decide,by show (zjK W k).length≤_;omega⟩ ?_
   rotate_left
   ·have g4:=(y5 k).1;obtain⟨u1,u2,u3,u4,u5⟩:=zoy X.nb { X with ticks:=inc X.ticks,tab:=zd0 X.tab };have g5:((zb5 X).sd k).L.out.length≤(X.sd k).L.out.length+X.nb.length:=(u5 k).1
    rw[(hr k hkx).1] at g5;have hll:(X.nb.take i).length≤64:=by simp;omega
    simp at g5;omega
   have e6:(Word.w ⟨4,0,za7,[],zjK W k⟩ none 0 av 64).v = .agg #[.int .i64 4,.int .i64 0,.int .i64 0,.int .i64 0,.int .i64 0,.int .i64 0,.slice none 0 0,.slice av 64 64]:=by
    unfold Word.w Go.Proofs.YtlgbofpennelhaaGreat.W.v;dsimp only;rw[hvl];rfl
   rw[e6,hsmZ.n] at hp;refine zR ?_;refine hp.mono ?_;rintro v M8 ⟨rfl,B8,P8,hb8,hs8,h10⟩;refine zR ?_;refine obr (inR_i64 (by omega)) ?_;exact⟨⟨i+1,M8,B8,P8⟩,⟨hlt,by simp_all,Yc hbd hb8,by have:=hsmZ.trans hs8;simpa using this⟩,by omega,zS⟩
 have hge:i=X.nb.length:=by have:=Zd1 g;dsimp only at this;omega
 subst hge;rw[Yai,←e3] at hW;rw[hW] at hd;have hz:NodeAt B0 M0 S0 Bd Md PZ (zci X) R:=hd
 have hbZ1:Bc.le Bd:=Yc hB2 hbd
 all_goals
  have hbZ:∀ k∈(zci X).nb,((zci X).sd k).L.out.length+20000≤1000000000∧((zci X).sd k).out.length≤10000000000000:=fun k hk=>by
   obtain⟨g1,g2,g3,g4,g5⟩:=zGC X hnl k;rw[g1] at hk;obtain⟨r1,r2,r3⟩:=hr k hk;rw[r1] at g3;rw[g5];simp at g3;omega
  have hsn:PZ.n=P.n:=hsmZ.n;have hwk:=zmJ hz (by have:=hsmZ.N;omega) (by have:=hsmZ.K;omega) hbZ
  rw[hsn] at hwk;refine zR ?_;refine hwk.mono ?_;rintro v M9 ⟨rfl,B9,P9,hb9,hs9,h9⟩;refine zR ?_;exact⟨rfl,B9,P9,Yc (Yc hB1 hbc) (Yc hbZ1 hb9),by have:=hsmZ.trans hs9;simpa using this,h9⟩
end
end
section
variable {B0 M0 B M B' M':Mem} {S0:Nat→Prop} {R:List Pt} {ps:List Pt}
def zcn (X:NodX) (w:Word):NodX×Int:=
 if w.id.d=X.me then (if zoT X.C w.id=true then (X,0) else
  ({ X with C:=(zaC X.C 4 w.id [] true).1,told:=if (zaC X.C 4 w.id [] true).2=0 then X.told++[⟨w.id,w.data⟩] else X.told },if (zaC X.C 4 w.id [] true).2=5 then 0 else (zaC X.C 4 w.id [] true).2))
 else if zcD X.C.X.S.l w.id=false then ({ X with C:=(zaC X.C 2 w.id w.data true).1 },(zaC X.C 2 w.id w.data true).2)
 else (X,if isF X.dsk w.id=true then 7 else 0)
def zh0 (X:NodX) (k:Int) (w:Word):NodX:=if (zcn X w).1.C.w.failed=true then (zcn X w).1 else (zbf (zcn X w).1 k ⟨if (zcn X w).2=0 then 2 else 3,w.n,w.id,[],[]⟩).1
theorem zqi (X:NodX) (w:Word):(zcn X w).1.nb=X.nb∧(zcn X w).1.sd=X.sd:=by
 unfold zcn;split
 ·split<;>exact⟨rfl,rfl⟩
 ·split<;>exact⟨rfl,rfl⟩
section
variable {P:NP} {X:NodX} {k:Int}
theorem zJq (h:NodeAt B0 M0 S0 B M P X R) {m:zeq} {cs:List Value} (hm:MsgR B cs m) (hl:cs.length=5) (ht:X.told.length≤1000000000000) (h1:∀ u∈cs,u.oneCell'=true) {K:Option Addr→Nat→Mem→Prop}
  (hk:∀ a' c' M1,At B0 M0 S0 B M1 (rpl ((zgQ P X++zfS P X)++R) 5 [zmE a' c' (X.told++[m])])→K a' c' M1):zac 82 5 56 P.ta X.told.length P.tc 1 cs M K:=by
 obtain⟨L,hN,css,rfl,e2,e3,e4⟩:=zq5 (h.at'.part 5 rfl);have h2:=h.at'.view 5 rfl (q:=zaW 82 5 P.ta X.told.length P.tc css.flatten) hN fun y hy=>hy
 refine h2.appV 5 rfl oM (by simp[maxLen];omega) h1 fun a' c' M1 hc h3=>hk a' c' M1 ?_
 have h4:NewSl B 82 5 a' (X.told.length+1) c' (css.flatten++cs) M1:=h3.part 5 rfl;refine h3.view 5 rfl (q:=zmE a' c' (X.told++[m])) ?_ fun y hy=>hy
 refine⟨css.flatten++cs,by simpa using h4,css++[cs],by simp,by simp[e2],fun x hx=>?_,fun i x y hx hy=>?_⟩
 ·rcases Yt.1 hx with hx|hx
  ·exact e3 x hx
  ·rw[Yx.1 hx];exact hl
 ·by_cases hi:i<css.length
  ·rw[Yag hi] at hx;rw[Yag oM] at hy;exact e4 i x y hx hy
  ·rw[Yas oM] at hx;rw[Yas oM] at hy;rw[e2] at hx;cases hj:i - X.told.length with
   | zero=>rw[hj] at hx hy;cases hx;cases hy;exact hm
   | succ j=>rw[hj] at hx;cases hx
theorem zAl (h:NodeAt B0 M0 S0 B M P X R) (hk:k∈X.nb) (hN:P.N<4611686018427387904) (ht:X.told.length≤1000000000000) (ho:(X.sd k).L.out.length+65≤1000000000) (w:Word) {pD pC:Option Addr} {kD kC:Nat} (hw:(w.w pD kD pC kC).Ok B) (hd:w.data.length≤1048576) :
  CallsM prog 194 [ptr P.n,.int .i64 k,(w.w pD kD pC kC).v] M fun v M'=>v = .tuple #[]∧NTo B0 M0 S0 B M' P (zh0 X k w) R 1 0:=by
 have hC:CuAt B M P.c P.p P.N P.H X.C:=h.at'.part 2 rfl;have hds:SrcOk B 1 pD w.data.length (w.data.map zc):=hw.data
 obtain⟨e,he⟩:=oI ((zcn X w).2);obtain⟨Z,hZ⟩:=oI ((zcn X w).1);have hO:zh0 X k w=if Z.C.w.failed=true then Z else (zbf Z k ⟨if e=0 then 2 else 3,w.n,w.id,[],[]⟩).1:=by unfold zh0;rw[←he,←hZ]
 have hs1:=zqi X w;rw[←hZ] at hs1;refine zlT oS ?_;refine zW h.self ?_;refine brn (fun g=>?_) (fun g=>?_)
 ·have g1:w.id.d=X.me:=Zd0 g;have hself:=h.self
  unfold zcn at he hZ;rw[if_pos g1] at he hZ;refine zW h.self ?_;refine(zIl hC w.id).mono ?_;rintro v M1 ⟨rfl,hle1⟩;have h1:=h.up hle1
  cases hsn:zoT X.C w.id with
  | true=>
   rw[if_pos hsn] at he hZ;obtain⟨Mz,hMz⟩:=oI M1;obtain⟨Bz,hBz⟩:=oI B;obtain⟨Pz,hPz⟩:=oI P;have hz:NodeAt B0 M0 S0 Bz Mz Pz Z R:=by rw[hZ,hMz,hBz,hPz];exact h1
   have hsmz:P.same Pz 1 0:=by rw[hPz];exact NP.same.refl P oM
   have hbz:B.le Bz:=by rw[hBz];exact Ya _
   have he:e=0:=he;rw[if_pos he] at hO;rw[←hMz];have hselfz:Mz.has P.n 96 (zdw Pz Z):=by rw[←hsmz.n];exact hz.self
   have hCz:CuAt Bz Mz Pz.c Pz.p Pz.N Pz.H Z.C:=hz.at'.part 2 rfl;refine zW hselfz ?_;refine zJ (zes hCz) ?_;cases hfz:Z.C.w.failed with
   | true=>
    rw[if_pos hfz] at hO;refine zR ?_;exact⟨rfl,Bz,Pz,hbz,hsmz,by rw[hO];exact hz⟩
   | false=>
    rw[if_neg (by rw[hfz];decide)] at hO;have hp:=zd7 hz (k:=k) (by rw[hs1.1];exact hk) ⟨2,w.n,w.id,[],[]⟩ (pD:=none) (kD:=0) (pC:=none) (kC:=0) ⟨zbZ _,zbZ _,by show 0≤2097152;decide,by show 0≤2097152;decide⟩ (by rw[hs1.2];exact ho)
    rw[hsmz.n] at hp;refine zR ?_;refine hp.mono ?_;rintro v M9 ⟨rfl,B9,P9,hb9,hs9,h9⟩;refine zR ?_;exact⟨rfl,B9,P9,Yc hbz hb9,by have:=hsmz.trans hs9;simpa using this,by rw[hO];exact h9⟩
  | false=>
   rw[if_neg (by rw[hsn];decide)] at he hZ;refine zW h1.self ?_;refine(zws h1.at' 2 rfl oM w.id).mono ?_;rintro v M2 ⟨H2,rfl,h2⟩;have h3:=h1.cust h2
   obtain⟨r,hr⟩:=oI ((zaC X.C 4 w.id [] true).2);rw[←hr] at he hZ ⊢;have hs3:P.same { P with N:=P.N+1,H:=H2 } 1 0:=⟨rfl,fun _=>rfl,Yaj _,Yd _,rfl⟩
   refine zR ?_;refine brn (fun g3=>?_) (fun g3=>?_)
   ·have g4:r=0:=Zd0 g3;rw[if_pos g4] at hZ;have he:e=r:=by rw[he];show (if r=5 then 0 else r)=r;rw[if_neg oM]
    have hZ:Z={ X with C:=(zaC X.C 4 w.id [] true).1,told:=X.told++[⟨w.id,w.data⟩] }:=hZ;have hself3:M2.has P.n 96 (zdw { P with N:=P.N+1,H:=H2 } { X with C:=(zaC X.C 4 w.id [] true).1 }):=h3.self
    refine zW hself3 ?_;refine zJq (m:=⟨w.id,w.data⟩) h3 ⟨pD,w.data.length,kD,rfl,hds,by omega⟩ rfl ht oC fun a4 c4 M4 h4=>?_
    refine zR ?_;refine h4.stoV 0 rfl oS fun M5 h5=>?_
    have hz0:NodeAt B0 M0 S0 B M5 { P with N:=P.N+1,H:=H2,ta:=a4,tc:=c4 } Z R:=by
     rw[hZ];refine⟨h5.c ?_,h.inv.nbs,h.inv.len,h.inv.key,h.inv.val⟩;simp[zd,zdw]
    obtain⟨Mz,hMz⟩:=oI M5;obtain⟨Bz,hBz⟩:=oI B;obtain⟨Pz,hPz⟩:=oI ({ P with N:=P.N+1,H:=H2,ta:=a4,tc:=c4 });rw[←hMz,←hBz,←hPz] at hz0;have hz:=hz0
    have hsmz:P.same Pz 1 0:=by rw[hPz];exact⟨rfl,fun _=>rfl,Yaj _,Yd _,rfl⟩
    have hbz:B.le Bz:=by rw[hBz];exact Ya _
    obtain rfl:e=r:=he;refine zR ?_;rw[←hMz];refine brn_f (decide_eq_false oM) ?_;have hselfz:Mz.has P.n 96 (zdw Pz Z):=by rw[←hsmz.n];exact hz.self
    have hCz:CuAt Bz Mz Pz.c Pz.p Pz.N Pz.H Z.C:=hz.at'.part 2 rfl;refine zW hselfz ?_;refine zJ (zes hCz) ?_;cases hfz:Z.C.w.failed with
    | true=>
     rw[if_pos hfz] at hO;refine zR ?_;exact⟨rfl,Bz,Pz,hbz,hsmz,by rw[hO];exact hz⟩
    | false=>
     rw[if_neg (by rw[hfz];decide)] at hO;refine zR ?_;refine brn (fun g9=>?_) (fun g9=>?_)
     ·have g8:¬e=0:=by simpa using g9
      rw[if_neg g8] at hO;have hp:=zd7 hz (k:=k) (by rw[hs1.1];exact hk) ⟨3,w.n,w.id,[],[]⟩ (pD:=none) (kD:=0) (pC:=none) (kC:=0) ⟨zbZ _,zbZ _,by show 0≤2097152;decide,by show 0≤2097152;decide⟩ (by rw[hs1.2];exact ho)
      rw[hsmz.n] at hp;refine zR ?_;refine hp.mono ?_;rintro v M9 ⟨rfl,B9,P9,hb9,hs9,h9⟩;refine zR ?_;exact⟨rfl,B9,P9,Yc hbz hb9,by have:=hsmz.trans hs9;simpa using this,by rw[hO];exact h9⟩
     ·have g8:e=0:=by simpa using g9
      rw[if_pos g8] at hO;have hp:=zd7 hz (k:=k) (by rw[hs1.1];exact hk) ⟨2,w.n,w.id,[],[]⟩ (pD:=none) (kD:=0) (pC:=none) (kC:=0) ⟨zbZ _,zbZ _,by show 0≤2097152;decide,by show 0≤2097152;decide⟩ (by rw[hs1.2];exact ho)
      rw[hsmz.n] at hp;refine zR ?_;refine hp.mono ?_;rintro v M9 ⟨rfl,B9,P9,hb9,hs9,h9⟩;refine zR ?_;exact⟨rfl,B9,P9,Yc hbz hb9,by have:=hsmz.trans hs9;simpa using this,by rw[hO];exact h9⟩
   ·have g4:¬r=0:=Zd1 g3;rw[if_neg g4] at hZ;have hz0:NodeAt B0 M0 S0 B M2 { P with N:=P.N+1,H:=H2 } Z R:=by rw[hZ];exact h3
    obtain⟨Mz,hMz⟩:=oI M2;obtain⟨Bz,hBz⟩:=oI B;obtain⟨Pz,hPz⟩:=oI ({ P with N:=P.N+1,H:=H2 });rw[←hMz,←hBz,←hPz] at hz0;have hz:=hz0
    have hsmz:P.same Pz 1 0:=by rw[hPz];exact hs3
    have hbz:B.le Bz:=by rw[hBz];exact Ya _
    refine zR ?_;rw[←hMz];refine brn (fun g5=>?_) (fun g5=>?_)
    ·have g6:r=5:=Zd0 g5;have he:e=0:=by rw[he];exact if_pos g6
     rw[if_pos he] at hO;have hselfz:Mz.has P.n 96 (zdw Pz Z):=by rw[←hsmz.n];exact hz.self
     have hCz:CuAt Bz Mz Pz.c Pz.p Pz.N Pz.H Z.C:=hz.at'.part 2 rfl;refine zW hselfz ?_;refine zJ (zes hCz) ?_;cases hfz:Z.C.w.failed with
     | true=>
      rw[if_pos hfz] at hO;refine zR ?_;exact⟨rfl,Bz,Pz,hbz,hsmz,by rw[hO];exact hz⟩
     | false=>
      rw[if_neg (by rw[hfz];decide)] at hO;have hp:=zd7 hz (k:=k) (by rw[hs1.1];exact hk) ⟨2,w.n,w.id,[],[]⟩ (pD:=none) (kD:=0) (pC:=none) (kC:=0) ⟨zbZ _,zbZ _,by show 0≤2097152;decide,by show 0≤2097152;decide⟩ (by rw[hs1.2];exact ho)
      rw[hsmz.n] at hp;refine zR ?_;refine hp.mono ?_;rintro v M9 ⟨rfl,B9,P9,hb9,hs9,h9⟩;refine zR ?_;exact⟨rfl,B9,P9,Yc hbz hb9,by have:=hsmz.trans hs9;simpa using this,by rw[hO];exact h9⟩
    ·have g6:¬r=5:=Zd1 g5;obtain rfl:e=r:=by rw[he];exact if_neg g6
     have hselfz:Mz.has P.n 96 (zdw Pz Z):=by rw[←hsmz.n];exact hz.self
     have hCz:CuAt Bz Mz Pz.c Pz.p Pz.N Pz.H Z.C:=hz.at'.part 2 rfl;refine zW hselfz ?_;refine zJ (zes hCz) ?_;cases hfz:Z.C.w.failed with
     | true=>
      rw[if_pos hfz] at hO;refine zR ?_;exact⟨rfl,Bz,Pz,hbz,hsmz,by rw[hO];exact hz⟩
     | false=>
      rw[if_neg (by rw[hfz];decide)] at hO;refine zR ?_;refine brn (fun g9=>?_) (fun g9=>?_)
      ·have g8:¬e=0:=by simpa using g9
       rw[if_neg g8] at hO;have hp:=zd7 hz (k:=k) (by rw[hs1.1];exact hk) ⟨3,w.n,w.id,[],[]⟩ (pD:=none) (kD:=0) (pC:=none) (kC:=0) ⟨zbZ _,zbZ _,by show 0≤2097152;decide,by show 0≤2097152;decide⟩ (by rw[hs1.2];exact ho)
       rw[hsmz.n] at hp;refine zR ?_;refine hp.mono ?_;rintro v M9 ⟨rfl,B9,P9,hb9,hs9,h9⟩;refine zR ?_;exact⟨rfl,B9,P9,Yc hbz hb9,by have:=hsmz.trans hs9;simpa using this,by rw[hO];exact h9⟩
      ·have g8:e=0:=by simpa using g9
       rw[if_pos g8] at hO;have hp:=zd7 hz (k:=k) (by rw[hs1.1];exact hk) ⟨2,w.n,w.id,[],[]⟩ (pD:=none) (kD:=0) (pC:=none) (kC:=0) ⟨zbZ _,zbZ _,by show 0≤2097152;decide,by show 0≤2097152;decide⟩ (by rw[hs1.2];exact ho)
       rw[hsmz.n] at hp;refine zR ?_;refine hp.mono ?_;rintro v M9 ⟨rfl,B9,P9,hb9,hs9,h9⟩;refine zR ?_;exact⟨rfl,B9,P9,Yc hbz hb9,by have:=hsmz.trans hs9;simpa using this,by rw[hO];exact h9⟩
 ·have g1:¬w.id.d=X.me:=Zd1 g;unfold zcn at he hZ;rw[if_neg g1] at he hZ;refine zW h.self ?_;refine⟨?_,?_⟩
  rotate_left
  refine zR ?_
  rotate_left
  skip
  all_goals
   refine(zIf hC w.id).mono ?_;rintro v M3 (⟨rfl,hh,rfl⟩|⟨a3,n3,c3,l3,rfl,hh,_,hN3⟩)
   ·rw[if_pos hh] at he hZ;have hself:=h.self
    refine zW hself ?_;refine(zCm h.at' 2 rfl oM w.id hds hd).mono ?_;rintro v M4 ⟨H4,rfl,h4⟩;have h5:=h.cust h4
    have he:e=(zaC X.C 2 w.id w.data true).2:=he;rw[←he];have hz0:NodeAt B0 M0 S0 B M4 { P with N:=P.N+1,H:=H4 } Z R:=by rw[hZ];exact h5
    obtain⟨Mz,hMz⟩:=oI M4;obtain⟨Bz,hBz⟩:=oI B;obtain⟨Pz,hPz⟩:=oI ({ P with N:=P.N+1,H:=H4 });rw[←hMz,←hBz,←hPz] at hz0;have hz:=hz0
    have hsmz:P.same Pz 1 0:=by rw[hPz];exact⟨rfl,fun _=>rfl,Yaj _,Yd _,rfl⟩
    have hbz:B.le Bz:=by rw[hBz];exact Ya _
    rw[←hMz];have hselfz:Mz.has P.n 96 (zdw Pz Z):=by rw[←hsmz.n];exact hz.self
    have hCz:CuAt Bz Mz Pz.c Pz.p Pz.N Pz.H Z.C:=hz.at'.part 2 rfl;refine zW hselfz ?_;refine zJ (zes hCz) ?_;cases hfz:Z.C.w.failed with
    | true=>
     rw[if_pos hfz] at hO;refine zR ?_;exact⟨rfl,Bz,Pz,hbz,hsmz,by rw[hO];exact hz⟩
    | false=>
     rw[if_neg (by rw[hfz];decide)] at hO;refine zR ?_;refine brn (fun g9=>?_) (fun g9=>?_)
     ·have g8:¬e=0:=by simpa using g9
      rw[if_neg g8] at hO;have hp:=zd7 hz (k:=k) (by rw[hs1.1];exact hk) ⟨3,w.n,w.id,[],[]⟩ (pD:=none) (kD:=0) (pC:=none) (kC:=0) ⟨zbZ _,zbZ _,by show 0≤2097152;decide,by show 0≤2097152;decide⟩ (by rw[hs1.2];exact ho)
      rw[hsmz.n] at hp;refine zR ?_;refine hp.mono ?_;rintro v M9 ⟨rfl,B9,P9,hb9,hs9,h9⟩;refine zR ?_;exact⟨rfl,B9,P9,Yc hbz hb9,by have:=hsmz.trans hs9;simpa using this,by rw[hO];exact h9⟩
     ·have g8:e=0:=by simpa using g9
      rw[if_pos g8] at hO;have hp:=zd7 hz (k:=k) (by rw[hs1.1];exact hk) ⟨2,w.n,w.id,[],[]⟩ (pD:=none) (kD:=0) (pC:=none) (kC:=0) ⟨zbZ _,zbZ _,by show 0≤2097152;decide,by show 0≤2097152;decide⟩ (by rw[hs1.2];exact ho)
      rw[hsmz.n] at hp;refine zR ?_;refine hp.mono ?_;rintro v M9 ⟨rfl,B9,P9,hb9,hs9,h9⟩;refine zR ?_;exact⟨rfl,B9,P9,Yc hbz hb9,by have:=hsmz.trans hs9;simpa using this,by rw[hO];exact h9⟩
   ·rw[if_neg (by rw[hh];decide)] at he hZ;have h3:=h.up hN3.le
    refine zW h3.self ?_;refine zJ (zGz (h3.at'.part 4 rfl) w.id) ?_;obtain⟨Mz,hMz⟩:=oI M3;obtain⟨Bz,hBz⟩:=oI B;obtain⟨Pz,hPz⟩:=oI P;have hz:NodeAt B0 M0 S0 Bz Mz Pz Z R:=by rw[hZ,hMz,hBz,hPz];exact h3
    have hsmz:P.same Pz 1 0:=by rw[hPz];exact NP.same.refl P oM
    have hbz:B.le Bz:=by rw[hBz];exact Ya _
    rw[←hMz];have he:e=if isF X.dsk w.id=true then 7 else 0:=he
    cases hi:isF X.dsk w.id with
    | true=>
     rw[if_pos hi] at he;have e3:(if e=0 then (2:Int) else 3)=3:=if_neg (by rw[he];decide)
     rw[e3] at hO;refine zR ?_;have hselfz:Mz.has P.n 96 (zdw Pz Z):=by rw[←hsmz.n];exact hz.self
     have hCz:CuAt Bz Mz Pz.c Pz.p Pz.N Pz.H Z.C:=hz.at'.part 2 rfl;refine zW hselfz ?_;refine zJ (zes hCz) ?_;cases hfz:Z.C.w.failed with
     | true=>
      rw[if_pos hfz] at hO;refine zR ?_;exact⟨rfl,Bz,Pz,hbz,hsmz,by rw[hO];exact hz⟩
     | false=>
      rw[if_neg (by rw[hfz];decide)] at hO;have hp:=zd7 hz (k:=k) (by rw[hs1.1];exact hk) ⟨3,w.n,w.id,[],[]⟩ (pD:=none) (kD:=0) (pC:=none) (kC:=0) ⟨zbZ _,zbZ _,by show 0≤2097152;decide,by show 0≤2097152;decide⟩ (by rw[hs1.2];exact ho)
      rw[hsmz.n] at hp;refine zR ?_;refine hp.mono ?_;rintro v M9 ⟨rfl,B9,P9,hb9,hs9,h9⟩;refine zR ?_;exact⟨rfl,B9,P9,Yc hbz hb9,by have:=hsmz.trans hs9;simpa using this,by rw[hO];exact h9⟩
    | false=>
     rw[if_neg (by rw[hi];decide)] at he;rw[if_pos he] at hO;refine zR ?_;have hselfz:Mz.has P.n 96 (zdw Pz Z):=by rw[←hsmz.n];exact hz.self
     have hCz:CuAt Bz Mz Pz.c Pz.p Pz.N Pz.H Z.C:=hz.at'.part 2 rfl;refine zW hselfz ?_;refine zJ (zes hCz) ?_;cases hfz:Z.C.w.failed with
     | true=>
      rw[if_pos hfz] at hO;refine zR ?_;exact⟨rfl,Bz,Pz,hbz,hsmz,by rw[hO];exact hz⟩
     | false=>
      rw[if_neg (by rw[hfz];decide)] at hO;have hp:=zd7 hz (k:=k) (by rw[hs1.1];exact hk) ⟨2,w.n,w.id,[],[]⟩ (pD:=none) (kD:=0) (pC:=none) (kC:=0) ⟨zbZ _,zbZ _,by show 0≤2097152;decide,by show 0≤2097152;decide⟩ (by rw[hs1.2];exact ho)
      rw[hsmz.n] at hp;refine zR ?_;refine hp.mono ?_;rintro v M9 ⟨rfl,B9,P9,hb9,hs9,h9⟩;refine zR ?_;exact⟨rfl,B9,P9,Yc hbz hb9,by have:=hsmz.trans hs9;simpa using this,by rw[hO];exact h9⟩
end
end
section
variable {B0 M0 B M B' M':Mem} {S0:Nat→Prop} {R:List Pt} {ps:List Pt}
def zkp (X:NodX) (k:Int) (w:Word):NodX:=
 if w.kind=1 then zh0 X k w else if w.kind=2 then (if ziI X.dsk k w.n w.id=true then { X with dsk:=zou X.dsk w.id,C:=(zaC X.C 3 w.id [] false).1 } else X)
 else if w.kind=3 then { X with dsk:=zoR X.dsk X.set.wait k w.n w.id } else { X with tab:=zmB X.nb 64 X.tab k w.costs }
def zgR (X:NodX) (k:Int) (p:List UInt8):NodX:=match zcK p with|none=>{ X with bad:=inc X.bad }|some w=>zkp X k w
theorem zCq {l:List UInt8} {w:Word} (h:zcK l=some w):w.err=0:=by
 unfold zcK at h;split at h
 ·cases h
 ·simp_all
section
variable {P:NP} {X:NodX} {k:Int}
theorem zGD (h:NodeAt B0 M0 S0 B M P X R) (hk:k∈X.nb) (hN:P.N<4611686018427387904) (ht:X.told.length≤1000000000000) (ho:(X.sd k).L.out.length+65≤1000000000) {a:Option Addr} {c:Nat} {l:List UInt8} (hl:SrcOk B 1 a l.length (l.map zc)) (hc:l.length≤c) (hn:l.length≤2097152) :
  CallsM prog 127 [ptr P.n,.int .i64 k,.slice a l.length c] M fun v M'=>v = .tuple #[]∧NTo B0 M0 S0 B M' P (zgR X k l) R 1 1:=by
 refine zph oS ?_;refine zM (zBQ a l.length c M l (hl.le h.le) hn hc) ?_;rintro v M1 ⟨hle,hv⟩;obtain⟨B1,eB1⟩:=oI (newB B M M1);have hB1:B.le B1:=by rw[eB1];exact zeH h.le
 have h1:NodeAt B0 M0 S0 B1 M1 P X R:=by rw[eB1];exact h.upN hle
 cases hp:zcK l with
 | none=>
  rw[hp] at hv;have hv:v = .tuple #[(zeroW.w none 0 none 0).v,.int .i64 2]:=hv
  subst hv;have e:zgR X k l={ X with bad:=inc X.bad }:=by unfold zgR;rw[hp]
  refine zW h1.self ?_;refine obw ?_;refine zR ?_;refine h1.at'.stoV 0 rfl oS fun M2 h2=>?_
  refine zR ?_;exact⟨rfl,B1,P,hB1,NP.same.refl P oM,by rw[e];exact⟨h2.c (by rfl),h.inv.nbs,h.inv.len,h.inv.key,h.inv.val⟩⟩
 | some w=>
  rw[hp] at hv;have hv:∃ pD kD pC kC,v = .tuple #[(w.w pD kD pC kC).v,.int .i64 0]∧(w.w pD kD pC kC).Ok M1∧∀ q,pD=some q∨pC=some q→M q.block=none:=hv
  obtain⟨pD,kD,pC,kC,rfl,hw,hf⟩:=hv
  have hwB:(w.w pD kD pC kC).Ok B1:=by
   rw[eB1];exact⟨zc6 hw.data fun r hr=>hf r (.inl hr),zc6 hw.costs fun r hr=>hf r (.inr hr),hw.nD,hw.nC⟩
  have he:=zCq hp;have h0:=W.err_zero (w:=w.w pD kD pC kC) hw.lenD hw.lenC he
  have e:zgR X k l=zkp X k w:=by unfold zgR;rw[hp]
  have hdl:w.data.length≤48:=by
   have e1:(w.w pD kD pC kC).nD=w.data.length:=rfl;by_cases hk1:w.kind=1
   ·omega
   ·omega
  refine zR ?_;rw[e];unfold zkp;refine brn (fun g=>?_) (fun g=>?_)
  ·have g1:w.kind=1:=Zd0 g;rw[if_pos g1];refine zM (zAl h1 hk hN ht ho w hwB oM) ?_;rintro v M2 ⟨rfl,B2,P2,hb2,hs2,h2⟩;refine zR ?_;exact⟨rfl,B2,P2,Yc hB1 hb2,hs2.more oM oM,h2⟩
  have g1:¬w.kind=1:=Zd1 g;rw[if_neg g1];refine brn (fun g=>?_) (fun g=>?_)
  ·have g2:w.kind=2:=Zd0 g;rw[if_pos g2];refine zW h1.self ?_;refine(zD5 h1.at' 4 rfl k w.n w.id).mono ?_;rintro v M2 ⟨rfl,h2⟩;cases ha:ziI X.dsk k w.n w.id with
   | true=>
    rw[ha] at h2;have h3:NodeAt B0 M0 S0 B1 M2 P { X with dsk:=zou X.dsk w.id } R:=⟨h2,h.inv.nbs,h.inv.len,h.inv.key,h.inv.val⟩
    refine zW h3.self ?_;refine(zwr h3.at' 2 rfl oM w.id).mono ?_;rintro v M4 ⟨H4,rfl,h4⟩;have h5:=h3.cust h4
    refine zR ?_;exact⟨rfl,B1,{ P with N:=P.N+1,H:=H4 },hB1,⟨rfl,fun _=>rfl,Yaj _,Yd8 _ _,rfl⟩,h5⟩
   | false=>
    rw[ha] at h2;have h3:NodeAt B0 M0 S0 B1 M2 P X R:=⟨h2,h.inv.nbs,h.inv.len,h.inv.key,h.inv.val⟩
    refine zR ?_;exact⟨rfl,B1,P,hB1,NP.same.refl P oM,h3⟩
  have g2:¬w.kind=2:=Zd1 g;rw[if_neg g2];refine brn (fun g=>?_) (fun g=>?_)
  ·have g3:w.kind=3:=Zd0 g;rw[if_pos g3];refine zW h1.self ?_;refine(zxG h1.at' 4 rfl k w.n w.id).mono ?_;rintro v M2 ⟨rfl,h2⟩;have h3:NodeAt B0 M0 S0 B1 M2 { P with K:=P.K+1 } { X with dsk:=zoR X.dsk X.set.wait k w.n w.id } R:=⟨h2,h.inv.nbs,h.inv.len,h.inv.key,h.inv.val⟩
   refine zR ?_;exact⟨rfl,B1,{ P with K:=P.K+1 },hB1,⟨rfl,fun _=>rfl,by grind,Yd _,rfl⟩,h3⟩
  have g3:¬w.kind=3:=Zd1 g;rw[if_neg g3];refine zW h1.self ?_;refine(zxE (l:=w.costs) h1.at' 3 rfl k hw.costs (Yn hw.nC oD)).mono ?_;rintro v M2 ⟨⟨e2,rfl⟩,h2⟩;have h3:NodeAt B0 M0 S0 B1 M2 P { X with tab:=zmB X.nb 64 X.tab k w.costs } R:=⟨h2,h.inv.nbs,h.inv.len,h.inv.key,h.inv.val⟩
  refine zR ?_;exact⟨rfl,B1,P,hB1,NP.same.refl P oM,h3⟩
end
end
section
variable {B0 M0 B M B' M':Mem} {S0:Nat→Prop} {R:List Pt} {ps:List Pt}
theorem zyB:∀ (n:Nat) (X:zaX),(zcJ n X).R=X.R
 | 0,X=>rfl
 | n+1,X=>by
  unfold zcJ;split
  ·rfl
  ·split
   ·rfl
   ·refine(zyB n _).trans ?_;dsimp only;split<;>rfl
theorem zIo (X:zaX) (nr:Int):(zdh X nr).R=X.R:=by unfold zdh;split<;>rfl
def zjL (l:List (Int×List UInt8)):Prop:=∀ q∈l,q.2.length≤121
theorem zEd {l:List (Int×List UInt8)} (h:zjL l) (k:Int):zjL (zbe l k):=fun q hq=>h q (Ya1.1 hq).1
theorem zsg:∀ (n:Nat) (X:zhU) (t:List (List UInt8)),zjL X.kept→(∀ x∈t,x.length≤121)→∀ x∈(ze5 n X t).2,x.length≤121
 | 0,X,t,_,h=>h
 | n+1,X,t,hk,h=>by
  unfold ze5;split
  ·exact h
  ·rename_i l hl;refine zsg n _ _ (zEd hk _) fun x hx=>?_
   rcases Yt.1 hx with hx|hx
   ·exact h x hx
   ·rw[Yx.1 hx];exact hk _ (zC hl)
theorem zxI {X:zhU} (hk:zjL X.kept) (ns:Int) (l:List UInt8):∀ x∈(zbn X ns l).told,x.length≤121:=by
 unfold zbn;split
 ·simp
 ·rename_i e;obtain⟨_,h2,h3⟩:=zBr (Classical.not_not.1 e);refine zsg _ _ _ (fun q hq=>?_) (fun x hx=>by cases hx);have hq:q∈zy X.kept ns l:=hq
  rw[zjv h3] at hq;rcases Yt.1 hq with hq|hq
  ·exact hk q hq
  ·simp_all
structure RecvB (X Y:zaX):Prop where
 out:Y.out.length≤X.out.length+200
 inn:Y.inn.length≤X.inn.length+129
 short:∀ p∈Y.inn,p∈X.inn∨p.length≤121
theorem RecvB.of {X Y:zaX} (h1:Y.out.length≤X.out.length+200) (h2:Y.inn=X.inn):RecvB X Y:=⟨h1,by simp_all,fun p hp => .inl (h2▸hp)⟩
theorem zt3:∀ (l:List Int) (X:zaX),(zgK l X).inn=X.inn
 | [],X=>rfl
 | n::r,X=>by rw[zgK,zt3 r];rfl
theorem zEe (X:zaX) (c:zb9) (hk:X.R.kept.length≤128) (hs:zjL X.R.kept):RecvB X (zgB X c):=by
 unfold zgB;dsimp only;obtain⟨Y,hY⟩:=oI (zfA (zdh X c.nr));have y1:=zim (zdh X c.nr)
 have y2:=zl9 X c.nr;have y3:Y.R=X.R:=by rw[hY];exact(zyB 65 _).trans (zIo _ _)
 rw[←hY] at y1 ⊢;rw[y2.1,y2.2] at y1;obtain⟨Z,hZ⟩:=oI (if c.p=true then { Y with R:={ Y.R with asked:=[] } } else Y);have z1:Z.out=Y.out∧Z.inn=Y.inn∧Z.R.kept=X.R.kept:=by rw[hZ];split<;>exact⟨rfl,rfl,by rw[←y3]⟩
 rw[←hZ];have t1:=ztG Z.R c.ns c.data
 have t2:=zxI (X:=Z.R) (by simp_all) c.ns c.data;rw[z1.2.2] at t1;unfold zeJ;split
 ·refine .of ?_ ?_
  ·simp only[LnkR.add,Yi,Ym,Yal,z1.1];omega
  ·show Z.inn=_;rw[z1.2.1,y1.2]
 ·obtain⟨W,hW⟩:∃ W:zaX,W={ Z with R:=(zbn Z.R c.ns c.data).X,inn:=Z.inn++(zbn Z.R c.ns c.data).told }:=⟨_,rfl⟩
  have w1:W.out=Z.out:=by rw[hW]
  have w2:W.inn=X.inn++(zbn Z.R c.ns c.data).told:=by rw[hW];show Z.inn++_=_;rw[z1.2.1,y1.2]
  rw[←hW];have s1:=ztH (zbn Z.R c.ns c.data).asks W
  have s2:=zt3 (zbn Z.R c.ns c.data).asks W;refine⟨?_,?_,fun p hp=>?_⟩
  ·simp only[LnkR.add,Yi,Ym,Yal,s1,w1,z1.1];omega
  ·show (zgK (zbn Z.R c.ns c.data).asks W).inn.length≤_;rw[s2,w2,Yi];omega
  ·have hp:p∈(zgK (zbn Z.R c.ns c.data).asks W).inn:=hp;rw[s2,w2] at hp;exact(Yt.1 hp).imp id (t2 p)
theorem zEf (X:zaX) (c:zb9):RecvB X (zhr X c):=by
 unfold zhr;dsimp only;have y1:=zim (zdh { X with busy:=decide (c.kind=3) } c.nr)
 have y2:=zl9 { X with busy:=decide (c.kind=3) } c.nr;obtain⟨Y,hY⟩:=oI (zfA (zdh { X with busy:=decide (c.kind=3) } c.nr));rw[y2.1,y2.2] at y1;rw[←hY] at y1 ⊢;obtain⟨Z,hZ⟩:=oI (if Y.busy=true∧0<Y.S.all.length∧Y.left=0 then { Y with left:=Y.timer } else Y);have z1:Z.out=Y.out∧Z.inn=Y.inn:=by rw[hZ];split<;>exact⟨rfl,rfl⟩
 rw[←hZ];split
 ·refine .of ?_ ?_
  ·simp only[zeJ,LnkR.add,Yi,Ym,Yal,z1.1];dsimp only at y1;omega
  ·exact z1.2.trans y1.2
 ·exact .of (by grind) (z1.2.trans y1.2)
theorem zGE (X:zaX) (c:zb9) (hk:X.R.kept.length≤128) (hs:zjL X.R.kept):RecvB X (zdZ X c):=by
 unfold zdZ;split
 ·unfold zgA;dsimp only;refine .of ?_ ?_
  ·split
   ·simp[LnkR.add]
   ·split<;>simp[LnkR.add,zdR]
  ·split
   ·rfl
   ·split<;>rfl
 split
 ·unfold uaL;split
  ·exact .of oM rfl
  ·split<;>exact .of (Yd8 _ _) rfl
 split
 ·unfold dmL;split
  ·exact .of (by simp[zl2,zgz,zdR,LnkR.add]) rfl
  ·exact .of oM rfl
 split
 ·unfold zi4;dsimp only;obtain⟨Y,hY⟩:=oI (if X.up=true then X else zfj X);have y1:Y.out=X.out∧Y.inn=X.inn∧Y.R=X.R:=by rw[hY];split<;>exact⟨rfl,rfl,rfl⟩
  rw[←hY];have key:∀ {Z:zaX},RecvB Y Z→RecvB X Z:=fun h=>⟨by rw[←y1.1];exact h.out,by rw[←y1.2.1];exact h.inn,by rw[←y1.2.1];exact h.short⟩
  split
  ·exact key (zEe Y c (by simp_all) (by simp_all))
  split
  ·refine key ?_;unfold zlk;split
   ·exact .of (by simp[zdc,LnkR.add]) rfl
   ·exact .of oM rfl
  ·exact key (zEf Y c)
 split
 ·exact .of oM rfl
 ·exact .of (by simp[LnkR.add]) rfl
theorem LkAt.short {e:Nat} {p:LP} {X:zaX} (h:LkAt B0 M0 S0 B M e p X):zjL X.R.kept:=by
 obtain⟨xs,vs,h1,_⟩:=h.ex;obtain⟨mv,h2,hk,hI⟩:=rcvP.opn (h1.part 2 rfl);exact fun q hq=>(hI.keys q hq).2
structure WordB (X Y:NodX):Prop where
 nb:Y.nb=X.nb
 told:Y.told.length≤X.told.length+1
 sd:∀ j,(Y.sd j).L.out.length≤(X.sd j).L.out.length+65∧(Y.sd j).L.inn=(X.sd j).L.inn∧(Y.sd j).out=(X.sd j).out
theorem WordB.of {X Y:NodX} (h1:Y.nb=X.nb) (h2:Y.told=X.told) (h3:Y.sd=X.sd):WordB X Y:=⟨h1,by simp_all,fun j=>by simp_all⟩
theorem zAm (X:NodX) (k:Int) (w:Word):(zbf X k w).1.told=X.told:=by unfold zbf;split<;>rfl
theorem zGF (X:NodX) (k:Int) (p:List UInt8):WordB X (zgR X k p):=by
 unfold zgR;split
 ·exact .of rfl rfl rfl
 ·unfold zkp;split
  ·rename_i w _ _;have h1:=zqi X w
   have h2:(zcn X w).1.told.length≤X.told.length+1:=by
    unfold zcn;split
    ·grind
    ·grind
   unfold zh0;split
   ·exact⟨h1.1,h2,fun j=>by simp_all⟩
   ·refine⟨(zwu _ _ _).trans h1.1,by rw[zAm];exact h2,fun j=>?_⟩;have:=zox (zcn X w).1 k ⟨if (zcn X w).2=0 then 2 else 3,w.n,w.id,[],[]⟩ j
    rw[h1.2] at this;exact this
  split
  ·split<;>exact .of rfl rfl rfl
  split<;>exact .of rfl rfl rfl
end
end Go.Proofs.YtlgbofpennelhaaGreat
