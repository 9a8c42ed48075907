/- CustodyCompacts: Compact changes no state;behind it the disk has a snapshot,and at most an empty segment: for every call of bulk at most 1048576 the law returns true,and the call reads as before. -/
import Derived.Test.YtpdkkbpkplhdpaaGreatJ29
import Derived.Test.YtpdkkbpkplhdpaaGreatJ27
set_option linter.unusedVariables false
set_option linter.unusedSimpArgs false
namespace Go.Proofs.YtpdkkbpkplhdpaaGreat
open Go Go.Vm
variable {D:zd} {C:CuR} {R:zdd} {E0 E1:List EvX} {s n:Nat} {P:Par}
theorem Cnt.more {last:Int} {m n':Nat} (h:Cnt n D last m) (hn:n≤n'):Cnt n' D last m:=⟨by have:=h.files;omega,by have:=h.used;omega,by have:=h.last;omega,by have:=h.evs;omega,h.lim⟩
theorem LiveI.more {n':Nat} (h:LiveI P n C E0 E1 s) (hn:n≤n'):LiveI P n' C E0 E1 s:=⟨⟨h.rc,h.cnt.more hn,h.X,h.up,h.first,h.lg,h.own⟩,h.cur⟩
def LiveP (P:Par) (n:Nat) (R:zdd):Prop:=∃ E0 E1 s,LiveI P n R.C E0 E1 s∧R.evs=E0++E1∧R.safe≤((E0.length+s:Nat):Int)
def DeadP (P:Par) (n:Nat) (R:zdd):Prop:=R.C.w.failed=true∧R.C.X.sn.length≤n∧R.evs.length≤n∧∃ E0 E1 s rest,RecD P n R.C.D E0 E1 s∧R.evs=E0++E1++rest∧R.safe≤((E0.length+s:Nat):Int)
def RunP (P:Par) (n:Nat) (R:zdd):Prop:=LiveP P n R∨DeadP P n R
theorem RunP.len (h:RunP P n R):R.evs.length≤n∧R.C.X.sn.length≤n:=by
 rcases h with ⟨E0,E1,s,h1,h2, -⟩|⟨_,h1,h2,_⟩
 ·exact⟨by rw[h2];exact h1.cnt.evs,h1.evs.2.1⟩
 ·exact⟨h2,h1⟩
theorem LiveP.more (h:LiveP P n R):LiveP P (n+1) R:=by
 obtain⟨E0,E1,s,h1,h2⟩:=h
 exact⟨E0,E1,s,h1.more (by omega),h2⟩
theorem zn0 (R:zdd) (e:EvX) {k:Int} (h:k≠0∧k≠9) (s:Bool):zeQ R e k s=R:=by unfold zeQ;rw[if_pos h]
theorem LiveP.put (h:LiveP P n R) (hn:n≤60) (k:Int) (i:IdT) (q:List UInt8) (sf:Bool):RunP P (n+1) (zg8 R k i q sf)∧(PowD R.C.D→LiveP P (n+1) (zg8 R k i q sf)∧PowD (zg8 R k i q sf).C.D):=by
 obtain⟨E0,E1,s,h1,h2,h3⟩:=h
 obtain⟨r,hr⟩:∃ r,r=za4 R.C k i q sf:=⟨_,rfl⟩
 have hP:zg8 R k i q sf=zeQ { R with C:=r.1 } ⟨k,i,q⟩ r.2 sf:=by unfold zg8;rw[hr]
 rw[hP]
 rcases h1.put hn ⟨k,i,q⟩ sf (r:=r) hr with ⟨a1,a2⟩|⟨a1,a2,⟨s',a3,a4,a5⟩,a6,a7⟩|⟨a1,a2,a3,a4,a5,a6⟩
 ·rw[a2]
  dsimp only
  rw[zn0 _ _ ⟨a1,zAK _ _ _ _⟩]
  have:LiveP P (n+1) R:=⟨E0,E1,s,h1.more (by omega),h2,h3⟩
  exact⟨.inl this,fun hp=>⟨this,hp⟩⟩
 ·have hL:LiveP P (n+1) (zeQ { R with C:=r.1 } ⟨k,i,q⟩ r.2 sf):=by
   unfold zeQ
   rw[a2,if_neg (by simp)]
   refine⟨E0,E1++[⟨k,i,q⟩],s',a3,by dsimp only;rw[h2,List.append_assoc],?_⟩
   dsimp only
   split
   ·rename_i hs
    rw[a5 hs.2,h2,List.length_append];omega
   ·omega
  refine⟨.inl hL,fun hp=>⟨hL,?_⟩⟩
  have hq:=a6 hp
  unfold zeQ
  rw[a2,if_neg (by simp)]
  exact hq
 ·refine⟨.inr ?_,fun hp=>absurd hp a3⟩
  have hx:=h1.evs.2.1
  have he:=h1.cnt.evs
  unfold zeQ
  rw[a2,if_neg (by simp)]
  refine⟨a4,by dsimp only;rw[a5];omega,by dsimp only;rw[h2,List.length_append,List.length_singleton];omega,?_⟩
  rcases a6 with a6|a6
  ·exact⟨E0,E1,s,[⟨k,i,q⟩],a6,by dsimp only;rw[h2],by rw[if_neg (by simp)];exact h3⟩
  ·exact⟨E0,E1++[⟨k,i,q⟩],s,[],a6,by dsimp only;rw[h2];simp,by rw[if_neg (by simp)];exact h3⟩
theorem zxk (S:StR) (d:Int):(zaS S d).2≠9:=by
 unfold zaS
 repeat' split
 ·exact show (7:Int)≠9 by decide
 ·exact show (1:Int)≠9 by decide
 ·exact show (2:Int)≠9 by decide
 ·exact show (10:Int)≠9 by decide
 ·exact show (0:Int)≠9 by decide
theorem zzl {X:StW} (hp:PureW X) {d:Int} (h:(zaS X.S d).2=0):(zaS X.S d).1=znZ X d:=by
 unfold zaS at h ⊢
 split
 ·rename_i g;rw[if_pos g] at h;exact absurd h (by decide)
 rename_i g
 rw[if_neg g] at h
 split
 ·rename_i g1;rw[if_pos g1] at h;exact absurd h (by decide)
 rename_i g1
 rw[if_neg g1] at h
 split
 ·rename_i g2;rw[if_pos g2] at h;exact absurd h (by decide)
 rename_i g2
 rw[if_neg g2] at h
 split
 ·rename_i g3;rw[if_pos g3] at h;exact absurd h (by decide)
 ·unfold znZ
  rw[zzk,zkK hp.inv (by omega)]
theorem zwn (h:LiveI P n C E0 E1 s) (d:Int) (q:List UInt8):zcw C d q=if (zaS C.X.S d).2≠0 then (C,zbN,(zaS C.X.S d).2) else
  if (za4 C 2 (zaS C.X.S d).1 q true).2≠0 then ((za4 C 2 (zaS C.X.S d).1 q true).1,zbN,(za4 C 2 (zaS C.X.S d).1 q true).2) else ((za4 C 2 (zaS C.X.S d).1 q true).1,(zaS C.X.S d).1,0):=by
 have hf:zjk C d=(zaS C.X.S d).2:=by unfold zjk;rw[if_neg (by rw[h.up.2.2];simp)]
 unfold zcw
 rw[if_neg (by simp[h.up.1]),hf]
theorem LiveP.sub (h:LiveP P n R) (hn:n≤60) (hp:PureW R.C.X) (x:zhJ):RunP P (n+1) (zjp R x)∧(PowD R.C.D→LiveP P (n+1) (zjp R x)∧PowD (zjp R x).C.D):=by
 have hL:=h
 obtain⟨E0,E1,s,h1,h2,h3⟩:=h
 have hs:=zwn h1 x.n x.p
 by_cases hf:(zaS R.C.X.S x.n).2=0
 ·rw[if_neg (by simp[hf])] at hs
  have key:zjp R x=zg8 R 2 (zaS R.C.X.S x.n).1 x.p true:=by
   unfold zjp zg8
   rw[hs]
   split
   ·dsimp only
    by_cases h9:(za4 R.C 2 (zaS R.C.X.S x.n).1 x.p true).2=9
    ·rw[if_pos h9,zzl hp hf]
    ·rename_i h0
     rw[zn0 _ _ ⟨h0,h9⟩,zn0 _ _ ⟨h0,h9⟩]
   ·rename_i h0
    have h0':(za4 R.C 2 (zaS R.C.X.S x.n).1 x.p true).2=0:=by simpa using h0
    dsimp only
    rw[if_neg (by decide),h0']
  rw[key]
  exact hL.put hn _ _ _ _
 ·rw[if_pos hf] at hs
  have key:zjp R x=R:=by
   unfold zjp
   rw[hs]
   dsimp only
   exact zn0 _ _ ⟨hf,zxk _ _⟩ _
  rw[key]
  exact⟨.inl hL.more,fun hp=>⟨hL.more,hp⟩⟩
theorem LiveP.cmp (h:LiveP P n R) (hn:n≤60) (hp:PureW R.C.X):RunP P (n+1) (zkM R)∧(PowD R.C.D→LiveP P (n+1) (zkM R)∧PowD (zkM R).C.D):=by
 obtain⟨E0,E1,s,h1,h2,h3⟩:=h
 have hsl:s≤E1.length:=by have:=h1.rc.seg.safe_le;simpa using this
 rcases h1.compact hn hp with ⟨a1,a2,a3, -⟩|⟨a1,a2,a3,a4,a5⟩
 ·have hL:LiveP P (n+1) (zkM R):=⟨E0++E1,[],0,a3,by rw[List.append_nil];exact h2,by unfold zkM;dsimp only;rw[if_pos a1,h2];simp⟩
  exact⟨.inl hL,fun hp=>⟨hL,a2 hp⟩⟩
 ·refine⟨.inr ?_,fun hp=>absurd hp a2⟩
  have hx:=h1.evs.2.1
  have he:=h1.cnt.evs
  have hsf:(zkM R).safe=R.safe:=by unfold zkM;dsimp only;rw[if_neg (by rw[a1];decide)]
  refine⟨a3,by show (zbv R.C).1.X.sn.length≤_;rw[a4];omega,by show R.evs.length≤_;rw[h2];omega,?_⟩
  rcases a5 with a5|a5
  ·exact⟨E0,E1,s,[],a5,by rw[List.append_nil];exact h2,by rw[hsf];exact h3⟩
  ·exact⟨E0++E1,[],0,[],a5,by rw[List.append_nil,List.append_nil];exact h2,by rw[hsf,List.length_append];omega⟩
theorem LiveP.act (h:LiveP P n R) (hn:n≤60) (hp:PureW R.C.X) (hw:PowD R.C.D) {x:zhJ} (hx:x.kind≠5):LiveP P (n+1) (zeR R x)∧PowD (zeR R x).C.D:=by
 unfold zeR
 split
 ·exact(h.sub hn hp x).2 hw
 split
 ·exact(h.put hn _ _ _ _).2 hw
 split
 ·exact(h.put hn _ _ _ _).2 hw
 split
 ·exact(h.put hn _ _ _ _).2 hw
 split
 ·exact(h.cmp hn hp).2 hw
 exact⟨h.more,hw⟩
end Go.Proofs.YtpdkkbpkplhdpaaGreat
namespace Go.Proofs.YtpdkkbpkplhdpaaGreat
open Go Go.Vm
attribute [local irreducible] Brn Ob Grow CallsM inR zay zax Mem.row Mem.cells Mem.setCells Mem.upd Go.Vm.Own zaG za5 za6 zaO New SrcOk subA NewSl Mem.textAt Mem.mapAt Mem.iterAt zaw zai Wr NewEls Elems
set_option maxRecDepth 10000
section
variable {A M M':Mem}
theorem zEy {σ:Type} {body:(Exit→St→Prop)→St→Prop} {Q:Exit→St→Prop} {fr0:List (Nat×SV)} {bx0:List BE} {M0:Mem} (keys:List Nat) (fr:σ→List (Nat×SV)) (mem:σ→Mem) (inv:σ→Prop) (μ:σ→Nat) (x0:σ) (h0:inv x0)
  (hs:St.sub ⟨fr x0++zel keys fr0,bx0,mem x0⟩ ⟨fr0,bx0,M0⟩)
  (h:∀ x,inv x→body (zlc Q fun s'=>∃ y,inv y∧μ y<μ x∧St.sub ⟨fr y++zel keys fr0,bx0,mem y⟩ s') ⟨fr x++zel keys fr0,bx0,mem x⟩):zay body Q ⟨fr0,bx0,M0⟩:=zbe keys fr (fun _=>bx0) mem inv μ x0 h0 hs h
structure zCb where
 i:Nat
 M:Mem
 H:CuH
 a:Option Addr
 cc:Nat
 R:zdd
structure LoopI (P:Par) (M:Mem) (r c p n:Nat) (y:zCb):Prop where
 i:y.i≤n∧y.i≤40
 run:RunAt M y.M r c p (104857600300+y.i) y.H y.a y.cc y.R
 live:LiveP P (2+y.i) y.R
 pow:PowD y.R.C.D
theorem ActR.x {cs:List Value} {x:zhJ} (h:ActR M cs x):∃ a1 c1 a2 n2 c2,cs=zBJ x a1 c1 a2 n2 c2∧XAt M x a1 a2 n2:=by
 obtain⟨a1,c1,a2,n2,c2,h1,h2,h3,h4,h5,h6,h7⟩:=h
 exact⟨a1,c1,a2,n2,c2,h1,h2,h3,h5,h6,h7⟩
theorem zAQ {X:StW} (h:zcI X 1 zbN 0=0):(zce X bootX).S.l=X.S.l∧(zce X bootX).S.epoch=X.S.epoch+1:=by
 unfold zce zcJ
 have h2:zcI X bootX.kind bootX.id bootX.p.length=0:=h
 rw[if_pos h2]
 exact⟨rfl,rfl⟩
theorem StatN.minus {M0 M:Mem} {X:StW} {v:Value} (h:StatN M0 M X v) {S:Nat→Prop} (hS:∀ y,S y→M0 y≠none) :
  ∃ ua uc ha hc ms ma mc mk,v=zgJ X.S.self X.S.epoch ua (zZ X.S.used).length uc ha ms.length hc ma mk.length mc∧StatR (M.minus S) ua (zZ X.S.used).length ha ms.length ma mk.length (zZ X.S.used) ms mk∧ms.map MX.msg=X.S.l∧mk.map MkC.mk'=X.sn∧ms.length≤4194000:=by
 obtain⟨ua,uc,ha,hc,ms,ma,mc,mk,hv,hR, -, h1,h2,hN,hH,hM⟩:=h.ex
 have hk:∀ {E:TypeId} {s:Nat} {a:Option Addr} {n c:Nat} {L:List Value},NewSl M0 E s a n c L M→SrcOk (M.minus S) s a n L:=fun hN=>hN.src.minus fun q hq hb=>hS _ hb (hN.block hq).1
 exact⟨ua,uc,ha,hc,ms,ma,mc,mk,hv,⟨hk hN,⟨hk hH.row,fun m hm=>hk (hH.data m hm)⟩,⟨hk hM.row,fun m hm=>hk (hM.more m hm)⟩,hR.few,hR.short⟩,h1,h2,hR.short.2.1⟩
end
section
variable {A M M':Mem}
theorem zzm {X:StW} (h:zcI X 1 zbN 0=0):(zce X bootX).S.self=X.S.self∧zZ (zce X bootX).S.used=[]∧(zce X bootX).sn=X.sn:=by
 unfold zce zcJ
 have h2:zcI X bootX.kind bootX.id bootX.p.length=0:=h
 rw[if_pos h2]
 exact⟨rfl,zrB,rfl⟩
theorem LiveI.one {P:Par} {n:Nat} {C:CuR} {E0:List EvX} {s:Nat} (h:LiveI P n C E0 [] s):∃ f,C.D.l=[f]∧f.name=zp C.w.snap∧okK C.w.snap:=by
 have hf1:=h.rc.seg.f1
 have hc:C.L.last=C.w.snap∧zf C.D.l (zc C.L.last)=none:=by
  rcases h.cur with ⟨_,h1,h2⟩|⟨f,h1,h2⟩
  ·exact⟨h1,h2⟩
  ·exfalso
   obtain⟨parts,cur,g1,g2,g3,g4⟩:=h.rc.seg.seg
   have hcur:cur=[]:=by
    have:parts.flatten++cur=[]:=g2.symm
    exact(List.append_eq_nil_iff.1 this).2
   rcases g4 with ⟨g5,_⟩|⟨x,y,j,g5,g6,_⟩
   ·rw[h1] at g5;cases g5
   ·rw[h1] at g5
    cases g5
    rw[hcur] at g6
    have g7:bl x++bl y=[]:=g6
    have e1:x.size=0:=by rw[←zaA,(List.append_eq_nil_iff.1 g7).1];rfl
    have e2:y.size=0:=by rw[←zaA,(List.append_eq_nil_iff.1 g7).2];rfl
    rw[all_size] at h2
    dsimp only at h2
    omega
 obtain⟨h1,h2⟩:=hc
 have hk:okK C.w.snap:=⟨by omega,by omega⟩
 have hsn:∃ f,zf C.D.l (zp C.w.snap)=some f:=by
  rcases h.rc.snap with ⟨e,_⟩|⟨_,_,⟨sb,e,_⟩,_⟩
  ·omega
  ·exact⟨_,e⟩
 have hall:∀ f∈C.D.l,f.name=zp C.w.snap:=fun f hf=>by
  rcases h.own f hf with ⟨k,k1,k2,k3⟩|⟨_,e⟩
  ·have:=h.first
   rw[show k=C.L.last by omega] at k3
   exact absurd k3 ((findR_none.1 h2) f hf)
  ·exact e
 obtain⟨f,hf⟩:=hsn
 have hmem:=((zas h.rc.inv.sort).1 hf).1
 have hs:=h.rc.inv.sort
 cases hl:C.D.l with
 | nil=>rw[hl] at hmem;cases hmem
 | cons x r=>
  rw[hl] at hall hs
  cases r with
  | nil=>exact⟨x,rfl,hall x (by simp),hk⟩
  | cons y r=>
   have:=(List.pairwise_cons.1 hs).1 y (by simp)
   rw[hall x (by simp),hall y (by simp),zcg] at this
   cases this
theorem zAR {c p:Nat} {N:Int} {H:CuH} {C:CuR} (h:CuAt A M c p N H C) {f:FileR} (hf:C.D.l=[f]):CallsM Tryz.prog F.zbs [ptr p] M fun v M'=>∃ a c,v = .slice a 1 c∧NewSl M T.zcB 1 a 1 c [zev f.name] M':=by
 have h1:=zg3 h.disk.at' h.disk.rel h.disk.inv
 rw[hf] at h1
 exact h1
theorem zxI {P:Par} {n:Nat} {C:CuR} {E0 E1:List EvX} {s:Nat} (h:LiveI P n C E0 E1 s) (hn:n≤60) (hp:PureW C.X) (hw:PowD C.D):(zbv C).2=0∧PowD (zbv C).1.D∧LiveI P (n+1) (zbv C).1 (E0++E1) [] 0∧(zbv C).1.X=C.X:=by
 rcases h.compact hn hp with ⟨a1,a2,a3,a4⟩|⟨_,a2,_⟩
 ·exact⟨a1,a2 hw,a3,a4⟩
 ·exact absurd hw a2
set_option maxHeartbeats 2000000 in
set_option maxRecDepth 20000 in
theorem zwo (s:zjl) {la:Option Addr} {n lc:Nat} {l:List zhJ} (hl:Elems M 8 la n (ActR M) l) (hn:n≤1048576) :
  CallsM Tryz.prog F.zdN [.agg (zs2 s).toArray,.slice la n lc] M fun v M'=>v = .bool true∧M.le M':=by
 refine ziN (by simp) ?_
 refine zR ?_
 refine(zBR s).mono ?_
 rintro v _ ⟨rfl,rfl⟩
 refine zR ?_
 refine(zBS s).mono ?_
 rintro v M1 (⟨hno,rfl,hle1⟩|⟨hok,r,c,p,H,ra,rc,C,rfl,h1,hl1,hp1⟩)
 ·refine zR ?_
  refine(zC2 { s with limit:=1048576 }).mono ?_
  rintro v _ ⟨rfl,rfl⟩
  have hno2:¬okS { s with limit:=1048576 }:=hno
  (conv=>whnf);refine brn_t (by rw[decide_eq_false hno2];rfl) ?_
  refine zR ?_
  refine awake_ok.mono ?_
  rintro v M2 ⟨rfl,hle2⟩
  refine zR ?_
  exact⟨rfl,Mem.le_trans hle1 hle2⟩
 refine zR ?_
 refine zEy (σ:=zCb) [6] (fun z=>[(6,.int .i64 z.i)]) (fun z=>z.M) (LoopI (zgN s) M r c p n) (fun z=>40 - z.i) ⟨0,M1,H,ra,rc,⟨C,[bootX],1⟩⟩
  ⟨⟨by dsimp only;omega,by dsimp only;omega⟩,h1,⟨[],[bootX],1,hl1,rfl,by show (1:Int)≤1;decide⟩,hp1⟩ zS ?_
 rintro ⟨i,Mc,H,ra,rc,R⟩ ⟨⟨hi1,hi2⟩,hR,hL,hP⟩
 dsimp only at hi1 hi2 hR hL hP
 have hpure:PureW R.C.X:=hR.cu.st.pure
 have hlen:=(show RunP (zgN s) (2+i) R from .inl hL).len
 (conv=>whnf);refine brn (fun e=>?_) (fun e=>?_)
 have hlt:i<n:=by have:=Zd0 e;dsimp only at this;omega
 refine zR ?_
 refine brn (fun e=>?_) (fun e=>?_)
 ·have hlt2:i<40:=by have:=Zd0 e;dsimp only at this;omega
  obtain⟨hl1,xb,xo,xcs,hxa,hxr, -, -, hx⟩:=hl.at (by decide) hlt
  generalize l[i]=x at hx
  obtain⟨b1,d1,b2,m2,d2,rfl,hxx⟩:=hx.x
  have hMc:=hR.cu.le
  refine zR ?_
  refine ob (by first|omega|(dsimp only;omega)) ?_
  (conv=>whnf);refine atp hxa ?_
  (conv=>whnf);refine on (Mem.row_le hMc (hxr 0 1 (by decide))) ?_
  refine zR ?_
  refine brn (fun e=>?_) (fun e=>?_)
  ·have hk:x.kind<4:=Zd0 e
   refine zR ?_
   refine ob (by first|omega|(dsimp only;omega)) ?_
   (conv=>whnf);refine atp hxa ?_
   (conv=>whnf);refine on (Mem.row_le hMc (hxr 0 8 (by decide))) ?_
   refine zR ?_
   refine(zD7 hR (by omega) hxx (by omega) (by omega)).mono ?_
   rintro v M2 ⟨rfl,H2,ra2,rc2,h2⟩
   obtain⟨g1,g2⟩:=hL.act (by omega) hpure hP (x:=x) (by omega)
   refine zR ?_
   refine ob (ze (by first|omega|(dsimp only;omega))) ?_
   (conv=>whnf)
   exact⟨⟨i+1,M2,H2,ra2,rc2,zeR R x⟩,⟨⟨by dsimp only;omega,by dsimp only;omega⟩,h2.more (by dsimp only;omega),g1,g2⟩,by dsimp only;omega,zS⟩
  ·(conv=>whnf)
   refine zR ?_
   refine ob (ze (by first|omega|(dsimp only;omega))) ?_
   (conv=>whnf)
   exact⟨⟨i+1,Mc,H,ra,rc,R⟩,⟨⟨by dsimp only;omega,by dsimp only;omega⟩,hR.more (by dsimp only;omega),hL.more,hP⟩,by dsimp only;omega,zS⟩
 all_goals (
 obtain⟨E0,E1,sf,hLv,hev,hsf⟩:=hL
 obtain⟨w1,w2,w3,w4⟩:=zxI hLv (by omega) hpure hP
 refine zL (hR.self) ?_
 refine(zk6 hR.cu (by omega) (by omega)).mono ?_
 rintro v Ma ⟨hlea,hSa⟩
 have hSm:=hSa.minus (S:=cuB c p H) fun z hz=>hR.cu.some hz
 obtain⟨ua,uc,ha,hc,ms,ma,mc,mk,rfl,hSt,hms,hmk,hsh⟩:=hSm
 have hRa:=hR.to hlea
 have hba:=hRa.cu.base
 refine zX ?_
 refine⟨Ma.minus (cuB c p H),Mem.minus_le _ _,?_⟩
 refine zX ?_
 (conv=>whnf);refine on ((hRa.self.minus hRa.rc).c1 rfl) ?_
 refine zX ?_
 refine(znK hba.1 (by omega) (by omega)).mono ?_
 obtain⟨r2,hr2⟩:∃ r2,r2=zbv R.C:=⟨_,rfl⟩
 rw[←hr2] at w1 w2 w3 w4 ⊢
 rintro v Mb ⟨es2,rfl,h2⟩
 rw[w1]
 have hRb:=hRa.turn h2
 (conv=>whnf);refine ob rfl ?_
 (conv=>whnf);refine ob rfl ?_
 (conv=>whnf);refine grow_same h2.le ?_
 refine zX ?_
 (conv=>whnf);refine on ((hRa.self.minus hRa.rc).c1 rfl) ?_
 refine zX ?_
 have hstB:=zk6 hRb.cu (by omega) (by dsimp only;rw[w4];omega)
 rw[show ({ R with C:=r2.1 }:zdd).C.X=R.C.X from w4] at hstB
 refine hstB.mono ?_
 rintro v Md ⟨hled,hSd⟩
 obtain⟨ua2,uc2,ha2,hc2,ms2,ma2,mc2,mk2,rfl,hSt2, -, hms2,hmk2, -, -, -⟩:=hSd.ex
 (conv=>whnf);refine ob rfl ?_
 (conv=>whnf);refine ob rfl ?_
 (conv=>whnf);refine grow_same (Mem.le_trans h2.le hled) ?_
 refine zX ?_
 refine(znB R.C.X.S.self R.C.X.S.epoch hSt2 (hSt.le (Mem.le_trans h2.le hled)) (by rw[hms2,hms]) (by rw[hmk2,hmk]) _ _ _ _ _ _).mono ?_
 rintro v _ ⟨rfl,rfl⟩
 have hRd:=hRb.to hled
 obtain⟨f1,hf1,hfn1,hfk1⟩:=w3.one
 refine zL (hRd.self) ?_
 refine(zAR hRd.cu hf1).mono ?_
 rintro v Me ⟨na,nc,rfl,hNm⟩
 have hRe:=hRd.to hNm.le
 have hbe:=hRe.cu.base
 have hNs:SrcOk Me 1 na 1 ([f1.name].map zev):=hNm.src
 obtain⟨hk1,b1,o1,e1,hr1⟩:=hNs.at (i:=0) (by decide)
 have hhd:((f1.name.toList.getD 0 0).toNat:Int)=115:=by rw[hfn1];exact zii (by unfold okK at hfk1;omega)
 have hsz:f1.name.size=6:=by rw[hfn1,zcp (by unfold okK at hfk1;omega)];rfl
 refine zR ?_
 refine atp e1 ?_
 (conv=>whnf);refine on hr1 ?_
 (conv=>whnf);refine ob ⟨by decide,by show (0:Int)<f1.name.size;omega⟩ ?_
 (conv=>whnf);refine brn_f (by show (!decide (((f1.name.toList.getD 0 0).toNat:Int)=115))=false;rw[hhd];rfl) ?_
 refine zL (hRe.self) ?_
 have hpu2:PureW r2.1.X:=by rw[w4];exact hpure
 obtain⟨x1,x2,x3,x4⟩:=zxI w3 (by omega) hpu2 w2
 (conv=>whnf);refine(znK hbe.1 (by omega) (by dsimp only;rw[w4];omega)).mono ?_
 obtain⟨r3,hr3⟩:∃ r3,r3=zbv r2.1:=⟨_,rfl⟩
 have hr3':zbv ({ R with C:=r2.1 }:zdd).C=r3:=hr3.symm
 rw[hr3']
 rw[←hr3] at x1 x2 x3 x4
 rintro v Mf ⟨es3,rfl,h3⟩
 rw[x1]
 have hRf:=hRe.turn h3
 obtain⟨f2,hf2,hfn2,hfk2⟩:=x3.one
 (conv=>whnf);refine brn_f rfl ?_
 refine zL (hRf.self) ?_
 (conv=>whnf);refine(zAR hRf.cu hf2).mono ?_
 rintro v Mg ⟨na2,nc2,rfl,hNm2⟩
 have hRg:=hRf.to hNm2.le
 have hbg:=hRg.cu.base
 have hiD:=hRg.cu.disk.inv
 obtain⟨ld,m,m1,m2,m3,m4,m5,m6,m7⟩:=x3.recd.open (by omega) (CutD.refl hiD x2) hok.1 hok.2
 obtain⟨O,hO⟩:∃ O,O=zbQ r3.1.D s.me s.qh s.qb s.qg s.seg ld:=⟨_,rfl⟩
 have hO2:zbQ r3.1.D (zgN s).me (zgN s).qh (zgN s).qb (zgN s).qg (zgN s).seg ld=O:=hO.symm
 rw[hO2] at m4 m5 m6
 rw[List.take_nil,List.nil_append] at m5
 have hX3:=x3.X
 rw[List.append_nil] at hX3
 have hOX:O.1.X=zce R.C.X bootX:=by rw[m5.X,zjn,←hX3,x4,w4];rfl
 have hbt:zcI R.C.X 1 zbN 0=0:=by
  have h2:=(okW_append.1 m5.rc.ok).2.1
  rw[←hX3,x4,w4] at h2
  exact h2
 obtain⟨q1,q2⟩:=zAQ hbt
 obtain⟨q3,q4,q5⟩:=zzm hbt
 rw[←hOX] at q1 q2 q3 q4 q5
 refine zL (hRg.self) ?_
 refine(znM (ld:=ld) hbg.1.disk hRg.cu.nm (me:=s.me) (qh:=s.qh) (qb:=s.qb) (qg:=s.qg) (seg:=s.seg) (fun _ _=>m3)).mono ?_
 have hO3:zbQ ({ R with C:=r3.1 }:zdd).C.D s.me s.qh s.qb s.qg s.seg ld=O:=hO.symm
 rw[hO3]
 rintro v Mi (⟨h, -⟩|⟨-, c3,H3,rfl,h5⟩)
 ·exact absurd m4 h
 have hep:=hR.cu.st.st.inv.epoch
 have hev2:=m5.evs
 refine zR ?_
 refine ob (ze (by omega)) ?_
 refine zR ?_
 refine(zk6 h5 (by decide) (by omega)).mono ?_
 rintro v Mj ⟨hlej,hSj⟩
 obtain⟨ua3,uc3,ha3,hc3,ms3,ma3,mc3,mk3,hv,hSt3, -, hms3,hmk3, -, -, -⟩:=hSj.ex
 have hv2:v=zgJ R.C.X.S.self (R.C.X.S.epoch+1) ua3 0 uc3 ha3 ms3.length hc3 ma3 mk3.length mc3:=by rw[hv];unfold zv2 zgJ;rw[q2,q3,q4];rfl
 clear hv
 subst hv2
 rw[q4] at hSt3
 have L1:=(h2.to (Mem.le_trans hled hNm.le)).base.2
 have L2:=(h3.to hNm2.le).base.2
 have L:Mem.le (Ma.minus (cuB c p H)) Mj:=Mem.le_trans L1 (Mem.le_trans L2 (Mem.le_trans h5.le hlej))
 have hSt4:StatR Mj none 0 ha ms.length ma mk.length [] ms mk:=⟨SrcOk.nil _ _,hSt.held.le L,hSt.seen.le L,hSt.few,by have:=hSt.short;omega⟩
 (conv=>whnf);refine ob rfl ?_
 (conv=>whnf);refine ob rfl ?_
 (conv=>whnf);refine grow_same hlej ?_
 refine zR ?_
 refine(znB R.C.X.S.self (R.C.X.S.epoch+1) hSt3 hSt4 (by rw[hms3,q1,hms]) (by rw[hmk3,q5,hmk]) _ _ _ _ _ _).mono ?_
 rintro v _ ⟨rfl,rfl⟩
 refine zR ?_
 refine awake_ok.mono ?_
 rintro v M9 ⟨rfl,hle9⟩
 refine zR ?_
 exact⟨rfl,Mem.le_trans (Mem.le_trans hbg.2 (Mem.le_trans h5.le hlej)) hle9⟩
 )
end
end Go.Proofs.YtpdkkbpkplhdpaaGreat
namespace Go.Proofs.YtpdkkbpkplhdpaaGreat.custodyCompacts
open Go.ChangeShapes Go.WideShapes Go.ChangeAt Go.RowKit Go.Vm Go.Proofs.YtpdkkbpkplhdpaaGreat.Br
set_option linter.unusedVariables false
set_option maxRecDepth 100000
theorem contract (H:Type) (enc:TypeId×Value→H) (W:World) (base:Nat) (args:Array Value) (ds gs:List (DataW H)) (before:List MemPlace)
  (hval:∀ (j:Nat) t v,Tryz.f4.params[j]? = some t→args[j]? = some v→Value.okWide Tryz.prog W .any base t v)
  (hW:DataW.Whole enc Tryz.prog Tryz.f4.params.toList Rows.custodyCompactsSpec.vars false W args.toList ds gs before) (hk:Rows.uptoSmall H (ds++gs)=true) :
  Calls Tryz.prog F.zdN args W fun e W'=>∃ v,e = .returned v∧Rows.custodyCompactsSpec.post enc Tryz.prog Tryz.f4 false true false false W args v W':=by
 refine zEf (s:=Rows.custodyCompactsSpec) (fn:=Tryz.f4) (fun H ds h=>by match ds,h with|[d0,d1],_=>exact⟨rfl,rfl,rfl⟩) rfl rfl (by kernel_rfl) H enc W args ds gs before hW ?_
 obtain⟨p,q,hA,hV, -, -, -⟩:=hW
 obtain⟨rfl,rfl⟩:=trodVars_none hV
 have hb:=zEg hk
 rw[Tryz.params4] at hA hval
 obtain⟨v0,vs0,d0,ds0,p0,q0,hargs0,rfl,rfl,⟨n0,h0⟩,r0⟩:=trodAll_cons hA
 obtain⟨v1,vs1,d1,ds1,p1,q1,hargs1,rfl,rfl,⟨n1,h1⟩,r1⟩:=trodAll_cons r0
 obtain⟨rfl,rfl,rfl⟩:=trodAll_nil r1
 subst hargs1
 obtain rfl:args = #[v0,v1]:=by cases args;simp_all
 obtain⟨-, s,hs⟩:=zCZ H enc W _ _ _ _ h0 (hb _ (by simp))
 have hv0:=hval 0 _ v0 rfl rfl
 have hw:=zx7 Tryz.underlying25 hv0
 rw[hs] at hw
 subst hw
 obtain⟨-, L,la,ln,lc,hcs,hl,hln,hlc⟩:=zBL H enc W _ _ _ _ h1 (hb _ (by simp))
 have hv1:=hval 1 _ v1 rfl rfl
 obtain rfl:=zA2 Tryz.underlying26 rfl hv1 hcs
 exact zwo s hl hln
set_option maxRecDepth 100000 in
theorem lifted (os:Os) (started:os.Started) (H:Type) (enc:TypeId×Value→H) (F:Stop.Interp) :
  ReturnsInHanded {} Tryz.checked os 4 .any ((Rows.OpenSpec.upto Rows.custodyCompactsSpec).pre6 enc Tryz.prog Tryz.f4 Rows.custodyCompactsUptoRow.domain false) (((Rows.OpenSpec.upto Rows.custodyCompactsSpec).at F).post enc Tryz.prog Tryz.f4 false true false false):=by
 refine returnsInHanded_of_cond (C:=Tryz.checked) (s:=Rows.OpenSpec.upto Rows.custodyCompactsSpec) (k:=Rows.uptoSmall) rfl own started (by kernel_rfl) Tryz.func4
  (OpenSpec.witness (enc:=enc) (C:=Tryz.checked) (s:=Rows.OpenSpec.upto Rows.custodyCompactsSpec) (k:=Rows.uptoSmall) rfl false ⟨#[], #[.agg #[.int .i64 0,.int .i64 0,.int .i64 0,.int .i64 0,.int .i64 0,.int .i64 0],.slice none 0 0],[]⟩ 12 (by kernel_rfl) (by kernel_rfl) (by kernel_rfl)
   (x:=([.agg [.lit (.int .i64 0),.agg [.lit (.int .i64 0),.lit (.int .i64 0),.lit (.int .i64 0)],.lit (.int .i64 0),.lit (.int .i64 0)],.nil],[],[])) (by kernel_rfl) rfl (by kernel_rfl)) ?_
 intro W base args ds gs before hval hW _ hk _
 exact contract H enc W base args ds gs before hval hW hk
theorem over:Rows.custodyCompactsUptoRow.holds Tryz.pinned (Rows.OpenSpec.upto Rows.custodyCompactsSpec):=
 OpenClaim.holds_of_cond 4 Tryz.f4 rfl rfl rfl rfl rfl rfl rfl ⟨rfl,rfl,rfl,rfl,rfl⟩ rfl rfl rfl rfl rfl (by kernel_rfl) Tryz.func4 (by kernel_rfl)
  (Zd0 (by kernel_rfl)) (by unfold Func.isWrapper;first|(rw[if_pos (by decide +kernel)];kernel_rfl)|(rw[if_neg (by decide +kernel)];exact⟨rfl,rfl⟩))
  (fun os started H enc _ F=>lifted os started H enc F)
theorem proved:Rows.CustodyCompactsUptoSaid:=
 over
end Go.Proofs.YtpdkkbpkplhdpaaGreat.custodyCompacts
