/- CustodyIds: no id that a submit answered is answered again,whatever crashes: for every call of bulk at most 1048576 the law returns true,and the call reads as before. -/
import Derived.Test.YtpdkkbpkplhdpaaGreatJ28
import Derived.Test.YtpdkkbpkplhdpaaGreatJ26
set_option linter.unusedVariables false
set_option linter.unusedSimpArgs false
namespace Go.Proofs.YtpdkkbpkplhdpaaGreat
open Go Go.Vm
variable {D:zd} {C:CuR} {R:zbR} {E0 E1:List EvX} {s n:Nat} {P:Par}
theorem Cnt.more {last:Int} {m n':Nat} (h:Cnt n D last m) (hn:n≤n'):Cnt n' D last m:=⟨by have:=h.files;omega,by have:=h.used;omega,by have:=h.last;omega,by have:=h.evs;omega,h.lim⟩
theorem LiveI.more {n':Nat} (h:LiveI P n C E0 E1 s) (hn:n≤n'):LiveI P n' C E0 E1 s:=⟨⟨h.rc,h.cnt.more hn,h.X,h.up,h.first,h.lg,h.own⟩,h.cur⟩
theorem RecD.more {n':Nat} (h:RecD P n D E0 E1 s) (hn:n≤n'):RecD P n' D E0 E1 s:=by
 obtain⟨k0,last,h1,h2⟩:=h
 exact⟨k0,last,h1,h2.more hn⟩
theorem RecI.same {D':zd} {k0 last:Int} (h:RecI P D k0 E0 E1 last s) (hi:InvD D') (hl:D'.l=D.l):RecI P D' k0 E0 E1 last s:=
 ⟨hi,fun f hf=>h.nm f (hl▸hf),by rw[hl];exact h.seg,h.ok,by rw[hl];exact h.snap⟩
theorem Cnt.same {D':zd} {last:Int} {m:Nat} (h:Cnt n D last m) (hl:D'.l=D.l) (hm:D'.limit=D.limit):Cnt n D' last m:=⟨by rw[hl];exact h.files,by rw[hl];exact h.used,h.last,h.evs,hm.trans h.lim⟩
theorem LiveI.same {D':zd} (h:LiveI P n C E0 E1 s) (hi:InvD D') (hl:D'.l=C.D.l) (hm:D'.limit=C.D.limit):LiveI P n { C with D:=D' } E0 E1 s:=
 ⟨⟨h.rc.same hi hl,h.cnt.same hl hm,h.X,h.up,h.first,h.lg,by dsimp only;rw[hl];exact h.own⟩,by dsimp only;rw[hl];exact h.cur⟩
theorem RecD.same {D':zd} (h:RecD P n D E0 E1 s) (hi:InvD D') (hl:D'.l=D.l) (hm:D'.limit=D.limit):RecD P n D' E0 E1 s:=by
 obtain⟨k0,last,h1,h2⟩:=h
 exact⟨k0,last,h1.same hi hl,h2.same hl hm⟩
def LiveP (P:Par) (n:Nat) (R:zbR):Prop:=∃ E0 E1 s,LiveI P n R.C E0 E1 s∧R.evs=E0++E1∧R.safe≤((E0.length+s:Nat):Int)
def DeadP (P:Par) (n:Nat) (R:zbR):Prop:=R.C.w.failed=true∧R.C.X.sn.length≤n∧R.evs.length≤n∧∃ E0 E1 s rest,RecD P n R.C.D E0 E1 s∧R.evs=E0++E1++rest∧R.safe≤((E0.length+s:Nat):Int)
def RunP (P:Par) (n:Nat) (R:zbR):Prop:=LiveP P n R∨DeadP P n R
theorem RunP.len (h:RunP P n R):R.evs.length≤n∧R.C.X.sn.length≤n:=by
 rcases h with ⟨E0,E1,s,h1,h2, -⟩|⟨_,h1,h2,_⟩
 ·exact⟨by rw[h2];exact h1.cnt.evs,h1.evs.2.1⟩
 ·exact⟨h2,h1⟩
theorem DeadP.more (h:DeadP P n R):DeadP P (n+1) R:=by
 obtain⟨h1,h2,h3,E0,E1,s,rest,h4,h5⟩:=h
 exact⟨h1,by omega,by omega,E0,E1,s,rest,h4.more (by omega),h5⟩
theorem LiveP.more (h:LiveP P n R):LiveP P (n+1) R:=by
 obtain⟨E0,E1,s,h1,h2⟩:=h
 exact⟨E0,E1,s,h1.more (by omega),h2⟩
theorem zgp (R:zbR) (e:EvX) {k:Int} (h:k≠0∧k≠9) (s:Bool):zb5 R e k s=R:=by unfold zb5;rw[if_pos h]
theorem ztu (h:C.w.failed=true) (k:Int) (i:IdT) (q:List UInt8) (s:Bool):zaV C k i q s=(C,7):=by unfold zaV;rw[if_pos h]
theorem LiveP.put (h:LiveP P n R) (hn:n≤60) (k:Int) (i:IdT) (q:List UInt8) (sf:Bool):RunP P (n+1) (zeB R k i q sf)∧(PowD R.C.D→LiveP P (n+1) (zeB R k i q sf)∧PowD (zeB R k i q sf).C.D):=by
 obtain⟨E0,E1,s,h1,h2,h3⟩:=h
 obtain⟨r,hr⟩:∃ r,r=zaV R.C k i q sf:=⟨_,rfl⟩
 have hP:zeB R k i q sf=zb5 { R with C:=r.1 } ⟨k,i,q⟩ r.2 sf:=by unfold zeB;rw[hr]
 rw[hP]
 rcases h1.put hn ⟨k,i,q⟩ sf (r:=r) hr with ⟨a1,a2⟩|⟨a1,a2,⟨s',a3,a4,a5⟩,a6,a7⟩|⟨a1,a2,a3,a4,a5,a6⟩
 ·rw[a2]
  dsimp only
  rw[zgp _ _ ⟨a1,zAv _ _ _ _⟩]
  have:LiveP P (n+1) R:=⟨E0,E1,s,h1.more (by omega),h2,h3⟩
  exact⟨.inl this,fun hp=>⟨this,hp⟩⟩
 ·have hL:LiveP P (n+1) (zb5 { R with C:=r.1 } ⟨k,i,q⟩ r.2 sf):=by
   unfold zb5
   rw[a2,if_neg (by simp)]
   refine⟨E0,E1++[⟨k,i,q⟩],s',a3,by dsimp only;rw[h2,List.append_assoc],?_⟩
   dsimp only
   split
   ·rename_i hs
    rw[a5 hs.2,h2,List.length_append];omega
   ·omega
  refine⟨.inl hL,fun hp=>⟨hL,?_⟩⟩
  have hq:=a6 hp
  unfold zb5
  rw[a2,if_neg (by simp)]
  exact hq
 ·refine⟨.inr ?_,fun hp=>absurd hp a3⟩
  have hx:=h1.evs.2.1
  have he:=h1.cnt.evs
  unfold zb5
  rw[a2,if_neg (by simp)]
  refine⟨a4,by dsimp only;rw[a5];omega,by dsimp only;rw[h2,List.length_append,List.length_singleton];omega,?_⟩
  rcases a6 with a6|a6
  ·exact⟨E0,E1,s,[⟨k,i,q⟩],a6,by dsimp only;rw[h2],by rw[if_neg (by simp)];exact h3⟩
  ·exact⟨E0,E1++[⟨k,i,q⟩],s,[],a6,by dsimp only;rw[h2];simp,by rw[if_neg (by simp)];exact h3⟩
theorem zw0 (S:StR) (d:Int):(z7 S d).2≠9:=by
 unfold z7
 repeat' split
 ·exact show (7:Int)≠9 by decide
 ·exact show (1:Int)≠9 by decide
 ·exact show (2:Int)≠9 by decide
 ·exact show (10:Int)≠9 by decide
 ·exact show (0:Int)≠9 by decide
theorem zy4 {X:StW} (hp:PureW X) {d:Int} (h:(z7 X.S d).2=0):(z7 X.S d).1=znW X d:=by
 unfold z7 at h ⊢
 split
 ·rename_i g;rw[if_pos g] at h;exact absurd h (by decide)
 rename_i g
 rw[if_neg g] at h
 split
 ·rename_i g1;rw[if_pos g1] at h;exact absurd h (by decide)
 rename_i g1
 rw[if_neg g1] at h
 split
 ·rename_i g2;rw[if_pos g2] at h;exact absurd h (by decide)
 rename_i g2
 rw[if_neg g2] at h
 split
 ·rename_i g3;rw[if_pos g3] at h;exact absurd h (by decide)
 ·unfold znW
  rw[zy2,zkE hp.inv (by omega)]
theorem znK (h:LiveI P n C E0 E1 s) (d:Int) (q:List UInt8):zbk C d q=if (z7 C.X.S d).2≠0 then (C,zbT,(z7 C.X.S d).2) else
  if (zaV C 2 (z7 C.X.S d).1 q true).2≠0 then ((zaV C 2 (z7 C.X.S d).1 q true).1,zbT,(zaV C 2 (z7 C.X.S d).1 q true).2) else ((zaV C 2 (z7 C.X.S d).1 q true).1,(z7 C.X.S d).1,0):=by
 have hf:zjh C d=(z7 C.X.S d).2:=by unfold zjh;rw[if_neg (by rw[h.up.2.2];simp)]
 unfold zbk
 rw[if_neg (by simp[h.up.1]),hf]
theorem LiveP.sub (h:LiveP P n R) (hn:n≤60) (hp:PureW R.C.X) (x:zeX):RunP P (n+1) (zdX R x)∧(PowD R.C.D→LiveP P (n+1) (zdX R x)∧PowD (zdX R x).C.D):=by
 have hL:=h
 obtain⟨E0,E1,s,h1,h2,h3⟩:=h
 have hs:=znK h1 x.n x.p
 by_cases hf:(z7 R.C.X.S x.n).2=0
 ·rw[if_neg (by simp[hf])] at hs
  have key:zdX R x=zeB R 2 (z7 R.C.X.S x.n).1 x.p true:=by
   unfold zdX zeB
   rw[hs]
   split
   ·dsimp only
    by_cases h9:(zaV R.C 2 (z7 R.C.X.S x.n).1 x.p true).2=9
    ·rw[if_pos h9,zy4 hp hf]
    ·rename_i h0
     rw[zgp _ _ ⟨h0,h9⟩,zgp _ _ ⟨h0,h9⟩]
   ·rename_i h0
    have h0':(zaV R.C 2 (z7 R.C.X.S x.n).1 x.p true).2=0:=by simpa using h0
    dsimp only
    rw[if_neg (by decide),h0']
  rw[key]
  exact hL.put hn _ _ _ _
 ·rw[if_pos hf] at hs
  have key:zdX R x=R:=by
   unfold zdX
   rw[hs]
   dsimp only
   exact zgp _ _ ⟨hf,zw0 _ _⟩ _
  rw[key]
  exact⟨.inl hL.more,fun hp=>⟨hL.more,hp⟩⟩
theorem LiveP.cmp (h:LiveP P n R) (hn:n≤60) (hp:PureW R.C.X):RunP P (n+1) (zfK R)∧(PowD R.C.D→LiveP P (n+1) (zfK R)∧PowD (zfK R).C.D):=by
 obtain⟨E0,E1,s,h1,h2,h3⟩:=h
 have hsl:s≤E1.length:=by have:=h1.rc.seg.safe_le;simpa using this
 rcases h1.compact hn hp with ⟨a1,a2,a3, -⟩|⟨a1,a2,a3,a4,a5⟩
 ·have hL:LiveP P (n+1) (zfK R):=⟨E0++E1,[],0,a3,by rw[List.append_nil];exact h2,by unfold zfK;dsimp only;rw[if_pos a1,h2];simp⟩
  exact⟨.inl hL,fun hp=>⟨hL,a2 hp⟩⟩
 ·refine⟨.inr ?_,fun hp=>absurd hp a2⟩
  have hx:=h1.evs.2.1
  have he:=h1.cnt.evs
  have hsf:(zfK R).safe=R.safe:=by unfold zfK;dsimp only;rw[if_neg (by rw[a1];decide)]
  refine⟨a3,by show (zcs R.C).1.X.sn.length≤_;rw[a4];omega,by show R.evs.length≤_;rw[h2];omega,?_⟩
  rcases a5 with a5|a5
  ·exact⟨E0,E1,s,[],a5,by rw[List.append_nil];exact h2,by rw[hsf];exact h3⟩
  ·exact⟨E0++E1,[],0,[],a5,by rw[List.append_nil,List.append_nil];exact h2,by rw[hsf,List.length_append];omega⟩
theorem zEo (D:zd) (k:Int):(zfJ D k).1.l=D.l∧(zfJ D k).1.limit=D.limit:=by
 unfold zfJ;split
 ·exact⟨rfl,rfl⟩
 ·exact⟨rfl,rfl⟩
theorem RunP.act (h:RunP P n R) (hn:n≤60) (hp:PureW R.C.X) {x:zeX} (hx:x.n≤9223372036854775807):RunP P (n+1) (zbF R x):=by
 obtain⟨g1,g2⟩:=zEo R.C.D x.n
 rcases h with h|h
 ·unfold zbF
  split
  ·exact(h.sub hn hp x).1
  split
  ·exact(h.put hn _ _ _ _).1
  split
  ·exact(h.put hn _ _ _ _).1
  split
  ·exact(h.put hn _ _ _ _).1
  split
  ·exact(h.cmp hn hp).1
  split
  ·obtain⟨E0,E1,s,h1,h2⟩:=h
   exact .inl ⟨E0,E1,s,(h1.more (by omega)).same (zp1 h1.rc.inv hx) g1 g2,h2⟩
  ·exact .inl h.more
 ·have hdead:∀ k i q sf,zeB R k i q sf=R:=fun k i q sf=>by
   unfold zeB
   rw[ztu h.1]
   exact zgp _ _ (k:=7) (by decide) _
  unfold zbF
  split
  ·have:zdX R x=R:=by
    unfold zdX zbk
    rw[if_pos h.1]
    exact zgp _ _ (k:=7) (by decide) _
   rw[this];exact .inr h.more
  split
  ·rw[hdead];exact .inr h.more
  split
  ·rw[hdead];exact .inr h.more
  split
  ·rw[hdead];exact .inr h.more
  split
  ·have:zfK R=R:=by
    unfold zfK zcs
    rw[if_pos h.1]
    rfl
   rw[this];exact .inr h.more
  split
  ·obtain⟨h1,h2,h3,E0,E1,s,rest,h4,h5⟩:=h
   have hi:InvD R.C.D:=by obtain⟨_,_,q,_⟩:=h4;exact q.inv
   exact .inr ⟨h1,by show R.C.X.sn.length≤_;omega,by show R.evs.length≤_;omega,E0,E1,s,rest,(h4.more (by omega)).same (zp1 hi hx) g1 g2,h5⟩
  ·exact .inr h.more
theorem RunP.open (h:RunP P n R) (hn:n≤60) (keep:List Int) (hb:¬zbn P.me P.qh P.qb P.qg) (hseg:16≤P.seg∧P.seg≤1048576) :
  ∃ (ld:Option (Int×StW)) (j:Nat) (E0 E1:List EvX),R.safe≤(j:Int)∧j≤R.evs.length∧Ld (zbx (zbB R.C.D keep)).1 P.me P.qh P.qb P.qg ld∧(zbv (zbB R.C.D keep) P.me P.qh P.qb P.qg P.seg ld).2=0 ∧
   LiveI P (n+1) (zbv (zbB R.C.D keep) P.me P.qh P.qb P.qg P.seg ld).1 E0 E1 E1.length∧E0++E1=R.evs.take j++[bootX]∧PowD (zbv (zbB R.C.D keep) P.me P.qh P.qb P.qg P.seg ld).1.D:=by
 have key:∀ {E0 E1:List EvX} {s:Nat} {rest:List EvX},RecD P n R.C.D E0 E1 s→R.evs=E0++E1++rest→R.safe≤((E0.length+s:Nat):Int) →
   ∃ (ld:Option (Int×StW)) (j:Nat) (E0 E1:List EvX),R.safe≤(j:Int)∧j≤R.evs.length∧Ld (zbx (zbB R.C.D keep)).1 P.me P.qh P.qb P.qg ld∧(zbv (zbB R.C.D keep) P.me P.qh P.qb P.qg P.seg ld).2=0 ∧
    LiveI P (n+1) (zbv (zbB R.C.D keep) P.me P.qh P.qb P.qg P.seg ld).1 E0 E1 E1.length∧E0++E1=R.evs.take j++[bootX]∧PowD (zbv (zbB R.C.D keep) P.me P.qh P.qb P.qg P.seg ld).1.D:=fun {E0 E1 s rest} h1 h2 h3=>by
  have hi:InvD R.C.D:=by obtain⟨_,_,q,_⟩:=h1;exact q.inv
  obtain⟨ld,m,m1,m2,m3,m4,m5,m6, -⟩:=h1.open hn (CutD.crash hi keep) hb hseg
  have hlen:(E1.take m++[bootX]).length=m+1:=by rw[List.length_append,List.length_take,List.length_singleton];omega
  refine⟨ld,E0.length+m,E0,E1.take m++[bootX],by omega,by rw[h2,List.length_append,List.length_append];omega,m3,m4,by rw[hlen];exact m5,?_,m6⟩
  rw[h2,List.append_assoc E0 E1 rest,List.take_length_add_append,List.take_append_of_le_length m2,List.append_assoc]
 rcases h with ⟨E0,E1,s,h1,h2,h3⟩|⟨_,_,_,E0,E1,s,rest,h1,h2,h3⟩
 ·exact key (rest:=[]) h1.recd (by rw[List.append_nil];exact h2) h3
 ·exact key h1 h2 h3
end Go.Proofs.YtpdkkbpkplhdpaaGreat
namespace Go.Proofs.YtpdkkbpkplhdpaaGreat
open Go Go.Vm
attribute [local irreducible] Brn Ob Grow CallsM inR zaD zaC Mem.row Mem.cells Mem.setCells Mem.upd Go.Vm.Own zaG za7 za9 zaR New SrcOk subA NewSl Mem.textAt Mem.mapAt Mem.iterAt zaB zam Wr NewEls Elems
set_option maxRecDepth 10000
variable {A M M':Mem}
theorem zEp {σ:Type} {body:(Exit→St→Prop)→St→Prop} {Q:Exit→St→Prop} {fr0:List (Nat×SV)} {bx0:List BE} {M0:Mem} (keys:List Nat) (fr:σ→List (Nat×SV)) (mem:σ→Mem) (inv:σ→Prop) (μ:σ→Nat) (x0:σ) (h0:inv x0)
  (hs:St.sub ⟨fr x0++zer keys fr0,bx0,mem x0⟩ ⟨fr0,bx0,M0⟩)
  (h:∀ x,inv x→body (zk5 Q fun s'=>∃ y,inv y∧μ y<μ x∧St.sub ⟨fr y++zer keys fr0,bx0,mem y⟩ s') ⟨fr x++zer keys fr0,bx0,mem x⟩):zaD body Q ⟨fr0,bx0,M0⟩:=zbh keys fr (fun _=>bx0) mem inv μ x0 h0 hs h
structure zEq where
 i:Nat
 M:Mem
 H:CuH
 a:Option Addr
 cc:Nat
 R:zbR
structure LoopI (P:Par) (M:Mem) (r c p n:Nat) (y:zEq):Prop where
 i:y.i≤n∧y.i≤40
 run:RunAt M y.M r c p (104857600300+y.i) y.H y.a y.cc y.R
 live:LiveP P (2+y.i) y.R
 pow:PowD y.R.C.D
theorem ActR.x {cs:List Value} {x:zeX} (h:ActR M cs x):∃ a1 c1 a2 n2 c2,cs=zBs x a1 c1 a2 n2 c2∧XAt M x a1 a2 n2:=by
 obtain⟨a1,c1,a2,n2,c2,h1,h2,h3,h4,h5,h6,h7⟩:=h
 exact⟨a1,c1,a2,n2,c2,h1,h2,h3,h5,h6,h7⟩
end Go.Proofs.YtpdkkbpkplhdpaaGreat
namespace Go.Proofs.YtpdkkbpkplhdpaaGreat
open Go Go.Vm
variable {C:CuR} {R:zbR} {X:StW} {ids:List IdT} {n:Nat} {P:Par}
def IdsI (X:StW) (ids:List IdT):Prop:=∀ i∈ids,i.e<X.S.epoch∨(i.e=X.S.epoch∧i.c≤zcg X.S i.d)
theorem zy5 {S:StR} (hI:zdA S) {k:Int} (hk:k≠1) (i:IdT) (p:List UInt8) (d:Int):zcg S d≤zcg (zP S k i p) d:=by
 unfold zP
 rw[if_neg hk]
 split
 ·unfold zcg
  dsimp only
  split
  ·rw[List.getD_eq_getElem?_getD,List.getD_eq_getElem?_getD,List.getElem?_set]
   split
   ·rename_i e
    rw[←e]
    split
    ·rename_i hlt
     have hg:S.used.getD i.d.toNat 0=S.used[i.d.toNat]:=by rw[List.getD_eq_getElem?_getD,List.getElem?_eq_getElem hlt];rfl
     simp only[List.getElem?_eq_getElem hlt,Option.getD_some]
     omega
    ·rename_i hlt
     rw[List.getElem?_eq_none (by omega)]
     simp
   ·exact Int.le_refl _
  ·exact Int.le_refl _
 split
 ·exact Int.le_refl _
 ·exact Int.le_refl _
theorem zv6 (S:StR) {k:Int} (hk:k≠1) (i:IdT) (p:List UInt8):(zP S k i p).epoch=S.epoch:=by
 unfold zP
 rw[if_neg hk]
 split
 ·rfl
 split
 ·rfl
 ·rfl
theorem IdsI.step (h:IdsI X ids) (hI:zdA X.S) (e:EvX):IdsI (zcB X e) ids:=by
 unfold zcB zcy
 split
 ·intro i hi
  dsimp only
  by_cases hk:e.kind=1
  ·have he:(zP X.S e.kind e.id e.p).epoch=X.S.epoch+1:=by unfold zP;rw[if_pos hk]
   left
   have:=h i hi
   omega
  ·have he:(zP X.S e.kind e.id e.p).epoch=X.S.epoch:=zv6 _ hk _ _
   have hm:=zy5 hI hk e.id e.p i.d
   have:=h i hi
   rw[he];omega
 ·exact h
theorem IdsI.new (h:IdsI X ids) {d:Int} (hf:(z7 X.S d).2=0):(z7 X.S d).1∉ids∧(z7 X.S d).1=⟨X.S.self,d,X.S.epoch,zcg X.S d+1⟩∧0≤d∧d≤63:=by
 have e:(z7 X.S d).1=⟨X.S.self,d,X.S.epoch,zcg X.S d+1⟩∧0≤d∧d≤63:=by
  unfold z7 at hf ⊢
  split
  ·rename_i g;rw[if_pos g] at hf;exact absurd hf (by decide)
  rename_i g
  rw[if_neg g] at hf
  split
  ·rename_i g1;rw[if_pos g1] at hf;exact absurd hf (by decide)
  rename_i g1
  rw[if_neg g1] at hf
  split
  ·rename_i g2;rw[if_pos g2] at hf;exact absurd hf (by decide)
  rename_i g2
  rw[if_neg g2] at hf
  split
  ·rename_i g3;rw[if_pos g3] at hf;exact absurd hf (by decide)
  ·exact⟨rfl,by omega⟩
 refine⟨fun hm=>?_,e⟩
 have:=h _ hm
 rw[e.1] at this
 dsimp only at this
 omega
theorem IdsI.add (h:IdsI X ids) (hI:zdA X.S) {d:Int} (hf:(z7 X.S d).2=0) {p:List UInt8} (hm:zc6 X 2 (z7 X.S d).1 p.length=0):IdsI (zcB X ⟨2,(z7 X.S d).1,p⟩) (ids++[(z7 X.S d).1]):=by
 intro i hi
 rcases List.mem_append.1 hi with hi|hi
 ·exact h.step hI ⟨2,(z7 X.S d).1,p⟩ i hi
 ·obtain⟨-, e,h0,h1⟩:=h.new hf
  have hi2:i=(z7 X.S d).1:=by simpa using hi
  subst hi2
  right
  unfold zcB zcy
  have hm2:zc6 X (EvX.kind ⟨2,(z7 X.S d).1,p⟩) (EvX.id ⟨2,(z7 X.S d).1,p⟩) (EvX.p ⟨2,(z7 X.S d).1,p⟩).length=0:=hm
  rw[if_pos hm2]
  dsimp only
  unfold zP
  rw[if_neg (by decide),if_pos rfl]
  refine⟨by rw[e],?_⟩
  unfold zcg
  dsimp only
  rw[if_pos (by rw[e];exact⟨rfl,rfl⟩)]
  have hlt:(z7 X.S d).1.d.toNat<X.S.used.length:=by rw[e,hI.ulen];show d.toNat<64;omega
  rw[List.getD_eq_getElem?_getD,List.getElem?_set,if_pos rfl,if_pos hlt]
  simp only[Option.getD_some]
  omega
theorem IdsI.boot (h:IdsI X ids):IdsI (zcB X bootX) ids:=by
 unfold zcB zcy
 split
 ·intro i hi
  dsimp only
  have he:(zP X.S 1 zbT []).epoch=X.S.epoch+1:=rfl
  left
  have:=h i hi
  omega
 ·exact h
def IdsP (P:Par) (R:zbR) (ids:List IdT):Prop:=∀ j:Nat,R.safe≤(j:Int)→j≤R.evs.length→IdsI (zbE P.x0 (R.evs.take j)) ids
theorem IdsP.same {R':zbR} (h:IdsP P R ids) (he:R'.evs=R.evs) (hs:R.safe≤R'.safe):IdsP P R' ids:=fun j h1 h2=>by
 rw[he] at h2 ⊢
 exact h j (by omega) h2
theorem ztv {α:Type} (l:List α) (x:α) (j:Nat):j≤l.length∧(l++[x]).take j=l.take j∨l.length<j∧(l++[x]).take j=l++[x]:=by
 by_cases hj:j≤l.length
 ·exact .inl ⟨hj,by rw[List.take_append_of_le_length hj]⟩
 ·exact .inr ⟨by omega,by rw[List.take_of_length_le (by simp;omega)]⟩
theorem IdsP.snoc {R':zbR} {e:EvX} (h:IdsP P R ids) (hX:R.C.X=zbE P.x0 R.evs) (hI:zdA R.C.X.S) (hsf:R.safe≤(R.evs.length:Int)) (he:R'.evs=R.evs++[e]) (hs:R.safe≤R'.safe):IdsP P R' ids:=fun j h1 h2=>by
 rw[he] at h2 ⊢
 rcases ztv R.evs e j with ⟨hj,e2⟩|⟨hj,e2⟩
 ·rw[e2]
  exact h j (by omega) hj
 ·rw[e2,zfk,←hX]
  have:=h R.evs.length hsf (Nat.le_refl _)
  rw[List.take_length,←hX] at this
  exact this.step hI e
theorem zAB (R:zbR) (e:EvX) (k:Int) (s:Bool) (hsf:R.safe≤(R.evs.length:Int)):((zb5 R e k s).evs=R.evs∨(zb5 R e k s).evs=R.evs++[e])∧R.safe≤(zb5 R e k s).safe∧(zb5 R e k s).C=R.C:=by
 unfold zb5
 split
 ·exact⟨.inl rfl,Int.le_refl _,rfl⟩
 ·refine⟨.inr rfl,?_,rfl⟩
  dsimp only
  split
  ·omega
  ·exact Int.le_refl _
theorem LiveP.fold (h:LiveP P n R):R.C.X=zbE P.x0 R.evs∧R.safe≤(R.evs.length:Int):=by
 obtain⟨E0,E1,s,h1,h2,h3⟩:=h
 have hsl:s≤E1.length:=by have:=h1.rc.seg.safe_le;simpa using this
 refine⟨by rw[h2];exact h1.X,?_⟩
 rw[h2,List.length_append];omega
theorem IdsP.note (h:IdsP P R ids) (hL:LiveP P n R) (hI:zdA R.C.X.S) (C':CuR) (e:EvX) (k:Int) (s:Bool):IdsP P (zb5 { R with C:=C' } e k s) ids:=by
 obtain⟨hX,hsf⟩:=hL.fold
 obtain⟨h1,h2, -⟩:=zAB { R with C:=C' } e k s hsf
 rcases h1 with h1|h1
 ·exact h.same h1 h2
 ·exact h.snoc hX hI hsf h1 h2
theorem zBC (h:R.C.w.failed=true) (x:zeX):(zbF R x).evs=R.evs∧(zbF R x).safe=R.safe:=by
 have hdead:∀ k i q sf,zeB R k i q sf=R:=fun k i q sf=>by
  unfold zeB
  rw[ztu h]
  exact zgp _ _ (k:=7) (by decide) _
 unfold zbF
 split
 ·have:zdX R x=R:=by
   unfold zdX zbk
   rw[if_pos h]
   exact zgp _ _ (k:=7) (by decide) _
  rw[this];exact⟨rfl,rfl⟩
 split
 ·rw[hdead];exact⟨rfl,rfl⟩
 split
 ·rw[hdead];exact⟨rfl,rfl⟩
 split
 ·rw[hdead];exact⟨rfl,rfl⟩
 split
 ·have:zfK R=R:=by
   unfold zfK zcs
   rw[if_pos h]
   rfl
  rw[this];exact⟨rfl,rfl⟩
 split
 ·exact⟨rfl,rfl⟩
 ·exact⟨rfl,rfl⟩
theorem IdsP.act (h:IdsP P R ids) (hR:RunP P n R) (hI:zdA R.C.X.S) (x:zeX):IdsP P (zbF R x) ids:=by
 rcases hR with hL|hD
 ·have hsf:=hL.fold.2
  unfold zbF
  split
  ·exact h.note hL hI _ _ _ _
  split
  ·exact h.note hL hI _ _ _ _
  split
  ·exact h.note hL hI _ _ _ _
  split
  ·exact h.note hL hI _ _ _ _
  split
  ·refine h.same rfl ?_
   unfold zfK
   dsimp only
   split
   ·exact hsf
   ·exact Int.le_refl _
  split
  ·exact h.same rfl (Int.le_refl _)
  ·exact h
 ·obtain⟨e1,e2⟩:=zBC hD.1 x
  exact h.same e1 (by rw[e2];exact Int.le_refl _)
theorem zAC {G:zbR} (e:R.C=G.C) (x:zeX):(zbF R x).C=(zbF G x).C:=by
 have hn:∀ (Q:zbR) e k s,(zb5 Q e k s).C=Q.C:=fun Q e k s=>by unfold zb5;split<;>rfl
 unfold zbF
 repeat' split
 ·unfold zdX;rw[hn,hn,e]
 ·unfold zeB;rw[hn,hn,e]
 ·unfold zeB;rw[hn,hn,e]
 ·unfold zeB;rw[hn,hn,e]
 ·unfold zfK;rw[e]
 ·unfold zy3;rw[e]
 ·exact e
theorem zBD (R:zbR) (x:zeX):(zbF R x).evs.length≤R.evs.length+1:=by
 have hn:∀ (Q:zbR) e k s,(zb5 Q e k s).evs.length≤Q.evs.length+1:=fun Q e k s=>by
  unfold zb5;split
  ·omega
  ·simp
 unfold zbF
 repeat' split
 ·exact hn { R with C:=_ } _ _ _
 ·exact hn { R with C:=_ } _ _ _
 ·exact hn { R with C:=_ } _ _ _
 ·exact hn { R with C:=_ } _ _ _
 ·show R.evs.length≤_;omega
 ·show R.evs.length≤_;omega
 ·omega
theorem IdsP.new (h:IdsP P R ids) (hR:RunP P n R) (hn:n≤60) (hI:zdA R.C.X.S) (x:zeX) (hok:(zbk R.C x.n x.p).2.2=0) :
  (zbk R.C x.n x.p).2.1∉ids∧IdsP P (zdX R x) (ids++[(zbk R.C x.n x.p).2.1]):=by
 rcases hR with hL|hD
 ·obtain⟨hX,hsf⟩:=hL.fold
  have hlast:=h R.evs.length hsf (Nat.le_refl _)
  rw[List.take_length,←hX] at hlast
  obtain⟨E0,E1,s,h1,h2,h3⟩:=hL
  have hs:=znK h1 x.n x.p
  by_cases hf:(z7 R.C.X.S x.n).2=0
  ·rw[if_neg (by simp[hf])] at hs
   by_cases hp:(zaV R.C 2 (z7 R.C.X.S x.n).1 x.p true).2=0
   ·rw[if_neg (by simp[hp])] at hs
    have hm:zc6 R.C.X 2 (z7 R.C.X.S x.n).1 x.p.length=0:=by
     rcases h1.put hn ⟨2,(z7 R.C.X.S x.n).1,x.p⟩ true (r:=zaV R.C 2 (z7 R.C.X.S x.n).1 x.p true) rfl with ⟨a1,a2⟩|⟨a1, -⟩|⟨a1, -⟩
     ·rw[a2] at hp;exact absurd hp a1
     ·exact a1
     ·exact a1
    have hev:(zdX R x).evs=R.evs++[⟨2,(z7 R.C.X.S x.n).1,x.p⟩]∧(zdX R x).safe=((R.evs.length+1:Nat):Int):=by
     unfold zdX
     rw[hs]
     dsimp only
     unfold zb5
     rw[if_neg (by simp),if_neg (by decide),if_pos ⟨rfl,rfl⟩]
     exact⟨rfl,rfl⟩
    rw[hs]
    dsimp only
    refine⟨(hlast.new hf).1,fun j j1 j2=>?_⟩
    rw[hev.2] at j1
    rw[hev.1] at j2 ⊢
    rcases ztv R.evs ⟨2,(z7 R.C.X.S x.n).1,x.p⟩ j with ⟨hj,e2⟩|⟨hj,e2⟩
    ·omega
    ·rw[e2,zfk,←hX]
     exact hlast.add hI hf hm
   ·rw[if_pos hp] at hs
    rw[hs] at hok
    exact absurd hok hp
  ·rw[if_pos hf] at hs
   rw[hs] at hok
   exact absurd hok hf
 ·have:zbk R.C x.n x.p=(R.C,zbT,7):=by unfold zbk;rw[if_pos hD.1]
  rw[this] at hok
  cases hok
theorem zqg (R:zbR) (x:zeX) (hk:x.kind=0):zbF R x=zdX R x:=by unfold zbF;rw[if_pos hk]
theorem IdsP.open (h:IdsP P R ids) {C':CuR} {j:Nat} {E:List EvX} (h1:R.safe≤(j:Int)) (h2:j≤R.evs.length) (hE:E=R.evs.take j++[bootX]):IdsP P ⟨C',E,(E.length:Int)⟩ ids:=fun i i1 i2=>by
 dsimp only at i1 i2 ⊢
 rw[List.take_of_length_le (by omega),hE,zfk]
 exact(h j h1 h2).boot
end Go.Proofs.YtpdkkbpkplhdpaaGreat
namespace Go.Proofs.YtpdkkbpkplhdpaaGreat
open Go Go.Vm
attribute [local irreducible] Brn Ob Grow CallsM inR zaD zaC Mem.row Mem.cells Mem.setCells Mem.upd Go.Vm.Own zaG za7 za9 zaR New SrcOk subA NewSl Mem.textAt Mem.mapAt Mem.iterAt zaB zam Wr NewEls Elems
set_option maxRecDepth 10000
section
variable {A M M':Mem} {r c p:Nat} {N:Int} {H:CuH} {a:Option Addr} {cc:Nat} {R:zbR}
theorem zDV {f:Nat} {args:List Value} {Z:Mem} {Q:Value→Mem→Prop} (hc:CallsM Tryz.prog f args Z Q) (hZ:Z.le M) {S:Nat→Prop} (hS:∀ y,S y→Z y=none∧M y≠none) :
  CallsM Tryz.prog f args M fun v M'=>∃ Z',Q v Z'∧Z'.le M'∧(∀ y,S y→Z' y=none)∧∀ y o,S y→M y=some o→M' y=some o:=
 (hc.frame hZ).mono fun v M' ⟨Z',hq,hle,hk⟩=>⟨Z',hq,hle,fun y hy=>by
  obtain⟨h1,h2⟩:=hS y hy
  cases e:M y with
  | none=>exact absurd e h2
  | some o=>exact(hk y o h1 e).2,fun y o hy ho=>(hk y o (hS y hy).1 ho).1⟩
theorem zDW {E:TypeId} {s:Nat} {ia:Option Addr} {n ic:Nat} {L:List Value} (h:NewSl A E s ia n ic L M) (hle:A.le M') (hk:∀ y o,blk ia y→M y=some o→M' y=some o):NewSl A E s ia n ic L M':=by
 obtain⟨w0,w1,w2,w3⟩:=newSl_iff.1 h
 refine newSl_iff.2 ⟨hle,w1,w2,w3.imp id fun ⟨b1,cs,ha,hb1,hh,hr⟩=>⟨b1,cs,ha,hb1,?_,hr⟩⟩
 unfold Mem.has at hh ⊢
 exact hk b1 _ ⟨_,ha,rfl⟩ hh
@[reducible] def zBE (i:IdT):List Value:=[.int .i64 i.o,.int .i64 i.d,.int .i64 i.e,.int .i64 i.c]
theorem zv7 (i:IdT):(zBE i).length=4:=rfl
structure IdsR (A M Z:Mem) (ia:Option Addr) (ic:Nat) (ids:List IdT):Prop where
 zl:Z.le M
 zn:∀ y,blk ia y→Z y=none
 az:A.le Z
 row:NewSl A T.zf6 4 ia ids.length ic (ids.flatMap zBE) M
variable {Z:Mem} {ia:Option Addr} {ic:Nat} {ids:List IdT}
theorem IdsR.S (h:IdsR A M Z ia ic ids):∀ y,blk ia y→Z y=none∧M y≠none:=fun y hy=>by
 obtain⟨q,hq,e⟩:=hy
 obtain⟨h1,cs,h2⟩:=h.row.block hq
 rw[e] at h1 h2
 refine⟨h.zn y ⟨q,hq,e⟩,fun hn=>?_⟩
 unfold Mem.has at h2;rw[h2] at hn;cases hn
theorem IdsR.call (h:IdsR A M Z ia ic ids) {f:Nat} {args:List Value} {Q:Value→Mem→Prop} (hc:CallsM Tryz.prog f args Z Q) (hQ:∀ v Z',Q v Z'→A.le Z') :
  CallsM Tryz.prog f args M fun v M'=>∃ Z',Q v Z'∧IdsR A M' Z' ia ic ids:=
 (zDV hc h.zl h.S).mono fun v M' ⟨Z',hq,hle,hn,hk⟩=>⟨Z',hq,hle,hn,hQ v Z' hq,zDW h.row (Mem.le_trans (hQ v Z' hq) hle) hk⟩
theorem IdsR.put (h:IdsR A M Z ia ic ids) (i:IdT) (hn:ids.length≤100) {k:Option Addr→Nat→Mem→Prop}
  (hk:∀ a' c' M',IdsR A M' Z a' c' (ids++[i])→k a' c' M'):zaG T.zf6 4 32 ia ids.length ic 1 (zBE i) M k:=by
 refine zll (M.minus (blk ia)) _ (h.row.rebase (Mem.le_refl _)) (by omega) (by simp[maxLen];omega) (by simp[Value.oneCell']) fun a' c' M' hN hkp=>?_
 have hz:Z.le (M.minus (blk ia)):=Mem.le_minus h.zl h.zn
 refine hk a' c' M' ⟨Mem.le_trans hz hN.le,fun y ⟨q,hq,e⟩=>?_,h.az,?_⟩
 ·obtain⟨h1, -⟩:=hN.block hq
  rw[e] at h1
  cases e2:Z y with
  | none=>rfl
  | some o=>rw[hz y o e2] at h1;cases h1
 ·have:=hN.mono (A:=A) (Mem.le_trans h.az hz)
  simpa using this
theorem IdsR.new (hA:A.le M) {b:Nat} (hb:M b=none):IdsR A (M.setCells b T.zf6 []) M (some ⟨b,0,none⟩) 0 []:=by
 refine⟨Mem.le_setCells hb,fun y ⟨q,hq,e⟩=>?_,hA,?_⟩
 ·cases hq;rw[←e];exact hb
 ·exact(NewSl.lit hb T.zf6 4 0 [] rfl).mono hA
theorem IdsR.set (h:IdsR A M Z ia ic ids) {T:TypeId} {w w':List Value} (hr:Z.has r T w) (ha:A r=none):IdsR A (M.setCells r T w') (Z.setCells r T w') ia ic ids:=by
 have hne:∀ y,blk ia y→y≠r:=fun y hy e=>by
  have h1:=h.zn y hy
  unfold Mem.has at hr
  rw[e,hr] at h1;cases h1
 refine⟨fun y o hy=>?_,fun y hy=>?_,fun y o hy=>?_,zDW h.row (fun y o hy=>?_) fun y o hy ho=>?_⟩
 ·unfold Mem.setCells at hy ⊢
  by_cases e:y=r
  ·subst e;rw[Mem.upd_same] at hy ⊢; exact hy
  ·rw[Mem.upd_ne _ _ e] at hy ⊢; exact h.zl y o hy
 ·unfold Mem.setCells;rw[Mem.upd_ne _ _ (hne y hy)];exact h.zn y hy
 ·unfold Mem.setCells
  rw[Mem.upd_ne _ _ (fun e=>by rw[e,ha] at hy;cases hy)];exact h.az y o hy
 ·unfold Mem.setCells
  rw[Mem.upd_ne _ _ (fun e=>by rw[e,ha] at hy;cases hy)];exact h.zl y o (h.az y o hy)
 ·unfold Mem.setCells;rw[Mem.upd_ne _ _ (hne y hy)];exact ho
theorem RunAt.other (h:RunAt A M r c p N H a cc R) {c':Nat} {N':Int} {H':CuH} {C':CuR} (h':CuAt (M.minus (cuB c p H)) M' c' p N' H' C') :
  RunAt A (M'.setCells r T.zD (zei p c' a cc R)) r c' p N' H' a cc { R with C:=C' }:=by
 have hk:∀ y o,¬cuB c p H y→M y=Option.some o→M' y=Option.some o∧¬cuB c' p H' y:=fun y o hy ho=>by
  have h1:(M.minus (cuB c p H)) y=Option.some o:=by unfold Mem.minus;rw[if_neg hy];exact ho
  exact⟨h'.le y o h1,fun hb=>by rw[h'.fresh hb] at h1;cases h1⟩
 obtain⟨h1,h2⟩:=hk r _ h.rc h.self
 have h3:Mem.keep (fun y=>y=r) M' (M'.setCells r T.zD (zei p c' a cc R)):=fun y o hy ho=>by
  unfold Mem.setCells;rw[Mem.upd_ne _ _ hy];exact ho
 have h4:=h'.mono h.cu.base.2
 refine⟨h4.keepS h3 fun y hy=>hy▸⟨h.rf,h2⟩,Mem.has_setCells,h.rf,h2,h.row.up fun y o hy=>?_⟩
 unfold Mem.minus at hy ⊢
 by_cases hb:zl2 r c p H y
 ·rw[if_pos hb] at hy;cases hy
 ·rw[if_neg hb] at hy
  obtain⟨h5,h6⟩:=hk y o (fun hc=>hb (.inr hc)) hy
  rw[if_neg]
  ·exact h3 y o (fun e=>hb (.inl e)) h5
  ·rintro (e|e)
   ·exact hb (.inl e)
   ·exact h6 e
end
section
variable {A M M':Mem}
structure zDX where
 i:Nat
 M:Mem
 Z:Mem
 c:Nat
 H:CuH
 a:Option Addr
 cc:Nat
 R:zbR
 G:zbR
 ia:Option Addr
 ic:Nat
 ids:List IdT
 n:Nat
structure zEQ (P:Par) (A:Mem) (r p n:Nat) (y:zDX):Prop where
 i:y.i≤n∧y.i≤40
 run:RunAt A y.Z r y.c p (104857600300+y.i) y.H y.a y.cc y.R
 ids:IdsR A y.M y.Z y.ia y.ic y.ids
 gc:y.R.C=y.G.C
 g:RunP P (2+y.i) y.G
 k:IdsP P y.G y.ids
 few:y.R.evs.length≤y.i+1
 idn:y.ids.length≤y.i
 nn:y.n=y.ids.length
set_option maxHeartbeats 2000000 in
set_option maxRecDepth 20000 in
theorem zCM (s:zjj) {la:Option Addr} {n lc:Nat} {l:List zeX} (hl:Elems M 8 la n (ActR M) l) (hn:n≤1048576) :
  CallsM Tryz.prog F.ze6 [.agg (zsQ s).toArray,.slice la n lc] M fun v M'=>v = .bool true∧M.le M':=by
 refine zmg (by simp) ?_
 refine zR ?_
 refine(zBA s).mono ?_
 rintro v _ ⟨rfl,rfl⟩
 refine zR ?_
 refine(zBB s).mono ?_
 rintro v M1 (⟨hno,rfl,hle1⟩|⟨hok,r,c,p,H,ra,rc,C,rfl,h1,hl1,hp1⟩)
 ·refine zR ?_
  refine(zCL { s with limit:=1048576 }).mono ?_
  rintro v _ ⟨rfl,rfl⟩
  have hno2:¬okS { s with limit:=1048576 }:=hno
  (conv=>whnf);refine brn_t (by rw[decide_eq_false hno2];rfl) ?_
  refine zR ?_
  refine awake_ok.mono ?_
  rintro v M2 ⟨rfl,hle2⟩
  refine zR ?_
  exact⟨rfl,Mem.le_trans hle1 hle2⟩
 refine zR ?_
 refine new (fun b hb=>?_)
 replace hb:M1 b=none:=hb
 have hI0:=IdsR.new h1.cu.le hb
 obtain⟨M2,hM2⟩:∃ M2,M2=M1.setCells b T.zf6 []:=⟨_,rfl⟩
 rw[←hM2] at hI0
 (conv=>whnf)
 erw [←hM2]
 refine zEp (σ:=zDX) [6,7] (fun z=>[(6,.slice z.ia z.n z.ic),(7,.int .i64 z.i)]) (fun z=>z.M) (zEQ (zgb s) M r p n) (fun z=>40 - z.i) ⟨0,M2,M1,c,H,ra,rc,⟨C,[bootX],1⟩,⟨C,[bootX],1⟩,some ⟨b,0,none⟩,0,[],0⟩
  ⟨⟨by dsimp only;omega,by dsimp only;omega⟩,h1,hI0,rfl,.inl ⟨[],[bootX],1,hl1,rfl,by show (1:Int)≤1;decide⟩,fun _ _ _ i hi=>(by cases hi),by show (1:Nat)≤1;decide,by show (0:Nat)≤0;decide,rfl⟩ zS ?_
 rintro ⟨i,Mc,Z,c,H,ra,rc,R,G,ia,ic,ids,nn⟩ ⟨⟨hi1,hi2⟩,hR,hI,hgc,hG,hK,hfew,hidn,hnn⟩
 dsimp only at hi1 hi2 hR hI hgc hG hK hfew hidn hnn
 subst hnn
 have hpure:PureW R.C.X:=hR.cu.st.pure
 have hinv:zdA R.C.X.S:=hR.cu.st.st.inv
 have hlen:=hG.len
 rw[←hgc] at hlen
 (conv=>whnf);refine brn (fun e=>?_) (fun e=>?_)
 have hlt:i<n:=by have:=Zd0 e;dsimp only at this;omega
 refine zR ?_
 refine brn (fun e=>?_) (fun e=>?_)
 ·have hlt2:i<40:=by have:=Zd0 e;dsimp only at this;omega
  obtain⟨hl1,xb,xo,xcs,hxa,hxr, -, -, hx⟩:=hl.at (by decide) hlt
  generalize l[i]=x at hx
  obtain⟨b1,d1,b2,m2,d2,rfl,hxx⟩:=hx.x
  have hMc:=Mem.le_trans hI.az hI.zl
  have hself:=hR.self.le hI.zl
  refine zR ?_
  refine ob (by first|omega|(dsimp only;omega)) ?_
  (conv=>whnf);refine atp hxa ?_
  (conv=>whnf);refine on (Mem.row_le hMc (hxr 0 1 (by decide))) ?_
  refine zR ?_
  refine brn (fun e=>?_) (fun e=>?_)
  ·have hk:x.kind=0:=Zd0 e
   have hb:=hR.cu.base
   obtain⟨r0,hr0⟩:∃ r0,r0=zbk R.C x.n x.p:=⟨_,rfl⟩
   have hq:IdsP (zgb s) (zbF G x) ids:=hK.act hG (hgc▸hinv) x
   have hg:RunP (zgb s) (2+i+1) (zbF G x):=hG.act (by omega) (hgc▸hpure) hxx.n.2
   have hgc':r0.1=(zbF G x).C:=by
    rw[←zAC hgc,hr0,zqg R x hk]
    unfold zdX
    unfold zb5
    split<;>rfl
   refine zL (hself) ?_
   refine ob (by first|omega|(dsimp only;omega)) ?_
   (conv=>whnf);refine atp hxa ?_
   (conv=>whnf);refine on (Mem.row_le hMc (hxr 1 1 (by decide))) ?_
   refine zR ?_
   refine ob (by first|omega|(dsimp only;omega)) ?_
   (conv=>whnf);refine atp hxa ?_
   (conv=>whnf);refine on (Mem.row_le hMc (hxr 6 1 (by decide))) ?_
   (conv=>whnf);refine⟨?_,?_,True.intro⟩
   ·(conv=>whnf)
    refine(hI.call (zji hb.1 (by omega) x.n (hxx.p.le hb.2) hxx.pl) fun v Z' ⟨H2,_,h2⟩=>Mem.le_trans hb.2 h2.le).mono ?_
    rw[←hr0]
    rintro v M2 ⟨Z2,⟨H2,rfl,h2⟩,hI2⟩
    have h3:=hR.turn h2
    refine zR ?_
    refine brn (fun g=>?_) (fun g=>?_)
    ·have g1:¬r0.2.2=0:=by simpa using g
     refine zR ?_
     refine ob (ze (by first|omega|(dsimp only;omega))) ?_
     (conv=>whnf)
     exact⟨⟨i+1,M2,Z2,c,H2,ra,rc,{ R with C:=r0.1 },zbF G x,ia,ic,ids,ids.length⟩,⟨⟨by dsimp only;omega,by dsimp only;omega⟩,h3.more (by dsimp only;omega),hI2,hgc',hg,hq,by dsimp only;omega,by dsimp only;omega,rfl⟩,by dsimp only;omega,zS⟩
    ·have g1:r0.2.2=0:=by simpa using g
     obtain⟨hnin,hq2⟩:=hK.new hG (by omega) (hgc▸hinv) x (by rw[←hgc,←hr0];exact g1)
     rw[←hgc,←hr0] at hnin hq2
     rw[←zqg G x hk] at hq2
     refine zR ?_
     refine ze1 [10] (fun (k:Nat)=>[(10,.int .i64 k)]) (fun k=>k≤ids.length) (fun k=>ids.length - k) 0 (by omega) zS ?_
     intro k hk
     (conv=>whnf);refine brn (fun g=>?_) (fun g=>?_)
     ·have hlt3:k<ids.length:=by have:=Zd0 g;dsimp only at this;omega
      have hid:ids[k]? = some ids[k]:=List.getElem?_eq_getElem hlt3
      have hmem:ids[k]∈ids:=List.getElem_mem hlt3
      obtain⟨b1,o1,ha1,hc1⟩:=hI2.row.src.fparts zv7 (by decide) hid
      generalize ids[k]=y at hid hmem hc1
      (conv=>whnf);refine ob (by first|omega|(dsimp only;omega)) ?_
      (conv=>whnf);refine atp ha1 ?_
      (conv=>whnf);refine on (hc1 0 4 (by decide)) ?_
      (conv=>whnf);refine brn (fun g1=>?_) (fun g1=>?_)
      ·exfalso
       refine hnin ?_
       have:y=r0.2.1:=by
        obtain⟨y1,y2,y3,y4⟩:=y
        generalize r0.2.1=z at g1
        obtain⟨z1,z2,z3,z4⟩:=z
        simpa[and_assoc] using g1
       rw[←this];exact hmem
      ·(conv=>whnf);refine ob (ze (by first|omega|(dsimp only;omega))) ?_
       (conv=>whnf)
       exact⟨k+1,by omega,by omega,zS⟩
     ·refine zR ?_
      refine hI2.put r0.2.1 (by omega) fun a' c' M' hI3=>?_
      refine zR ?_
      refine ob (ze (by first|omega|(dsimp only;omega))) ?_
      (conv=>whnf)
      exact⟨⟨i+1,M',Z2,c,H2,ra,rc,{ R with C:=r0.1 },zbF G x,a',c',ids++[r0.2.1],ids.length+1⟩,⟨⟨by dsimp only;omega,by dsimp only;omega⟩,h3.more (by dsimp only;omega),hI3,hgc',hg,hq2,by dsimp only;omega,by dsimp only;rw[List.length_append,List.length_singleton];omega,by dsimp only;rw[List.length_append,List.length_singleton]⟩,by dsimp only;omega,zS⟩
   ·refine zR ?_
    refine(hI.call (zji hb.1 (by omega) x.n (hxx.p.le hb.2) hxx.pl) fun v Z' ⟨H2,_,h2⟩=>Mem.le_trans hb.2 h2.le).mono ?_
    rw[←hr0]
    rintro v M2 ⟨Z2,⟨H2,rfl,h2⟩,hI2⟩
    have h3:=hR.turn h2
    refine zR ?_
    refine brn (fun g=>?_) (fun g=>?_)
    ·have g1:¬r0.2.2=0:=by simpa using g
     refine zR ?_
     refine ob (ze (by first|omega|(dsimp only;omega))) ?_
     (conv=>whnf)
     exact⟨⟨i+1,M2,Z2,c,H2,ra,rc,{ R with C:=r0.1 },zbF G x,ia,ic,ids,ids.length⟩,⟨⟨by dsimp only;omega,by dsimp only;omega⟩,h3.more (by dsimp only;omega),hI2,hgc',hg,hq,by dsimp only;omega,by dsimp only;omega,rfl⟩,by dsimp only;omega,zS⟩
    ·have g1:r0.2.2=0:=by simpa using g
     obtain⟨hnin,hq2⟩:=hK.new hG (by omega) (hgc▸hinv) x (by rw[←hgc,←hr0];exact g1)
     rw[←hgc,←hr0] at hnin hq2
     rw[←zqg G x hk] at hq2
     refine zR ?_
     refine ze1 [10] (fun (k:Nat)=>[(10,.int .i64 k)]) (fun k=>k≤ids.length) (fun k=>ids.length - k) 0 (by omega) zS ?_
     intro k hk
     (conv=>whnf);refine brn (fun g=>?_) (fun g=>?_)
     ·have hlt3:k<ids.length:=by have:=Zd0 g;dsimp only at this;omega
      have hid:ids[k]? = some ids[k]:=List.getElem?_eq_getElem hlt3
      have hmem:ids[k]∈ids:=List.getElem_mem hlt3
      obtain⟨b1,o1,ha1,hc1⟩:=hI2.row.src.fparts zv7 (by decide) hid
      generalize ids[k]=y at hid hmem hc1
      (conv=>whnf);refine ob (by first|omega|(dsimp only;omega)) ?_
      (conv=>whnf);refine atp ha1 ?_
      (conv=>whnf);refine on (hc1 0 4 (by decide)) ?_
      (conv=>whnf);refine brn (fun g1=>?_) (fun g1=>?_)
      ·exfalso
       refine hnin ?_
       have:y=r0.2.1:=by
        obtain⟨y1,y2,y3,y4⟩:=y
        generalize r0.2.1=z at g1
        obtain⟨z1,z2,z3,z4⟩:=z
        simpa[and_assoc] using g1
       rw[←this];exact hmem
      ·(conv=>whnf);refine ob (ze (by first|omega|(dsimp only;omega))) ?_
       (conv=>whnf)
       exact⟨k+1,by omega,by omega,zS⟩
     ·refine zR ?_
      refine hI2.put r0.2.1 (by omega) fun a' c' M' hI3=>?_
      refine zR ?_
      refine ob (ze (by first|omega|(dsimp only;omega))) ?_
      (conv=>whnf)
      exact⟨⟨i+1,M',Z2,c,H2,ra,rc,{ R with C:=r0.1 },zbF G x,a',c',ids++[r0.2.1],ids.length+1⟩,⟨⟨by dsimp only;omega,by dsimp only;omega⟩,h3.more (by dsimp only;omega),hI3,hgc',hg,hq2,by dsimp only;omega,by dsimp only;rw[List.length_append,List.length_singleton];omega,by dsimp only;rw[List.length_append,List.length_singleton]⟩,by dsimp only;omega,zS⟩
  have hk0:¬x.kind=0:=Zd1 e
  refine zR ?_
  refine brn (fun e=>?_) (fun e=>?_)
  ·have hk:x.kind=6:=Zd0 e
   have hb:=hR.cu.base
   have hbd:=hb.1.disk.base
   obtain⟨ld,j,E0,E1,q1,q2,m3,m4,m5,m6,m7⟩:=hG.open (by omega) x.keep hok.1 hok.2
   rw[←hgc] at m3 m4 m5 m7
   refine zL (hself) ?_
   refine ob (by first|omega|(dsimp only;omega)) ?_
   (conv=>whnf);refine atp hxa ?_
   (conv=>whnf);refine on (Mem.row_le hMc (hxr 7 1 (by decide))) ?_
   refine zR ?_
   refine(hI.call (zxc hbd.1 (hxx.k.le (Mem.le_trans hb.2 hbd.2)) (by have:=hxx.kl;omega)) fun v Z' ⟨es,_,h⟩=>Mem.le_trans (Mem.le_trans hb.2 hbd.2) h.le).mono ?_
   rintro v M4 ⟨Z4,⟨es4,rfl,h4⟩,hI4⟩
   replace h4:=h4.mono hbd.2
   have hs4:=(hR.self.minus hR.rc).le h4.le
   have hs4M:=hs4.le hI4.zl
   have hnm4:NamesC (zbB R.C.D x.keep):=NamesC.less hR.cu.nm ((CutD.crash hR.cu.disk.inv x.keep).nm hR.cu.disk.inv)
   obtain⟨O,hO⟩:∃ O,O=zbv (zbB R.C.D x.keep) s.me s.qh s.qb s.qg s.seg ld:=⟨_,rfl⟩
   have hO2:zbv (zbB R.C.D x.keep) (zgb s).me (zgb s).qh (zgb s).qb (zgb s).qg (zgb s).seg ld=O:=hO.symm
   rw[hO2] at m4 m5 m7
   refine zL (hs4M) ?_
   refine(hI4.call (znI (ld:=ld) h4 hnm4 (me:=s.me) (qh:=s.qh) (qb:=s.qb) (qg:=s.qg) (seg:=s.seg) (fun _ _=>m3)) fun v Z' h=>Mem.le_trans hb.2 (by rcases h with ⟨_,_,_,db,des,h⟩|⟨_,_,_,_,h⟩;exact h.le;exact h.le)).mono ?_
   rw[←hO]
   rintro v M5 ⟨Z5,⟨h, -⟩|⟨-, c3,H3,rfl,h5⟩,hI5⟩
   ·exact absurd m4 h
   refine zR ?_
   have h6:=hR.other h5
   have hs5:=(hR.self.minus hR.rc).le h5.le
   have hI6:=hI5.set (w':=zei p c3 ra rc R) hs5 hR.rf
   have hs5M:=hs5.le hI5.zl
   refine zL (hs5M) ?_
   refine on hs5M.cells ?_
   (conv=>whnf);refine ob (by simp) ?_
   obtain⟨M6,hM6⟩:∃ M6,M6=M5.setCells r T.zD (zei p c3 ra rc R):=⟨_,rfl⟩
   rw[←hM6] at hI6
   (conv=>whnf)
   erw [←hM6]
   refine zR ?_
   refine ob (ze (by first|omega|(dsimp only;omega))) ?_
   (conv=>whnf)
   refine⟨⟨i+1,M6,_,c3,H3,ra,rc,{ R with C:=O.1 },⟨O.1,E0++E1,((E0++E1).length:Int)⟩,ia,ic,ids,ids.length⟩,⟨⟨by dsimp only;omega,by dsimp only;omega⟩,h6.more (by dsimp only;omega),hI6,rfl,.inl ⟨E0,E1,E1.length,m5,rfl,?_⟩,hK.open q1 q2 m6,by dsimp only;omega,by dsimp only;omega,rfl⟩,by dsimp only;omega,zS⟩
   dsimp only
   rw[List.length_append]
   exact Int.le_refl _
  ·have hk6:¬x.kind=6:=Zd1 e
   refine zR ?_
   refine ob (by first|omega|(dsimp only;omega)) ?_
   (conv=>whnf);refine atp hxa ?_
   (conv=>whnf);refine on (Mem.row_le hMc (hxr 0 8 (by decide))) ?_
   refine zR ?_
   refine(hI.call (zDU hR (by omega) hxx (by omega) (by omega)) fun v Z' ⟨_,H2,a2,c2,h2⟩=>h2.cu.le).mono ?_
   rintro v M2 ⟨Z2,⟨rfl,H2,ra2,rc2,h2⟩,hI2⟩
   refine zR ?_
   refine ob (ze (by first|omega|(dsimp only;omega))) ?_
   (conv=>whnf)
   exact⟨⟨i+1,M2,Z2,c,H2,ra2,rc2,zbF R x,zbF G x,ia,ic,ids,ids.length⟩,⟨⟨by dsimp only;omega,by dsimp only;omega⟩,h2.more (by dsimp only;omega),hI2,zAC hgc x,hG.act (by omega) (hgc▸hpure) hxx.n.2,hK.act hG (hgc▸hinv) x,by have:=zBD R x;dsimp only;omega,by dsimp only;omega,rfl⟩,by dsimp only;omega,zS⟩
 all_goals (
 refine zR ?_
 refine awake_ok.mono ?_
 rintro v M2 ⟨rfl,hle2⟩
 refine zR ?_
 exact⟨rfl,Mem.le_trans (Mem.le_trans hI.az hI.zl) hle2⟩)
end
end Go.Proofs.YtpdkkbpkplhdpaaGreat
namespace Go.Proofs.YtpdkkbpkplhdpaaGreat.custodyIds
open Go.ChangeShapes Go.WideShapes Go.ChangeAt Go.RowKit Go.Vm Go.Proofs.YtpdkkbpkplhdpaaGreat.Br
set_option linter.unusedVariables false
set_option maxRecDepth 100000
theorem contract (H:Type) (enc:TypeId×Value→H) (W:World) (base:Nat) (args:Array Value) (ds gs:List (DataW H)) (before:List MemPlace)
  (hval:∀ (j:Nat) t v,Tryz.f5.params[j]? = some t→args[j]? = some v→Value.okWide Tryz.prog W .any base t v)
  (hW:DataW.Whole enc Tryz.prog Tryz.f5.params.toList Rows.custodyIdsSpec.vars false W args.toList ds gs before) (hk:Rows.uptoSmall H (ds++gs)=true) :
  Calls Tryz.prog F.ze6 args W fun e W'=>∃ v,e = .returned v∧Rows.custodyIdsSpec.post enc Tryz.prog Tryz.f5 false true false false W args v W':=by
 refine zD5 (s:=Rows.custodyIdsSpec) (fn:=Tryz.f5) (fun H ds h=>by match ds,h with|[d0,d1],_=>exact⟨rfl,rfl,rfl⟩) rfl rfl (by kernel_rfl) H enc W args ds gs before hW ?_
 obtain⟨p,q,hA,hV, -, -, -⟩:=hW
 obtain⟨rfl,rfl⟩:=trodVars_none hV
 have hb:=zD6 hk
 rw[Tryz.params5] at hA hval
 obtain⟨v0,vs0,d0,ds0,p0,q0,hargs0,rfl,rfl,⟨n0,h0⟩,r0⟩:=trodAll_cons hA
 obtain⟨v1,vs1,d1,ds1,p1,q1,hargs1,rfl,rfl,⟨n1,h1⟩,r1⟩:=trodAll_cons r0
 obtain⟨rfl,rfl,rfl⟩:=trodAll_nil r1
 subst hargs1
 obtain rfl:args = #[v0,v1]:=by cases args;simp_all
 obtain⟨-, s,hs⟩:=zCI H enc W _ _ _ _ h0 (hb _ (by simp))
 have hv0:=hval 0 _ v0 rfl rfl
 have hw:=zxN Tryz.underlying25 hv0
 rw[hs] at hw
 subst hw
 obtain⟨-, L,la,ln,lc,hcs,hl,hln,hlc⟩:=zBu H enc W _ _ _ _ h1 (hb _ (by simp))
 have hv1:=hval 1 _ v1 rfl rfl
 obtain rfl:=zAN Tryz.underlying26 rfl hv1 hcs
 exact zCM s hl hln
set_option maxRecDepth 100000 in
theorem lifted (os:Os) (started:os.Started) (H:Type) (enc:TypeId×Value→H) (F:Stop.Interp) :
  ReturnsInHanded {} Tryz.checked os 5 .any ((Rows.OpenSpec.upto Rows.custodyIdsSpec).pre6 enc Tryz.prog Tryz.f5 Rows.custodyIdsUptoRow.domain false) (((Rows.OpenSpec.upto Rows.custodyIdsSpec).at F).post enc Tryz.prog Tryz.f5 false true false false):=by
 refine returnsInHanded_of_cond (C:=Tryz.checked) (s:=Rows.OpenSpec.upto Rows.custodyIdsSpec) (k:=Rows.uptoSmall) rfl own started (by kernel_rfl) Tryz.func5
  (OpenSpec.witness (enc:=enc) (C:=Tryz.checked) (s:=Rows.OpenSpec.upto Rows.custodyIdsSpec) (k:=Rows.uptoSmall) rfl false ⟨#[], #[.agg #[.int .i64 0,.int .i64 0,.int .i64 0,.int .i64 0,.int .i64 0,.int .i64 0],.slice none 0 0],[]⟩ 12 (by kernel_rfl) (by kernel_rfl) (by kernel_rfl)
   (x:=([.agg [.lit (.int .i64 0),.agg [.lit (.int .i64 0),.lit (.int .i64 0),.lit (.int .i64 0)],.lit (.int .i64 0),.lit (.int .i64 0)],.nil],[],[])) (by kernel_rfl) rfl (by kernel_rfl)) ?_
 intro W base args ds gs before hval hW _ hk _
 exact contract H enc W base args ds gs before hval hW hk
theorem over:Rows.custodyIdsUptoRow.holds Tryz.pinned (Rows.OpenSpec.upto Rows.custodyIdsSpec):=
 OpenClaim.holds_of_cond 5 Tryz.f5 rfl rfl rfl rfl rfl rfl rfl ⟨rfl,rfl,rfl,rfl,rfl⟩ rfl rfl rfl rfl rfl (by kernel_rfl) Tryz.func5 (by kernel_rfl)
  (Zd0 (by kernel_rfl)) (by unfold Func.isWrapper;first|(rw[if_pos (by decide +kernel)];kernel_rfl)|(rw[if_neg (by decide +kernel)];exact⟨rfl,rfl⟩))
  (fun os started H enc _ F=>lifted os started H enc F)
theorem proved:Rows.CustodyIdsUptoSaid:=
 over
end Go.Proofs.YtpdkkbpkplhdpaaGreat.custodyIds
