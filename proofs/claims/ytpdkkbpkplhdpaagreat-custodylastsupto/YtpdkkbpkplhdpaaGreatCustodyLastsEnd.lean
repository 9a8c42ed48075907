/- CustodyLasts: behind a crash,at whatever change the power went,whatever is kept,the state is that of some beginning of the events that were put down,that has all that were put down safely,and the next epoch: for every call of bulk at most 1048576 the law returns true,and the call reads as before. -/
import Derived.Test.YtpdkkbpkplhdpaaGreatJ31
import Derived.Test.YtpdkkbpkplhdpaaGreatJ22
import Derived.Test.YtpdkkbpkplhdpaaGreatJ29
set_option linter.unusedVariables false
set_option linter.unusedSimpArgs false
namespace Go.Proofs.YtpdkkbpkplhdpaaGreat
open Go Go.Vm
variable {D:zf} {C:CuR} {R:zed} {E0 E1:List EvX} {s n:Nat} {P:Par}
theorem Cnt.more {last:Int} {m n':Nat} (h:Cnt n D last m) (hn:n≤n'):Cnt n' D last m:=⟨by have:=h.files;omega,by have:=h.used;omega,by have:=h.last;omega,by have:=h.evs;omega,h.lim⟩
theorem LiveI.more {n':Nat} (h:LiveI P n C E0 E1 s) (hn:n≤n'):LiveI P n' C E0 E1 s:=⟨⟨h.rc,h.cnt.more hn,h.X,h.up,h.first,h.lg,h.own⟩,h.cur⟩
theorem RecD.more {n':Nat} (h:RecD P n D E0 E1 s) (hn:n≤n'):RecD P n' D E0 E1 s:=by
 obtain⟨k0,last,h1,h2⟩:=h;exact⟨k0,last,h1,h2.more hn⟩
theorem RecI.same {D':zf} {k0 last:Int} (h:RecI P D k0 E0 E1 last s) (hi:InvD D') (hl:D'.l=D.l):RecI P D' k0 E0 E1 last s:=
 ⟨hi,fun f hf=>h.nm f (hl▸hf),by rw[hl];exact h.seg,h.ok,by rw[hl];exact h.snap⟩
theorem Cnt.same {D':zf} {last:Int} {m:Nat} (h:Cnt n D last m) (hl:D'.l=D.l) (hm:D'.limit=D.limit):Cnt n D' last m:=⟨by rw[hl];exact h.files,by rw[hl];exact h.used,h.last,h.evs,hm.trans h.lim⟩
theorem LiveI.same {D':zf} (h:LiveI P n C E0 E1 s) (hi:InvD D') (hl:D'.l=C.D.l) (hm:D'.limit=C.D.limit):LiveI P n { C with D:=D' } E0 E1 s:=
 ⟨⟨h.rc.same hi hl,h.cnt.same hl hm,h.X,h.up,h.first,h.lg,by dsimp only;rw[hl];exact h.own⟩,by dsimp only;rw[hl];exact h.cur⟩
theorem RecD.same {D':zf} (h:RecD P n D E0 E1 s) (hi:InvD D') (hl:D'.l=D.l) (hm:D'.limit=D.limit):RecD P n D' E0 E1 s:=by
 obtain⟨k0,last,h1,h2⟩:=h;exact⟨k0,last,h1.same hi hl,h2.same hl hm⟩
def LiveP (P:Par) (n:Nat) (R:zed):Prop:=∃ E0 E1 s,LiveI P n R.C E0 E1 s∧R.evs=E0++E1∧R.safe≤((E0.length+s:Nat):Int)
def DeadP (P:Par) (n:Nat) (R:zed):Prop:=R.C.w.failed=true∧R.C.X.sn.length≤n∧R.evs.length≤n∧∃ E0 E1 s rest,RecD P n R.C.D E0 E1 s∧R.evs=E0++E1++rest∧R.safe≤((E0.length+s:Nat):Int)
def RunP (P:Par) (n:Nat) (R:zed):Prop:=LiveP P n R∨DeadP P n R
theorem RunP.len (h:RunP P n R):R.evs.length≤n∧R.C.X.sn.length≤n:=by
 rcases h with ⟨E0,E1,s,h1,h2, -⟩|⟨_,h1,h2,_⟩
 ·exact⟨by rw[h2];exact h1.cnt.evs,h1.evs.2.1⟩
 ·exact⟨h2,h1⟩
theorem DeadP.more (h:DeadP P n R):DeadP P (n+1) R:=by
 obtain⟨h1,h2,h3,E0,E1,s,rest,h4,h5⟩:=h;exact⟨h1,by omega,by omega,E0,E1,s,rest,h4.more (by omega),h5⟩
theorem LiveP.more (h:LiveP P n R):LiveP P (n+1) R:=by
 obtain⟨E0,E1,s,h1,h2⟩:=h;exact⟨E0,E1,s,h1.more (by omega),h2⟩
theorem zjf (R:zed) (e:EvX) {k:Int} (h:k≠0∧k≠9) (s:Bool):zff R e k s=R:=by unfold zff;rw[if_pos h]
theorem zBg (h:C.w.failed=true) (k:Int) (i:IdT) (q:List UInt8) (s:Bool):zbg C k i q s=(C,7):=by unfold zbg;rw[if_pos h]
theorem LiveP.put (h:LiveP P n R) (hn:n≤60) (k:Int) (i:IdT) (q:List UInt8) (sf:Bool):RunP P (n+1) (zgI R k i q sf)∧(PowD R.C.D→LiveP P (n+1) (zgI R k i q sf)∧PowD (zgI R k i q sf).C.D):=by
 obtain⟨E0,E1,s,h1,h2,h3⟩:=h;obtain⟨r,hr⟩:∃ r,r=zbg R.C k i q sf:=⟨_,rfl⟩
 have hP:zgI R k i q sf=zff { R with C:=r.1 } ⟨k,i,q⟩ r.2 sf:=by unfold zgI;rw[hr]
 rw[hP];rcases h1.put hn ⟨k,i,q⟩ sf (r:=r) hr with ⟨a1,a2⟩|⟨a1,a2,⟨s',a3,a4,a5⟩,a6,a7⟩|⟨a1,a2,a3,a4,a5,a6⟩
 ·rw[a2];dsimp only;rw[zjf _ _ ⟨a1,zBa _ _ _ _⟩];have:LiveP P (n+1) R:=⟨E0,E1,s,h1.more (by omega),h2,h3⟩
  exact⟨.inl this,fun hp=>⟨this,hp⟩⟩
 ·have hL:LiveP P (n+1) (zff { R with C:=r.1 } ⟨k,i,q⟩ r.2 sf):=by
   unfold zff;rw[a2,if_neg (by simp)];refine⟨E0,E1++[⟨k,i,q⟩],s',a3,by dsimp only;rw[h2,List.append_assoc],?_⟩;dsimp only;split
   ·rename_i hs;rw[a5 hs.2,h2,List.length_append];omega
   ·omega
  refine⟨.inl hL,fun hp=>⟨hL,?_⟩⟩;have hq:=a6 hp
  unfold zff;rw[a2,if_neg (by simp)];exact hq
 ·refine⟨.inr ?_,fun hp=>absurd hp a3⟩;have hx:=h1.evs.2.1
  have he:=h1.cnt.evs;unfold zff;rw[a2,if_neg (by simp)];refine⟨a4,by dsimp only;rw[a5];omega,by dsimp only;rw[h2,List.length_append,List.length_singleton];omega,?_⟩;rcases a6 with a6|a6
  ·exact⟨E0,E1,s,[⟨k,i,q⟩],a6,by dsimp only;rw[h2],by rw[if_neg (by simp)];exact h3⟩
  ·exact⟨E0,E1++[⟨k,i,q⟩],s,[],a6,by dsimp only;rw[h2];simp,by rw[if_neg (by simp)];exact h3⟩
theorem zxN (S:StR) (d:Int):(za7 S d).2≠9:=by
 unfold za7
 repeat' split
 ·exact show (7:Int)≠9 by decide
 ·exact show (1:Int)≠9 by decide
 ·exact show (2:Int)≠9 by decide
 ·exact show (10:Int)≠9 by decide
 ·exact show (0:Int)≠9 by decide
theorem zzJ {X:StW} (hp:PureW X) {d:Int} (h:(za7 X.S d).2=0):(za7 X.S d).1=zon X d:=by
 unfold za7 at h ⊢;split
 ·rename_i g;rw[if_pos g] at h;exact absurd h (by decide)
 rename_i g;rw[if_neg g] at h;split
 ·rename_i g1;rw[if_pos g1] at h;exact absurd h (by decide)
 rename_i g1;rw[if_neg g1] at h;split
 ·rename_i g2;rw[if_pos g2] at h;exact absurd h (by decide)
 rename_i g2;rw[if_neg g2] at h;split
 ·rename_i g3;rw[if_pos g3] at h;exact absurd h (by decide)
 ·unfold zon;rw[zzI,zhU hp.inv (by omega)]
theorem zwK (h:LiveI P n C E0 E1 s) (d:Int) (q:List UInt8):zct C d q=if (za7 C.X.S d).2≠0 then (C,zcr,(za7 C.X.S d).2) else
  if (zbg C 2 (za7 C.X.S d).1 q true).2≠0 then ((zbg C 2 (za7 C.X.S d).1 q true).1,zcr,(zbg C 2 (za7 C.X.S d).1 q true).2) else ((zbg C 2 (za7 C.X.S d).1 q true).1,(za7 C.X.S d).1,0):=by
 have hf:zj4 C d=(za7 C.X.S d).2:=by unfold zj4;rw[if_neg (by rw[h.up.2.2];simp)]
 unfold zct;rw[if_neg (by simp[h.up.1]),hf]
theorem LiveP.sub (h:LiveP P n R) (hn:n≤60) (hp:PureW R.C.X) (x:ziu):RunP P (n+1) (zhJ R x)∧(PowD R.C.D→LiveP P (n+1) (zhJ R x)∧PowD (zhJ R x).C.D):=by
 have hL:=h;obtain⟨E0,E1,s,h1,h2,h3⟩:=h;have hs:=zwK h1 x.n x.p
 by_cases hf:(za7 R.C.X.S x.n).2=0
 ·rw[if_neg (by simp[hf])] at hs
  have key:zhJ R x=zgI R 2 (za7 R.C.X.S x.n).1 x.p true:=by
   unfold zhJ zgI;rw[hs];split
   ·dsimp only;by_cases h9:(zbg R.C 2 (za7 R.C.X.S x.n).1 x.p true).2=9
    ·rw[if_pos h9,zzJ hp hf]
    ·rename_i h0;rw[zjf _ _ ⟨h0,h9⟩,zjf _ _ ⟨h0,h9⟩]
   ·rename_i h0;have h0':(zbg R.C 2 (za7 R.C.X.S x.n).1 x.p true).2=0:=by simpa using h0
    dsimp only;rw[if_neg (by decide),h0']
  rw[key];exact hL.put hn _ _ _ _
 ·rw[if_pos hf] at hs
  have key:zhJ R x=R:=by
   unfold zhJ;rw[hs];dsimp only;exact zjf _ _ ⟨hf,zxN _ _⟩ _
  rw[key];exact⟨.inl hL.more,fun hp=>⟨hL.more,hp⟩⟩
theorem LiveP.cmp (h:LiveP P n R) (hn:n≤60) (hp:PureW R.C.X):RunP P (n+1) (ziv R)∧(PowD R.C.D→LiveP P (n+1) (ziv R)∧PowD (ziv R).C.D):=by
 obtain⟨E0,E1,s,h1,h2,h3⟩:=h;have hsl:s≤E1.length:=by have:=h1.rc.seg.safe_le;simpa using this
 rcases h1.compact hn hp with ⟨a1,a2,a3, -⟩|⟨a1,a2,a3,a4,a5⟩
 ·have hL:LiveP P (n+1) (ziv R):=⟨E0++E1,[],0,a3,by rw[List.append_nil];exact h2,by unfold ziv;dsimp only;rw[if_pos a1,h2];simp⟩
  exact⟨.inl hL,fun hp=>⟨hL,a2 hp⟩⟩
 ·refine⟨.inr ?_,fun hp=>absurd hp a2⟩;have hx:=h1.evs.2.1
  have he:=h1.cnt.evs;have hsf:(ziv R).safe=R.safe:=by unfold ziv;dsimp only;rw[if_neg (by rw[a1];decide)]
  refine⟨a3,by show (zcZ R.C).1.X.sn.length≤_;rw[a4];omega,by show R.evs.length≤_;rw[h2];omega,?_⟩;rcases a5 with a5|a5
  ·exact⟨E0,E1,s,[],a5,by rw[List.append_nil];exact h2,by rw[hsf];exact h3⟩
  ·exact⟨E0++E1,[],0,[],a5,by rw[List.append_nil,List.append_nil];exact h2,by rw[hsf,List.length_append];omega⟩
theorem zEU (D:zf) (k:Int):(zgg D k).1.l=D.l∧(zgg D k).1.limit=D.limit:=by
 unfold zgg;split
 ·exact⟨rfl,rfl⟩
 ·exact⟨rfl,rfl⟩
theorem RunP.act (h:RunP P n R) (hn:n≤60) (hp:PureW R.C.X) {x:ziu} (hx:x.n≤9223372036854775807):RunP P (n+1) (zfg R x):=by
 obtain⟨g1,g2⟩:=zEU R.C.D x.n;rcases h with h|h
 ·unfold zfg;split
  ·exact(h.sub hn hp x).1
  split
  ·exact(h.put hn _ _ _ _).1
  split
  ·exact(h.put hn _ _ _ _).1
  split
  ·exact(h.put hn _ _ _ _).1
  split
  ·exact(h.cmp hn hp).1
  split
  ·obtain⟨E0,E1,s,h1,h2⟩:=h;exact .inl ⟨E0,E1,s,(h1.more (by omega)).same (zqn h1.rc.inv hx) g1 g2,h2⟩
  ·exact .inl h.more
 ·have hdead:∀ k i q sf,zgI R k i q sf=R:=fun k i q sf=>by
   unfold zgI;rw[zBg h.1];exact zjf _ _ (k:=7) (by decide) _
  unfold zfg;split
  ·have:zhJ R x=R:=by
    unfold zhJ zct;rw[if_pos h.1];exact zjf _ _ (k:=7) (by decide) _
   rw[this];exact .inr h.more
  split
  ·rw[hdead];exact .inr h.more
  split
  ·rw[hdead];exact .inr h.more
  split
  ·rw[hdead];exact .inr h.more
  split
  ·have:ziv R=R:=by
    unfold ziv zcZ;rw[if_pos h.1];rfl
   rw[this];exact .inr h.more
  split
  ·obtain⟨h1,h2,h3,E0,E1,s,rest,h4,h5⟩:=h;have hi:InvD R.C.D:=by obtain⟨_,_,q,_⟩:=h4;exact q.inv
   exact .inr ⟨h1,by show R.C.X.sn.length≤_;omega,by show R.evs.length≤_;omega,E0,E1,s,rest,(h4.more (by omega)).same (zqn hi hx) g1 g2,h5⟩
  ·exact .inr h.more
theorem RunP.open (h:RunP P n R) (hn:n≤60) (keep:List Int) (hb:¬zbr P.me P.qh P.qb P.qg) (hseg:16≤P.seg∧P.seg≤1048576) :
  ∃ (ld:Option (Int×StW)) (j:Nat) (E0 E1:List EvX),R.safe≤(j:Int)∧j≤R.evs.length∧Ld (zbH (zbK R.C.D keep)).1 P.me P.qh P.qb P.qg ld∧(zbF (zbK R.C.D keep) P.me P.qh P.qb P.qg P.seg ld).2=0 ∧
   LiveI P (n+1) (zbF (zbK R.C.D keep) P.me P.qh P.qb P.qg P.seg ld).1 E0 E1 E1.length∧E0++E1=R.evs.take j++[bootX]∧PowD (zbF (zbK R.C.D keep) P.me P.qh P.qb P.qg P.seg ld).1.D:=by
 have key:∀ {E0 E1:List EvX} {s:Nat} {rest:List EvX},RecD P n R.C.D E0 E1 s→R.evs=E0++E1++rest→R.safe≤((E0.length+s:Nat):Int) →
   ∃ (ld:Option (Int×StW)) (j:Nat) (E0 E1:List EvX),R.safe≤(j:Int)∧j≤R.evs.length∧Ld (zbH (zbK R.C.D keep)).1 P.me P.qh P.qb P.qg ld∧(zbF (zbK R.C.D keep) P.me P.qh P.qb P.qg P.seg ld).2=0 ∧
    LiveI P (n+1) (zbF (zbK R.C.D keep) P.me P.qh P.qb P.qg P.seg ld).1 E0 E1 E1.length∧E0++E1=R.evs.take j++[bootX]∧PowD (zbF (zbK R.C.D keep) P.me P.qh P.qb P.qg P.seg ld).1.D:=fun {E0 E1 s rest} h1 h2 h3=>by
  have hi:InvD R.C.D:=by obtain⟨_,_,q,_⟩:=h1;exact q.inv
  obtain⟨ld,m,m1,m2,m3,m4,m5,m6, -⟩:=h1.open hn (CutD.crash hi keep) hb hseg;have hlen:(E1.take m++[bootX]).length=m+1:=by rw[List.length_append,List.length_take,List.length_singleton];omega
  refine⟨ld,E0.length+m,E0,E1.take m++[bootX],by omega,by rw[h2,List.length_append,List.length_append];omega,m3,m4,by rw[hlen];exact m5,?_,m6⟩;rw[h2,List.append_assoc E0 E1 rest,List.take_length_add_append,List.take_append_of_le_length m2,List.append_assoc]
 rcases h with ⟨E0,E1,s,h1,h2,h3⟩|⟨_,_,_,E0,E1,s,rest,h1,h2,h3⟩
 ·exact key (rest:=[]) h1.recd (by rw[List.append_nil];exact h2) h3
 ·exact key h1 h2 h3
end Go.Proofs.YtpdkkbpkplhdpaaGreat
namespace Go.Proofs.YtpdkkbpkplhdpaaGreat
open Go Go.Vm
attribute [local irreducible] Brn Ob Grow CallsM inR zax zav Mem.row Mem.cells Mem.setCells Mem.upd Go.Vm.Own zaD za5 zbc zaJ New SrcOk subA NewSl Mem.textAt Mem.mapAt Mem.iterAt zau zaj Wr NewEls Elems
set_option maxRecDepth 10000
section
variable {M B:Mem} {p b sp sb:Nat} {S:StR} {came:Int} {xs:HsT} {es:EsT} {L:List K} {D:zgi} {ms:List MX}
theorem zxO (h:DocAt M S L D ms):CallsM Tryz.prog F.zgv [zhH S D] M fun v M'=>∃ a c mk,v=zhV S.self S.epoch D.ua D.un D.uc D.la D.ln D.lc a mk.length c∧M.le M'∧MarksR M' a mk.length mk∧zzn mk∧mk.map MkC.mk'=zb7 L∧mk.length≤D.kn:=by
 refine zsh (by simp) ?_;refine zR ?_;refine(znZ h.keys (by have:=h.few;omega) S.qg).mono ?_;rintro v M1 ⟨a1,c1,l,rfl,hW,hl,hln,hfew⟩;refine zT (hW.row.le) ?_;refine zR ?_;exact⟨a1,c1,l,rfl,hW.row.le,⟨hW.row.src,fun m hm=>(hW.more m hm).src⟩,fun m hm=>by have:=(hfew m hm).2;have:=h.few;omega,hl,hln⟩
end
section
variable {M:Mem} {X:StW} {D:zgi}
theorem zuA (self epoch self' epoch':Int) {ua ua' ha ha' ma ma':Option Addr} {un un' hn hn' mn mn':Nat} {ul ul':List (Int×Int)} {ms ms':List MX} {mk mk':List MkC} (h:StatR M ua un ha hn ma mn ul ms mk) (h':StatR M ua' un' ha' hn' ma' mn' ul' ms' mk') (uc uc' hc hc' mc mc':Nat) :
  CallsM Tryz.prog F.zgb [zhV self epoch ua un uc ha hn hc ma mn mc,zhV self' epoch' ua' un' uc' ha' hn' hc' ma' mn' mc'] M fun v M'=>M=M'∧∃ t,v = .bool t∧(self=self'→epoch=epoch'→ul=ul'→ms.map MX.msg=ms'.map MX.msg→mk.map MkC.mk'=mk'.map MkC.mk'→t=true):=by
 refine znq (by simp) ?_;have hu:=h.used.flen zcD (by decide)
 have hu':=h'.used.flen zcD (by decide);have hs:=h.short
 have hs':=h'.short;refine zR ?_;refine brn (fun e=>?_) (fun e=>?_)
 ·have e1:¬self=self':=by simpa using e
  refine zR ?_;exact⟨rfl,false,rfl,fun a=>absurd a e1⟩
 refine zR ?_;refine brn (fun e=>?_) (fun e=>?_)
 ·have e1:¬epoch=epoch':=by simpa using e
  refine zR ?_;exact⟨rfl,false,rfl,fun _ a=>absurd a e1⟩
 refine zR ?_;refine brn (fun e=>?_) (fun e=>?_)
 ·have e1:¬(un:Int)=un':=by simpa using e
  refine zR ?_;exact⟨rfl,false,rfl,fun _ _ a=>absurd (by rw[←hu,←hu',a]) e1⟩
 have hun:un=un':=by have:(un:Int)=un':=by simpa using e
                     omega
 subst hun;(conv=>whnf)
 refine zdc [5] (fun (i:Nat)=>[(5,.int .i64 i)]) (fun i=>i≤un) (fun i=>un - i) 0 (by omega) zS ?_;intro i hi;(conv=>whnf);refine brn (fun g=>?_) (fun g=>?_)
 ·have hlt:i<un:=by have:=Zd0 g;omega
  have hx:ul[i]? = some (ul[i]'(by omega)):=List.getElem?_eq_getElem (by omega);have hy:ul'[i]? = some (ul'[i]'(by omega)):=List.getElem?_eq_getElem (by omega)
  obtain⟨b1,o1,ha1,hc1⟩:=h.used.fparts zcD (by decide) hx;obtain⟨b2,o2,ha2,hc2⟩:=h'.used.fparts zcD (by decide) hy;generalize ul[i]'(by omega)=x at *;generalize ul'[i]'(by omega)=y at *;(conv=>whnf);refine ob (by first|omega|(dsimp only;omega)) ?_;(conv=>whnf);refine atp ha1 ?_;(conv=>whnf);refine on (hc1 0 2 (by decide)) ?_;(conv=>whnf);refine ob (by first|omega|(dsimp only;omega)) ?_;(conv=>whnf);refine atp ha2 ?_;(conv=>whnf);refine on (hc2 0 2 (by decide)) ?_;(conv=>whnf);refine brn (fun g1=>?_) (fun g1=>?_)
  ·refine zR ?_;refine⟨rfl,false,rfl,fun _ _ a=>?_⟩;exfalso;rw[a,hy] at hx;cases hx;simp at g1
  ·(conv=>whnf);refine ob (zd (by first|omega|(dsimp only;omega))) ?_;(conv=>whnf)
   exact⟨i+1,by omega,by omega,zS⟩
 refine zR ?_;refine(zxD h.held h'.held (by omega) (by omega)).mono ?_;rintro v _ ⟨hv,rfl⟩;by_cases hm:ms.map MX.msg=ms'.map MX.msg
 ·rw[decide_eq_true hm] at hv;subst hv;refine zR ?_;refine(zDa h.seen h'.seen h.few (by omega) (by omega)).mono ?_;rintro v _ ⟨rfl,rfl⟩;refine zR ?_;exact⟨rfl,_,rfl,fun _ _ _ _ a=>decide_eq_true a⟩
 ·rw[decide_eq_false hm] at hv;subst hv;refine zR ?_;exact⟨rfl,false,rfl,fun _ _ _ a=>absurd a hm⟩
structure DocW (M:Mem) (X:StW) (D:zgi):Prop where
 ex:∃ L ms es,DocAt M X.S L D ms∧RelS es L∧SeenAs es X.sn
 inv:zeh X.S
theorem DocW.le {M':Mem} (h:DocW M X D) (hle:M.le M'):DocW M' X D:=by
 obtain⟨⟨L,ms,es,h1,h2⟩,h3⟩:=h;exact⟨⟨L,ms,es,h1.le hle,h2⟩,h3⟩
theorem DocW.new (M:Mem) (P:Par) (h:¬zbr P.me P.qh P.qb P.qg):DocW M P.x0 ⟨none,0,0,none,0,0,none,0,0⟩:=⟨⟨[],[],[],DocAt.new _ _ _ _ _,RelS.nil,SeenAs.nil⟩,zwi h⟩
theorem DocW.apply (h:DocW M X D) (hf:D.kn<4000000) (e:EvX) {a:Option Addr} {c:Nat} (hl:SrcOk M 1 a e.p.length (e.p.map zl)) (hn:e.p.length≤1048576) :
  CallsM Tryz.prog F.zfh [zhH X.S D,evV e.kind e.id a e.p.length c] M fun v M'=>∃ D' u,v = .tuple #[zhH (zb1 X e).S D',.int .i64 u]∧M.le M'∧DocW M' (zb1 X e) D'∧D'.kn≤D.kn+1:=by
 obtain⟨⟨L,ms,es,hd,hr,hs⟩,hi⟩:=h;refine(zxC hd hi hf e.kind e.id hl hn).mono ?_;rintro v M' ⟨D',ms',rfl,hle,hd',hkn⟩
 have hK:zf4 X.S L=zcV X.S (zdn X.sn):=by
  funext i;exact(hr.may X.S.qg i.o i.d i.e i.c).symm.trans (hs.may X.S.qg i.o i.d i.e i.c)
 have hE:zcV X.S es=zcV X.S (zdn X.sn):=funext fun i=>hs.may X.S.qg i.o i.d i.e i.c
 have hm:zag X.S (zf4 X.S L) e.kind e.id e.p.length=zcF X e.kind e.id e.p.length:=by unfold zcF;rw[hK]
 rw[hm] at hd';rw[hm]
 have hS:(zb1 X e).S=if zcF X e.kind e.id e.p.length=0 then zJ X.S e.kind e.id e.p else X.S:=by
  unfold zb1 zcX;split<;>rfl
 have hN:(zb1 X e).sn=if zcF X e.kind e.id e.p.length=0∧e.kind=4 then zrP X.sn e.id.o e.id.e e.id.c else X.sn:=by
  unfold zb1 zcX;by_cases h1:zcF X e.kind e.id e.p.length=0
  ·simp only[h1,if_true,true_and]
  ·simp only[h1,if_false,false_and]
 have hI:zeh (zb1 X e).S:=by
  rw[hS];split
  ·rename_i h1;exact zmp hi h1
  ·exact hi
 refine⟨D',_,by rw[hS],hle,⟨?_,hI⟩,hkn⟩;rw[hS,hN];by_cases h4:zcF X e.kind e.id e.p.length=0∧e.kind=4
 ·rw[if_pos h4] at hd' ⊢;obtain⟨h5,h6⟩:=h4
  have hz:zc9 X.S.qg es e.id.o e.id.d e.id.e e.id.c=0:=by
   unfold zcF at h5;rw[←hE,h6] at h5;exact(zmx h5).2
  rcases hr.step (es':=zQ es (e.id.o,e.id.e) ⟨0,none,0,(ze7 es e.id.o e.id.e e.id.c).1,(ze7 es e.id.o e.id.e e.id.c).2⟩) (gaps:=X.S.qg) (o:=e.id.o) (d:=e.id.d) (e:=e.id.e) (c:=e.id.c) (.inr ⟨hz,_,rfl,rfl⟩) with ⟨hne, -⟩|⟨-, hr'⟩
  ·rw[←hr.may] at hne;exact absurd hz hne
  ·exact⟨_,_,_,hd',hr',hs.put hr.inv.nodup rfl⟩
 ·rw[if_neg h4] at hd' ⊢;exact⟨_,_,_,hd',hr,hs⟩
theorem DocW.state (h:DocW M X D) (hf:D.kn≤4194000):CallsM Tryz.prog F.zgv [zhH X.S D] M fun v M'=>M.le M'∧∃ ua un uc ha hn hc ma mn mc ms mk,v=zhV X.S.self X.S.epoch ua un uc ha hn hc ma mn mc∧StatR M' ua un ha hn ma mn (zG X.S.used) ms mk∧ms.map MX.msg=X.S.l∧mk.map MkC.mk'=X.sn:=by
 obtain⟨⟨L,ms,es,hd,hr,hs⟩,hi⟩:=h;refine(zxO hd).mono ?_;rintro v M' ⟨a,c,mk,rfl,hle,hMr,hfew,hmk,hmn⟩;have hun:=hd.un
 have hln:=hd.ln;have hqh:=hi.qh
 have hus:(zG X.S.used).length≤64:=by have h9:(zG X.S.used).length≤X.S.used.length:=zc5 _ 0;have:=hi.ulen;omega
 refine⟨hle,_,_,_,_,_,_,_,_,_,ms,mk,rfl,⟨hd.used.le hle,hd.row.le hle,hMr,hfew,by omega⟩,hd.msgs,?_⟩;rw[hmk];exact(hr.marks (hs.canon hr.inv)).symm
end
section
variable {A M M':Mem}
theorem zEV {σ:Type} {body:(Exit→St→Prop)→St→Prop} {Q:Exit→St→Prop} {fr0:List (Nat×SV)} {bx0:List BE} {M0:Mem} (keys:List Nat) (fr:σ→List (Nat×SV)) (mem:σ→Mem) (inv:σ→Prop) (μ:σ→Nat) (x0:σ) (h0:inv x0)
  (hs:St.sub ⟨fr x0++zeK keys fr0,bx0,mem x0⟩ ⟨fr0,bx0,M0⟩)
  (h:∀ x,inv x→body (zlI Q fun s'=>∃ y,inv y∧μ y<μ x∧St.sub ⟨fr y++zeK keys fr0,bx0,mem y⟩ s') ⟨fr x++zeK keys fr0,bx0,mem x⟩):zax body Q ⟨fr0,bx0,M0⟩:=za6 keys fr (fun _=>bx0) mem inv μ x0 h0 hs h
structure zzK where
 i:Nat
 M:Mem
 H:CuH
 a:Option Addr
 cc:Nat
 R:zed
structure LoopI (P:Par) (M:Mem) (r c p n:Nat) (y:zzK):Prop where
 i:y.i≤n∧y.i≤40
 run:RunAt M y.M r c p (104857600300+y.i) y.H y.a y.cc y.R
 live:LiveP P (2+y.i) y.R
 pow:PowD y.R.C.D
theorem ActR.x {cs:List Value} {x:ziu} (h:ActR M cs x):∃ a1 c1 a2 n2 c2,cs=zB9 x a1 c1 a2 n2 c2∧XAt M x a1 a2 n2:=by
 obtain⟨a1,c1,a2,n2,c2,h1,h2,h3,h4,h5,h6,h7⟩:=h;exact⟨a1,c1,a2,n2,c2,h1,h2,h3,h5,h6,h7⟩
end
section
variable {A M M':Mem}
structure zFj (P:Par) (M:Mem) (r c p n:Nat) (y:zzK):Prop where
 i:y.i≤n∧y.i≤40
 run:RunAt M y.M r c p (104857600300+y.i) y.H y.a y.cc y.R
 live:RunP P (2+y.i) y.R
structure LkR where
 n:Nat
 M:Mem
 D:zgi
structure LkI (B:Mem) (P:Par) (evs:List EvX) (j:Nat) (y:LkR):Prop where
 n:y.n≤j
 le:B.le y.M
 doc:DocW y.M (zbz P.x0 (evs.take y.n)) y.D
 kn:y.D.kn≤y.n
set_option maxHeartbeats 2000000 in
set_option maxRecDepth 20000 in
theorem zBh (s:zj5) {la:Option Addr} {n lc:Nat} {l:List ziu} (hl:Elems M 8 la n (ActR M) l) (hn:n≤1048576) {ka:Option Addr} {kn kc:Nat} {keep:List Int} (hk:SrcOk M 1 ka kn (keep.map zaa)) (hkn:kn≤1048576) :
  CallsM Tryz.prog F.ze4 [.agg (zs4 s).toArray,.slice la n lc,.slice ka kn kc] M fun v M'=>v = .bool true∧M.le M':=by
 refine zlr (by simp) ?_;refine zR ?_;refine(zCh s).mono ?_;rintro v _ ⟨rfl,rfl⟩;refine zR ?_;refine(zCi s).mono ?_;rintro v M1 (⟨hno,rfl,hle1⟩|⟨hok,r,c,p,H,ra,rc,C,rfl,h1,hl1,hp1⟩)
 ·refine zR ?_;refine(zDu { s with limit:=1048576 }).mono ?_;rintro v _ ⟨rfl,rfl⟩;have hno2:¬okS { s with limit:=1048576 }:=hno
  (conv=>whnf);refine brn_t (by rw[decide_eq_false hno2];rfl) ?_;refine zR ?_;refine awake_ok.mono ?_;rintro v M2 ⟨rfl,hle2⟩;refine zR ?_;exact⟨rfl,Mem.le_trans hle1 hle2⟩
 refine zR ?_
 refine zEV (σ:=zzK) [8] (fun z=>[(8,.int .i64 z.i)]) (fun z=>z.M) (zFj (zfe s) M r c p n) (fun z=>40 - z.i) ⟨0,M1,H,ra,rc,⟨C,[bootX],1⟩⟩
  ⟨⟨by dsimp only;omega,by dsimp only;omega⟩,h1,.inl ⟨[],[bootX],1,hl1,rfl,by show (1:Int)≤1;decide⟩⟩ zS ?_
 rintro ⟨i,Mc,H,ra,rc,R⟩ ⟨⟨hi1,hi2⟩,hR,hL⟩;dsimp only at hi1 hi2 hR hL;have hpure:PureW R.C.X:=hR.cu.st.pure
 have hlen:=hL.len;(conv=>whnf);refine brn (fun e=>?_) (fun e=>?_);have hlt:i<n:=by have:=Zd0 e;dsimp only at this;omega
 refine zR ?_;refine brn (fun e=>?_) (fun e=>?_)
 ·have hlt2:i<40:=by have:=Zd0 e;dsimp only at this;omega
  obtain⟨hl1,xb,xo,xcs,hxa,hxr, -, -, hx⟩:=hl.at (by decide) hlt;generalize l[i]=x at hx;obtain⟨b1,d1,b2,m2,d2,rfl,hxx⟩:=hx.x;have hMc:=hR.cu.le
  refine zR ?_;refine ob (by first|omega|(dsimp only;omega)) ?_;(conv=>whnf);refine atp hxa ?_;(conv=>whnf);refine on (Mem.row_le hMc (hxr 0 8 (by decide))) ?_;refine zR ?_;refine(zEt hR (by omega) hxx (by omega) (by omega)).mono ?_;rintro v M2 ⟨rfl,H2,ra2,rc2,h2⟩;refine zR ?_;refine ob (zd (by first|omega|(dsimp only;omega))) ?_;(conv=>whnf)
  exact⟨⟨i+1,M2,H2,ra2,rc2,zfg R x⟩,⟨⟨by dsimp only;omega,by dsimp only;omega⟩,h2.more (by dsimp only;omega),hL.act (by omega) hpure hxx.n.2⟩,by dsimp only;omega,zS⟩
 all_goals (
 have hb:=hR.cu.base;have hbd:=hb.1.disk.base
 obtain⟨ld,j,E0,E1,q1,q2,m3,m4,m5,m6,m7⟩:=hL.open (by omega) keep hok.1 hok.2;refine zL (hR.self) ?_;refine(zx0 hbd.1 (hk.le (Mem.le_trans hb.2 hbd.2)) (by omega)).mono ?_;rintro v M4 ⟨es4,rfl,h4⟩;replace h4:=h4.mono hbd.2;have hs4:=(hR.self.minus hR.rc).le h4.le
 have hnm4:NamesC (zbK R.C.D keep):=NamesC.less hR.cu.nm ((CutD.crash hR.cu.disk.inv keep).nm hR.cu.disk.inv);obtain⟨O,hO⟩:∃ O,O=zbF (zbK R.C.D keep) s.me s.qh s.qb s.qg s.seg ld:=⟨_,rfl⟩
 have hO2:zbF (zbK R.C.D keep) (zfe s).me (zfe s).qh (zfe s).qb (zfe s).qg (zfe s).seg ld=O:=hO.symm;rw[hO2] at m4 m5 m7;refine zL (hs4) ?_;refine(zoa (ld:=ld) h4 hnm4 (me:=s.me) (qh:=s.qh) (qb:=s.qb) (qg:=s.qg) (seg:=s.seg) (fun _ _=>m3)).mono ?_;rw[←hO];rintro v M5 (⟨h, -⟩|⟨-, c3,H3,rfl,h5⟩)
 ·exact absurd m4 h
 have hs5:=(hR.self.minus hR.rc).le h5.le
 have hup:(Mc.minus (zlk r c p H)).le M5:=fun y o hy=>h5.le y o (by
  unfold Mem.minus at hy ⊢;by_cases hb:zlk r c p H y
  ·rw[if_pos hb] at hy;cases hy
  ·rw[if_neg hb] at hy
   rw[if_neg fun hc=>hb (.inr hc)];exact hy)
 have hel:=(hR.row.up hup).elems;have hM5:M.le M5:=Mem.le_trans hb.2 h5.le
 have hX:O.1.X=zb1 (zbz (zfe s).x0 (R.evs.take j)) bootX:=by rw[m5.X,m6,zfL];rfl
 have hev2:=m5.evs;refine zR ?_;refine(ztu s.me s.qh s.qb s.qg).mono ?_;rintro v _ (⟨hbad, -⟩|⟨-, rfl,rfl⟩)
 ·exact absurd hbad hok.1
 refine zR ?_
 refine za6 (σ:=LkR) [13] (fun z=>[(13,.int .i64 z.n)]) (fun z=>[.live T.zh2 [.v (.int .i64 s.me),.v (.int .i64 s.qh),.v (.int .i64 s.qb),.v (.int .i64 s.qg),.v (.int .i64 s.seg),.v (.int .i64 1048576)],.live T.zlX (zEJ (zbz (zfe s).x0 (R.evs.take z.n)).S z.D)]) (fun z=>z.M) (LkI M5 (zfe s) R.evs j) (fun z=>j - z.n) ⟨0,M5,⟨none,0,0,none,0,0,none,0,0⟩⟩
  ⟨Nat.zero_le _,Mem.le_refl _,DocW.new _ _ hok.1,Nat.le_refl _⟩ zS ?_
 rintro ⟨m,Mz,D⟩ ⟨hmj,hle,hD,hkz⟩;dsimp only at hmj hle hD hkz;have hsz:=hs5.le hle
 generalize hXn:zbz (zfe s).x0 (R.evs.take m)=Xn at hD;refine zL (hsz) ?_;(conv=>whnf);refine brn (fun e=>?_) (fun e=>?_)
 rotate_left
 ·have:=Zd1 e;dsimp only at this;omega
 refine zR ?_;refine(hD.apply (by omega) bootX (a:=none) (c:=0) (SrcOk.nil _ _) (by decide)).mono ?_;rintro v M6 ⟨D1,u1,rfl,hle6,hD1,hkn1⟩;have hs6:=hsz.le hle6
 refine zL (hs6) ?_;(conv=>whnf);refine brn (fun g=>?_) (fun g=>?_)
 ·have hg:R.safe≤(m:Int):=Zd0 g;refine zR ?_;refine(hD1.state (by omega)).mono ?_;rintro v M7 ⟨hle7,ua,un,uc,ha,hn2,hc,ma,mn,mc,ms,mk,rfl,hS1,hms,hmk⟩;refine zR ?_;refine(zs3 (h5.to (Mem.le_trans hle (Mem.le_trans hle6 hle7))) (by decide) (by omega)).mono ?_;rintro v M9 ⟨hle9,hS⟩;obtain⟨ua3,uc3,ha3,hc3,ms3,ma3,mc3,mk3,rfl,hS3, -, hms3,hmk3, -, -, -⟩:=hS.ex;refine zR ?_;refine(zuA _ _ _ _ (hS1.le hle9) hS3 _ _ _ _ _ _).mono ?_;rintro v _ ⟨rfl,t,rfl,ht⟩;replace hle7:=Mem.le_trans hle7 hle9;cases t
  ·(conv=>whnf)
   have hmj2:m<j:=by
    refine Nat.lt_of_le_of_ne hmj fun e=>?_
    subst e;rw[hXn] at hX;have:=ht (by rw[hX]) (by rw[hX]) (by rw[hX]) (by rw[hms,hms3,hX]) (by rw[hmk,hmk3,hX])
    cases this
   have hs7:=hs6.le hle7;have hmlt:m<R.evs.length:=by omega
   refine zL (hs7) ?_;(conv=>whnf);refine brn (fun e=>?_) (fun e=>?_)
   rotate_left
   ·have:=Zd1 e;dsimp only at this;omega
   obtain⟨hl1,xb,xo,xcs,hxa,hxr, -, -, hx⟩:=hel.at (by decide) hmlt;have htk:R.evs.take (m+1)=R.evs.take m++[R.evs[m]]:=by rw[List.take_add_one,List.getElem?_eq_getElem hmlt];rfl
   have hMz:=Mem.le_trans hle (Mem.le_trans hle6 hle7);generalize R.evs[m]=x at hx htk;obtain⟨a2,c2,rfl,hd,hdl⟩:=hx;refine zL (hs7) ?_;refine ob (by first|omega|(dsimp only;omega)) ?_;(conv=>whnf);refine atp hxa ?_;(conv=>whnf);refine on (Mem.row_le hMz (hxr 0 6 (by decide))) ?_;refine zR ?_;have hXm:zb1 Xn x=zbz (zfe s).x0 (R.evs.take (m+1)):=by rw[htk,zfL,hXn];rfl
   have hap:=(hD.le (Mem.le_trans hle6 hle7)).apply (by omega) x (c:=c2) (hd.le (Mem.le_trans hM5 hMz)) hdl;rw[hXm] at hap;refine hap.mono ?_;rintro v M8 ⟨D2,u2,rfl,hle8,hD2,hkn2⟩;refine zR ?_;refine ob (zd (by first|omega|(dsimp only;omega))) ?_;(conv=>whnf)
   exact⟨⟨m+1,M8,D2⟩,⟨by dsimp only;omega,Mem.le_trans hMz hle8,hD2,by dsimp only;omega⟩,by dsimp only;omega,zS⟩
  ·refine zR ?_;refine awake_ok.mono ?_;rintro v Mf ⟨rfl,hlef⟩;refine zR ?_;exact⟨rfl,Mem.le_trans hM5 (Mem.le_trans hle (Mem.le_trans hle6 (Mem.le_trans hle7 hlef)))⟩
 ·have hg:¬R.safe≤(m:Int):=Zd1 g;have hmj2:m<j:=by omega
  have hle7:M6.le M6:=Mem.le_refl _;(conv=>whnf)
  have hs7:=hs6.le hle7;have hmlt:m<R.evs.length:=by omega
  refine zL (hs7) ?_;(conv=>whnf);refine brn (fun e=>?_) (fun e=>?_)
  rotate_left
  ·have:=Zd1 e;dsimp only at this;omega
  obtain⟨hl1,xb,xo,xcs,hxa,hxr, -, -, hx⟩:=hel.at (by decide) hmlt;have htk:R.evs.take (m+1)=R.evs.take m++[R.evs[m]]:=by rw[List.take_add_one,List.getElem?_eq_getElem hmlt];rfl
  have hMz:=Mem.le_trans hle (Mem.le_trans hle6 hle7);generalize R.evs[m]=x at hx htk;obtain⟨a2,c2,rfl,hd,hdl⟩:=hx;refine zL (hs7) ?_;refine ob (by first|omega|(dsimp only;omega)) ?_;(conv=>whnf);refine atp hxa ?_;(conv=>whnf);refine on (Mem.row_le hMz (hxr 0 6 (by decide))) ?_;refine zR ?_;have hXm:zb1 Xn x=zbz (zfe s).x0 (R.evs.take (m+1)):=by rw[htk,zfL,hXn];rfl
  have hap:=(hD.le (Mem.le_trans hle6 hle7)).apply (by omega) x (c:=c2) (hd.le (Mem.le_trans hM5 hMz)) hdl;rw[hXm] at hap;refine hap.mono ?_;rintro v M8 ⟨D2,u2,rfl,hle8,hD2,hkn2⟩;refine zR ?_;refine ob (zd (by first|omega|(dsimp only;omega))) ?_;(conv=>whnf)
  exact⟨⟨m+1,M8,D2⟩,⟨by dsimp only;omega,Mem.le_trans hMz hle8,hD2,by dsimp only;omega⟩,by dsimp only;omega,zS⟩
 )
end
end Go.Proofs.YtpdkkbpkplhdpaaGreat
namespace Go.Proofs.YtpdkkbpkplhdpaaGreat.custodyLasts
open Go.ChangeShapes Go.WideShapes Go.ChangeAt Go.RowKit Go.Vm Go.Proofs.YtpdkkbpkplhdpaaGreat.Br
set_option linter.unusedVariables false
set_option maxRecDepth 100000
theorem contract (H:Type) (enc:TypeId×Value→H) (W:World) (base:Nat) (args:Array Value) (ds gs:List (DataW H)) (before:List MemPlace)
  (hval:∀ (j:Nat) t v,Tryz.f3.params[j]? = some t→args[j]? = some v→Value.okWide Tryz.prog W .any base t v)
  (hW:DataW.Whole enc Tryz.prog Tryz.f3.params.toList Rows.custodyLastsSpec.vars false W args.toList ds gs before) (hk:Rows.uptoSmall H (ds++gs)=true) :
  Calls Tryz.prog F.ze4 args W fun e W'=>∃ v,e = .returned v∧Rows.custodyLastsSpec.post enc Tryz.prog Tryz.f3 false true false false W args v W':=by
 refine zEC (s:=Rows.custodyLastsSpec) (fn:=Tryz.f3) (fun H ds h=>by match ds,h with|[d0,d1,d2],_=>exact⟨rfl,rfl,rfl⟩) rfl rfl (by kernel_rfl) H enc W args ds gs before hW ?_;obtain⟨p,q,hA,hV, -, -, -⟩:=hW;obtain⟨rfl,rfl⟩:=trodVars_none hV;have hb:=zED hk
 rw[Tryz.params3] at hA hval;obtain⟨v0,vs0,d0,ds0,p0,q0,hargs0,rfl,rfl,⟨n0,h0⟩,r0⟩:=trodAll_cons hA;obtain⟨v1,vs1,d1,ds1,p1,q1,hargs1,rfl,rfl,⟨n1,h1⟩,r1⟩:=trodAll_cons r0;obtain⟨v2,vs2,d2,ds2,p2,q2,hargs2,rfl,rfl,⟨n2,h2⟩,r2⟩:=trodAll_cons r1;obtain⟨rfl,rfl,rfl⟩:=trodAll_nil r2;subst hargs2;subst hargs1;obtain rfl:args = #[v0,v1,v2]:=by cases args;simp_all
 obtain⟨-, s,hs⟩:=zDr H enc W _ _ _ _ h0 (hb _ (by simp));have hv0:=hval 0 _ v0 rfl rfl
 have hw:=zyE Tryz.underlying25 hv0;rw[hs] at hw;subst hw;obtain⟨-, L,la,ln,lc,hcs,hl,hln,hlc⟩:=zCb H enc W _ _ _ _ h1 (hb _ (by simp));have hv1:=hval 1 _ v1 rfl rfl
 obtain rfl:=zu6 Tryz.underlying26 rfl hv1 hcs;obtain⟨-, K,ka,kn,kc,hkcs,hks,hkn,hkc⟩:=zyd H enc W _ _ _ _ h2 (hb _ (by simp));have hv2:=hval 2 _ v2 rfl rfl
 obtain rfl:=zu6 Tryz.underlying27 rfl hv2 hkcs;exact zBh s hl hln hks hkn
set_option maxRecDepth 100000 in
theorem lifted (os:Os) (started:os.Started) (H:Type) (enc:TypeId×Value→H) (F:Stop.Interp) :
  ReturnsInHanded {} Tryz.checked os 3 .any ((Rows.OpenSpec.upto Rows.custodyLastsSpec).pre6 enc Tryz.prog Tryz.f3 Rows.custodyLastsUptoRow.domain false) (((Rows.OpenSpec.upto Rows.custodyLastsSpec).at F).post enc Tryz.prog Tryz.f3 false true false false):=by
 refine returnsInHanded_of_cond (C:=Tryz.checked) (s:=Rows.OpenSpec.upto Rows.custodyLastsSpec) (k:=Rows.uptoSmall) rfl own started (by kernel_rfl) Tryz.func3
  (OpenSpec.witness (enc:=enc) (C:=Tryz.checked) (s:=Rows.OpenSpec.upto Rows.custodyLastsSpec) (k:=Rows.uptoSmall) rfl false ⟨#[], #[.agg #[.int .i64 0,.int .i64 0,.int .i64 0,.int .i64 0,.int .i64 0,.int .i64 0],.slice none 0 0,.slice none 0 0],[]⟩ 12 (by kernel_rfl) (by kernel_rfl) (by kernel_rfl)
   (x:=([.agg [.lit (.int .i64 0),.agg [.lit (.int .i64 0),.lit (.int .i64 0),.lit (.int .i64 0)],.lit (.int .i64 0),.lit (.int .i64 0)],.nil,.nil],[],[])) (by kernel_rfl) rfl (by kernel_rfl)) ?_
 intro W base args ds gs before hval hW _ hk _;exact contract H enc W base args ds gs before hval hW hk
theorem over:Rows.custodyLastsUptoRow.holds Tryz.pinned (Rows.OpenSpec.upto Rows.custodyLastsSpec):=
 OpenClaim.holds_of_cond 3 Tryz.f3 rfl rfl rfl rfl rfl rfl rfl ⟨rfl,rfl,rfl,rfl,rfl⟩ rfl rfl rfl rfl rfl (by kernel_rfl) Tryz.func3 (by kernel_rfl)
  (Zd0 (by kernel_rfl)) (by unfold Func.isWrapper;first|(rw[if_pos (by decide +kernel)];kernel_rfl)|(rw[if_neg (by decide +kernel)];exact⟨rfl,rfl⟩))
  (fun os started H enc _ F=>lifted os started H enc F)
theorem proved:Rows.CustodyLastsUptoSaid:=
 over
end Go.Proofs.YtpdkkbpkplhdpaaGreat.custodyLasts
