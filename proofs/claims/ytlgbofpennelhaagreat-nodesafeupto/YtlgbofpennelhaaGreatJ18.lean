/- Part. -/
import Derived.Test.YtlgbofpennelhaaGreatJ17
set_option linter.all false
set_option maxHeartbeats 0
namespace Go.Proofs.YtlgbofpennelhaaGreat
open Go Go.Vm
attribute [local irreducible] Brn Ob Grow CallsM inR zX zI Mem.row Mem.cells Mem.setCells Mem.upd Go.Vm.Own zac zar zas zab New SrcOk subA NewSl Mem.textAt Mem.mapAt Mem.iterAt zH zF Wr NewEls Elems zdm zeZ zgg zeD zeE
set_option maxRecDepth 10000
variable {B0 M0 B M B' M':Mem} {S0:Nat→Prop} {R:List Pt} {ps:List Pt}
def zb0 (k:Int) (X:NodX) (p:List UInt8):NodX:=if X.C.w.failed=true then X else zgR X k p
def zfc (X:NodX) (k:Int) (c:zb9):NodX:=X.setSd k { X.sd k with L:={ zdZ (X.sd k).L c with inn:=[] } }
def zez (k:Int) (X:NodX) (l:List UInt8):NodX:=match zc8 l with
 | none=>{ X with bad:=inc X.bad }
 | some c=>(zdZ (X.sd k).L c).inn.foldl (zb0 k) (zfc X k c)
def zgY (X:NodX) (k:Int) (p:List UInt8):NodX:=X.setSd k { X.sd k with hunts:=(za6 (X.sd k).D p).hunts,inn:=(za6 (X.sd k).D p).inn }
def zdW (X:NodX) (k:Int) (p:List UInt8):NodX:=(za6 (X.sd k).D p).told.foldl (zez k) (zgY X k p)
def zav (X:NodX) (k:Int) (p:List UInt8):NodX×Int:=if X.C.w.failed=true then (X,9) else if k∈X.nb then (zO (zdW X k p),zit (zO (zdW X k p))) else (X,4)
theorem zEg {l:List UInt8} {c:zb9} (h:zc8 l=some c):zdi c=0:=by
 unfold zc8 at h;split at h
 ·cases h
 split at h
 ·cases h
 split at h
 ·cases h
 split at h
 ·simp_all
 ·cases h
theorem zAn (X:zdG) (b:UInt8):∀ t∈(zbY X b).told,t∈X.told∨t.length≤130:=by
 intro t ht;unfold zbY at ht;split at ht
 ·dsimp only at ht;split at ht
  ·unfold zgm at ht;split at ht
   ·simp_all
   ·grind
  ·simp_all
 ·grind
theorem zsh:∀ (l:List UInt8) (X:zdG),(∀ t∈X.told,t.length≤130)→∀ t∈(za6 X l).told,t.length≤130
 | [],X,h=>h
 | b::r,X,h=>zsh r (zbY X b) fun t ht=>(zAn X b t ht).elim (h t) id
theorem zt4:∀ (l:List UInt8) (X:zdG),X.inn.length≤260→(za6 X l).told.length≤X.told.length+l.length
 | [],X,h=>Yd _
 | b::r,X,h=>by
  have h1:=zoc X b h;have:=zt4 r (zbY X b) h1.1
  show (za6 (zbY X b) r).told.length≤_;simp only[Ym];omega
structure FarB (X Y:NodX) (u b:Nat):Prop where
 nb:Y.nb=X.nb
 told:Y.told.length≤X.told.length+u
 sd:∀ j,(Y.sd j).L.out.length≤(X.sd j).L.out.length+b∧(Y.sd j).L.inn=(X.sd j).L.inn∧(Y.sd j).out=(X.sd j).out
theorem FarB.refl (X:NodX):FarB X X 0 0:=⟨rfl,Yd _,fun _=>⟨Yd _,rfl,rfl⟩⟩
theorem FarB.trans {X Y Z:NodX} {u b u' b':Nat} (h:FarB X Y u b) (h':FarB Y Z u' b'):FarB X Z (u+u') (b+b'):=
 ⟨h'.nb.trans h.nb,by have:=h.told;have:=h'.told;omega,fun j=>⟨by have:=(h.sd j).1;have:=(h'.sd j).1;omega,(h'.sd j).2.1.trans (h.sd j).2.1,(h'.sd j).2.2.trans (h.sd j).2.2⟩⟩
theorem FarB.more {X Y:NodX} {u b u' b':Nat} (h:FarB X Y u b) (hu:u≤u') (hb:b≤b'):FarB X Y u' b':=⟨h.nb,Yn h.told oM,fun j=>⟨Yn (h.sd j).1 oM,(h.sd j).2⟩⟩
theorem zGG (X:NodX) (k:Int) (p:List UInt8):FarB X (zb0 k X p) 1 65:=by
 unfold zb0;split
 ·exact(FarB.refl X).more oM oM
 ·have:=zGF X k p;exact⟨this.nb,this.told,this.sd⟩
theorem za9 (X:NodX) (k:Int) (s:SideR):(X.setSd k s).sd k=s:=by unfold NodX.setSd;dsimp only;rw[if_pos rfl]
theorem zoz (X:NodX) (k:Int) (s s':SideR):(X.setSd k s).setSd k s'=X.setSd k s':=by
 unfold NodX.setSd;dsimp only;congr 1;funext j;split<;>rfl
section
variable {P:NP} {X:NodX} {k:Int}
theorem zwB (h:NodeAt B0 M0 S0 B M P X R) (hN:P.N+8500000≤4611686018427387904) (hK:P.K+8500000≤999999999000) (ht:X.told.length+8500000≤1000000000000) {q:Nat} (hr:zmK X q) (hq:q≤10000000000000) {a:Option Addr} {c:Nat} {l:List UInt8} (hl:SrcOk B 1 a l.length (l.map zc)) (hn:l.length≤65536) :
  CallsM Tryz.prog 66 [ptr P.n,.int .i64 k,.slice a l.length c] M fun v M'=>v = .int .i64 (zav X k l).2∧NTo B0 M0 S0 B M' P (zav X k l).1 R 8500000 8500256:=by
 refine zlH oS ?_;refine zJ (zkn h) ?_;unfold zit;cases hf:X.C.w.failed
 rotate_left
 ·have e:zav X k l=(X,9):=by unfold zav;rw[if_pos hf]
  refine zR ?_;rw[e];exact⟨rfl,B,P,Ya _,NP.same.refl P oM,h⟩
 refine zW h.self ?_;by_cases hk:k∈X.nb
 rotate_left
 ·have e:zav X k l=(X,4):=by unfold zav;rw[if_neg (by rw[hf];decide),if_neg hk]
  refine h.map.get zc2 k (fun g=>?_) (fun y j g=>?_)
  ·refine zR ?_;rw[e];exact⟨rfl,B,P,Ya _,NP.same.refl P oM,h⟩
  ·rw[h.inv.get_no hk] at g;cases g
 have e:zav X k l=(zO (zdW X k l),zit (zO (zdW X k l))):=by unfold zav;rw[if_neg (by rw[hf];decide),if_pos hk]
 refine h.map.get zc2 k (fun g=>?_) (fun y j g=>?_)
 ·rw[h.inv.get hk] at g;cases g
 rw[h.inv.get hk] at g;cases g;refine zW ((h.scell hk)) ?_;obtain⟨ts,hd,hR,hil⟩:=decP.opn ((h.opn hk).part 2 rfl);refine(zzI hd hR hil rfl hl oM).mono ?_;rintro v M1 ⟨qt,ct,B1,q1,vs,rfl,hb1,hvs,hbr,h1⟩;have h2:At B M (sdD P X k) B1 M1 (zeO { P.sp k with q:=q1 } { X.sd k with hunts:=(za6 (X.sd k).D l).hunts,inn:=(za6 (X.sd k).D l).inn }):=(h.opn hk).call 2 rfl (decP.cls h1 Yds (ztJ l _ hil))
 have h3:NodeAt B0 M0 S0 B1 M1 (P.setSp k { P.sp k with q:=q1 }) (zgY X k l) R:=h.cls hk h2 rfl;obtain⟨cs,hcs⟩:=oI ((za6 (X.sd k).D l).told);have hr1:zdW X k l=cs.foldl (zez k) (zgY X k l):=by rw[hcs];rfl
 have hcn:cs.length≤65536:=by rw[hcs];have:=zt4 l (X.sd k).D hil;simp at this;omega
 have hcl:∀ t∈cs,t.length≤130:=by rw[hcs];exact zsh l _ (fun t ht=>by cases ht)
 have hfb:FarB X (zgY X k l) 0 0:=⟨rfl,Yd _,fun j=>by
  unfold zgY NodX.setSd;dsimp only;split
  ·simp_all
  ·simp⟩
 rw[←hcs] at hvs hbr ⊢;have hvl:vs.length=cs.length:=hbr.1
 let Y (j:Nat):NodX:=(cs.take j).foldl (zez k) (zgY X k l)
 have hY:∀ j (hj:j<cs.length),Y (j+1)=zez k (Y j) cs[j]:=fun j hj=>by
  simp only[Y,Yz,Yb hj,Ya2];rfl
 refine zR ?_
 refine zan (σ:=Nat×Mem×Mem×NP) [35] (fun y=>[(35,.int .i64 y.1)]) (fun _=>[]) (fun y=>y.2.1)
  (fun|⟨j,Mc,Bc,Pc⟩=>j≤cs.length∧NodeAt B0 M0 S0 Bc Mc Pc (Y j) R∧B1.le Bc∧P.same Pc ((129*j:Nat):Int) (129*j)∧FarB X (Y j) (129*j) (8600*j)) (fun y=>cs.length - y.1)
  ⟨0,M1,B1,P.setSp k { P.sp k with q:=q1 }⟩ ⟨Y6 _,h3,Ya _,NP.same.set P k (x':={ P.sp k with q:=q1 }) rfl oM,hfb⟩ zS ?_
 rintro ⟨j,Mc,Bc,Pc⟩ ⟨hj,hc,hbc,hsm,hfar⟩;have hself:Mc.has P.n 96 (zdw Pc (Y j)):=by rw[←hsm.n];exact hc.self
 have hkm:k∈(Y j).nb:=by rw[hfar.nb];exact hk
 refine brn (fun g=>?_) (fun g=>?_)
 ·have hlt:j<cs.length:=by have:=Zd0 g;dsimp only at this;omega
  have hYj:=hY j hlt;obtain⟨t,htt⟩:=oI (cs[j]);rw[←htt] at hYj;have htm:t∈cs:=by rw[htt];exact Yab hlt
  obtain⟨v,hv⟩:∃ v,vs[j]? = some v:=⟨vs[j]'oM,Yb oM⟩
  obtain⟨qe,ce,rfl,hce,hrow⟩:=hbr.2 j v t hv (by rw[htt,Yb hlt]);obtain⟨b2,o2,e2,hr2⟩:=((hvs.le hbc).le hc.le).get hv;have htl:=hcl t htm
  have hsc:Mc.has (P.sp k).s 114 (zis (Pc.sp k) ((Y j).sd k)):=by rw[←hsm.s k];exact hc.scell hkm
  refine ob (by omega) ?_;refine atp e2 ?_;refine zR ?_;refine on hr2 ?_;refine zM (zBF ((hrow.le hbc).le hc.le) hce oM) ?_;rintro v M2 (⟨hg,rfl,hle2⟩|⟨x,qx,cx,hg,rfl,hN2⟩)
  ·have h4:=hc.up hle2;have e4:zez k (Y j) t={ Y j with bad:=inc (Y j).bad }:=by unfold zez;rw[hg]
   refine zR ?_;have hs4:M2.has P.n 96 (zdw Pc (Y j)):=by rw[←hsm.n];exact h4.self
   refine zW hs4 ?_;refine obw ?_;refine zR ?_;have hat:=h4.at'
   unfold zgQ at hat;rw[hsm.n] at hat;refine hat.stoV 0 rfl oS fun M3 h5=>?_
   have h6:NodeAt B0 M0 S0 Bc M3 Pc (Y (j+1)) R:=by
    rw[hYj,e4];refine⟨?_,hc.inv.nbs,hc.inv.len,hc.inv.key,hc.inv.val⟩;unfold zgQ;rw[hsm.n];exact h5.c (by rfl)
   refine zR ?_;refine obr (inR_i64 (by omega)) ?_;refine⟨⟨j+1,M3,Bc,Pc⟩,⟨hlt,h6,hbc,hsm.more oM oM,?_⟩,by omega,zS⟩;rw[hYj,e4];have:FarB (Y j) { Y j with bad:=inc (Y j).bad } 0 0:=⟨rfl,Yd _,fun _=>⟨Yd _,rfl,rfl⟩⟩
   exact(hfar.trans this).more oM oM
  obtain⟨B2,eB2⟩:=oI (newB Bc Mc M2);have hB2:Bc.le B2:=by rw[eB2];exact zeH hc.le
  have h4:NodeAt B0 M0 S0 B2 M2 Pc (Y j) R:=by rw[eB2];exact hc.upN hN2.le
  have hxo:(⟨x,qx,cx⟩:CtlX).ok B2:=⟨by rw[eB2];exact zc6 hN2.src fun r hr=>(hN2.block hr).1,(newSl_iff.1 hN2).2.2.1⟩
  have hce0:=zEg hg;have hsd:=hfar.sd k
  obtain⟨r1,r2,r3⟩:=hr k hk;rw[r1,r2] at hsd;have hlk:=zfT (h4.opn hkm)
  have hs4:M2.has (P.sp k).s 114 (zis (Pc.sp k) ((Y j).sd k)):=by rw[←hsm.s k];exact h4.scell hkm
  refine zW hs4 ?_;refine(zuv hlk ⟨x,qx,cx⟩ hxo (by grind) (by simp_all)).mono ?_;rintro v M3 ⟨rfl,h5⟩;rw[if_pos hce0] at h5;obtain⟨B5,P5,hb5,hs5,h6⟩:=h4.lnk hkm h5;have hrb:=zGE ((Y j).sd k).L x hlk.kept hlk.short
  have hkm6:k∈((Y j).setSd k { (Y j).sd k with L:=zdZ ((Y j).sd k).L x }).nb:=hkm;have hss5:(P5.sp k).s=(P.sp k).s:=(hs5.s k).trans (hsm.s k)
  have hs6:M3.has (P.sp k).s 114 (zis (P5.sp k) (((Y j).setSd k { (Y j).sd k with L:=zdZ ((Y j).sd k).L x }).sd k)):=by rw[←hss5];exact h6.scell hkm6
  rw[hce0];refine zW hs6 ?_;refine(zDm (zfT (h6.opn hkm6))).mono ?_;rintro v M7 ⟨B7,q7,c7,ws,p7,rfl,hb7,hws,hbw,h7⟩;have h8:=(h6.opn hkm6).call 1 rfl h7.cls
  rw[za9] at hws hbw ⊢;obtain⟨pl,hpl⟩:=oI ((zdZ ((Y j).sd k).L x).inn);have hrc:zez k (Y j) t=pl.foldl (zb0 k) (zfc (Y j) k x):=by unfold zez;rw[hg,hpl]
  have h9:NodeAt B0 M0 S0 B7 M7 (P5.setSp k { P5.sp k with p:=p7 }) (zfc (Y j) k x) R:=by
   have h10:=h6.cls hkm6 (x':={ P5.sp k with p:=p7 }) (s':={ (Y j).sd k with L:={ zdZ ((Y j).sd k).L x with inn:=[] } }) (h8.c (by rw[za9];rfl)) rfl;rw[zoz] at h10;exact h10
  have hsm9:P.same (P5.setSp k { P5.sp k with p:=p7 }) ((129*j:Nat):Int) (129*j):=by
   have:=(hsm.trans hs5).trans (NP.same.set P5 k (x':={ P5.sp k with p:=p7 }) rfl (a:=0) (b:=0) oM);simpa using this
  have hfg:FarB (Y j) (zfc (Y j) k x) 0 200:=⟨rfl,Yd _,fun i=>by
   unfold zfc NodX.setSd;dsimp only;split
   ·rename_i e5;rw[e5];exact⟨hrb.out,by rw[hsd.2.1],rfl⟩
   ·simp⟩
  have hpn:pl.length≤129:=by have:=hrb.inn;rw[hsd.2.1] at this;rw[hpl];simpa using this
  have hps:∀ p∈pl,p.length≤121:=fun p hp=>by
   rcases hrb.short p (by simp_all) with h1|h1
   ·simp_all
   ·exact h1
  rw[←hpl] at hws hbw ⊢;have hwl:ws.length=pl.length:=hbw.1
  refine zR ?_
  refine zan (σ:=Nat×Mem×Mem×NP) [65] (fun y=>[(65,.int .i64 y.1)]) (fun _=>[]) (fun y=>y.2.1)
   (fun|⟨i,Me,Be,Pe⟩=>i≤pl.length∧NodeAt B0 M0 S0 Be Me Pe ((pl.take i).foldl (zb0 k) (zfc (Y j) k x)) R∧B7.le Be∧P.same Pe ((129*j+i:Nat):Int) (129*j+i)∧FarB X ((pl.take i).foldl (zb0 k) (zfc (Y j) k x)) (129*j+i) (8600*j+200+65*i)) (fun y=>pl.length - y.1)
   ⟨0,M7,B7,P5.setSp k { P5.sp k with p:=p7 }⟩ ⟨Y6 _,h9,Ya _,hsm9,(hfar.trans hfg).more oM oM⟩ zS ?_
  rintro ⟨i,Me,Be,Pe⟩ ⟨hi,he,hbe,hsme,hfe⟩;obtain⟨W,hW⟩:=oI ((pl.take i).foldl (zb0 k) (zfc (Y j) k x));rw[←hW] at he hfe;have hselfe:Me.has P.n 96 (zdw Pe W):=by rw[←hsme.n];exact he.self
  have hCe:CuAt Be Me Pe.c Pe.p Pe.N Pe.H W.C:=he.at'.part 2 rfl;have hke:k∈W.nb:=by rw[hfe.nb];exact hk
  refine brn (fun g=>?_) (fun g=>?_)
  ·have hlt2:i<pl.length:=by have:=Zd0 g;dsimp only at this;omega
   have hW1:(pl.take (i+1)).foldl (zb0 k) (zfc (Y j) k x)=zb0 k W pl[i]:=by
    rw[hW,Yz,Yb hlt2,Ya2];rfl
   obtain⟨pp,hpp⟩:=oI (pl[i]);rw[←hpp] at hW1;have hppl:=hps pp (by simp_all)
   obtain⟨v,hv⟩:∃ v,ws[i]? = some v:=⟨ws[i]'oM,Yb oM⟩
   obtain⟨qw,cw,rfl,hcw,hroww⟩:=hbw.2 i v pp hv (by simp_all);obtain⟨b3,o3,e3,hr3⟩:=((hws.le hbe).le he.le).get hv;have hwb:=zGG W k pp
   refine ob (by omega) ?_;refine atp e3 ?_;refine zR ?_;refine on hr3 ?_;refine zW hselfe ?_;refine zJ (zes hCe) ?_;cases hfw:W.C.w.failed with
   | true=>
    have e5:zb0 k W pp=W:=by unfold zb0;rw[if_pos hfw]
    refine zR ?_;refine obr (inR_i64 (by omega)) ?_;refine⟨⟨i+1,Me,Be,Pe⟩,⟨hlt2,by simp_all,hbe,hsme.more oM oM,by rw[hW1,e5];exact hfe.more oM oM⟩,by omega,zS⟩
   | false=>
    have e5:zb0 k W pp=zgR W k pp:=by unfold zb0;rw[if_neg (by rw[hfw];decide)]
    have hfk:=hfe.sd k;rw[r1] at hfk;have hNe:=hsme.N
    have hw:=zGD (c:=cw) he hke oM (by have:=hfe.told;omega) (by grind) (hroww.le hbe) hcw oM;rw[hsme.n] at hw;refine zR ?_;refine hw.mono ?_;rintro v M9 ⟨rfl,B9,P9,hb9,hs9,h10⟩;refine zR ?_;refine obr (inR_i64 (by omega)) ?_;exact⟨⟨i+1,M9,B9,P9⟩,⟨hlt2,by simp_all,Yc hbe hb9,(hsme.trans hs9).more oM oM,by rw[hW1];exact(hfe.trans hwb).more oM oM⟩,by omega,zS⟩
  have hge:i=pl.length:=by have:=Zd1 g;dsimp only at this;omega
  subst hge;rw[Yai,←hrc,←hYj] at hW;rw[hW] at he hfe;refine zR ?_;refine obr (inR_i64 (by omega)) ?_;exact⟨⟨j+1,Me,Be,Pe⟩,⟨hlt,he,Yc hbc (Yc hB2 (Yc hb5 (Yc hb7 hbe))),hsme.more oM oM,hfe.more oM oM⟩,by omega,zS⟩
 have hge:j=cs.length:=by have:=Zd1 g;dsimp only at this;omega
 subst hge;have eY:Y cs.length=zdW X k l:=by rw[hr1];simp only[Y];rw[Yai]
 rw[eY] at hc hfar;have hNc:=hsm.N
 have hKc:=hsm.K
 have hwk:=zmJ hc oM oM fun i hi=>by
  obtain⟨f1,f2,f3⟩:=hfar.sd i;obtain⟨s1,s2,s3⟩:=hr i (by rw[←hfar.nb];exact hi);rw[s1] at f1;rw[f3];simp at f1;omega
 rw[hsm.n] at hwk;refine zR ?_;refine hwk.mono ?_;rintro v M8 ⟨rfl,B8,P8,hb8,hs8,h8⟩;have hrd:=zkn h8
 rw[(hsm.trans hs8).n] at hrd;refine zR ?_;refine hrd.mono ?_;rintro v _ ⟨rfl,rfl⟩;refine zR ?_;rw[e];exact⟨rfl,B8,P8,Yc hb1 (Yc hbc hb8),(hsm.trans hs8).more oM oM,h8⟩
end
end Go.Proofs.YtlgbofpennelhaaGreat
namespace Go.Proofs.YtlgbofpennelhaaGreat
set_option linter.unusedSimpArgs false
open Go Go.Vm
attribute [local irreducible] Brn Ob Grow CallsM inR zX zI Mem.row Mem.cells Mem.setCells Mem.upd Go.Vm.Own zac zar zas zab New SrcOk subA NewSl Mem.textAt Mem.mapAt Mem.iterAt zH zF Wr NewEls Elems zdm zeZ zgg zeD zeE
set_option maxRecDepth 10000
variable {B0 M0 B M B' M':Mem} {S0:Nat→Prop} {R:List Pt} {ps:List Pt}
def okN (x a b:Int):Bool:=decide (a≤x∧x≤b)
theorem zCr (x a b:Int):okN x a b=(decide (x≥a)&&decide (x≤b)):=by unfold okN;simp
theorem zjM (x a b:Int):CallsM Tryz.prog 80 [.int .i64 x,.int .i64 a,.int .i64 b] M fun v M'=>v = .bool (okN x a b)∧M=M':=by
 refine zze oS ?_;refine brn (fun h=>?_) (fun h=>?_)
 all_goals (conv=>whnf)
 ·exact⟨by rw[zCr];have:=Zd0 h;simp_all,rfl⟩
 ·exact⟨by rw[zCr];have:=Zd1 h;simp_all;omega,rfl⟩
def okS (S:ziJ):Bool:=okN S.disk 1 1048576&&(okN S.seg 16 1048576&&(okN S.win 1 63&&(okN S.timer 1 64&&(okN S.tries 1 64&&(okN S.wait 1 64&&okN S.delay 0 64)))))
def zgZ (S:ziJ):Int:=if zcE 0 S.qh S.qb S.qg then 1 else if okS S=true then 0 else 1
@[reducible] def zuT (S:ziJ):Value := .agg #[.int .i64 S.qh,.int .i64 S.qb,.int .i64 S.qg,.int .i64 S.disk,.int .i64 S.seg,.int .i64 S.win,.int .i64 S.timer,.int .i64 S.tries,.int .i64 S.wait,.int .i64 S.delay]
theorem zCs (S:ziJ):CallsM Tryz.prog 38 [zuT S] M fun v M'=>v = .int .i64 (zgZ S)∧M.le M':=by
 refine zun oS ?_;refine zM (zFt 0 S.qh S.qb S.qg) ?_;rintro v M1 (⟨hb,rfl,rfl⟩|⟨hb,h,rfl,hw,_⟩)
 ·refine zR ?_;exact⟨by unfold zgZ;rw[if_pos hb],Ya _⟩
 have hle:=hw.st.le;have e0:zgZ S=if okS S=true then 0 else 1:=by unfold zgZ;rw[if_neg hb]
 rw[e0];clear hw e0 hb;refine zJ (zjM _ _ _) ?_;refine brn (fun g=>?_) (fun g=>?_)
 ·(conv=>whnf);have e:okS S=false:=by simp_all [okS]
  refine zR ?_;exact⟨by rw[e];rfl,hle⟩
 refine zJ (zjM _ _ _) ?_;refine brn (fun g=>?_) (fun g=>?_)
 ·(conv=>whnf);have e:okS S=false:=by simp_all [okS]
  refine zR ?_;exact⟨by rw[e];rfl,hle⟩
 refine zJ (zjM _ _ _) ?_;refine brn (fun g=>?_) (fun g=>?_)
 ·(conv=>whnf);have e:okS S=false:=by simp_all [okS]
  refine zR ?_;exact⟨by rw[e];rfl,hle⟩
 refine zJ (zjM _ _ _) ?_;refine brn (fun g=>?_) (fun g=>?_)
 ·(conv=>whnf);have e:okS S=false:=by simp_all [okS]
  refine zR ?_;exact⟨by rw[e];rfl,hle⟩
 refine zJ (zjM _ _ _) ?_;refine brn (fun g=>?_) (fun g=>?_)
 ·(conv=>whnf);have e:okS S=false:=by simp_all [okS]
  refine zR ?_;exact⟨by rw[e];rfl,hle⟩
 refine zJ (zjM _ _ _) ?_;refine brn (fun g=>?_) (fun g=>?_)
 ·(conv=>whnf);have e:okS S=false:=by simp_all [okS]
  refine zR ?_;exact⟨by rw[e];rfl,hle⟩
 refine zJ (zjM _ _ _) ?_;refine brn (fun g=>?_) (fun g=>?_)
 ·(conv=>whnf);have e:okS S=false:=by simp_all [okS]
  refine zR ?_;exact⟨by rw[e];rfl,hle⟩
 have e:okS S=true:=by simp_all [okS]
 refine zR ?_;exact⟨by rw[e];rfl,hle⟩
def zfE (p b:Nat) (es:FsT) (D:ze):Pt:=⟨zao p b es,fun B M=>FreshD B M p b D es,fun h hy=>h.at'.full hy,fun h hy=>h.fresh _ hy,fun {B M B' M'} h hB hle hs=>⟨hle,h.at'.mono fun y o hy ho=>by simp_all,h.rel,h.inv,fun y hy=>(hs y hy).2⟩⟩
theorem zEh (h:At B0 M0 S0 B M ps) (i:Nat) {p b:Nat} {es:FsT} {D:ze} (hi:ps[i]? = some (zfE p b es D)) {c:Nat} {N:Int} {H:CuH} {C:CuR} (h':CuAt (M.minus (zao p b es)) M' c p N H C):At B0 M0 S0 B M' (rpl ps i [zc1 c p N H C]):=by
 have h0:FreshD B M p b D es:=h.part i hi;have hB:=h0.base.2
 have h2:CuAt B M' c p N H C:=h'.mono hB;refine h.call i hi (At.of (p:=zc1 c p N H C) h2 h2.le ⟨Ya _,Ycd.2 h'.le,fun _ h => .inl h,fun y hy=>?_⟩);have h3:=h'.fresh hy
 unfold Mem.minus at h3;split at h3
 ·exact .inl (by assumption)
 ·simp_all
def zbz (P:NP) (X:NodX):Pt:=⟨zc5 (zgQ P X++zfS P X),fun B M=>Sep B M (zgQ P X++zfS P X)∧NodI P X,fun ⟨h,_⟩ hy=>(comp _).live h hy,fun ⟨h,_⟩ hy=>(comp _).off h hy,fun ⟨h,hI⟩ hB hle hs=>⟨(comp _).stay h hB hle hs,hI⟩⟩
theorem zCt {P:NP} {X:NodX} (h:(zbz P X).ok B M):NodeAt B M (zbz P X).d B M P X []:=by
 obtain⟨h1,h2⟩:=h;refine⟨?_,h2⟩;rw[Ys];exact Sep.at h1
theorem zg9 {P:NP} {X:NodX} (h:NodeAt B0 M0 S0 B M P X []):At B0 M0 S0 B M [zbz P X]:=by
 have h1:=h.at';rw[Ys] at h1;exact At.of ⟨h1.sep,h.inv⟩ h1.le h1.tn
end Go.Proofs.YtlgbofpennelhaaGreat
namespace Go.Proofs.YtlgbofpennelhaaGreat
open Go Go.Vm
attribute [local irreducible] Brn Ob Grow CallsM inR zX zI Mem.row Mem.cells Mem.setCells Mem.upd Go.Vm.Own zac zar zas zab New SrcOk subA NewSl Mem.textAt Mem.mapAt Mem.iterAt zH zF Wr NewEls Elems zdm zeZ zgg zeD zeE
set_option maxRecDepth 10000
section
variable {B0 M0 B M B' M':Mem} {S0:Nat→Prop} {R:List Pt} {ps qs:List Pt}
theorem zyC (h:At B0 M0 S0 B M ps) {p:Pt} (h':At B M (fun _=>False) B M' [p]):At B0 M0 S0 B M' (ps++[p]):=by
 obtain⟨h1,t⟩:=h'.one;exact h.more (fun y o ho=>t.keep y o (fun h=>h) ho) h1 fun y hy=>(t.sup y hy).elim (fun h=>h.elim) id
theorem zEi (h:At B0 M0 S0 B M (ps++qs)):At B0 M0 S0 B M (ps++[comp qs]):=by
 have hd:=h.dj;rw[Yau] at hd;refine⟨h.le,fun p hp=>?_,?_,?_⟩
 ·rcases Yt.1 hp with hp|hp
  ·exact h.ok p (Ybe _ hp)
  ·rw[Yx.1 hp];exact⟨h.le,fun q hq=>h.ok q (Ydb _ hq),hd.2.1⟩
 ·rw[Yau];refine⟨hd.1,Yav .., fun a ha b hb y hy hb'=>?_⟩;rw[Yx.1 hb] at hb';obtain⟨q,hq,hy'⟩:=hb';exact hd.2.2 a ha q hq y hy hy'
 ·have e:zc5 (ps++[comp qs])=zc5 (ps++qs):=by
   funext y;refine propext ⟨fun ⟨p,hp,hy⟩=>?_,fun ⟨p,hp,hy⟩=>?_⟩
   ·rcases Yt.1 hp with hp|hp
    ·exact⟨p,Ybe _ hp,hy⟩
    ·rw[Yx.1 hp] at hy;obtain⟨q,hq,hy⟩:=hy;exact⟨q,Ydb _ hq,hy⟩
   ·rcases Yt.1 hp with hp|hp
    ·exact⟨p,Ybe _ hp,hy⟩
    ·exact⟨comp qs,by simp,⟨p,hp,hy⟩⟩
  rw[e];exact h.tn
def DQ0:DQ:=⟨none,0,none,0,(0,0,0,0,0)⟩
theorem zCu (hB:B.le M):CallsM Tryz.prog 42 [] M fun v M'=>∃ d,v=ptr d∧At B M (fun _=>False) B M' [decP d DQ0 ⟨true,[],[]⟩]:=by
 refine zw7 oS ?_;have h0:At B M (fun _=>False) B M []:=⟨hB,fun p hp=>(by cases hp),List.Pairwise.nil,⟨Ya _,Yaq _ _,fun _ h => .inl h,fun y ⟨p,hp,_⟩=>by cases hp⟩⟩
 refine zR ?_;refine h0.newV fun d M1 h1=>?_
 refine zR ?_;have h2:=(h1.row0 5 1).row0 37 1
 exact⟨d,rfl,decP.cls (p:=DQ0) (X:=⟨true,[],[]⟩) (ts:=[]) h2 Yds oS⟩
theorem zt5 (h:At B0 M0 S0 B M ps) (i:Nat) {p b:Nat} {es:FsT} {D:ze} (hi:ps[i]? = some (zfE p b es D)) {b':Nat} {es':FsT} {D':ze} (h':FreshD (M.minus (zao p b es)) M' p b' D' es'):At B0 M0 S0 B M' (rpl ps i [zfE p b' es' D']):=by
 have h0:FreshD B M p b D es:=h.part i hi;have hB:=h0.base.2
 have h2:FreshD B M' p b' D' es':=⟨Yc hB h'.le,h'.at',h'.rel,h'.inv,fun y hy=>by
  cases e:B y with
  | none=>rfl
  | some o=>have:=hB y o e;rw[h'.fresh y hy] at this;cases this⟩
 refine h.call i hi (At.of (p:=zfE p b' es' D') h2 h2.le ⟨Ya _,Ycd.2 h'.le,fun _ h => .inl h,fun y hy=>?_⟩);have h3:=h'.fresh y hy
 unfold Mem.minus at h3;split at h3
 ·exact .inl (by assumption)
 ·simp_all
theorem zEj (h:At B0 M0 S0 B M ps) {p b:Nat} {wait:Int} (hw:1≤wait∧wait≤64) (hp:M p=none) (hb:M b=none) (hle:M.le M') (hd:DeskAt M' p b wait 0 []):At B0 M0 S0 B M' (ps++[zds ⟨p,b⟩ wait 0 0 fun _=>none]):=by
 have hn:∀ y,zuS ⟨p,b⟩ y→M y=none:=fun y hy=>by rcases hy with rfl|rfl<;>assumption
 refine h.more hle ⟨⟨[],hd,fun _=>rfl,Yd _⟩,fun i k hk=>(by cases hk),by decide,hw,fun y hy=>?_⟩ hn;cases e:B y with
 | none=>rfl
 | some o=>have:=h.le y o e;rw[hn y hy] at this;cases this
theorem zwC {me:Int}:∀ {l:List Int} {last:Int},zom me last l=true→(∀ k∈l,(0≤k∧k<64)∧k≠me∧last<k)∧l.Pairwise (· < ·)
 | [],_,_=>⟨by simp,List.Pairwise.nil⟩
 | x::r,last,h=>by
  simp only[zom,Yu,Yah,decide_eq_false_iff_not] at h;obtain⟨⟨⟨h1,h2⟩,h3⟩,h4⟩:=h;obtain⟨i1,i2⟩:=zwC h4;have h1':=isNode_iff.1 h1
  refine⟨fun k hk=>?_,Yy.2 ⟨fun y hy=>(i1 y hy).2.2,i2⟩⟩;rcases Yq.1 hk with rfl|hk
  ·omega
  ·grind
theorem zCv {me:Int} {nb:List Int} {age:Int} (h:zgW me nb age=0):(0≤me∧me<64)∧(1≤age∧age≤64)∧(∀ k∈nb,(0≤k∧k<64)∧k≠me)∧nb.Pairwise (· < ·)∧nb.length≤64:=by
 unfold zgW at h;split at h
 ·rename_i g;simp only[Yu,Yah,decide_eq_false_iff_not] at g;split at h
  ·rename_i g2;obtain⟨h1,h2⟩:=zwC g2;refine⟨isNode_iff.1 g.1.1,by omega,fun k hk=>⟨(h1 k hk).1,(h1 k hk).2.1⟩,h2,?_⟩
   have:=zjw 64 (nb.map Int.toNat) (by
    rw[List.Nodup,Yay];refine(Ydd.1 h2).imp fun {a b} hab e=>?_
    have:=(h1 a hab.1).1;have:=(h1 b hab.2.1).1;have:=hab.2.2;omega) fun y hy=>by grind
   simpa using this
  ·cases h
 ·cases h
theorem zGH (h:At B0 M0 S0 B M ps) {p b1 b2 n c:Nat} {a:Option Addr} {me:Int} {nb:List Int} (hp:M p=none) (h1:M b1=none) (h2:M b2=none) (ha:∀ q,a=some q→M q.block=none∧q.block≠p) (hle:M.le M') (ht:TabAt M' p b1 b2 a n c me 64 nb [] []) (hnb:∀ k∈nb,0≤k∧k<64) (hl:n≤64) :
  ∃ B',B.le B'∧At B0 M0 S0 B' M' (ps++[zk0 ⟨p,b1,b2,a,n,c⟩ me 64 nb fun _=>none]):=by
 obtain⟨M1,eM⟩:∃ M1,M1=M'.minus (zq3 ⟨p,b1,b2,a,n,c⟩):=⟨_,rfl⟩
 have hn:∀ y,zq3 ⟨p,b1,b2,a,n,c⟩ y→M y=none:=fun y hy=>by rcases hy with rfl|rfl|rfl<;>assumption
 have hM1:M.le M1:=by rw[eM];exact Ybw hle hn
 have hM1':M1.le M':=by rw[eM];exact Yac _ _
 have hab:∀ y,blk a y→¬zq3 ⟨p,b1,b2,a,n,c⟩ y:=fun y hy ht2=>by
  obtain⟨q,hq,rfl⟩:=hy;rcases ht2 with e|e|e
  ·simp_all
  ·exact(ht.na q hq).1 e
  ·exact(ht.na q hq).2 e
 have hrow:SrcOk M1 1 a n (nb.map zj):=zgS ht.nbs fun r hr=>by
  rw[eM];unfold Mem.minus;rw[if_neg (hab _ ⟨r,hr,rfl⟩)]
 have h3:=h.upN hM1;have hrow2:SrcOk (newB B M M1) 1 a n (nb.map zj):=zc6 hrow fun r hr=>(ha r hr).1
 have hoff:∀ y,zq3 ⟨p,b1,b2,a,n,c⟩ y→M1 y=none:=fun y hy=>by rw[eM];exact Yao hy
 refine⟨newB B M M1,zeH h.le,h3.more hM1' ⟨⟨[],ht,fun k=>?_,fun k hk=>by cases hk⟩,fun k x hk=>(by cases hk),hrow2,hnb,hl,by decide,fun y hy=>?_⟩ hoff⟩
 ·show zoQ none none;exact True.intro
 ·cases e:newB B M M1 y with
  | none=>rfl
  | some o=>have:=h3.le y o e;rw[hoff y hy] at this;cases this
end
section
variable {B0 M0 B M B' M':Mem} {S0:Nat→Prop} {R:List Pt} {ps:List Pt}
def zeA (me:Int) (S:ziJ):SideR:=⟨zHJ me S.win S.timer S.tries,true,[],0,[]⟩
def zgc (C:CuR):Int:=Int.tmod (512*C.X.S.epoch) 65536
def zd1 (me:Int) (S:ziJ) (nb:List Int) (C:CuR):NodX:=⟨me,S,C,nb,fun _=>zeA (zgc C) S,fun _=>none,0,fun _=>none,[],0,0⟩
def zfd (D:ze) (me:Int) (nb:List Int) (S:ziJ) (ld:Option (Int×StW)):Int:=if zgW me nb 64≠0 then zgW me nb 64 else if zgZ S≠0 then zgZ S else (zaL D me S.qh S.qb S.qg S.seg ld).2
def zkq (D:ze) (me:Int) (nb:List Int) (S:ziJ) (ld:Option (Int×StW)):ze:=if zgW me nb 64≠0 then D else if zgZ S≠0 then D else (zaL D me S.qh S.qb S.qg S.seg ld).1.D
theorem zCw {S:ziJ} (h:zgZ S=0):¬zcE 0 S.qh S.qb S.qg∧(16≤S.seg∧S.seg≤1048576)∧(1≤S.win∧S.win≤63)∧(1≤S.timer∧S.timer≤64)∧(1≤S.tries∧S.tries≤64)∧1≤S.wait∧S.wait≤64:=by
 unfold zgZ at h;split at h
 ·cases h
 ·rename_i hb;split at h
  ·rename_i hs;simp[okS,okN] at hs;exact⟨hb,by omega,by omega,by omega,by omega,by omega,by omega⟩
  ·cases h
theorem zJr {α:Type} (a b c d:α):[a,b,c,d].Perm [c,a,b,d]:=
 List.Perm.append_right [d] (Ydf:([a,b]++[c]).Perm ([c]++[a,b]))
theorem zJs {α:Type} (a b c d e f:α) (l:List α):(([a,b,c,d]++l)++[e,f]).Perm ([e,d,a,b,c,f]++l):=by
 have h1:(([a,b,c,d]++l)++[e,f]).Perm ([e,f]++([a,b,c,d]++l)):=Ydf
 have h2:([e,f]++[a,b,c,d]).Perm [e,d,a,b,c,f]:=by
  refine List.Perm.cons e ?_;show ([f]++([a,b,c]++[d])).Perm ([d]++[a,b,c]++[f])
  exact Ydf.trans (List.Perm.append_right [f] Ydf)
 have h3:([e,f]++([a,b,c,d]++l)).Perm (([e,f]++[a,b,c,d])++l):=by rw[Yp]
 exact h1.trans (h3.trans (h2.append_right l))
theorem zIp (a b c m m' x y z r:Pt) (l:List Pt):rpl (((([a,b,c,m]++l)++[x])++[y])++[z]) 3 [m']++[r]=([a,b,c,m']++l)++[x,y,z,r]:=by simp
theorem zEk {nb:List Int} (h:nb.Pairwise (· < ·)) {j:Nat} (hj:j<nb.length):nb[j]∉nb.take j:=fun hm=>by
 obtain⟨i,hi,e⟩:=Ybi hm;rw[List.getElem_take] at e;have hi2:i<min j nb.length:=by simpa using hi
 have:=Yci.1 h i j oM hj oM;omega
end
section
variable {B0 M0 B M B' M':Mem} {S0:Nat→Prop} {R:List Pt} {ps:List Pt}
structure W2 where
 a:NodX
 b:NodX
def zZ (w:W2):W2:=⟨(zav (zaQ w.a 1) 1 (w.b.sd 0).out).1,(zav (zaQ w.b 0) 0 (w.a.sd 1).out).1⟩
def zaE (w:W2):W2:=⟨(za8 w.a).1,(za8 w.b).1⟩
def ziu (w:W2):W2:=zZ (zZ (zZ (zaE w)))
def zeP:Nat→W2→W2
 | 0,w=>w
 | n+1,w=>zeP n (ziu w)
def crs:Nat→W2→W2
 | 0,w=>w
 | n+1,w=>zZ (crs n w)
structure Fit (w:W2):Prop where
 a1:1∈w.a.nb
 b0:0∈w.b.nb
 ra:zmK w.a 65536
 rb:zmK w.b 65536
 ta:w.a.told.length≤1000000
 tb:w.b.told.length≤1000000
 ma:1≤w.a.set.timer∧w.a.set.timer≤64
 mb:1≤w.b.set.timer∧w.b.set.timer≤64
def zq6:Nat→W2→Prop
 | 0,w=>Fit w
 | n+1,w=>Fit w∧Fit (zaE w)∧Fit (zZ (zaE w))∧Fit (zZ (zZ (zaE w)))∧zq6 n (ziu w)
theorem zt6 {X:NodX} {q:Nat} (h:zmK X q) (k:Int):zmK (zaQ X k) q:=fun j hj=>by
 have hj:j∈X.nb:=hj;obtain⟨h1,h2,h3⟩:=h j hj;unfold zaQ NodX.setSd;dsimp only;split
 ·simp_all
 ·simp_all
section
variable {P Q:NP} {X Y:NodX}
theorem zek (h:At B0 M0 S0 B M ps) (i:Nat) (hi:ps[i]? = some (zbz P X)):NodeAt B M (zbz P X).d B M P X []:=zCt (h.part i hi)
theorem zoX (h:At B0 M0 S0 B M ps) (i:Nat) (hi:ps[i]? = some (zbz P X)) {X':NodX} {dN:Int} {dK:Nat} (h':NTo B M (zbz P X).d B M' P X' [] dN dK):∃ B' P',B.le B'∧P.same P' dN dK∧At B0 M0 S0 B' M' (rpl ps i [zbz P' X']):=by
 obtain⟨B',P',h1,h2,h3⟩:=h';exact⟨B',P',h1,h2,h.call i hi (zg9 h3)⟩
theorem zEl {w:W2} (h:At B0 M0 S0 B M ([zbz P w.a,zbz Q w.b]++R)) (hF:Fit w) (pN:P.N+8500000≤4611686018427387904) (pK:P.K+8500000≤999999999000) (qN:Q.N+8500000≤4611686018427387904) (qK:Q.K+8500000≤999999999000) :
  CallsM Tryz.prog 32 [ptr P.n,ptr Q.n] M fun v M'=>v = .tuple #[]∧∃ B' P' Q',B.le B'∧P.same P' 8500000 8500256∧Q.same Q' 8500000 8500256∧At B0 M0 S0 B' M' ([zbz P' (zZ w).a,zbz Q' (zZ w).b]++R):=by
 refine zsw oS ?_;refine zM (zwy (zek h 0 rfl) hF.a1) ?_;rintro v M1 ⟨B1,a1,c1,P1,rfl,hb1,hs1,hp1,h1⟩;have h2:=h.call 0 rfl (zg9 h1)
 refine zM (zwy (zek h2 1 rfl) hF.b0) ?_;rintro v M2 ⟨B2,a2,c2,Q2,rfl,hb2,hs2,hq2,h3⟩;have h4:=h2.call 1 rfl (zg9 h3)
 have la:(w.a.sd 1).out.length≤65536:=(hF.ra 1 hF.a1).2.2;have lb:(w.b.sd 0).out.length≤65536:=(hF.rb 0 hF.b0).2.2
 have q2N:=hq2.N;have q2K:=hq2.K
 have p1N:=hp1.N;have p1K:=hp1.K
 have hr1:=zwB (k:=0) (c:=c1) (zek h4 1 rfl) oM oM (by show w.b.told.length+_≤_;have:=hF.tb;omega) (zt6 hF.rb 0) oD (hs1.le hb2) la;rw[hq2.n] at hr1;refine zR ?_;refine hr1.mono ?_;rintro v M3 ⟨rfl,h5⟩;obtain⟨B4,Q4,hb4,hq4,h6⟩:=zoX h4 1 rfl h5;have hr2:=zwB (k:=1) (c:=c2) (zek h6 0 rfl) oM oM (by show w.a.told.length+_≤_;have:=hF.ta;omega) (zt6 hF.ra 1) oD (hs2.le hb4) lb
 rw[hp1.n] at hr2;refine zR ?_;refine hr2.mono ?_;rintro v M5 ⟨rfl,h7⟩;obtain⟨B6,P6,hb6,hp6,h8⟩:=zoX h6 0 rfl h7;refine zR ?_;refine⟨rfl,B6,P6,Q4,Yc hb1 (Yc hb2 (Yc hb4 hb6)),by have:=hp1.trans hp6;simpa using this,by have:=hq2.trans hq4;simpa using this,h8⟩
theorem zkr {w:W2} (h:At B0 M0 S0 B M ([zbz P w.a,zbz Q w.b]++R)) {n:Nat} (hF:zq6 n w) (hn:n≤100) (pN:P.N≤1000000000000) (pK:P.K≤100000000000) (qN:Q.N≤1000000000000) (qK:Q.K≤100000000000) :
  CallsM Tryz.prog 9 [ptr P.n,ptr Q.n,.int .i64 n] M fun v M'=>v = .tuple #[]∧∃ B' P' Q',B.le B'∧P.same P' (25500000*n) (25501024*n)∧Q.same Q' (25500000*n) (25501024*n)∧At B0 M0 S0 B' M' ([zbz P' (zeP n w).a,zbz Q' (zeP n w).b]++R):=by
 refine zrt oS ?_;refine zR ?_
 refine zan (σ:=Nat×Mem×Mem×NP×NP×W2) [6] (fun y=>[(6,.int .i64 y.1)]) (fun _=>[]) (fun y=>y.2.1)
  (fun|⟨i,Mc,Bc,Pc,Qc,x⟩=>i≤n∧At B0 M0 S0 Bc Mc ([zbz Pc x.a,zbz Qc x.b]++R)∧B.le Bc∧P.same Pc (25500000*i) (25501024*i)∧Q.same Qc (25500000*i) (25501024*i)∧zq6 (n - i) x∧zeP (n - i) x=zeP n w) (fun y=>n - y.1)
  ⟨0,M,B,P,Q,w⟩ ⟨Y6 _,h,Ya _,NP.same.refl P oM,NP.same.refl Q oM,hF,rfl⟩ zS ?_
 rintro ⟨i,Mc,Bc,Pc,Qc,x⟩ ⟨hi,hc,hbc,hp,hq,hf,hr⟩;have p1:=hp.N
 have p2:=hp.K;have q1:=hq.N
 have q2:=hq.K;refine brn (fun g=>?_) (fun g=>?_)
 ·have hlt:i<n:=by have:=Zd0 g;dsimp only at this;omega
  rw[show n - i=(n - (i+1))+1 by omega] at hf hr;obtain⟨f1,f2,f3,f4,f5⟩:=hf;have ht1:=zwA (zek hc 0 rfl) oM oM f1.ra oD f1.ma
  rw[hp.n] at ht1;refine zR ?_;refine ht1.mono ?_;rintro v M1 ⟨rfl,h1⟩;obtain⟨B1,P1,hb1,hp1,h2⟩:=zoX hc 0 rfl h1;have ht2:=zwA (zek h2 1 rfl) oM oM f1.rb oD f1.mb
  rw[hq.n] at ht2;refine zR ?_;refine ht2.mono ?_;rintro v M2 ⟨rfl,h3⟩;obtain⟨B2,Q1,hb2,hq1,h4⟩:=zoX h2 1 rfl h3;refine zR ?_
  refine zan (σ:=Nat×Mem×Mem×NP×NP) [7] (fun y=>[(7,.int .i64 y.1)]) (fun _=>[]) (fun y=>y.2.1)
   (fun|⟨k,Md,Bd,Pd,Qd⟩=>k≤3∧At B0 M0 S0 Bd Md ([zbz Pd (crs k (zaE x)).a,zbz Qd (crs k (zaE x)).b]++R)∧B2.le Bd∧P1.same Pd (8500000*k) (8500256*k)∧Q1.same Qd (8500000*k) (8500256*k)) (fun y=>3 - y.1)
   ⟨0,M2,B2,P1,Q1⟩ ⟨Y6 _,h4,Ya _,NP.same.refl P1 oM,NP.same.refl Q1 oM⟩ zS ?_
  rintro ⟨k,Md,Bd,Pd,Qd⟩ ⟨hk,hd,hbd,hpd,hqd⟩;have e1:Pd.n=P.n:=hpd.n.trans (hp1.n.trans hp.n)
  have e2:Qd.n=Q.n:=hqd.n.trans (hq1.n.trans hq.n);have a1:=hp1.N
  have a2:=hp1.K;have a3:=hq1.N
  have a4:=hq1.K;have a5:=hpd.N
  have a6:=hpd.K;have a7:=hqd.N
  have a8:=hqd.K;refine brn (fun g=>?_) (fun g=>?_)
  ·have hlt2:k<3:=by have:=Zd0 g;dsimp only at this;omega
   have hfk:Fit (crs k (zaE x)):=by
    match k,hlt2 with
    | 0,_=>exact f2
    | 1,_=>exact f3
    | 2,_=>exact f4
   have hcr:=zEl hd hfk oM oM oM oM;rw[e1,e2] at hcr;refine zR ?_;refine hcr.mono ?_;rintro v M3 ⟨rfl,B3,P3,Q3,hb3,hp3,hq3,h5⟩;refine zR ?_;refine obr (inR_i64 (by omega)) ?_;exact⟨⟨k+1,M3,B3,P3,Q3⟩,⟨hlt2,h5,Yc hbd hb3,(hpd.trans hp3).more oM oM,(hqd.trans hq3).more oM oM⟩,by omega,zS⟩
  ·have hge:k=3:=by have:=Zd1 g;dsimp only at this;omega
   subst hge;refine zR ?_;refine obr (inR_i64 (by omega)) ?_;exact⟨⟨i+1,Md,Bd,Pd,Qd,ziu x⟩,⟨hlt,hd,Yc hbc (Yc hb1 (Yc hb2 hbd)),((hp.trans hp1).trans hpd).more oM oM,((hq.trans hq1).trans hqd).more oM oM,f5,hr⟩,by omega,zS⟩
 ·have hge:i=n:=by have:=Zd1 g;dsimp only at this;omega
  subst hge;rw[Nat.sub_self] at hr;have hr:x=zeP i w:=hr
  subst hr;refine zR ?_;exact⟨rfl,Bc,Pc,Qc,hbc,hp,hq,hc⟩
end
end
section
variable {B0 M0 B M B' M':Mem} {S0:Nat→Prop} {R:List Pt} {ps:List Pt} {P:NP} {X:NodX}
theorem zCx (h:(zbz P X).ok B M):FreshD B M P.p P.H.db X.C.D P.H.des∧NamesC X.C.D:=by
 obtain⟨h1,h2⟩:=h;have hC:CuAt B M P.c P.p P.N P.H X.C:=h1.ok (zc1 P.c P.p P.N P.H X.C) oS
 exact⟨hC.log.disk,hC.nm⟩
theorem zt7 (h:At B0 M0 S0 B M ps) (i:Nat) (hi:ps[i]? = some (zbz P X)):At B0 M0 S0 B M (rpl ps i [zfE P.p P.H.db P.H.des X.C.D])∧NamesC X.C.D:=by
 have h1:=zCx (h.part i hi);refine⟨h.view i hi h1.1 fun y hy=>?_,h1.2⟩;exact⟨zc1 P.c P.p P.N P.H X.C,by simp,.inr (.inr (.inr hy))⟩
end
end Go.Proofs.YtlgbofpennelhaaGreat
namespace Go.Proofs.YtlgbofpennelhaaGreat
open Go Go.Vm
attribute [local irreducible] Brn Ob Grow CallsM inR zX zI Mem.row Mem.cells Mem.setCells Mem.upd Go.Vm.Own zac zar zas zab New SrcOk subA NewSl Mem.textAt Mem.mapAt Mem.iterAt zH zF Wr NewEls Elems
set_option maxRecDepth 10000
variable {A M M':Mem} {c p db:Nat} {N:Int} {h:Hd} {des:FsT} {X:StW} {D:ze} {w:CuW} {H:CuH} {C:CuR}
set_option maxHeartbeats 1000000 in
theorem zIq (hd:FreshD A M p db D des) (hnm:NamesC D) {me qh qb qg seg:Int} {ld:Option (Int×StW)} (l0:ld=none) (hld:D.down=false→(zbE D).2=0→Ld (zbE D).1 me qh qb qg ld) :
  CallsM Tryz.prog 39 [ptr p,.int .i64 me,.agg #[.int .i64 qh,.int .i64 qb,.int .i64 qg],.int .i64 seg] M fun v M'=>zIk A M' p (zaL D me qh qb qg seg ld) v:=by
 refine zru oS ?_;refine zM (zFt me qh qb qg) ?_;rintro v M1 (⟨hb,rfl,rfl⟩|⟨hb,h,rfl,h1,hc0⟩)
 ·refine zR ?_;have e:zaL D me qh qb qg seg ld=(zfR D,1):=by unfold zaL;rw[if_pos hb]
  rw[e];exact .inl ⟨(by omega),rfl,hnm,db,des,hd⟩
 have d1:=hd.to h1.st.le;refine zR ?_;refine brn (fun e=>?_) (fun e=>?_)
 ·have e1:=Zd0 e;have e:zaL D me qh qb qg seg ld=(zfR D,1):=by unfold zaL;rw[if_neg hb,if_pos oM]
  refine zR ?_;rw[e];exact .inl ⟨(by omega),rfl,hnm,db,des,d1⟩
 have e1:=Zd1 e;refine zR ?_;refine brn (fun e=>?_) (fun e=>?_)
 ·have e1:=Zd0 e;have e:zaL D me qh qb qg seg ld=(zfR D,1):=by unfold zaL;rw[if_neg hb,if_pos oM]
  refine zR ?_;rw[e];exact .inl ⟨(by omega),rfl,hnm,db,des,d1⟩
 have e2:=Zd1 e;refine zJ (zmv d1) ?_;cases hdn:D.down
 case true=>
  have e:zaL D me qh qb qg seg ld=(zfR D,9):=by unfold zaL;rw[if_neg hb,if_neg oM,if_pos hdn]
  refine zR ?_;rw[e];exact .inl ⟨(by omega),rfl,hnm,db,des,d1⟩
 refine zR ?_;refine new (fun c hc=>?_);replace hc:M1 c=none:=hc;have hdj:∀ y,hB h y→¬zao p db des y:=fun y hy hb=>hd.at'.full hb (h1.st.fresh y hy)
 have p2:=CuPre.new (c:=c) (h1.mono hd.le) d1 hnm hdj hc (by rw[hc0];exact Yaj 0) ⟨0,false,false⟩;obtain⟨M2,hM2⟩:∃ M2,M2=M1.setCells c 153 (zhB h.p p (.pointer none) ⟨0,false,false⟩):=⟨_,rfl⟩
 rw[←hM2] at p2;erw [←hM2]
 have hO:zaL D me qh qb qg seg ld=if (zbE D).2≠0 then (zfR (zbE D).1,(zbE D).2) else zoS (zbE D).1 me qh qb qg seg ld:=by
  unfold zaL;rw[if_neg hb,if_neg oM,if_neg (by simp[hdn])]
 refine(zCl p2).mono ?_;rintro v M3 ⟨es3,rfl,p3⟩;obtain⟨s,hs⟩:=oI (zbE D);rw[←hs] at p3 hO hld ⊢;refine brn (fun e=>?_) (fun e=>?_)
 ·have e3:s.2≠0:=by simpa using e
  rw[if_pos e3] at hO;refine zR ?_;rw[hO];exact .inl ⟨e3,rfl,p3.nm,db,es3,p3.disk⟩
 have e3:¬s.2≠0:=by simpa using e
 rw[if_neg e3] at hO;have hL:=hld hdn (by omega)
 rw[hO];subst l0;refine zM (zCj p3 hL me _ ⟨qh,qb,qg,rfl⟩) ?_;rintro v M4 ⟨rfl,hle4⟩;have p4:=(p3.to hle4)
 obtain⟨ld1,hld1⟩:∃ ld1:Option (Int×StW),ld1=none:=⟨_,rfl⟩
 have e4:¬(ldD s.1 ld1).2≠0:=by rw[hld1];simp[ldD]
 have hsn:(ldW ld1).snap≤99999:=by rw[hld1];simp[ldW]
 rw[←hld1]
 replace p4:CuPre A M4 c p db 256 h es3 (ldX me qh qb qg ld1) (ldD s.1 ld1).1 (ldW ld1):=by
  rw[hld1];exact⟨p4.st,p4.disk,p4.self,p4.cf,p4.dj,p4.cs,p4.cl,p4.nm,by omega⟩
 unfold zoS;rw[if_neg e4];refine zR ?_;refine(zD7 p4 (by omega) hsn (by decide) (by have:=zsd p4.disk.inv (ldW ld1) seg;omega)).mono ?_;rintro v M5 ⟨rfl,⟨es5,d5⟩,hK⟩
 have hn5:NamesC (zbd (ldD s.1 ld1).1 (ldW ld1) seg).1:=by
  unfold zbd;split
  ·exact p4.nm
  ·exact(zwp p4.nm (by unfold firstC;omega) oM).1
 obtain⟨rp,hrp⟩:=oI (zdP (ldX me qh qb qg ld1) (ldD s.1 ld1).1 (ldW ld1) seg);rw[←hrp] at hK ⊢;refine ?_;refine brn (fun e=>?_) (fun e=>?_)
 ·have e5:rp≠0:=by simpa using e
  refine zR ?_;rw[if_pos e5];exact .inl ⟨e5,rfl,hn5,db,es5,d5⟩
 have e5:¬rp≠0:=by simpa using e
 rw[if_neg e5];obtain⟨H5,p5⟩:=hK (by omega);have hfew:=zsd p4.disk.inv (ldW ld1) seg
 have p5':=p5.more (N':=104857600256) oM;refine zM (zIj p5' oD) ?_;rintro v M6 ⟨H6,rfl,p6⟩;obtain⟨b,hb6⟩:∃ b,b=zkm ⟨(zdt (ldX me qh qb qg ld1) (zbd (ldD s.1 ld1).1 (ldW ld1) seg).2.2.1).1,(zbd (ldD s.1 ld1).1 (ldW ld1) seg).1,(zbd (ldD s.1 ld1).1 (ldW ld1) seg).2.1,ldW ld1⟩:=⟨_,rfl⟩
 rw[←hb6] at p6 ⊢;refine brn (fun e=>?_) (fun e=>?_)
 ·have e6:b.2≠0:=by simpa using e
  refine zR ?_;exact .inl ⟨e6,rfl,p6.nm,_,_,p6.disk⟩
 ·have e6:¬b.2≠0:=by simpa using e
  refine zR ?_;exact .inr ⟨by omega,c,H6,rfl,p6.more oM⟩
end Go.Proofs.YtlgbofpennelhaaGreat
namespace Go.Proofs.YtlgbofpennelhaaGreat
open Go Go.Vm Go.Proofs.Tryz
attribute [local irreducible] Brn Ob Grow CallsM inR zX zI Mem.row Mem.cells Mem.setCells Mem.upd Go.Vm.Own zac zar zas zab New SrcOk subA NewSl Mem.textAt Mem.mapAt Mem.iterAt zH zF Wr NewEls Elems zdm zeZ zgg zeD zeE
set_option maxRecDepth 10000
section
variable {B0 M0 B M B' M':Mem} {S0:Nat→Prop} {R:List Pt} {ps:List Pt}
theorem zh1 (h:At B0 M0 S0 B M ps) (i:Nat) {p db:Nat} {es:FsT} {D:ze} (hi:ps[i]? = some (zfE p db es D)) (hnm:NamesC D) (S:ziJ) (me:Int) {a:Option Addr} {n c:Nat} {nb:List Int} (hs:SrcOk B 1 a n (nb.map zj)) (hn:n≤4194304) {ld:Option (Int×StW)} (l0:ld=none) (hld:D.down=false→(zbE D).2=0→Ld (zbE D).1 me S.qh S.qb S.qg ld) (hsn:(zaL D me S.qh S.qb S.qg S.seg ld).1.X.sn.length≤1048576) :
  CallsM prog 16 [.int .i64 me,.slice a n c,ptr p,zuT S] M fun v M'=>
   (zfd D me nb S ld≠0∧v = .tuple #[.pointer none,.int .i64 (zfd D me nb S ld)]∧NamesC (zkq D me nb S ld)∧∃ B' db' es',B.le B'∧At B0 M0 S0 B' M' (rpl ps i [zfE p db' es' (zkq D me nb S ld)])) ∨
   (zfd D me nb S ld=0∧∃ B' P,v = .tuple #[ptr P.n,.int .i64 0]∧B.le B'∧P.p=p∧P.N≤104857600300∧P.K≤256∧At B0 M0 S0 B' M' (rpl ps i [zbz P (zO (zd1 me S nb (zaL D me S.qh S.qb S.qg S.seg ld).1))])):=by
 have hnl:nb.length=n:=hs.maplen;have h0:=h.inn i hi
 refine zw5 oS ?_;refine zM (zBS me 64 a n c nb (hs.le h.le) hn) ?_;rintro v M1 (⟨he,rfl,rfl⟩|⟨he,tp,b1,b2,a1,c1,rfl,hp1,hp2,hp3,hp4,hle1,ht⟩)
 ·have e1:zfd D me nb S ld=zgW me nb 64:=by unfold zfd;rw[if_pos he]
  have e2:zkq D me nb S ld=D:=by unfold zkq;rw[if_pos he]
  refine zR ?_;refine brn_t (by simp_all) ?_;refine zR ?_;refine .inl ⟨by omega,by rw[e1],by simp_all,B,db,es,Ya _,?_⟩;rw[e2];exact h.view i hi (h.part i hi) fun y hy=>hy
 obtain⟨m1,m2,m3,m4,m5⟩:=zCv he;obtain⟨B1,hb1,h1⟩:=zGH h0 hp1 hp2 hp3 hp4 hle1 ht (fun k hk=>(m3 k hk).1) oM;refine zM (zCs S) ?_;rintro v M2 ⟨rfl,hle2⟩;have h2:=h1.up hle2
 have hne:∀ x,zfd D me nb S ld=x↔(if zgZ S≠0 then zgZ S else (zaL D me S.qh S.qb S.qg S.seg ld).2)=x:=fun x=>by unfold zfd;rw[if_neg (fun hh=>hh he)]
 have hnd:zkq D me nb S ld=if zgZ S≠0 then D else (zaL D me S.qh S.qb S.qg S.seg ld).1.D:=by unfold zkq;rw[if_neg (fun hh=>hh he)]
 refine zR ?_;refine brn (fun g=>?_) (fun g=>?_)
 ·have g1:zgZ S≠0:=by simpa using g
  have e1:zfd D me nb S ld=zgZ S:=(hne _).2 (if_pos g1);have e2:zkq D me nb S ld=D:=by rw[hnd,if_pos g1]
  refine zR ?_;refine .inl ⟨by omega,by rw[e1],by simp_all,B1,db,es,hb1,?_⟩;rw[e2];exact h.call i hi (h2.drop 1 rfl)
 have g1:zgZ S=0:=by simpa using g
 obtain⟨s1,s2,s3,s4,s5,s6⟩:=zCw g1;have e1:zfd D me nb S ld=(zaL D me S.qh S.qb S.qg S.seg ld).2:=(hne _).2 (if_neg (fun hh=>hh g1))
 have e2:zkq D me nb S ld=(zaL D me S.qh S.qb S.qg S.seg ld).1.D:=by rw[hnd,if_neg (fun hh=>hh g1)]
 have hfd:FreshD B1 M2 p db D es:=h2.part 0 rfl;refine zM (zIq hfd.base.1 hnm l0 hld) ?_;rw[e1,e2];clear hne hnd e1 e2;obtain⟨O,hO⟩:=oI (zaL D me S.qh S.qb S.qg S.seg ld);rw[←hO] at hsn ⊢;rintro v M3 (⟨ho,rfl,hnm3,db3,es3,hf3⟩|⟨ho,cc,H3,rfl,hc3⟩)
 ·have h3:=zt5 h2 0 rfl hf3;refine zR ?_;refine brn_t (by simp_all) ?_;refine zR ?_;exact .inl ⟨ho,rfl,hnm3,B1,db3,es3,hb1,h.call i hi (h3.drop 1 rfl)⟩
 have h3:=zEh h2 0 rfl hc3;refine zM (zzX S.wait M3) ?_;rintro v M4 (⟨hbad,_⟩|⟨hw,dp,dbk,rfl,hd1,hd2,hle4,hda⟩)
 ·omega
 have h4:=zEj h3 hw hd1 hd2 hle4 hda;refine zR ?_;refine h4.mapV (kv:=zj) (vv:=zmD) fun ms M5 h5=>?_
 have hC5:CuAt B1 M5 cc p 104857600300 H3 O.1:=h5.part 0 rfl;have hep:=hC5.st.st.inv.epoch
 refine(zyu hC5 oD hsn).mono ?_;rintro v M7 ⟨hle7,hS⟩;obtain⟨ua,uc,ha,hc,xs,ma,mc,mk,rfl,hrest⟩:=hS.ex;clear hrest hS;have h9:=h5.up hle7
 refine zV ?_
 have hme:0≤zgc O.1∧zgc O.1≤65535:=by
  unfold zgc;have:=Int.tmod_nonneg (a:=512*O.1.X.S.epoch) 65536 oM
  have:=Int.tmod_lt_of_pos (512*O.1.X.S.epoch) (b:=65536) oD;omega
 obtain⟨fm,hfm⟩:=oI (zgc O.1);have hfm':Int.tmod (512*O.1.X.S.epoch) 65536=fm:=hfm.symm
 rw[←hfm] at hme;rw[hfm']
 refine zan (σ:=Nat×Mem×(Int→SP)) [70] (fun y=>[(70,.int .i64 y.1)]) (fun _=>[.live 29 [.v (.int .i64 S.qh),.v (.int .i64 S.qb),.v (.int .i64 S.qg),.v (.int .i64 S.disk),.v (.int .i64 S.seg),.v (.int .i64 S.win),.v (.int .i64 S.timer),.v (.int .i64 S.tries),.v (.int .i64 S.wait),.v (.int .i64 S.delay)],
  .live 96 [.v (.int .i64 me),.v (.int .i64 S.qh),.v (.int .i64 S.qb),.v (.int .i64 S.qg),.v (.int .i64 S.disk),.v (.int .i64 S.seg),.v (.int .i64 S.win),.v (.int .i64 S.timer),.v (.int .i64 S.tries),.v (.int .i64 S.wait),.v (.int .i64 S.delay),.v (ptr cc),.v (.map (some ms)),.v (ptr tp),.v (ptr dp),.v (.slice none 0 0),.v (.int .i64 0),.v (.int .i64 0)]]) (fun y=>y.2.1)
  (fun|⟨j,Mc,sp⟩=>j≤n∧At B M (zfE p db es D).d B1 Mc ([zc1 cc p 104857600300 H3 O.1,zk0 ⟨tp,b1,b2,a1,n,c1⟩ me 64 nb fun _=>none,zds ⟨dp,dbk⟩ S.wait 0 0 fun _=>none,zgi zj zmD ms ((nb.take j).map fun k=>(k,(sp k).s))]++(nb.take j).map fun k=>zex (sp k) (zeA fm S))) (fun y=>n - y.1)
  ⟨0,M7,fun _=>⟨0,0,⟨0,none,0,0,0,0,none,0,none,0⟩,0,DQ0,none,0⟩⟩ ⟨Y6 _,h9⟩ zS ?_
 rintro ⟨j,Mc,sp⟩ ⟨hj,hc⟩;refine brn (fun g=>?_) (fun g=>?_)
 ·have hlt:j<n:=by have:=Zd0 g;dsimp only at this;omega
  obtain⟨hk1,bb,o1,ea,hr1⟩:=((hs.le hb1).le hc.le).at hlt;obtain⟨k,hk⟩:=oI (nb[j]);rw[←hk] at hr1;refine ob (by omega) ?_;refine atp ea ?_;refine zR ?_;refine on hr1 ?_;refine zM (zBx hme s3 s4 s5 hc) ?_;rintro v M8 ⟨le,lp,rfl,hle8,h10⟩;have h11:=zyC hc h10.cls
  refine zM (zCu h11.le) ?_;rintro v M9 ⟨dd,rfl,h12⟩;have h13:=zyC h11 h12
  have hle9:M8.le M9:=fun y o ho=>h12.tn.keep y o (fun h=>h) ho
  refine zT (hle9) ?_;refine zR ?_;refine h13.newV fun sb M10 h14=>?_
  refine zR ?_;refine h14.putV 3 rfl zc2 k sb fun M11 h15=>?_
  have h16:=h15.row0 5 1;have hnk:k∉nb.take j:=by rw[hk];exact zEk m4 hk1
  have htk:nb.take (j+1)=nb.take j++[k]:=by rw[Yz,Yb hk1,hk];rfl
  obtain⟨sp2,hsp⟩:∃ sp2:Int→SP,sp2=fun y=>if y=k then ⟨sb,le,lp,dd,DQ0,none,0⟩ else sp y:=⟨_,rfl⟩
  have hspk:sp2 k=⟨sb,le,lp,dd,DQ0,none,0⟩:=by rw[hsp];exact if_pos rfl
  have hspo:∀ y∈nb.take j,sp2 y=sp y:=fun y hy=>by grind
  have hm1:zy ((nb.take j).map fun k=>(k,(sp k).s)) k sb=(nb.take (j+1)).map fun k=>(k,(sp2 k).s):=by
   rw[htk,Y4,zjv ?_]
   ·rw[Ya8 (g:=fun k=>(k,(sp2 k).s)) fun y hy=>by rw[hspo y hy]];simp[hspk]
   ·cases hg:zf ((nb.take j).map fun k=>(k,(sp k).s)) k with
    | none=>rfl
    | some v=>
     obtain⟨y,hy,e⟩:=Yj.1 (zC hg);cases e;exact absurd hy hnk
  have h17:=h16.c (zIp _ _ _ _ _ _ _ _ _ _);have h18:=zEi (h17.perm (Yde _ (zJr _ _ _ _)))
  rw[hm1] at h18
  have hs2:((nb.take j).map fun k=>zex (sp k) (zeA fm S))++[zex ⟨sb,le,lp,dd,DQ0,none,0⟩ (zeA fm S)]=(nb.take (j+1)).map fun k=>zex (sp2 k) (zeA fm S):=by
   rw[htk,Y4,Ya8 (g:=fun k=>zex (sp2 k) (zeA fm S)) fun y hy=>by rw[hspo y hy]];simp[hspk]
  have h19:At B M (zfE p db es D).d B1 M11 ([zc1 cc p 104857600300 H3 O.1,zk0 ⟨tp,b1,b2,a1,n,c1⟩ me 64 nb fun _=>none,zds ⟨dp,dbk⟩ S.wait 0 0 fun _=>none,zgi zj zmD ms ((nb.take (j+1)).map fun k=>(k,(sp2 k).s))]++(nb.take (j+1)).map fun k=>zex (sp2 k) (zeA fm S)):=by
   rw[←hs2,←Yp];exact h18
  refine zR ?_;refine obr (inR_i64 (by omega)) ?_;exact⟨⟨j+1,M11,sp2⟩,⟨hlt,h19⟩,by omega,zS⟩
 have hge:j=n:=by have:=Zd1 g;dsimp only at this;omega
 subst hge;rw[Yf oM] at hc;refine hc.newV fun nn M20 h20=>?_
 have h21:=(h20.row0 82 5)
 have h22:At B M (zfE p db es D).d B1 M20 ((([zc1 cc p 104857600300 H3 O.1,zk0 ⟨tp,b1,b2,a1,j,c1⟩ me 64 nb fun _=>none,zds ⟨dp,dbk⟩ S.wait 0 0 fun _=>none,zgi zj zmD ms (nb.map fun k=>(k,(sp k).s))]++nb.map fun k=>zex (sp k) (zeA fm S))++[zbL nn 96 [.int .i64 me,.int .i64 S.qh,.int .i64 S.qb,.int .i64 S.qg,.int .i64 S.disk,.int .i64 S.seg,.int .i64 S.win,.int .i64 S.timer,.int .i64 S.tries,.int .i64 S.wait,.int .i64 S.delay,ptr cc,.map (some ms),ptr tp,ptr dp,.slice none 0 0,.int .i64 0,.int .i64 0]])++[zmE none 0 []]):=by
  have:=h21.view (((([zc1 cc p 104857600300 H3 O.1,zk0 ⟨tp,b1,b2,a1,j,c1⟩ me 64 nb fun _=>none,zds ⟨dp,dbk⟩ S.wait 0 0 fun _=>none,zgi zj zmD ms (nb.map fun k=>(k,(sp k).s))]++nb.map fun k=>zex (sp k) (zeA fm S))++[zbL nn 96 [.int .i64 me,.int .i64 S.qh,.int .i64 S.qb,.int .i64 S.qg,.int .i64 S.disk,.int .i64 S.seg,.int .i64 S.win,.int .i64 S.timer,.int .i64 S.tries,.int .i64 S.wait,.int .i64 S.delay,ptr cc,.map (some ms),ptr tp,ptr dp,.slice none 0 0,.int .i64 0,.int .i64 0]])).length) (zmF _ _) (q:=zmE none 0 []) ⟨[],(Yat M20 _ _).mono h21.le,MsgsB.nil _⟩ fun y hy=>hy
  rw[zhR] at this;exact this
 rw[Yp] at h22;have h23:=h22.perm (zJs _ _ _ _ _ _ _)
 have h24:NodeAt B M (zfE p db es D).d B1 M20 ⟨nn,ms,nb.map fun k=>(k,(sp k).s),cc,p,104857600300,H3,⟨tp,b1,b2,a1,j,c1⟩,⟨dp,dbk⟩,0,none,0,sp⟩ (zd1 me S nb O.1) []:=by
  refine⟨?_,m4,m5,?_,fun q hq=>?_⟩
  ·rw[Ys];unfold zd1;rw[←hfm];exact h23
  ·rw[Ybc]
   have:(nb.map ((fun x:Int×Nat=>x.1)∘fun k=>(k,(sp k).s)))=nb:=by
    exact List.map_id' nb
   rw[this];exact .refl _
  ·grind
 refine(zmJ h24 (by simp) (Y6 _) fun k hk=>⟨?_,Y6 _⟩).mono ?_
 ·show 1+20000≤1000000000;decide
 rintro v M21 ⟨rfl,B21,P21,hb21,hs21,h25⟩;refine zR ?_;refine .inr ⟨ho,B21,P21,by rw[show P21.n=nn from hs21.n],Yc hb1 hb21,hs21.p,hs21.N,Yn hs21.K (by simp),h.call i hi (zg9 h25)⟩
end
section
variable {B0 M0 B M B' M':Mem} {S0:Nat→Prop} {R:List Pt} {ps:List Pt}
@[reducible] def setP:ziJ:=⟨50,2000,50,100000,200,4,3,3,3,0⟩
theorem plain_ok:CallsM prog 8 [] M fun v M'=>v=zuT setP∧M=M':=by
 refine zsu oS ?_;refine zR ?_;exact⟨rfl,rfl⟩
theorem zmL (h:At B0 M0 S0 B M ps) {p b:Nat} {D:ze} {es:FsT} (hd:FreshD M M' p b D es):At B0 M0 S0 B M' (ps++[zfE p b es D]):=
 h.more hd.le ⟨Yc h.le hd.le,hd.at',hd.rel,hd.inv,fun y hy=>by
  cases e:B y with
  | none=>rfl
  | some o=>have:=h.le y o e;rw[hd.fresh y hy] at this;cases this⟩ fun y hy=>hd.fresh y hy
@[reducible] def D00:ze:=⟨100000,[], -1,false⟩
def w00:W2:=⟨zO (zd1 0 setP [1] (zaL D00 0 50 2000 50 200 none).1),zO (zd1 1 setP [0] (zaL D00 1 50 2000 50 200 none).1)⟩
theorem ne0:zfd D00 0 [1] setP none=0:=by kernel_rfl
theorem ne1:zfd D00 1 [0] setP none=0:=by kernel_rfl
theorem sn0:(zaL D00 0 50 2000 50 200 none).1.X.sn.length=0:=by kernel_rfl
theorem sn1:(zaL D00 1 50 2000 50 200 none).1.X.sn.length=0:=by kernel_rfl
theorem pair_ok:CallsM prog 7 [zuT setP] M fun v M'=>∃ B' P Q,v = .tuple #[ptr P.n,ptr Q.n,.bool true]∧(P.N≤104857600300∧P.K≤256)∧(Q.N≤104857600300∧Q.K≤256)∧M.le B'∧At M M (fun _=>False) B' M' [zbz P w00.a,zbz Q w00.b]:=by
 refine zul oS ?_;have h0:=Ydt M
 refine zM (zz0 100000) ?_;rintro v M1 (⟨hbad,_⟩|⟨_,p,b,rfl,hd1⟩)
 ·omega
 have h1:=zmL h0 hd1;refine zM (zz0 100000) ?_;rintro v M2 (⟨hbad,_⟩|⟨_,p2,b2,rfl,hd2⟩)
 ·omega
 have h2:=zmL h1 hd2;refine zR ?_;refine h2.newRV (s:=1) (n:=1) rfl fun r1 M3 h3=>?_
 obtain⟨B3,hb3,hs3,h4⟩:=h3.cede 2 rfl;have hw1:=zh1 (c:=1) h4 0 rfl (D:=D00) (fun f hf=>by cases hf) setP 0 (nb:=[1]) hs3 oD (ld:=none) rfl (fun _ _=>rfl) (by rw[sn0];decide)
 refine zR ?_;refine hw1.mono ?_;rintro v M4 (⟨hbad,_⟩|⟨_,B4,P,rfl,hb4,hp1,hp2,hp3,h5⟩)
 ·exact absurd ne0 hbad
 refine zR ?_;refine h5.newRV (s:=1) (n:=1) rfl fun r2 M5 h6=>?_
 obtain⟨B6,hb6,hs6,h7⟩:=h6.cede 2 rfl;have hw2:=zh1 (c:=1) h7 1 rfl (D:=D00) (fun f hf=>by cases hf) setP 1 (nb:=[0]) hs6 oD (ld:=none) rfl (fun _ _=>rfl) (by rw[sn1];decide)
 refine zR ?_;refine hw2.mono ?_;rintro v M8 (⟨hbad,_⟩|⟨_,B8,Q,rfl,hb8,hq1,hq2,hq3,h9⟩)
 ·exact absurd ne1 hbad
 refine zR ?_;exact⟨B8,P,Q,rfl,⟨hp2,hp3⟩,⟨hq2,hq3⟩,Yc hb3 (Yc hb4 (Yc hb6 hb8)),h9⟩
end
section
variable {B0 M0 B M B' M':Mem} {S0:Nat→Prop} {R:List Pt} {ps:List Pt}
theorem zGI {a:Option Addr} {n c:Nat} {l:List Int} (hs:SrcOk M 1 a n (l.map zj)) (hn:n≤4194304) (x:Int):CallsM prog 45 [.slice a n c,.int .i64 x] M fun v M'=>v = .bool (decide (x∈l))∧M=M':=by
 refine zvo oS ?_;have hl:=hs.maplen
 refine zdX [5] (fun (i:Nat)=>[(5,.int .i64 i)]) (fun i=>i≤n∧x∉l.take i) (fun i=>n - i) 0 ⟨by omega,by simp⟩ zS ?_;intro i ⟨hi,hnot⟩;refine brn (fun h=>?_) (fun h=>?_)
 ·simp only[decide_eq_true_eq] at h;obtain⟨hlt,b,o,rfl,hrow⟩:=hs.at (i:=i) oM;refine ob oM ?_;refine on hrow ?_;refine brn (fun g=>?_) (fun g=>?_)
  ·(conv=>whnf);simp only[decide_eq_true_eq] at g;subst g;exact⟨by simp,rfl⟩
  ·refine zP ?_;refine⟨i+1,⟨by omega,?_⟩,by omega,zS⟩;simp only[decide_eq_false_iff_not] at g;rw[Yz,Yb hlt];simp only[Ydu,Yt,Yx,not_or];exact⟨hnot,fun e=>g e.symm⟩
 ·(conv=>whnf);simp only[decide_eq_false_iff_not] at h;rw[Yf oM] at hnot;exact⟨by simp[hnot],rfl⟩
def zfV (mk:List MkC) (i:IdT):Bool:=mk.any fun m=>decide (m.o=i.o)&&(decide (m.e=i.e)&&(decide (i.c≤m.up)||decide (i.c∈m.more)))
theorem zIr {mk:List MkC} {i:IdT} (h:inE (zcG (mk.map MkC.mk')) i.o i.e i.c):zfV mk i=true:=by
 unfold inE zcy zbQ at h;cases hx:zf (zcG (mk.map MkC.mk')) (i.o,i.e) with
 | none=>
  rw[hx] at h;unfold inM at h;simp at h;omega
 | some y=>
  rw[hx] at h;have hm:=zC hx
  unfold zcG at hm;rw[Ybc] at hm;obtain⟨m,hm1,hm2⟩:=Yj.1 hm;have e1:m.o=i.o∧m.e=i.e:=by have:=congrArg Prod.fst hm2;exact⟨congrArg Prod.fst this,congrArg Prod.snd this⟩
  have e2:m.up=y.up∧m.more=y.more:=by have:=congrArg Prod.snd hm2;exact⟨congrArg Ent.up this,congrArg Ent.more this⟩
  unfold zfV;refine Ybn.2 ⟨m,hm1,?_⟩;unfold inM at h;dsimp only at h;rw[←e2.1,←e2.2] at h;simp only[e1.1,e1.2,decide_true,Yd1,Bool.or_eq_true,decide_eq_true_eq];rcases h with h|h
  ·omega
  ·exact .inr h
theorem zwD {self epoch:Int} {ua ha ma:Option Addr} {un uc hn hc mn mc:Nat} {mk:List MkC} (h:MarksR M ma mn mk) (hf:mn≤4194000) (hm:∀ m∈mk,m.more.length≤4194304) (i:IdT) :
  CallsM prog 20 [zI8 self epoch ua un uc ha hn hc ma mn mc,idA i] M fun v M'=>v = .bool (zfV mk i)∧M.le M':=by
 have hl:=h.len;refine znO oS ?_;refine zan (σ:=Nat×Mem) [5] (fun y=>[(5,.int .i64 y.1)]) (fun _=>[.live 42 [.v (.int .i64 self),.v (.int .i64 epoch),.v (.slice ua un uc),.v (.slice ha hn hc),.v (.slice ma mn mc)],.live 33 [.v (.int .i64 i.o),.v (.int .i64 i.d),.v (.int .i64 i.e),.v (.int .i64 i.c)]]) (fun y=>y.2) (fun y=>y.1≤mn∧M.le y.2∧∀ m∈mk.take y.1,zfV [m] i=false) (fun y=>mn - y.1) ⟨0,M⟩ ⟨by omega,Ya _,by simp⟩ zS ?_;intro ⟨j,Mc⟩ ⟨hj,hle,hno⟩;refine brn (fun g=>?_) (fun g=>?_)
 ·have hlt:j<mk.length:=by have:=Zd0 g;dsimp only at this;omega
  have hx:mk[j]? = some mk[j]:=Yb hlt;obtain⟨b,o,ea,hrow⟩:=(h.row.le hle).fall zmc oD hx;have hin:mk[j]∈mk:=Yab _
  have htk:mk.take (j+1)=mk.take j++[mk[j]]:=by rw[Yz,hx];rfl
  generalize mk[j]=x at *;refine ob oM ?_;refine atp ea ?_;refine zR ?_;refine on hrow ?_;refine zR ?_;have next:zfV [x] i=false→∀ m∈mk.take (j+1),zfV [m] i=false:=fun hb m hm=>by grind
  have yes:zfV [x] i=true→zfV mk i=true:=fun hb=>by
   unfold zfV at hb ⊢;exact Ybn.2 ⟨x,hin,by simp_all⟩
  refine brn (fun g1=>?_) (fun g1=>?_)
  ·refine brn (fun g2=>?_) (fun g2=>?_)
   ·refine brn (fun g3=>?_) (fun g3=>?_)
    ·(conv=>whnf);exact⟨by rw[yes (by unfold zfV;simp_all)],hle⟩
    ·(conv=>whnf);refine zJ (zGI ((h.more x hin).le hle) (hm x hin) i.c) ?_;refine brn (fun g4=>?_) (fun g4=>?_)
     ·(conv=>whnf);exact⟨by rw[yes (by unfold zfV;simp_all)],hle⟩
     ·(conv=>whnf);refine obr (inR_i64 (by omega)) ?_;exact⟨⟨j+1,Mc⟩,⟨by omega,hle,next (by unfold zfV;simp_all)⟩,by omega,zS⟩
   ·(conv=>whnf);refine obr (inR_i64 (by omega)) ?_;exact⟨⟨j+1,Mc⟩,⟨by omega,hle,next (by unfold zfV;simp_all)⟩,by omega,zS⟩
  ·(conv=>whnf);refine obr (inR_i64 (by omega)) ?_;exact⟨⟨j+1,Mc⟩,⟨by omega,hle,next (by unfold zfV;simp_all)⟩,by omega,zS⟩
 ·have hge:j=mn:=by have:=Zd1 g;dsimp only at this;omega
  refine⟨?_,hle⟩
  have:zfV mk i=false:=by
   subst hge;rw[Yf oM] at hno;unfold zfV at hno ⊢;exact Ydy.2 fun m hm=>by simp_all
  rw[this]
end
section
variable {B0 M0 B M B' M':Mem} {S0:Nat→Prop} {R:List Pt} {ps:List Pt} {P:NP} {X:NodX}
def zAo (X:NodX) (k:Int):NodX:={ X with C:={ X.C with D:=(zeI X.C.D k).1 } }
theorem zGJ (h:NodeAt B0 M0 S0 B M P X R) {k:Int} (hk:k≤9223372036854775807) :
  CallsM prog 17 [ptr P.p,.int .i64 k] M fun v M'=>v = .int .i64 (zeI X.C.D k).2∧∃ P',P.same P' 0 0∧NodeAt B0 M0 S0 B M' P' (zAo X k) R:=by
 obtain⟨h0,hB⟩:=zlp h.at' (i:=2) rfl;refine(zJ9 h0.disk.base.1 hk).mono ?_;rintro v M1 ⟨es1,rfl,h1⟩
 have hnm:NamesC (zeI X.C.D k).1:=by
  have:=h0.nm;unfold zeI;split
  ·exact this
  ·exact this
 have h2:=At.cust h.at' 2 rfl (h0.turnD h1 hnm);exact⟨rfl,{ P with H:={ P.H with des:=es1 } },⟨rfl,fun _=>rfl,by show P.N≤P.N+0;omega,Yd _,rfl⟩,h.cust h2⟩
end
end Go.Proofs.YtlgbofpennelhaaGreat
namespace Go.Proofs.YtlgbofpennelhaaGreat
open Go Go.Vm
section
variable {C D E:ze} {f0 last:Int} {l:List FileR} {put:List (List UInt8)} {safe:Nat}
structure LessD (E C:ze):Prop where
 len:E.l.length≤C.l.length
 used:za0 E.l≤za0 C.l
 nm:∀ f∈E.l,∃ f'∈C.l,f'.name=f.name
 lim:E.limit=C.limit
theorem LessD.refl (C:ze):LessD C C:=⟨Yd _,Yd _,fun f hf=>⟨f,hf,rfl⟩,rfl⟩
theorem LessD.trans {A B C:ze} (h:LessD A B) (h':LessD B C):LessD A C:=⟨Yn h.len h'.len,Yn h.used h'.used,fun f hf=>by
 obtain⟨f1,a,b⟩:=h.nm f hf;obtain⟨f2,c,d⟩:=h'.nm f1 a
 exact⟨f2,c,d.trans b⟩,h.lim.trans h'.lim⟩
theorem zoB {l:List FileR} (hs:SortedR l) {x:FileR} {n:ByteArray} (hx:zh l n=some x) {f:FileR} (hf:f.name=n):(zbk l f).length=l.length∧za0 (zbk l f)+(x.safe.size+x.tail.size)=za0 l+(f.safe.size+f.tail.size):=by
 obtain⟨h1,h2⟩:=zcx hs hx;unfold zbk;rw[zh5,zkd,hf];omega
theorem LessD.remove (h:InvD C) (s:ByteArray):LessD (zae C s).1 C:=by
 unfold zae;split
 ·exact .refl C
 ·rename_i h0;have:=zcx h.sort (zcA (by simpa using h0)).2
  exact⟨by show (zba C.l s).length≤_;omega,by show za0 (zba C.l s)≤_;omega,fun f hf=>⟨f,(withoutR_mem.1 hf).1,rfl⟩,rfl⟩
theorem LessD.cut (h:InvD C) (s:ByteArray) (k:Int):LessD (zcC C s k).1 C:=by
 unfold zcC;split
 ·exact .refl C
 ·rename_i h0;split
  ·exact .refl C
  ·rename_i h1;have hf:=(zcA (by simpa using h0)).2
   have:=zoB h.sort hf (f:=⟨s,(zt C s).all.extract 0 k.toNat,.empty⟩) rfl
   have hz:((zt C s).all.extract 0 k.toNat).size≤(zt C s).safe.size+(zt C s).tail.size:=by
    rw[←all_size,←za4,zdI,Ya9,za4];omega
   have he:ByteArray.empty.size=0:=rfl;dsimp only at this;refine⟨by show (zbk C.l _).length≤_;omega,by show za0 (zbk C.l _)≤_;omega,fun f hf2=>?_,rfl⟩;rcases withR_mem.1 hf2 with rfl|⟨hf2,_⟩
   ·exact⟨_,((zaw h.sort).1 hf).1,((zaw h.sort).1 hf).2⟩
   ·grind
theorem LessD.removeAll:∀ {ks:List Int} {C:ze},InvD C→LessD (removeAll C ks).1 C
 | [],C,_ => .refl C
 | k::r,C,h=>by
  rw[Go.Proofs.YtlgbofpennelhaaGreat.removeAll];split
  ·exact .remove h _
  ·exact(LessD.removeAll (zer h _)).trans (.remove h _)
theorem zk1 (h:InvD C) {s n:ByteArray} (hn:n≠s):zh (zae C s).1.l n=zh C.l n:=by
 unfold zae;split
 ·rfl
 ·show zh (zba C.l s) n=_;rw[zgH h.sort,if_neg hn]
theorem zlq:∀ {ks:List Int} {C:ze},InvD C→∀ {n:ByteArray},(∀ k∈ks,n≠zb k)→zh (removeAll C ks).1.l n=zh C.l n
 | [],_,_,_,_=>rfl
 | k::r,C,h,n,hn=>by
  rw[removeAll];split
  ·exact zk1 h (hn k oS)
  ·rw[zlq (zer h _) fun j hj=>hn j (by simp[hj]),zk1 h (hn k (by simp))]
theorem zjN {pick:Int→Bool} {k:Int} (h:PowW C):k∈zbp C pick↔okK k∧pick k=true∧∃ f,zh C.l (zb k)=some f:=by
 unfold zbp;rw[Ya1,Yj];constructor
 ·rintro ⟨⟨f,hf,rfl⟩,hk⟩;rw[Yu] at hk;have h0:=Zd0 hk.1
  obtain⟨h1,h2⟩:=(h.nm.num hf).resolve_right fun h6=>by omega
  exact⟨⟨by omega,by omega⟩,hk.2,f,(zaw h.inv.sort).2 ⟨hf,h2⟩⟩
 ·rintro ⟨hk,hp,f,hf⟩;obtain⟨h1,h2⟩:=(zaw h.inv.sort).1 hf;unfold okK at hk;exact⟨⟨f,h1,by rw[h2,zcs (by omega)]⟩,by grind⟩
theorem zsi (h:PowW C) (pick:Int→Bool):(removeAll C (zbp C pick)).2=0∧PowW (removeAll C (zbp C pick)).1∧(∀ k,okK k→zh (removeAll C (zbp C pick)).1.l (zb k)=if pick k=true then none else zh C.l (zb k)) ∧
  (∀ n,(∀ k,okK k→n≠zb k)→zh (removeAll C (zbp C pick)).1.l n=zh C.l n)∧LessD (removeAll C (zbp C pick)).1 C:=by
 obtain⟨r1,r2,r3⟩:=zm1 h (zz8 h pick) fun k hk=>⟨((zjN h).1 hk).1,((zjN h).1 hk).2.2⟩
 refine⟨r1,r2,fun k hk=>?_,fun n hn=>zlq h.inv fun k hk=>hn k ((zjN h).1 hk).1,.removeAll h.inv⟩;rw[r3 k hk];by_cases hm:k∈zbp C pick
 ·rw[if_pos hm,if_pos ((zjN h).1 hm).2.1]
 ·rw[if_neg hm];split
  ·rename_i hp;cases hf:zh C.l (zb k) with
   | none=>rfl
   | some f=>exact absurd ((zjN h).2 ⟨hk,hp,f,hf⟩) hm
  ·rfl
def CutAt:Option FileR→Option FileR→Prop
 | none,none=>True
 | some f,some f'=>f'.name=f.name∧f.safe.size≤f'.safe.size∧(∃ m,bl f'.all=(bl f.all).take m)∧(f.tail = .empty→f'.tail = .empty)
 | _,_=>False
theorem CutAt.refl:∀ o:Option FileR,CutAt o o
 | none=>trivial
 | some f=>⟨rfl,Yd _,⟨(bl f.all).length,(Yai).symm⟩,id⟩
theorem CutAt.none' {o:Option FileR} (h:CutAt none o):o=none:=by
 cases o with
 | none=>rfl
 | some f=>exact h.elim
theorem CutAt.some' {f:FileR} {o:Option FileR} (h:CutAt (some f) o):∃ f' m,o=some f'∧f'.name=f.name∧f.safe.size≤f'.safe.size∧bl f'.all=(bl f.all).take m∧m≤(bl f.all).length∧f'.all.size=m∧(f.tail = .empty→f'.tail = .empty):=by
 cases o with
 | none=>exact h.elim
 | some f'=>
  obtain⟨h1,h2,⟨m,h3⟩,h4⟩:=h;refine⟨f',min m (bl f.all).length,rfl,h1,h2,?_,by omega,?_,h4⟩
  ·simp_all
  ·rw[←za4,h3,Ya9]
theorem CutAt.whole {n:ByteArray} {s:ByteArray} {o:Option FileR} (h:CutAt (some ⟨n,s,.empty⟩) o):∃ s',o=some ⟨n,s',.empty⟩∧bl s'=bl s:=by
 obtain⟨f',m,rfl,h1,h2,h3,h4,h5,h6⟩:=h.some';obtain⟨n',s',t'⟩:=f';dsimp only at h1 h2;have ht:=h6 rfl
 dsimp only at ht;subst h1 ht;have e1:FileR.all ⟨n',s,.empty⟩=s:=zlj (by unfold FileR.all;dsimp only;rw[zaO,zdv,Ys])
 have e2:FileR.all ⟨n',s',.empty⟩=s':=zlj (by unfold FileR.all;dsimp only;rw[zaO,zdv,Ys]);rw[e1,e2] at h3;rw[e1] at h4;rw[e2] at h5;refine⟨s',rfl,?_⟩;rw[h3,Yf (by rw[za4];omega)]
theorem zt8 (hd:C.down=false) (h1:1≤f0) {parts:List (List (List UInt8))} (hok:∀ q∈parts,∀ p∈q,zcV p) (hlen:f0+parts.length≤99999)
  (hf:∀ (i:Nat) q,parts[i]? = some q→∃ f,zh C.l (zb (f0+i))=some f∧bl f.all=zbo q):∀ i,i≤parts.length →
  zai (100000 - f0).toNat C f0 f0 []=zai ((100000 - f0).toNat - i) C (f0+i) (if i=0 then f0 else f0+i - 1) ((parts.take i).flatten)
 | 0,_=>by simp
 | i+1,hi=>by
  rw[zt8 hd h1 hok hlen hf i oM];have hx:parts[i]? = some parts[i]:=Yb oM
  have hm:parts[i]∈parts:=Yab _;obtain⟨f,h2,h3⟩:=hf i _ hx;have htk:(parts.take (i+1)).flatten=(parts.take i).flatten++parts[i]:=by rw[Yz,hx,Ydm];simp
  generalize parts[i]=q at *;obtain⟨h4, -, -⟩:=zgD hd (zcW (k:=f0+(i:Int)) oM) h2
  have hsc:zaK (zbo q)=q:=by
   have:=zz2 (hok q hm) [];rw[Ys] at this;rw[this];have e0:zaK ([]:List UInt8)=[]:=rfl
   rw[e0,Ys]
  rw[show (100000 - f0).toNat - i=((100000 - f0).toNat - (i+1))+1 by omega,zai,h4];dsimp only;rw[if_neg oM,if_neg oS,h3,hsc,zdN,if_neg oM,htk,if_neg oM];congr 1<;>omega
theorem zCy (hp:PowW C) {size:Int} {E:ze} {nx la:Int} {all:List (List UInt8)}
  (he:zai (100000 - f0).toNat (removeAll C (zbp C fun k=>decide (k<f0))).1 f0 f0 []=(E,nx,la,all,0)) (hn:∀ f∈E.l,0<zcO f.name→¬nx≤zcO f.name):zbR C (L0 f0 size)=(E,{ L0 f0 size with last:=la },all,0):=by
 have hs2:zbp E (fun k=>decide (nx≤k))=[]:=zB3 fun f hf h0=>decide_eq_false (hn f hf h0)
 have r1:=(zsi hp fun k=>decide (k<f0)).1;unfold zbR;have he':zai (100000 - (L0 f0 size).first).toNat (removeAll C (zbp C fun k=>decide (k<(L0 f0 size).first))).1 (L0 f0 size).first (L0 f0 size).last []=(E,nx,la,all,0):=he
 have r1':(removeAll C (zbp C fun k=>decide (k<(L0 f0 size).first))).2=0:=r1;dsimp only;rw[if_neg (by omega),he'];dsimp only;rw[if_neg oS,hs2];rfl
def NmI (last:Int) (l:List FileR):Prop:=∀ f∈l,(∃ k:Int,1≤k∧k≤last∧f.name=zb k)∨zhz f.name
theorem NmI.less (h:NmI last C.l) (hl:LessD E C):NmI last E.l:=fun f hf=>by
 obtain⟨f',h1,h2⟩:=hl.nm f hf;have:=h f' h1
 rw[h2] at this;exact this
theorem NmI.num (h:NmI last l) (hl:last≤99999) {f:FileR} (hf:f∈l) (h0:0<zcO f.name):zcO f.name≤last∧f.name=zb (zcO f.name):=by
 rcases h f hf with ⟨k,h1,h2,h3⟩|h1
 ·rw[h3,zcs oM];exact⟨h2,rfl⟩
 ·rw[zf8 h1] at h0;omega
set_option maxHeartbeats 1000000 in
theorem SegI.reopen (h:SegI f0 last l put safe) (hp:PowW C) (hl:last<90000) (hnm:NmI last C.l) (hc:∀ k,f0≤k→k≤last→CutAt (zh l (zb k)) (zh C.l (zb k))) (size:Int) :
  ∃ m E la,safe≤m∧m≤put.length∧zbR C (L0 f0 size)=(E,{ L0 f0 size with last:=la },put.take m,0)∧PowW E∧SegI f0 la E.l (put.take m) safe ∧
   (∀ n,(∀ k,okK k→n≠zb k)→zh E.l n=zh C.l n)∧(f0≤la∧la≤last)∧LessD E C∧(∀ f∈E.l,∀ k,okK k→k<f0→f.name≠zb k)∧((∀ k f f',f0≤k→k≤last→zh l (zb k)=some f→zh C.l (zb k)=some f'→bl f'.all=bl f.all)→m=put.length):=by
 obtain⟨parts,cur,h1,h2,h3,h4⟩:=h.seg;have hl1:=h.f1
 have hok:=h.ok;obtain⟨-, p1,p2,p3,p4⟩:=zsi hp fun k=>decide (k<f0)
 have key:=fun {E:ze} {nx la:Int} {all:List (List UInt8)}=>zCy (f0:=f0) hp (size:=size) (E:=E) (nx:=nx) (la:=la) (all:=all)
 obtain⟨B,hB⟩:=oI ((removeAll C (zbp C fun k=>decide (k<f0))).1);rw[←hB] at p1 p2 p3 p4 key;have hnB:NmI last B.l:=hnm.less p4
 have hlow:∀ {E:ze},LessD E B→∀ f∈E.l,∀ k,okK k→k<f0→f.name≠zb k:=fun {E} hE f hf k hk hlt e=>by
  obtain⟨f',g1,g2⟩:=hE.nm f hf;have g3:=p2 k hk
  rw[if_pos (by simp_all)] at g3;exact(findR_none.1 g3) f' g1 (g2.trans e)
 have hfB:∀ k,f0≤k→k≤last→zh B.l (zb k)=zh C.l (zb k):=fun k g1 g2=>by
  rw[p2 k ⟨by omega,by omega⟩,if_neg (by simp;omega)]
 have hcB:∀ k,f0≤k→k≤last→CutAt (zh l (zb k)) (zh B.l (zb k)):=fun k g1 g2=>by simp_all
 have hparts:∀ (i:Nat) q,parts[i]? = some q→∃ s,zh B.l (zb (f0+i))=some ⟨zb (f0+i),s,.empty⟩∧bl s=zbo q:=fun i q hq=>by
  have hi:=(Yr.1 hq).1;obtain⟨s,g1,g2⟩:=h3 i q hq;have g3:=hcB (f0+i) oM oM
  rw[g1] at g3;obtain⟨s',g4,g5⟩:=g3.whole;exact⟨s',g4,g5.trans g2⟩
 have hw:=zt8 p1.down hl1.1 (fun q hq p hp=>hok p (by rw[h2];exact Ybe _ (List.mem_flatten.2 ⟨q,hq,hp⟩))) oM (fun i q hq=>by
  obtain⟨s,g1,g2⟩:=hparts i q hq
  exact⟨_,g1,by unfold FileR.all;dsimp only;rw[zaO,zdv,Ys];exact g2⟩) parts.length (Yd _)
 rw[Yai,show f0+(parts.length:Int)=last by omega] at hw;obtain⟨F,hF⟩:∃ F,(100000 - f0).toNat - parts.length=F+2:=⟨(100000 - f0).toNat - parts.length - 2,by omega⟩
 rw[hF] at hw;have hd:=p1.down
 rcases h4 with ⟨h5,h6,h7⟩|⟨s,t,j,h5,h6,h7,h8,h9⟩
 ·have hn:zh B.l (zb last)=none:=by
   have:=hcB last oM oM;rw[h5] at this;exact this.none'
  have hr:=ztU hd (zcW oM) hn;rw[zai,if_pos (.inr hr)] at hw
  have hlast:∀ f∈B.l,0<zcO f.name→¬last≤zcO f.name:=fun f hf h0 hle=>by
   obtain⟨g1,g2⟩:=hnB.num oM hf h0;rw[show zcO f.name=last by omega] at g2;exact(findR_none.1 hn) f hf g2
  have hk:=key hw hlast;have hput:put.take put.length=put:=Yai
  have hpf:put=parts.flatten:=by rw[h2,h6,Ys]
  refine⟨put.length,B,if parts.length=0 then f0 else last - 1,by simp_all,Yd _,by simp_all,p1,?_,p3,by omega,p4,hlow (.refl B),fun _=>rfl⟩;rw[hput];split
  ·rename_i h0;have hp0:parts=[]:=Yad h0
   have e:f0=last:=by rw[h0] at h1;omega
   refine⟨hok,by omega,fun f hf=>?_,[],[],by simp,by simp_all,by simp,.inl ⟨by simp_all,rfl,by simp_all⟩⟩;rw[e];exact hnB f hf
  ·rename_i h0;obtain⟨ps,q,rfl⟩:∃ ps q,parts=ps++[q]:=⟨parts.dropLast,parts.getLast (by simp_all),(List.dropLast_concat_getLast _).symm⟩
   rw[Yi,Yd9] at h1;obtain⟨s,g1,g2⟩:=hparts ps.length q oS;have e:f0+(ps.length:Int)=last - 1:=by omega
   rw[e] at g1;refine⟨hok,by omega,fun f hf=>?_,ps,q,by omega,by simp_all,fun i q' hq=>?_,.inr ⟨s,.empty,q.length,g1,by rw[zdv,Ys];exact g2,Yd _,?_,?_⟩⟩
   ·rcases hnB f hf with ⟨k,q1,q2,q3⟩|q1
    ·by_cases hkl:k=last
     ·rw[hkl] at q3;exact absurd q3 ((findR_none.1 hn) f hf)
     ·grind
    ·simp_all
   ·have hi:=(Yr.1 hq).1;exact hparts i q' (by grind)
   ·rw[Yai,←zdN,←g2,za4];exact Yd _
   ·simp_all
 ·have hcl:=hcB last oM oM;rw[h5] at hcl;obtain⟨f,m,g1,g2,g3,g4,g5,g6, -⟩:=hcl.some';have hall:bl (FileR.all ⟨zb last,s,t⟩)=zbo cur:=by unfold FileR.all;dsimp only;rw[zaO,h6]
  rw[hall] at g4 g5;rw[zdN] at g5;dsimp only at g2 g3;obtain⟨j2,k1,k2,k3,k4⟩:=zBX (fun p hp=>hok p (by simp_all)) (ps:=cur) (m:=m) g5;have hsm:f.safe.size≤m:=by rw[←g6,all_size];omega
  have hj2:j≤j2:=k4 j h7 oM;obtain⟨r1,r2,r3⟩:=zgD hd (zcW oM) g1;have hrl:(bl f.all).length=m:=by rw[za4,g6]
  have hrow:(zbo cur).take (zap (cur.take j2))=zbo (cur.take j2):=by
   have:zbo cur=zbo (cur.take j2)++zbo (cur.drop j2):=by rw[←zjG,Ycx]
   rw[this,Y5 (by rw[zdN];exact Yd _),Yf (by rw[zdN];exact Yd _)]
  have hto:put.take (parts.flatten.length+j2)=parts.flatten++cur.take j2:=by rw[h2,Yct]
  have hmm:(∀ k f f',f0≤k→k≤last→zh l (zb k)=some f→zh C.l (zb k)=some f'→bl f'.all=bl f.all)→j2=cur.length:=fun he=>by
   have e1:=he last _ f oM oM h5 (by simp_all);have e3:m=zap cur:=by rw[←hrl,e1,hall,zdN]
   have:=k4 cur.length (Yd _) (by grind);omega
  have hres:∀ {E:ze} (s' t':ByteArray),zai (100000 - f0).toNat B f0 f0 []=(E,last+1,last,parts.flatten++cur.take j2,0)→PowW E→LessD E B→(∀ n,n≠zb last→zh E.l n=zh B.l n) →
    zh E.l (zb last)=some ⟨zb last,s',t'⟩→bl s'++bl t'=zbo (cur.take j2)→zap (cur.take j)≤s'.size →
    ∃ m E la,safe≤m∧m≤put.length∧zbR C (L0 f0 size)=(E,{ L0 f0 size with last:=la },put.take m,0)∧PowW E∧SegI f0 la E.l (put.take m) safe ∧
     (∀ n,(∀ k,okK k→n≠zb k)→zh E.l n=zh C.l n)∧(f0≤la∧la≤last)∧LessD E C∧(∀ f∈E.l,∀ k,okK k→k<f0→f.name≠zb k)∧((∀ k f f',f0≤k→k≤last→zh l (zb k)=some f→zh C.l (zb k)=some f'→bl f'.all=bl f.all)→m=put.length):=fun {E} s' t' he hE hlE hfE hc1 hc2 hc3=>by
   have hnE:NmI last E.l:=hnB.less hlE
   have hk:=key he fun x hx h0 hle=>by
    have:=(hnE.num oM hx h0).1;omega
   refine⟨parts.flatten.length+j2,E,last,by omega,by simp_all,by rw[hk,hto],hE,?_,fun n hn=>?_,by omega,hlE.trans p4,hlow hlE,fun hh=>by rw[hmm hh,h2,Yi]⟩
   ·rw[hto];refine⟨fun q hq=>hok q ?_,hl1,hnE,parts,cur.take j2,h1,rfl,fun i q hq=>?_,.inr ⟨s',t',j,hc1,hc2,by simp_all,by grind,h9⟩⟩
    ·grind
    ·have hi:=(Yr.1 hq).1;rw[hfE _ (zlm oM oM oM)];exact hparts i q hq
   ·rw[hfE n (hn last ⟨by omega,by omega⟩)];exact p3 n hn
  by_cases hcut:zap (cur.take j2)<m
  ·obtain⟨c1,c2,c3⟩:=p1.cut (k:=last) ⟨by omega,by omega⟩ g1 (m:=zap (cur.take j2)) (by omega);have c4:=LessD.cut p1.inv (zb last) (zap (cur.take j2):Int)
   have hb:bl (f.all.extract 0 (zap (cur.take j2)))=zbo (cur.take j2):=by
    rw[zdI,g4,Ybx,Ybh (by omega),hrow]
   refine hres (E:=(zcC B (zb last) (zap (cur.take j2))).1) (f.all.extract 0 (zap (cur.take j2))) .empty ?_ c2 c4 (fun n hn=>by rw[c3,if_neg hn]) (by grind) (by rw[zdv,Ys];exact hb) ?_
   ·rw[hw,zai,r1];dsimp only;rw[if_neg oM,if_neg oS,g4,k2,←g4,hrl,if_pos hcut,if_neg (by simp[c1])]
   ·rw[←za4,hb,zdN];have:cur.take j=(cur.take j2).take j:=by rw[Ybx,Ybh hj2]
    have e2:zbo (cur.take j2)=zbo ((cur.take j2).take j)++zbo ((cur.take j2).drop j):=by rw[←zjG,Ycx]
    rw[this,←zdN,←zdN,e2,Yi];omega
  ·have hme:zap (cur.take j2)=m:=by omega
   have hn2:zh B.l (zb (last+1))=none:=by
    rw[findR_none];intro x hx e;rcases hnB x hx with ⟨k,q1,q2,q3⟩|q1
    ·rw[q3] at e;exact zlm oM oM oM e
    ·rw[e] at q1;have:=zf8 q1
     rw[zcs oM] at this;omega
   have hr2:=ztU hd (zcW (k:=last+1) oM) hn2;obtain⟨n',s',t'⟩:=f;dsimp only at g2 g3;subst g2;refine hres (E:=B) s' t' ?_ p1 (.refl B) (fun n _=>rfl) g1 ?_ oM
   ·rw[hw,zai,r1];dsimp only;rw[if_neg oM,if_neg oS,g4,k2,←g4,hrl,if_neg hcut,zai,if_pos (.inr hr2)]
   ·rw[←hrow,hme,←g4];unfold FileR.all;rw[zaO]
end
section
def zb1 (X:StW) (e:EvX):StW:=(zck X e.kind e.id e.p).1
def zb2 (X:StW) (E:List EvX):StW:=E.foldl zb1 X
def okW (X:StW):List EvX→Prop
 | []=>True
 | e::r=>zcq X e.kind e.id e.p.length=0∧okW (zb1 X e) r
theorem zhH (X:StW) (E F:List EvX):zb2 X (E++F)=zb2 (zb2 X E) F:=Ya2 ..
theorem okW_append:∀ {E F:List EvX} {X:StW},okW X (E++F)↔okW X E∧okW (zb2 X E) F
 | [],F,X=>by simp[okW,zb2]
 | e::r,F,X=>by
  show (_∧okW _ (r++F))↔(_∧okW _ r)∧okW (zb2 (zb1 X e) r) F;rw[okW_append];constructor
  ·simp_all
  ·simp_all
theorem zEm {E:List EvX} {X:StW} (h:okW X E) (m:Nat):okW X (E.take m):=by
 rw[←Ycx m E] at h;exact(okW_append.1 h).1
theorem zxJ {e:EvX} (h:zcB e=0):zca e=zB e:=by unfold zca;rw[if_pos h]
theorem zsj:∀ {E:List EvX} {X:StW},okW X E→zdt X (E.map zB)=(zb2 X E,0)
 | [],X,_=>rfl
 | e::r,X,h=>by
  have he:zcB e=0:=zir h.1;obtain⟨b1,b2⟩:=back he;rw[zxJ he] at b1 b2;have ha:(zck X e.kind e.id e.p).2=0:=by unfold zck;rw[if_pos h.1]
  rw[Yv,zdt,if_neg (by simp[b2]),b1,if_neg (by simp[ha])];exact zsj h.2
theorem zt9 (m:Mk):∀ l:List Mk,(zhC m l).length≤l.length+1
 | []=>by simp[zhC]
 | y::r=>by
  have:=zt9 m r;unfold zhC
  repeat' split
  all_goals simp
  exact this
theorem zEn (S:StR) (k:Int) (i:IdT) (p:List UInt8):(zag S k i p).l.length≤S.l.length+1∧(zag S k i p).epoch≤S.epoch+1:=by
 have:=Yar (fun m:zdH=>decide (m.id≠i)) S.l;unfold zag;split
 ·simp
 split
 ·grind
 split
 ·grind
 ·omega
theorem zIt (X:StW) (e:EvX):(zb1 X e).S.l.length≤X.S.l.length+1∧(zb1 X e).sn.length≤X.sn.length+1∧(zb1 X e).S.epoch≤X.S.epoch+1:=by
 unfold zb1 zck;split
 ·obtain⟨h1,h2⟩:=zEn X.S e.kind e.id e.p;refine⟨h1,?_,h2⟩;dsimp only;split
  ·exact zt9 _ _
  ·omega
 ·grind
theorem zCz:∀ (E:List EvX) (X:StW),(zb2 X E).S.l.length≤X.S.l.length+E.length∧(zb2 X E).sn.length≤X.sn.length+E.length∧(zb2 X E).S.epoch≤X.S.epoch+E.length
 | [],X=>by simp[zb2]
 | e::r,X=>by
  have h1:=zCz r (zb1 X e);have h2:=zIt X e
  have h3:zb2 X (e::r)=zb2 (zb1 X e) r:=rfl;rw[h3,Ym];omega
theorem zqj {e:EvX} (h:zcB e=0):(zB e).length≤55∧1≤(zB e).length:=by
 have h1:(zY e.id.o e.id.d e.id.e e.id.c).length=6:=by simp[zY,two]
 unfold zB;rw[Ym];split
 ·simp
 ·split
  ·rename_i h2;have:=(ziq h h2).2.2
   rw[Yi];omega
  ·omega
theorem zAp {e:EvX} (h:zcB e=0):zcV (zB e):=by
 have:=zqj h;unfold zcV;omega
theorem zGK {q:List UInt8} (h:zcV q):zgj q=0:=by
 unfold zcV at h;unfold zgj;rw[if_neg oM,if_neg oM]
end
section
variable {D D' D'':ze} {L:zaM} {ns ms:ByteArray→Prop} {a b u v:Nat}
def PowD (D:ze):Prop:=D.down=false∧D.left = -1
structure Turn (D D':ze) (ns:ByteArray→Prop) (a u:Nat):Prop where
 inv:InvD D'
 lim:D'.limit=D.limit
 len:D'.l.length≤D.l.length+a
 used:za0 D'.l≤za0 D.l+u
 find:∀ n,¬ns n→zh D'.l n=zh D.l n
 pow:PowD D→PowD D'
theorem Turn.refl (h:InvD D) (ns:ByteArray→Prop):Turn D D ns 0 0:=⟨h,rfl,Yd _,Yd _,fun _ _=>rfl,id⟩
theorem Turn.trans (h:Turn D D' ns a u) (h':Turn D' D'' ms b v):Turn D D'' (fun n=>ns n∨ms n) (a+b) (u+v):=
 ⟨h'.inv,h'.lim.trans h.lim,by have:=h.len;have:=h'.len;omega,by have:=h.used;have:=h'.used;omega,fun n hn=>by rw[h'.find n fun e=>hn (.inr e),h.find n fun e=>hn (.inl e)],fun hp=>h'.pow (h.pow hp)⟩
theorem Turn.more (h:Turn D D' ns a u) (hn:∀ n,ns n→ms n) (ha:a≤b) (hu:u≤v):Turn D D' ms b v:=
 ⟨h.inv,h.lim,by have:=h.len;omega,by have:=h.used;omega,fun n hm=>h.find n fun e=>hm (hn n e),h.pow⟩
theorem Turn.mem (h:Turn D D' ns a u) (hi:InvD D) {f:FileR} (hf:f∈D'.l):f∈D.l∨ns f.name:=by
 by_cases hn:ns f.name
 ·simp_all
 ·have:=h.find _ hn;rw[(zaw h.inv.sort).2 ⟨hf,rfl⟩] at this;exact .inl ((zaw hi.sort).1 this.symm).1
theorem PowD.changed (h:PowD D) (l:List FileR):PowD (zbq D l):=by
 unfold PowD zbq;dsimp only;rw[h.2];exact⟨by decide,by decide⟩
theorem Turn.sync (h:InvD D) (s:ByteArray):Turn D (zbM D s).1 (· = s) 0 0:=by
 have hi:=zoo h s;revert hi;unfold zbM;split
 ·exact fun _ => .refl h _
 ·rename_i h0;intro hi;have hf:=(zcA (by simpa using h0)).2
  have:=zoB h.sort hf (f:=⟨s,(zt D s).all,.empty⟩) rfl;have he:ByteArray.empty.size=0:=rfl
  have hz:=all_size (zt D s);dsimp only at this;exact⟨hi,rfl,by show (zbk D.l _).length≤_;omega,by show za0 (zbk D.l _)≤_;omega,fun n hn=>(zdF h.sort _ n).trans (if_neg hn),fun hp=>hp.changed _⟩
theorem Turn.remove (h:InvD D) (s:ByteArray):Turn D (zae D s).1 (· = s) 0 0:=by
 have hl:=LessD.remove h s;refine⟨zer h s,hl.lim,hl.len,hl.used,fun n hn=>zk1 h hn,fun hp=>?_⟩;unfold zae;split
 ·exact hp
 ·exact hp.changed _
theorem Turn.append (h:InvD D) (s:ByteArray) (p:List UInt8):Turn D (zay D s p).1 (· = s) 1 p.length:=by
 have hi:=zqd h s p;revert hi;unfold zay;split
 ·exact fun _=>(Turn.refl h _).more (fun _=>id) oM oM
 split
 ·exact fun _=>(Turn.refl h _).more (fun _=>id) oM oM
 ·intro hi;have hp:(⟨p.toArray⟩:ByteArray).size=p.length:=by rw[←za4,zlZ]
  have hn:(zbk D.l ⟨s,(zt D s).safe,(zt D s).tail++⟨p.toArray⟩⟩).length≤D.l.length+1∧za0 (zbk D.l ⟨s,(zt D s).safe,(zt D s).tail++⟨p.toArray⟩⟩)≤za0 D.l+p.length:=by
   have hz:((zt D s).tail++(⟨p.toArray⟩:ByteArray)).size=(zt D s).tail.size+p.length:=by rw[←za4,zaO,Yi,za4,zlZ]
   cases hf:zh D.l s with
   | none=>
    have e:zt D s=⟨s,.empty,.empty⟩:=by unfold zt;rw[hf];rfl
    have he:ByteArray.empty.size=0:=rfl;rw[e] at hz ⊢;dsimp only at hz ⊢;unfold zbk;dsimp only;rw[zfK hf,zh5,zkd];dsimp only;omega
   | some x=>
    have e:zt D s=x:=by unfold zt;rw[hf];rfl
    rw[e] at hz ⊢;have:=zoB h.sort hf (f:=⟨s,x.safe,x.tail++⟨p.toArray⟩⟩) rfl
    dsimp only at this;omega
  exact⟨hi,rfl,hn.1,hn.2,fun n hn=>(zdF h.sort _ n).trans (if_neg hn),fun hp=>hp.changed _⟩
theorem zGL (h:InvD D) (hd:D.down=false) {s:ByteArray} (hs:zbX s=true) {f:FileR} (hf:zh D.l s=some f):(zbM D s).2=0∧zh (zbM D s).1.l s=some ⟨s,f.all,.empty⟩:=by
 obtain⟨-, h2,h3⟩:=zgD hd hs hf;unfold zbM;rw[if_neg (by simp[h2]),h3];exact⟨rfl,(zdF h.sort _ s).trans (if_pos rfl)⟩
theorem zCA (h:InvD D) (hd:D.down=false) {s:ByteArray} (hs:zbX s=true) {p:List UInt8} (h1:za0 D.l+p.length≤D.limit) (h2:D.l.length<64) :
  (zay D s p).2=0∧zh (zay D s p).1.l s=some ⟨s,(zt D s).safe,(zt D s).tail++⟨p.toArray⟩⟩:=by
 have hr:za5 D s=0:=by unfold za5;simp[hd,hs]
 unfold zay;rw[if_neg (by simp[hr]),if_neg oM];exact⟨rfl,(zdF h.sort _ s).trans (if_pos rfl)⟩
theorem zCB (h:InvD D) (hd:D.down=false) {s:ByteArray} (hs:zbX s=true) {f:FileR} (hf:zh D.l s=some f):(zae D s).2=0∧zh (zae D s).1.l s=none:=by
 obtain⟨-, h2,h3⟩:=zgD hd hs hf;unfold zae;rw[if_neg (by simp[h2])];exact⟨rfl,(zgH h.sort s s).trans (if_pos rfl)⟩
theorem zAq (hd:D.down=true) (s:ByteArray):za5 D s=9∧zaH D s=9:=by
 have h:za5 D s=9:=by unfold za5;rw[if_pos hd]
 exact⟨h,by unfold zaH;rw[if_pos (by rw[h];decide),h]⟩
theorem zxK (hd:D.down=true) (s:ByteArray) (p:List UInt8):zay D s p=(D,9):=by
 unfold zay;rw[(zAq hd s).1,if_pos oD]
theorem zsk (hf:L.failed=false) {e:Int} (he:e≠9):zdr L e=L:=by
 obtain⟨a,b,c,d⟩:=L;dsimp only at hf;subst hf;unfold zdr;dsimp only;rw[decide_eq_false he];rfl
theorem zoC (hd:D.down=false) {k:Int} (hk:1≤k∧k≤99999):zc0 D k=match zh D.l (zb k) with|some f=>f.all.size|none=>0:=by
 unfold zc0;rw[if_neg (by simp[hd]),zja hd (zcW hk)];cases zh D.l (zb k) with
 | none=>rfl
 | some f=>rfl
theorem zsl (h:InvD D) (hf:L.failed=false) (hl:1≤L.last∧L.last≤99999):Turn D (syncL D L).1 (· = zb L.last) 0 0 ∧
  ((D.down=true∧(syncL D L).1=D∧(syncL D L).2.1=zdr L 9∧(syncL D L).2.2=9)∨(D.down=false∧(syncL D L).2.1=L∧(syncL D L).2.2=0 ∧
   ((zh D.l (zb L.last)=none∧(syncL D L).1=D)∨∃ f,zh D.l (zb L.last)=some f∧((f.tail = .empty∧(syncL D L).1=D)∨zh (syncL D L).1.l (zb L.last)=some ⟨zb L.last,f.all,.empty⟩)))):=by
 unfold syncL;rw[if_neg (by simp[hf])];split
 ·rename_i hd;exact⟨.refl h _,.inl ⟨hd,rfl,rfl,rfl⟩⟩
 ·rename_i hd;have hd':D.down=false:=by simpa using hd
  split
  ·rename_i he;refine⟨.refl h _,.inr ⟨hd',rfl,rfl,?_⟩⟩;rw[zoC hd' hl] at he;cases hx:zh D.l (zb L.last) with
   | none=>simp
   | some f=>
    refine .inr ⟨f,rfl,.inl ⟨?_,rfl⟩⟩;rw[hx] at he;unfold zgM at he;rw[hx] at he;dsimp only at he;rw[all_size] at he;exact ztT oM
  ·rename_i he;refine⟨.sync h _,?_⟩;rw[zoC hd' hl] at he;cases hx:zh D.l (zb L.last) with
   | none=>
    rw[hx] at he;unfold zgM at he;rw[hx] at he;exact absurd rfl he
   | some f=>
    obtain⟨h1,h2⟩:=zGL h hd' (zcW hl) hx;exact .inr ⟨hd',by dsimp only;rw[h1];exact zsk hf oD,h1,.inr ⟨f,rfl,.inr h2⟩⟩
theorem zxL (h:InvD D) (hf:L.failed=false) (hl:1≤L.last∧L.last<99999):Turn D (beginL D L).1 (· = zb L.last) 0 0 ∧
  ((D.down=true∧(beginL D L).2.2.2=9∧(beginL D L).2.1=zdr L 9)∨(D.down=false∧(beginL D L).2.2.2=0∧(beginL D L).2.2.1=(beginL D L).2.1.last ∧
   ((zc0 D L.last=0∧(beginL D L).2.1=L∧(zh D.l (zb L.last)=none→(beginL D L).1=D))∨(0<zc0 D L.last∧(beginL D L).2.1={ L with last:=L.last+1 })))):=by
 obtain⟨h1,h2⟩:=zsl h hf oM;unfold beginL;rcases h2 with ⟨a1,a2,a3,a4⟩|⟨a1,a2,a3,a4⟩
 ·simp_all
 ·rw[if_neg (by simp[a3])]
  have hlen:(zc0 (syncL D L).1 L.last=0)=(zc0 D L.last=0):=by
   rcases a4 with ⟨b1,b2⟩|⟨f,b1,⟨b2,b3⟩|b2⟩
   ·rw[b2]
   ·rw[b3]
   ·rw[zoC a1 oM,b1];unfold zc0;split
    ·unfold zgM;rw[b2]
    ·rename_i hd;have e:FileR.all ⟨zb L.last,f.all,.empty⟩=f.all:=zlj (by unfold FileR.all;rw[zaO,zdv,Ys])
     rw[zja (by simpa using hd) (zcW oM),b2];dsimp only;rw[e]
  split
  ·grind
  ·grind
theorem zwE (h:InvD D) (hf:L.failed=false) (hl:1≤L.last∧L.last<99999) {q:List UInt8} (hq:zcV q) (hr:za0 D.l+(zam q).length≤D.limit) (hn:D.l.length<64) :
  Turn D (zaf D L q).1 (fun n=>n=zb L.last∨n=zb (L.last+1)) 1 (zam q).length∧(zaf D L q).2.1.first=L.first∧(L.last≤(zaf D L q).2.1.last∧(zaf D L q).2.1.last≤L.last+1) ∧
  (((zaf D L q).2.2=9∧¬PowD D)∨((zaf D L q).2.2=0∧(zaf D L q).2.1.failed=false∧∃ f,zh (zaf D L q).1.l (zb (zaf D L q).2.1.last)=some f∧0<f.all.size)):=by
 unfold zaf;rw[if_neg (by simp[hf]),zGK hq,if_neg oD];split
 ·rename_i hd;exact⟨(Turn.refl h _).more (fun _=>id) oM oM,rfl,by unfold zdr;dsimp only;omega,.inl ⟨rfl,fun hp=>by rw[hp.1] at hd;cases hd⟩⟩
 rename_i hd;have hd':D.down=false:=by simpa using hd
 obtain⟨r,hrm⟩:=oI (zbO D L (zam q).length)
 have hroom:Turn D r.1 (· = zb L.last) 0 0∧r.2.2=0∧r.2.1.failed=false∧r.2.1.first=L.first∧L.last≤r.2.1.last∧r.2.1.last≤L.last+1:=by
  rw[hrm];unfold zbO;split
  ·obtain⟨b1,b2⟩:=zxL h hf hl;rcases b2 with ⟨c1,_⟩|⟨_,c2,_,c4⟩
   ·simp_all
   ·grind
  ·exact⟨.refl h _,rfl,hf,rfl,by simp,by grind⟩
 rw[←hrm];obtain⟨t1,t2,t3,t4,t5,t6⟩:=hroom;rw[if_neg (by simp[t2])];have ht:=(t1.trans (Turn.append t1.inv (zb r.2.1.last) (zam q))).more (ms:=fun n=>n=zb L.last∨n=zb (L.last+1)) (b:=1) (v:=(zam q).length) (fun n hn=>by grind) oM oM
 refine⟨ht,t4,⟨t5,t6⟩,?_⟩;cases hd2:r.1.down
 ·obtain⟨c1,c2⟩:=zCA t1.inv hd2 (zcW (k:=r.2.1.last) oM) (p:=zam q) (by rw[t1.lim];have:=t1.used;omega) (by have:=t1.len;omega);refine .inr ⟨c1,by dsimp only;rw[c1,zsk t3 oD];exact t3,_,c2,?_⟩;rw[←za4];unfold FileR.all;dsimp only;rw[zaO,zaO,zlZ (zam q),Yi,Yi,zdV];omega
 ·rw[zxK hd2];exact .inl ⟨rfl,fun hp=>by rw[(t1.pow hp).1] at hd2;cases hd2⟩
end
section
variable {D D':ze} {C:CuR} {k0 last:Int} {E0 E1:List EvX} {s n:Nat} {ns:ByteArray→Prop} {a u:Nat}
structure Par where
 me:Int
 qh:Int
 qb:Int
 qg:Int
 seg:Int
variable {P:Par}
def Par.x0 (P:Par):StW:=⟨zkW P.me P.qh P.qb P.qg,[]⟩
theorem zoY {j k:Int} (hj:okK j) (hk:okK k):zaD j≠zb k:=fun e=>by
 unfold okK at hj hk;have:=zf8 (zwe (k:=j) oM)
 rw[e,zcs oM] at this;omega
theorem zIu {k:Int} (hk:okK k):zfb≠zb k:=fun e=>by
 unfold okK at hk;have:=zf8 (e▸zH0:zhz (zb k))
 rw[zcs oM] at this;omega
theorem zFz {k:Int} (hk:okK k):zfb≠zaD k:=fun e=>by
 unfold okK at hk;rw[zfQ oM] at e;have:=congrArg ByteArray.size e
 exact absurd this (by show ¬(1=6);decide)
structure RecI (P:Par) (D:ze) (k0:Int) (E0 E1:List EvX) (last:Int) (s:Nat):Prop where
 inv:InvD D
 nm:NamesC D
 seg:SegI (max k0 1) last D.l (E1.map zB) s
 ok:okW P.x0 (E0++E1)
 snap:k0=0∧E0=[]∧∀ f∈D.l,∀ k,okK k→f.name≠zaD k
structure Cnt (n:Nat) (D:ze) (last:Int) (m:Nat):Prop where
 files:D.l.length≤n
 used:za0 D.l≤1000*n
 last:last≤n
 evs:m≤n
 lim:D.limit=100000
structure LiveB (P:Par) (n:Nat) (C:CuR) (E0 E1:List EvX) (s:Nat):Prop where
 rc:RecI P C.D C.w.snap E0 E1 C.L.last s
 cnt:Cnt n C.D C.L.last (E0++E1).length
 X:C.X=zb2 P.x0 (E0++E1)
 up:C.w.failed=false∧C.L.failed=false∧C.w.spent=false
 first:C.L.first=max C.w.snap 1
 lg:LgOk C.L
 own:∀ f∈C.D.l,(∃ k,C.L.first≤k∧k≤C.L.last∧f.name=zb k)∨(okK C.w.snap∧f.name=zaD C.w.snap)
structure LiveI (P:Par) (n:Nat) (C:CuR) (E0 E1:List EvX) (s:Nat):Prop extends LiveB P n C E0 E1 s where
 cur:(E1=[]∧C.L.last=C.w.snap∧zh C.D.l (zb C.L.last)=none)∨∃ f,zh C.D.l (zb C.L.last)=some f∧0<f.all.size
def RecD (P:Par) (n:Nat) (D:ze) (E0 E1:List EvX) (s:Nat):Prop:=∃ k0 last,RecI P D k0 E0 E1 last s∧Cnt n D last (E0++E1).length
theorem LiveB.recd (h:LiveB P n C E0 E1 s):RecD P n C.D E0 E1 s:=⟨_,_,h.rc,h.cnt⟩
theorem RecI.rng (h:RecI P D k0 E0 E1 last s):0≤k0∧k0≤99999:=by
 have:=h.snap.1;omega
theorem RecI.turn2 (h:RecI P D k0 E0 E1 last s) (ht:Turn D D' ns a u) (h0:okK k0→¬ns (zaD k0)) (hin:∀ f∈D'.l,∀ k,okK k→f.name=zaD k→f∈D.l) (hnm:NamesC D') {E1':List EvX} {last':Int} {s':Nat} (hseg:SegI (max k0 1) last' D'.l (E1'.map zB) s') (hok:okW P.x0 (E0++E1')):RecI P D' k0 E0 E1' last' s':=by
 refine⟨ht.inv,hnm,hseg,hok,?_⟩;obtain⟨e1,e2,e3⟩:=h.snap;exact⟨e1,e2,fun f hf k hk e=>e3 f (hin f hf k hk e) k hk e⟩
theorem RecI.turn (h:RecI P D k0 E0 E1 last s) (ht:Turn D D' ns a u) (hns:∀ j,okK j→¬ns (zaD j)) (hnm:NamesC D') {E1':List EvX} {last':Int} {s':Nat} (hseg:SegI (max k0 1) last' D'.l (E1'.map zB) s') (hok:okW P.x0 (E0++E1')):RecI P D' k0 E0 E1' last' s':=
 h.turn2 ht (hns k0) (fun _ hf k hk e=>(ht.mem h.inv hf).resolve_right fun hn=>hns k hk (e▸hn)) hnm hseg hok
theorem Cnt.turn {m m':Nat} {last':Int} (h:Cnt n D last m) (ht:Turn D D' ns a u) (ha:a≤1) (hu:u≤1000) (hl:last'≤last+1) (hm:m'≤m+1):Cnt (n+1) D' last' m':=
 ⟨by have:=ht.len;have:=h.files;omega,by have:=ht.used;have:=h.used;omega,by have:=h.last;omega,by have:=h.evs;omega,ht.lim.trans h.lim⟩
theorem LiveB.evs (h:LiveB P n C E0 E1 s):C.X.S.l.length≤n∧C.X.sn.length≤n∧C.X.S.epoch≤n:=by
 have h1:=zCz (E0++E1) P.x0;have h2:=h.cnt.evs
 rw[←h.X] at h1;have e1:P.x0.S.l.length=0:=rfl
 have e2:P.x0.sn.length=0:=rfl;have e3:P.x0.S.epoch=0:=rfl
 omega
theorem zqk (C:CuR) (e:EvX) (h:zcq C.X e.kind e.id e.p.length=0):zln C e.kind e.id e.p=({ C with X:=zb1 C.X e },0):=by
 unfold zln zb1 zck;rw[if_pos h]
theorem zwF (h:LiveB P n C E0 E1 s) (ht:Turn C.D D' (fun n=>n=zb C.L.last∨n=zb (C.L.last+1)) a u) {last':Int} (hl:C.L.last≤last') (hl2:C.L.last<99999) {E1':List EvX} {s':Nat} (hseg:SegI (max C.w.snap 1) last' D'.l (E1'.map zB) s') :
  ∀ f∈D'.l,(∃ k,C.L.first≤k∧k≤last'∧f.name=zb k)∨(okK C.w.snap∧f.name=zaD C.w.snap):=fun f hf=>by
 have hf1:=h.first;have hs1:=h.rc.seg.f1
 have hs2:=hseg.f1;rcases ht.mem h.rc.inv hf with hf2|hf2
 ·rcases h.own f hf2 with ⟨k,b1,b2,b3⟩|b
  ·exact .inl ⟨k,b1,by omega,b3⟩
  ·exact .inr b
 ·rcases hseg.names f hf with ⟨k,b1,b2,b3⟩|b
  ·refine .inl ⟨k,?_,b2,b3⟩;rcases hf2 with e|e
   ·have:=zjH (j:=k) (k:=C.L.last) oM oM (b3▸e);omega
   ·have:=zjH (j:=k) (k:=C.L.last+1) oM oM (b3▸e);omega
  ·exfalso;have:=zf8 b
   rcases hf2 with e|e
   ·rw[e,zcs oM] at this;omega
   ·rw[e,zcs oM] at this;omega
theorem zwG {w:CuW} (h:w.failed=false) {e:Int} (he:e≠9):zib w e=w:=by
 obtain⟨a,b,c⟩:=w;dsimp only at h;subst h;unfold zib;dsimp only;rw[decide_eq_false he];rfl
set_option maxHeartbeats 1000000 in
theorem LiveB.put (h:LiveB P n C E0 E1 s) (hn:n≤62) (e:EvX) (safely:Bool) {r:CuR×Int} (hr:r=zaC C e.kind e.id e.p safely) :
  (zcq C.X e.kind e.id e.p.length≠0∧r=(C,zcq C.X e.kind e.id e.p.length)) ∨
  (zcq C.X e.kind e.id e.p.length=0∧r.2=0∧(∃ s',LiveI P (n+1) r.1 E0 (E1++[e]) s'∧s≤s'∧(safely=true→s'=E1.length+1))∧(PowD C.D→PowD r.1.D)∧r.1.w=C.w) ∨
  (zcq C.X e.kind e.id e.p.length=0∧r.2=9∧¬PowD C.D∧r.1.w.failed=true∧r.1.X=C.X∧(RecD P (n+1) r.1.D E0 E1 s∨RecD P (n+1) r.1.D E0 (E1++[e]) s)):=by
 obtain⟨u1,u2,u3⟩:=h.up;unfold zaC at hr;rw[if_neg (by simp[u1])] at hr;by_cases hm:zcq C.X e.kind e.id e.p.length=0
 case neg=>rw[if_pos hm] at hr;exact .inl ⟨hm,hr⟩
 rw[if_neg (by simp[hm])] at hr;have hev:zcB e=0:=zir hm
 have hq:=zAp hev;have hql:=(zqj hev).1
 have hpl:=zdV (zB e);have hc:=h.cnt
 have hl1:=h.rc.seg.f1;have hlast:=hc.last
 obtain⟨t1,t2,t3,t4⟩:=zwE (D:=C.D) (L:=C.L) (q:=zB e) h.rc.inv u2 oM hq (by have:=hc.used;have:=hc.lim;omega) (by have:=hc.files;omega);obtain⟨s1,s2, -⟩:=h.rc.seg.append h.rc.inv (zB e);obtain⟨m1,m2⟩:=zsb h.rc.nm h.lg (zB e)
 have hns:∀ j,okK j→¬(fun n=>n=zb C.L.last∨n=zb (C.L.last+1)) (zaD j):=fun j hj hh=>by
  rcases hh with hh|hh
  ·exact zoY hj ⟨by omega,by omega⟩ hh
  ·exact zoY hj ⟨by omega,by omega⟩ hh
 have hok:okW P.x0 (E0++(E1++[e])):=by
  rw[←Yp];refine okW_append.2 ⟨h.rc.ok,?_,trivial⟩;rw[←h.X];exact hm
 have hmap:(E1++[e]).map zB=E1.map zB++[zB e]:=by simp
 obtain⟨A,hA⟩:=oI (zaf C.D C.L (zB e));have hApp:ziH C (zB ⟨e.kind,e.id,e.p⟩)=({ C with D:=A.1,L:=A.2.1,w:=zib C.w A.2.2 },A.2.2):=by unfold ziH;rw[hA]
 have hApp2:(ziH C (zB ⟨e.kind,e.id,e.p⟩)).2=A.2.2:=by rw[hApp]
 rw[←hA] at t1 t2 t3 t4 s1 s2 m1 m2;rw[hApp2,hApp] at hr;rcases t4 with ⟨w1,w2⟩|⟨w1,w2,w3⟩
 ·rw[if_pos (by rw[w1];decide)] at hr;refine .inr (.inr ⟨hm,by rw[hr];exact w1,w2,by rw[hr];show (C.w.failed||decide (A.2.2=9))=true;rw[w1];simp,by rw[hr],.inl ?_⟩);rw[hr];exact⟨_,_,h.rc.turn t1 hns m1 (s2 (by rw[w1];decide)) h.rc.ok,hc.turn t1 oM oM t3.2 oM⟩
 rw[if_neg (by simp[w1])] at hr;have hw:zib C.w A.2.2=C.w:=zwG u1 (by rw[w1];decide)
 rw[hw] at hr;have g1:=s1 w1
 rw[←hmap] at g1;have hm2:(E0++(E1++[e])).length≤(E0++E1).length+1:=by simp;omega
 have r1:RecI P A.1 C.w.snap E0 (E1++[e]) A.2.1.last s:=h.rc.turn t1 hns m1 g1 hok;have c1:Cnt (n+1) A.1 A.2.1.last (E0++(E1++[e])).length:=hc.turn t1 oM oM t3.2 hm2
 have hX:zb1 C.X e=zb2 P.x0 (E0++(E1++[e])):=by rw[←Yp,zhH,←h.X];rfl
 cases safely with
 | false=>
  rw[if_neg oD] at hr;replace hr:=hr.trans (zqk { C with D:=A.1,L:=A.2.1 } e hm);refine .inr (.inl ⟨hm,by rw[hr],⟨s,?_,Yd _,fun h=>by cases h⟩,by rw[hr];exact t1.pow,by rw[hr]⟩);rw[hr];exact⟨⟨r1,c1,hX,⟨u1,w2,u3⟩,t2.trans h.first,m2,by dsimp only;rw[t2];exact zwF h t1 t3.1 oM g1⟩,.inr w3⟩
 | true=>
  rw[if_pos rfl] at hr;have hAl:1≤A.2.1.last∧A.2.1.last≤99999:=by omega
  obtain⟨y1,y2⟩:=zsl (D:=A.1) (L:=A.2.1) t1.inv w2 hAl;obtain⟨z1,z2⟩:=g1.sync t1.inv;have z3:=m1.syncL A.2.1
  have z4:=m2.sync A.1
  have y3:=(t1.trans y1).more (ms:=fun n=>n=zb C.L.last∨n=zb (C.L.last+1)) (b:=1) (v:=(zam (zB e)).length) (fun n hn=>by
   rcases hn with hn|hn
   ·exact hn
   ·rcases(show A.2.1.last=C.L.last∨A.2.1.last=C.L.last+1 by omega) with e2|e2
    ·rw[e2] at hn;exact .inl hn
    ·rw[e2] at hn;exact .inr hn) oM oM
  obtain⟨B,hB⟩:=oI (syncL A.1 A.2.1);have hSy:zgP { C with D:=A.1,L:=A.2.1 }=({ C with D:=B.1,L:=B.2.1,w:=zib C.w B.2.2 },B.2.2):=by unfold zgP;rw[hB]
  rw[←hB] at y1 y2 y3 z1 z2 z3 z4;have hSy2:(zgP { C with D:=A.1,L:=A.2.1 }).2=B.2.2:=by rw[hSy]
  rw[hSy2,hSy] at hr
  have hBl:B.2.1.last=A.2.1.last:=by
   rcases y2 with ⟨_,_,y,_⟩|⟨_,y,_⟩
   ·rw[y];rfl
   ·rw[y]
  rcases y2 with ⟨q1,q2,q3,q4⟩|⟨q1,q2,q3,q4⟩
  ·rw[if_pos (by rw[q4];decide)] at hr;refine .inr (.inr ⟨hm,by rw[hr];exact q4,(fun hp=>by rw[(t1.pow hp).1] at q1;cases q1),by rw[hr];show (C.w.failed||decide (B.2.2=9))=true;rw[q4];simp,by rw[hr],.inr ?_⟩);rw[hr];dsimp only;rw[q2];exact⟨_,_,r1,c1⟩
  ·have hw2:zib C.w B.2.2=C.w:=zwG u1 (by rw[q3];decide);rw[if_neg (by simp[q3]),hw2] at hr;replace hr:=hr.trans (zqk { C with D:=B.1,L:=B.2.1 } e hm);have z5:=z1.full (z2 q3)
   rw[←hBl] at z5;have hlen:((E1++[e]).map zB).length=E1.length+1:=by simp
   rw[hlen] at z5;have hs:s≤E1.length+1:=by have:=g1.safe_le;rw[hlen] at this;exact this
   refine .inr (.inl ⟨hm,by rw[hr],⟨E1.length+1,?_,hs,fun _=>rfl⟩,by rw[hr];exact y3.pow,by rw[hr]⟩);rw[hr];refine⟨⟨h.rc.turn y3 hns z3 z5 hok,hc.turn y3 oM oM (by dsimp only;rw[hBl];exact t3.2) hm2,hX,⟨u1,by dsimp only;rw[q2];exact w2,u3⟩,by dsimp only;rw[q2,t2];exact h.first,z4,?_⟩,.inr ?_⟩
   ·dsimp only;rw[q2,t2];exact zwF h y3 t3.1 oM (q2▸z5)
   ·dsimp only;rw[q2];obtain⟨f,f1,f2⟩:=w3;rcases q4 with ⟨o1,o2⟩|⟨x,o1,⟨o2,o3⟩|o2⟩
    ·rw[f1] at o1;cases o1
    ·rw[o3];exact⟨f,f1,f2⟩
    ·rw[f1] at o1;cases o1;refine⟨_,o2,?_⟩;have e:FileR.all ⟨zb A.2.1.last,f.all,.empty⟩=f.all:=zlj (by unfold FileR.all;rw[zaO,zdv,Ys])
     rw[e];exact f2
end
section
variable {C D E T:ze} {k0 last:Int} {E0 E1:List EvX} {s n:Nat} {P:Par}
theorem zCC (hi:InvD C) (hn:NamesC C) {k:Int}:k∈zgC C↔okK k∧∃ f,zh C.l (zaD k)=some f:=by
 unfold zgC;rw[Ya1,Yj];constructor
 ·rintro ⟨⟨f,hf,rfl⟩,hk⟩;have h0:=Zd0 hk
  obtain⟨k,h1,h2,h3⟩:=(hn.num hf).resolve_right fun h6=>by have:=h6.2;omega
  rw[h3];exact⟨⟨by omega,by omega⟩,f,(zaw hi.sort).2 ⟨hf,h2⟩⟩
 ·rintro ⟨hk,f,hf⟩;obtain⟨h1,h2⟩:=(zaw hi.sort).1 hf;unfold okK at hk;exact⟨⟨f,h1,by rw[h2,zr7 oM]⟩,decide_eq_true oM⟩
structure CutD (D C:ze):Prop where
 inv:InvD C
 pow:PowD C
 lim:C.limit=D.limit
 cut:∀ n,CutAt (zh D.l n) (zh C.l n)
 len:C.l.length≤D.l.length
 used:za0 C.l≤za0 D.l
theorem CutD.refl (h:InvD D) (hp:PowD D):CutD D D:=⟨h,hp,rfl,fun _ => .refl _,Yd _,Yd _⟩
theorem CutD.crash (h:InvD D) (keep:List Int):CutD D (zaR D keep):=by
 refine⟨zmu h keep,⟨rfl,rfl⟩,rfl,fun n=>?_,?_,zqe keep⟩
 ·cases hf:zh D.l n with
  | none=>rw[zz7 keep hf];trivial
  | some f=>
   obtain⟨i,hi⟩:=zz6 h keep hf;rw[hi];have hz:=zq0 keep i f
   refine⟨rfl,?_,⟨f.safe.size+zke keep i f,?_⟩,fun _=>rfl⟩
   ·unfold zef;dsimp only;rw[←za4 f.safe,←za4,zaO,Yi];omega
   ·unfold zef FileR.all;dsimp only;rw[zaO,zaO,zaO,zdI,zdv,Ys,←za4 f.safe,Yct]
 ·unfold zaR;simp
theorem CutD.nm (h:CutD D C) (hi:InvD D):∀ f∈C.l,∃ f'∈D.l,f'.name=f.name:=fun f hf=>by
 have h1:=h.cut f.name;rw[(zaw h.inv.sort).2 ⟨hf,rfl⟩] at h1;cases hx:zh D.l f.name with
 | none=>rw[hx] at h1;exact h1.elim
 | some f'=>exact⟨f',((zaw hi.sort).1 hx).1,((zaw hi.sort).1 hx).2⟩
@[reducible] def bootX:EvX:=⟨1,za7,[]⟩
theorem NamesC.less (h:NamesC C) (hl:∀ f∈E.l,∃ f'∈C.l,f'.name=f.name):NamesC E:=fun f hf=>by
 obtain⟨f',h1,h2⟩:=hl f hf;have:=h f' h1
 rw[h2] at this;exact this
theorem zCD (hi:InvD C) (hp:PowD C):(zbE C).2=0∧InvD (zbE C).1∧PowD (zbE C).1∧LessD (zbE C).1 C∧(∀ n,n≠zfb→zh (zbE C).1.l n=zh C.l n)∧zh (zbE C).1.l zfb=none:=by
 unfold zbE;split
 ·rename_i h
  have hf:∃ f,zh C.l zfb=some f:=by
   rw[Ybn] at h;obtain⟨f,h1,h2⟩:=h;exact⟨f,(zaw hi.sort).2 ⟨h1,Zd0 h2⟩⟩
  obtain⟨f,hf⟩:=hf;obtain⟨g1,g2⟩:=zCB hi hp.1 (s:=zfb) oD hf;have t:=Turn.remove hi zfb
  exact⟨g1,t.inv,t.pow hp,.remove hi _,t.find,g2⟩
 ·rename_i h;refine⟨rfl,hi,hp,.refl C,fun _ _=>rfl,?_⟩;rw[findR_none];intro f hf e;exact h (Ybn.2 ⟨f,hf,decide_eq_true e⟩)
set_option maxHeartbeats 1000000 in
theorem RecD.open (h:RecD P n D E0 E1 s) (hn:n≤60) (hC:CutD D C) (hb:¬zcE P.me P.qh P.qb P.qg) (hseg:16≤P.seg∧P.seg≤1048576) :
  ∃ ld m,ld=none∧s≤m∧m≤E1.length∧Ld (zbE C).1 P.me P.qh P.qb P.qg ld∧(zaL C P.me P.qh P.qb P.qg P.seg ld).2=0∧LiveI P (n+1) (zaL C P.me P.qh P.qb P.qg P.seg ld).1 E0 (E1.take m++[bootX]) (m+1)∧PowD (zaL C P.me P.qh P.qb P.qg P.seg ld).1.D ∧
   ((∀ n f f',zh D.l n=some f→zh C.l n=some f'→bl f'.all=bl f.all)→m=E1.length):=by
 obtain⟨k0,last,hr,hc⟩:=h;obtain⟨w1,w2,w3,w4,w5,w6⟩:=zCD hC.inv hC.pow;obtain⟨S,hS⟩:=oI ((zbE C).1);have hD:C.down=false:=hC.pow.1
 have hl1:=hr.seg.f1;have hlast:=hc.last
 have hk0:=hr.rng;rw[←hS] at w2 w3 w4 w5 w6 ⊢;have nmC:NamesC C:=hr.nm.less (hC.nm hr.inv)
 have nmS:NamesC S:=nmC.less w4.nm
 have hop:∀ ld,zaL C P.me P.qh P.qb P.qg P.seg ld=zoS S P.me P.qh P.qb P.qg P.seg ld:=fun ld=>by
  unfold zaL;rw[if_neg hb,if_neg oM,if_neg (by simp[hD]),if_neg (by simp[w1]),hS]
 have hld:∃ ld,ld=none∧Ld S P.me P.qh P.qb P.qg ld∧(ldD S ld).2=0∧InvD (ldD S ld).1∧PowD (ldD S ld).1∧LessD (ldD S ld).1 S∧ldW ld=⟨k0,false,false⟩∧ldX P.me P.qh P.qb P.qg ld=zb2 P.x0 E0 ∧
   (∀ n,(∀ k,okK k→n≠zaD k)→zh (ldD S ld).1.l n=zh S.l n)∧(okK k0→zh (ldD S ld).1.l (zaD k0)=zh S.l (zaD k0))∧(∀ k,okK k→k≠k0→zh (ldD S ld).1.l (zaD k)=none):=by
  have hsnS:∀ k,okK k→zh S.l (zaD k)=zh C.l (zaD k):=fun k hk=>w5 _ (zFz hk).symm
  have hmax:∀ k,okK k→(∃ f,zh S.l (zaD k)=some f)→∃ f∈D.l,f.name=zaD k:=fun k hk ⟨f,hf⟩=>by
   rw[hsnS k hk] at hf;obtain⟨f1,f2⟩:=(zaw hC.inv.sort).1 hf;obtain⟨f',g1,g2⟩:=hC.nm hr.inv f f1;exact⟨f',g1,g2.trans f2⟩
  obtain⟨e1,e2,e3⟩:=hr.snap
  have hno:∀ k,okK k→zh S.l (zaD k)=none:=fun k hk=>by
   cases hx:zh S.l (zaD k) with
   | none=>rfl
   | some f=>
    obtain⟨f',g1,g2⟩:=hmax k hk ⟨f,hx⟩;exact absurd g2 (e3 f' g1 k hk)
  have hs0:zgC S=[]:=List.eq_nil_iff_forall_not_mem.2 fun k hk=>by
   obtain⟨a1,f,a2⟩:=(zCC w2 nmS).1 hk;rw[hno k a1] at a2;cases a2
  exact⟨none,rfl,hs0,rfl,w2,w3,.refl S,by rw[e1];rfl,by rw[e2];rfl,fun _ _=>rfl,fun _=>rfl,fun k hk _=>hno k hk⟩
 obtain⟨ld,l0,l1,l2,l3,l4,l5,l6,l7,l8,l9,l10⟩:=hld;obtain⟨T,hT⟩:=oI ((ldD S ld).1);rw[←hT] at l3 l4 l5 l8 l9 l10;have nmT:NamesC T:=nmS.less l5.nm
 have lTC:=l5.trans w4
 have hsegT:∀ k,okK k→zh T.l (zb k)=zh C.l (zb k):=fun k hk=>by
  rw[l8 _ fun j hj e=>zoY hj hk e.symm,w5 _ (zIu hk).symm]
 have hNmI:NmI last T.l:=fun f hf=>by
  obtain⟨f',g1,g2⟩:=lTC.nm f hf;obtain⟨f2,g3,g4⟩:=hC.nm hr.inv f' g1;have:=hr.seg.names f2 g3
  rw[g4.trans g2] at this;exact this
 obtain⟨m,E,la,q1,q2,q3,q4,q5,q6,q7,q8,q9,q10⟩:=hr.seg.reopen (C:=T) ⟨l3,nmT.w,l4.1,l4.2⟩ oM hNmI (fun k h1 h2=>by rw[hsegT k ⟨by omega,by omega⟩];exact hC.cut _) P.seg;have hml:m≤E1.length:=by simpa using q2
 rw[←List.map_take] at q3 q5
 have hre:zbd T ⟨k0,false,false⟩ P.seg=(E,{ L0 (max k0 1) P.seg with last:=la },(E1.take m).map zB,0):=by
  unfold zbd;rw[if_neg (by simp[l4.1])];exact q3
 have hok:=hr.ok
 have hokT:okW P.x0 (E0++E1.take m):=by
  obtain⟨a1,a2⟩:=okW_append.1 hok;exact okW_append.2 ⟨a1,zEm a2 m⟩
 have hrp:zdt (zb2 P.x0 E0) ((E1.take m).map zB)=(zb2 P.x0 (E0++E1.take m),0):=by
  rw[zsj (okW_append.1 hokT).2,zhH]
 obtain⟨B,hB⟩:∃ B:CuR,B=⟨zb2 P.x0 (E0++E1.take m),E,{ L0 (max k0 1) P.seg with last:=la },⟨k0,false,false⟩⟩:=⟨_,rfl⟩
 have hfin:zoS S P.me P.qh P.qb P.qg P.seg ld=zkm B:=by
  unfold zoS;rw[if_neg (by simp[l2]),l6,l7,←hT,hre]
  have he:zdP (zb2 P.x0 E0) T ⟨k0,false,false⟩ P.seg=0:=by
   unfold zdP;rw[hre];dsimp only;rw[if_neg oS,hrp]
  rw[he,if_neg oS];dsimp only;rw[hrp,hB]
 have lEC:=q8.trans lTC;have nmE:NamesC E:=nmT.less q8.nm
 have hsnE:∀ k,okK k→zh E.l (zaD k)=zh T.l (zaD k):=fun k hk=>q6 _ fun j hj=>zoY hk hj
 have nost:zh E.l zfb=none:=by
  rw[q6 _ fun j hj=>zIu hj,l8 _ fun j hj=>zFz hj];exact w6
 have lens:=hc.evs
 have hlb:LiveB P n B E0 (E1.take m) s:=by
  have rcE:RecI P E k0 E0 (E1.take m) la s:=by
   refine⟨q4.inv,nmE,q5,hokT,?_⟩
   have hle:∀ f∈E.l,∀ k,okK k→f.name=zaD k→k=k0:=fun f hf k hk e=>by
    by_cases hx:k=k0
    ·exact hx
    ·have h1:=l10 k hk hx;rw[←hsnE k hk] at h1;exact absurd e ((findR_none.1 h1) f hf)
   obtain⟨e1,e2,e3⟩:=hr.snap;refine⟨e1,e2,fun f hf k hk e=>?_⟩;have:=hle f hf k hk e
   unfold okK at hk;omega
  rw[hB];refine⟨rcE,⟨by have:=lEC.len;have:=hC.len;have:=hc.files;dsimp only;omega,by have:=lEC.used;have:=hC.used;have:=hc.used;dsimp only;omega,by dsimp only;omega,by rw[Yi] at lens ⊢; rw[Ya9];omega,(lEC.lim.trans hC.lim).trans hc.lim⟩,rfl,⟨rfl,rfl,rfl⟩,rfl,⟨by dsimp only;omega,by show 0≤P.seg;omega,by show P.seg≤_;omega⟩,fun f hf=>?_⟩;dsimp only;rcases nmE f hf with ⟨k,h1,h2⟩|⟨k,h1,h2⟩|h1
  ·left;have h3:¬k<max k0 1:=fun hlt=>q9 f hf k ⟨by omega,by omega⟩ hlt h2
   rcases q5.names f hf with ⟨j,j1,j2,j3⟩|j1
   ·have:j=k:=zjH oM oM (by rw[←j3,h2]);refine⟨k,?_,by omega,h2⟩;show max k0 1≤k
    omega
   ·have:=zf8 j1;rw[h2,zcs h1] at this;omega
  ·right;have hk:okK k:=⟨by omega,by omega⟩
   have:k=k0:=by
    by_cases hx:k=k0
    ·exact hx
    ·have h3:=l10 k hk hx;rw[←hsnE k hk] at h3;exact absurd h2 ((findR_none.1 h3) f hf)
   rw[←this];exact⟨hk,h2⟩
  ·exact absurd h1 ((findR_none.1 nost) f hf)
 have hBD:B.D=E:=by rw[hB]
 have hpE:PowD B.D:=by rw[hBD];exact⟨q4.down,q4.left⟩
 have hmay:zcq B.X bootX.kind bootX.id bootX.p.length=0:=by
  have h1:=hlb.evs.2.2;show zbi B.X.S _ 1 za7 0=0
  unfold zbi;have hf0:zbB 1 za7 0=0:=rfl
  rw[hf0,if_neg oD,if_pos rfl,if_neg oM]
 have hbt:zkm B=zaC B bootX.kind bootX.id bootX.p true:=by
  rcases hlb.put oM bootX true (r:=zaC B bootX.kind bootX.id bootX.p true) rfl with ⟨a1,_⟩|⟨_,a2,_⟩|⟨_,_,a3,_⟩
  ·exact absurd hmay a1
  ·unfold zkm;rw[if_neg (by show ¬(zaC B 1 za7 [] true).2=10;have:(zaC B 1 za7 [] true).2=0:=a2;omega)]
  ·exact absurd hpE a3
 refine⟨ld,m,l0,q1,hml,l1,?_⟩;rw[hop,hfin,hbt];rcases hlb.put oM bootX true (r:=zaC B bootX.kind bootX.id bootX.p true) rfl with ⟨a1,_⟩|⟨_,a2,⟨s',a3,_,a5⟩,a6,_⟩|⟨_,_,a3,_⟩
 ·exact absurd hmay a1
 ·have:=a5 rfl;rw[Ya9,Ybh hml] at this;subst this;refine⟨a2,a3,a6 hpE,fun hh=>?_⟩;have:=q10 fun k f f' h1 h2 h3 h4=>hh _ f f' h3 (by rw[←hsegT k ⟨by omega,by omega⟩];exact h4)
  simpa using this
 ·exact absurd hpE a3
end
section
theorem zua {X:StW} {i:IdT} {n:Nat} (h:zcq X 4 i n=0):mayE X.S.qg (zcG X.sn) i.o i.d i.e i.c=0∧i.d=X.S.self∧n=0:=by
 have hf:=zir h
 have hn:n=0:=by
  unfold zbB at hf;rw[if_neg oD,if_neg oD,if_pos oD] at hf;split at hf
  ·omega
  split at hf
  ·omega
  ·omega
 unfold zcq zbi at h;rw[if_neg (by omega),if_neg oD,if_neg oD,if_neg oD] at h;split at h
 ·omega
 ·grind
theorem zoD:∀ (E:List EvX) {X:StW} {es:EsT},okW X E→SeenAs es X.sn→InvE es→∃ es',SeenAs es' (zb2 X E).sn∧InvE es'∧∀ o e c,inE es' o e c↔inE es o e c∨∃ x∈E,x.kind=4∧x.id.o=o∧x.id.e=e∧x.id.c=c
 | [],X,es,_,hs,hi=>⟨es,hs,hi,fun o e c=>by simp⟩
 | x::E,X,es,hok,hs,hi=>by
  have e1:zb1 X x=⟨zag X.S x.kind x.id x.p,if x.kind=4 then zsa X.sn x.id.o x.id.e x.id.c else X.sn⟩:=by unfold zb1 zck;rw[if_pos hok.1]
  by_cases hk:x.kind=4
  ·have hm:=hok.1;rw[hk] at hm;obtain⟨m1, -, -⟩:=zua hm;rw[←hs.may] at m1;obtain⟨y,hy⟩:∃ y:Ent,(y.up,y.more)=zeL es x.id.o x.id.e x.id.c:=⟨⟨0,none,0,(zeL es x.id.o x.id.e x.id.c).1,(zeL es x.id.o x.id.e x.id.c).2⟩,rfl⟩
   obtain⟨i1,i2, -, -⟩:=zyj hi m1 hy;have hs2:SeenAs (zy es (x.id.o,x.id.e) y) (zb1 X x).sn:=by rw[e1];dsimp only;rw[if_pos hk];exact hs.put hi.nodup hy
   obtain⟨es',a1,a2,a3⟩:=zoD E hok.2 hs2 i1;refine⟨es',a1,a2,fun o e c=>?_⟩;rw[a3,i2];constructor
   ·grind
   ·grind
  ·have hs2:SeenAs es (zb1 X x).sn:=by rw[e1];dsimp only;rw[if_neg hk];exact hs
   obtain⟨es',a1,a2,a3⟩:=zoD E hok.2 hs2 hi;refine⟨es',a1,a2,fun o e c=>?_⟩;rw[a3];constructor
   ·simp_all
   ·simp_all
theorem zEo {es:EsT} {mk:List Mk} (h:SeenAs es mk) (o e c:Int):inE (zcG mk) o e c↔inE es o e c:=by unfold inE;rw[(h.up _).1,(h.up _).2]
theorem zwH {P:Par} {E:List EvX} (h:okW P.x0 E) (o e c:Int):inE (zcG (zb2 P.x0 E).sn) o e c↔∃ x∈E,x.kind=4∧x.id.o=o∧x.id.e=e∧x.id.c=c:=by
 obtain⟨es,a1,a2,a3⟩:=zoD E (X:=P.x0) (es:=[]) h SeenAs.nil InvE.nil;rw[zEo a1,a3];constructor
 ·rintro (h|h)
  ·unfold inE inM zcy zbQ at h;simp[zf] at h;omega
  ·exact h
 ·exact .inr
theorem zub {i:IdT}:∀ (E:List EvX) {X:StW},okW X E→(zcD X.S.l i=true∨∃ x∈E,x.kind=2∧x.id=i)→(∀ x∈E,x.kind=3→x.id≠i)→zcD (zb2 X E).S.l i=true
 | [],X,_,h,_=>by
  rcases h with h|⟨_,h,_⟩
  ·exact h
  ·cases h
 | x::E,X,hok,h,hr=>by
  have e1:(zb1 X x).S=zag X.S x.kind x.id x.p:=by unfold zb1 zck;rw[if_pos hok.1]
  have hk3:=hr x oS
  have keep:zcD X.S.l i=true→zcD (zb1 X x).S.l i=true:=fun h=>by
   rw[e1];unfold zag zcD at *;split
   ·exact h
   split
   ·simp_all
   split
   ·grind
   ·exact h
  refine zub E hok.2 ?_ fun z hz=>hr z (by simp[hz])
  rcases h with h|⟨z,hz,hk,hi⟩
  ·simp_all
  ·rcases Yq.1 hz with rfl|hz
   ·left;rw[e1];unfold zag zcD;rw[if_neg oM,if_pos hk];simp[hi]
   ·grind
section
variable {D:ze} {C:CuR} {E0 E1:List EvX} {s n:Nat} {P:Par}
theorem RecI.same {D':ze} {k0 last:Int} (h:RecI P D k0 E0 E1 last s) (hi:InvD D') (hl:D'.l=D.l):RecI P D' k0 E0 E1 last s:=
 ⟨hi,fun f hf=>h.nm f (hl▸hf),by rw[hl];exact h.seg,h.ok,by rw[hl];exact h.snap⟩
theorem Cnt.same {D':ze} {last:Int} {m:Nat} (h:Cnt n D last m) (hl:D'.l=D.l) (hm:D'.limit=D.limit):Cnt n D' last m:=⟨by rw[hl];exact h.files,by rw[hl];exact h.used,h.last,h.evs,hm.trans h.lim⟩
theorem LiveI.same {D':ze} (h:LiveI P n C E0 E1 s) (hi:InvD D') (hl:D'.l=C.D.l) (hm:D'.limit=C.D.limit):LiveI P n { C with D:=D' } E0 E1 s:=
 ⟨⟨h.rc.same hi hl,h.cnt.same hl hm,h.X,h.up,h.first,h.lg,by dsimp only;rw[hl];exact h.own⟩,by dsimp only;rw[hl];exact h.cur⟩
theorem zFA (D:ze) (k:Int):(zeI D k).1.l=D.l∧(zeI D k).1.limit=D.limit:=by
 unfold zeI;split
 ·simp
 ·simp
end
section
variable {C:CuR} {E0 E1:List EvX} {s n:Nat} {P:Par}
theorem zwI (h:LiveI P n C E0 E1 s) (d:Int) (q:List UInt8):zbt C d q=if (zaA C.X.S d).2≠0 then (C,za7,(zaA C.X.S d).2) else
  if (zaC C 2 (zaA C.X.S d).1 q true).2≠0 then ((zaC C 2 (zaA C.X.S d).1 q true).1,za7,(zaC C 2 (zaA C.X.S d).1 q true).2) else ((zaC C 2 (zaA C.X.S d).1 q true).1,(zaA C.X.S d).1,0):=by
 have hf:zjJ C d=(zaA C.X.S d).2:=by unfold zjJ;rw[if_neg (by rw[h.up.2.2];simp)]
 unfold zbt;rw[if_neg (by simp[h.up.1]),hf]
theorem zEp {S:StR} {d:Int} (hf:(zaA S d).2=0):(zaA S d).1=⟨S.self,d,S.epoch,zcg S d+1⟩∧0≤d∧d≤63:=by
 unfold zaA at hf ⊢;split
 ·simp_all
 rename_i g;rw[if_neg g] at hf;split
 ·simp_all
 rename_i g1;rw[if_neg g1] at hf;split
 ·simp_all
 rename_i g2;rw[if_neg g2] at hf;split
 ·simp_all
 ·simp_all
end
end
section
def Pa:Par:=⟨0,50,2000,50,200⟩
def Pb:Par:=⟨1,50,2000,50,200⟩
@[reducible] def idC (c:Int):IdT:=⟨0,1,1,c⟩
def dEv (c:Int):EvX:=⟨4,idC c,[]⟩
def evB (cs:List Int):List EvX:=bootX::cs.map dEv
structure CB (cs:List Int) (C:CuR):Prop where
 nd:cs.Nodup
 rg:∀ c∈cs,1≤c∧c≤12
 held:C.X.S.l=[]
 self:C.X.S.self=1
 st:LiveI Pb (cs.length+2) C [] (evB cs) (cs.length+1)∨(C.w.failed=true∧∃ E,RecD Pb 20 C.D [] (evB cs++E) (cs.length+1))
def Dl (cs:List Int) (i:IdT):Prop:=i.o=0∧i.e=1∧i.c∈cs
theorem zFB {cs:List Int} (hn:cs.Nodup) (h:∀ c∈cs,1≤c∧c≤12):cs.length≤13:=by
 have h1:(cs.map Int.toNat).Nodup:=by
  rw[List.Nodup,Yay];refine(Ydd.1 hn).imp fun {a b} hab e=>hab.2.2 ?_
  have:=h a hab.1;have:=h b hab.2.1;omega
 have:=zjw 13 _ h1 fun x hx=>by grind
 simpa using this
theorem CB.live {cs:List Int} {C:CuR} (h:CB cs C) (hf:C.w.failed=false):LiveI Pb (cs.length+2) C [] (evB cs) (cs.length+1):=by
 rcases h.st with h1|⟨h1,_⟩
 ·exact h1
 ·simp_all
theorem CB.inn {cs:List Int} {C:CuR} (h:CB cs C) (hf:C.w.failed=false) {o e c:Int}:inE (zcG C.X.sn) o e c↔o=0∧e=1∧c∈cs:=by
 have hL:=h.live hf;have hX:=hL.X
 rw[Y1] at hX;have hok:=hL.rc.ok
 rw[Y1] at hok;rw[hX,zwH hok];constructor
 ·rintro ⟨x,hx,hk,h1,h2,h3⟩;rcases Yq.1 hx with rfl|hx
  ·simp_all
  ·obtain⟨d,hd,rfl⟩:=Yj.1 hx;exact⟨h1.symm,h2.symm,by rw[←h3];exact hd⟩
 ·rintro ⟨rfl,rfl,hc⟩;exact⟨dEv c,Ybv _ (Yj.2 ⟨c,hc,rfl⟩),rfl,rfl,rfl,rfl⟩
theorem CB.seen {cs:List Int} {C:CuR} (h:CB cs C) (hf:C.w.failed=false) {i:IdT} (hs:ze8 (zcG C.X.sn) i.o i.d i.e i.c=true):Dl cs i:=by
 have hid:idErr i.o i.d i.e i.c=0:=by
  unfold ze8 at hs;rw[Yu] at hs;exact Zd0 hs.1
 exact(h.inn hf).1 ((zvW hid).1 hs)
theorem zsm (o d e c:Int):idErr o d e c≠5:=by
 unfold idErr
 repeat' split
 all_goals decide
theorem CB.put {cs:List Int} {C:CuR} (h:CB cs C) (hf:C.w.failed=false) {c:Int} (hc:1≤c∧c≤12) {r:CuR×Int} (hr:r=zaC C 4 (idC c) [] true) :
  (r.1=C∧r.2≠0∧(r.2=5→Dl cs (idC c)))∨(r.2=0∧r.1.w.failed=false∧CB (cs++[c]) r.1)∨(r.2=9∧r.1.w.failed=true∧CB cs r.1):=by
 have hL:=h.live hf;have hl:=zFB h.nd h.rg
 rcases hL.toLiveB.put oM (dEv c) true (r:=r) hr with ⟨a1,a2⟩|⟨a1,a2,⟨s',a3,a4,a5⟩,a6,a7⟩|⟨a1,a2,a3,a4,a5,a6⟩
 ·rw[a2];refine .inl ⟨rfl,a1,fun h5=>?_⟩;have h5':zcq C.X 4 (idC c) 0=5:=h5
  have hs:ze8 (zcG C.X.sn) 0 1 1 c=true:=by
   apply Ybp;intro hn;unfold zcq zbi at h5';split at h5'
   ·unfold zbB at h5';rw[if_neg oD,if_neg oD,if_pos oD] at h5';split at h5'
    ·exact absurd h5' (zsm _ _ _ _)
    ·omega
   rw[if_neg oD,if_neg oD,if_neg oD] at h5';split at h5'
   ·omega
   ·unfold zej mayE at h5';split at h5'
    ·exact absurd h5' (zsm _ _ _ _)
    split at h5'<;>exact absurd h5' oD
  exact h.seen hf (i:=idC c) hs
 ·have hni:c∉cs:=fun hm=>by
   have h4:zcq C.X 4 (idC c) 0=0:=a1;have:=(zof (zua h4).1).2.1
   exact this ((h.inn hf).2 ⟨rfl,rfl,hm⟩)
  have hev:evB cs++[dEv c]=evB (cs++[c]):=by unfold evB;simp
  have hst:r.1.X=zb1 C.X (dEv c):=by
   rw[a3.X,hL.X,Y1,Y1,zhH];rfl
  have hS:r.1.X.S=C.X.S:=by
   rw[hst];unfold zb1 zck;rw[if_pos a1];rfl
  have e5:=a5 rfl;have hlen:(evB cs).length=cs.length+1:=by simp[evB]
  rw[hev] at a3;refine .inr (.inl ⟨a2,a3.up.1,⟨Ydx.2 ⟨h.nd,by simp,fun a ha b hb e=>by simp_all⟩,fun d hd=>?_,by rw[hS];exact h.held,by rw[hS];exact h.self,.inl ?_⟩⟩)
  ·rcases Yt.1 hd with hd|hd
   ·exact h.rg d hd
   ·simp_all
  ·simp_all
 ·have hmono:∀ {E:List EvX},RecD Pb (cs.length+2+1) r.1.D [] E (cs.length+1)→RecD Pb 20 r.1.D [] E (cs.length+1):=fun ⟨k0,last,g1,g2⟩=>⟨k0,last,g1,⟨by have:=g2.files;omega,by have:=g2.used;omega,by have:=g2.last;omega,by have:=g2.evs;omega,g2.lim⟩⟩
  refine .inr (.inr ⟨a2,a4,⟨h.nd,h.rg,by rw[a5];exact h.held,by rw[a5];exact h.self,.inr ⟨a4,?_⟩⟩⟩);rcases a6 with a6|a6
  ·exact⟨[],by simp_all⟩
  ·grind
structure GA where
 evs:List EvX
 safe:Nat
 h:Nat
structure CA (cs:List Int) (g:GA) (C:CuR):Prop where
 st:∃ s,LiveI Pa (g.evs.length+1) C [] g.evs s∧g.safe≤s
 pw:PowD C.D
 cnt:g.evs.length+C.X.S.l.length≤1+2*g.h
 h12:g.h≤12
 rel:∀ x∈g.evs,x.kind=3→Dl cs x.id
 held:∀ m∈C.X.S.l,∃ c,m.id=idC c∧1≤c∧c≤12
 last:0≤zcg C.X.S 1∧zcg C.X.S 1≤g.h
 ep:C.X.S.epoch=1∧C.X.S.self=0
def Ha (g:GA) (i:IdT):Prop:=∃ x∈g.evs.take g.safe,x.kind=2∧x.id=i
def leH (g g':GA):Prop:=∀ i,Ha g i→Ha g' i
def leA (g g':GA):Prop:=leH g g'∧g'.h≤g.h
theorem CA.live {cs:List Int} {g:GA} {C:CuR} (h:CA cs g C):C.w.failed=false:=by obtain⟨s,h1,_⟩:=h.st;exact h1.up.1
theorem Ha.more {g:GA} {i:IdT} (h:Ha g i) {E:List EvX} {k:Nat} (hk:g.safe≤k) {n:Nat}:Ha ⟨g.evs++E,k,n⟩ i:=by
 obtain⟨x,hx,h1⟩:=h;refine⟨x,?_,h1⟩;show x∈(g.evs++E).take k
 rw[Yd6];exact Ybe _ ((List.take_subset_take_left _ hk) hx)
theorem CA.more {cs cs':List Int} {g:GA} {C:CuR} (h:CA cs g C) (hc:∀ c∈cs,c∈cs'):CA cs' g C:=⟨h.st,h.pw,h.cnt,h.h12,fun x hx hk=>⟨(h.rel x hx hk).1,(h.rel x hx hk).2.1,hc _ (h.rel x hx hk).2.2⟩,h.held,h.last,h.ep⟩
theorem CA.put {cs:List Int} {g:GA} {C:CuR} (h:CA cs g C) (e:EvX) (sf:Bool) {r:CuR×Int} (hr:r=zaC C e.kind e.id e.p sf) :
  (r.1=C∧r.2≠0)∨(r.2=0∧zcq C.X e.kind e.id e.p.length=0∧r.1.X=zb1 C.X e∧PowD r.1.D∧∃ s',LiveI Pa (g.evs.length+2) r.1 [] (g.evs++[e]) s'∧g.safe≤s'∧(sf=true→s'=g.evs.length+1)):=by
 obtain⟨s,hL,hs⟩:=h.st;have hc:=h.cnt
 have h12:=h.h12;rcases hL.toLiveB.put oM e sf (r:=r) hr with ⟨a1,a2⟩|⟨a1,a2,⟨s',a3,a4,a5⟩,a6,a7⟩|⟨a1,a2,a3,a4,a5,a6⟩
 ·grind
 ·refine .inr ⟨a2,a1,?_,a6 h.pw,s',a3,by omega,a5⟩;rw[a3.X,hL.X,Y1,Y1,zhH];rfl
 ·exact absurd h.pw a3
theorem CA.release {cs:List Int} {g:GA} {C:CuR} (h:CA cs g C) {i:IdT} (hi:Dl cs i):∃ g',leA g g'∧CA cs g' (zaC C 3 i [] false).1:=by
 obtain⟨r,hr⟩:=oI (zaC C 3 i [] false);rw[←hr];rcases h.put ⟨3,i,[]⟩ false (r:=r) hr with ⟨a1,_⟩|⟨a1,a2,a3,a4,s',a5,a6,_⟩
 ·exact⟨g,⟨fun _ h=>h,Yd _⟩,by simp_all⟩
 ·have hS:r.1.X.S={ C.X.S with l:=C.X.S.l.filter fun m=>decide (m.id≠i) }:=by
   rw[a3];unfold zb1 zck;rw[if_pos a2];rfl
  have hhas:zcD C.X.S.l i=true:=by
   have h0:zcq C.X 3 i 0=0:=a2;have hf:=zir h0
   unfold zcq zbi at h0;rw[if_neg (by rw[hf];exact fun h=>h rfl),if_neg oD,if_neg oD,if_pos rfl] at h0;split at h0
   ·assumption
   ·omega
  have hlt:(C.X.S.l.filter fun m=>decide (m.id≠i)).length<C.X.S.l.length:=by
   unfold zcD at hhas;rw[Ybn] at hhas;obtain⟨m,hm,e⟩:=hhas;exact List.length_filter_lt_length_iff_exists.2 ⟨m,hm,by simp_all⟩
  have hl:zcg r.1.X.S 1=zcg C.X.S 1:=by rw[hS];rfl
  have hc:=h.cnt;refine⟨⟨g.evs++[⟨3,i,[]⟩],g.safe,g.h⟩,⟨fun j hj=>hj.more (Yd _),Yd _⟩,⟨s',by simp_all,a6⟩,a4,?_,h.h12,fun x hx hk=>?_,fun m hm=>?_,by rw[hl];exact h.last,by rw[hS];exact h.ep⟩
  ·grind
  ·rcases Yt.1 hx with hx|hx
   ·exact h.rel x hx hk
   ·simp_all
  ·rw[hS] at hm;exact h.held m (Ya1.1 hm).1
theorem CA.submit {cs:List Int} {g:GA} {C:CuR} (h:CA cs g C) (hh:g.h+1≤12) (p:List UInt8):∃ g',leH g g'∧g'.h≤g.h+1∧CA cs g' (zbt C 1 p).1∧((zbt C 1 p).2.2=0→Ha g' (zbt C 1 p).2.1):=by
 obtain⟨s,hL,hs⟩:=h.st;have e0:=zwI hL 1 p
 have same:∀ {r:CuR×IdT×Int},r.1=C→r.2.2≠0→∃ g',leH g g'∧g'.h≤g.h+1∧CA cs g' r.1∧(r.2.2=0→Ha g' r.2.1):=fun h1 h2=>⟨g,fun _ h=>h,Ybg _,by simp_all,fun h3=>absurd h3 h2⟩
 by_cases hf:(zaA C.X.S 1).2=0
 case neg=>grind
 rw[if_neg (by omega)] at e0;obtain⟨r,hr⟩:=oI (zaC C 2 (zaA C.X.S 1).1 p true);rw[←hr] at e0;have hi:(zaA C.X.S 1).1=idC (zcg C.X.S 1+1):=by rw[(zEp hf).1,h.ep.1,h.ep.2]
 rcases h.put ⟨2,(zaA C.X.S 1).1,p⟩ true (r:=r) hr with ⟨a1,b1⟩|⟨a1,a2,a3,a4,s',a5,a6,a7⟩
 ·grind
 rw[if_neg (by omega)] at e0;rw[e0];have hlast:=h.last
 have hS:r.1.X.S={ C.X.S with l:=C.X.S.l++[⟨(zaA C.X.S 1).1,p⟩],used:=if (zaA C.X.S 1).1.o=C.X.S.self∧(zaA C.X.S 1).1.e=C.X.S.epoch then C.X.S.used.set (zaA C.X.S 1).1.d.toNat (max (zcg C.X.S (zaA C.X.S 1).1.d) (zaA C.X.S 1).1.c) else C.X.S.used }:=by
  rw[a3];unfold zb1 zck;rw[if_pos a2];rfl
 have hl:0≤zcg r.1.X.S 1∧zcg r.1.X.S 1≤(g.h:Int)+1:=by
  rw[hS,hi];unfold zcg at hlast ⊢;dsimp only;split
  ·grind
  ·omega
 have hc:=h.cnt;have hlen:(g.evs++[(⟨2,(zaA C.X.S 1).1,p⟩:EvX)]).length=g.evs.length+1:=by simp
 have hsafe:g.safe≤g.evs.length+1:=by
  have:=hL.rc.seg.safe_le;rw[Ya3] at this;omega
 refine⟨⟨g.evs++[⟨2,(zaA C.X.S 1).1,p⟩],g.evs.length+1,g.h+1⟩,fun j hj=>hj.more hsafe,Yd _,⟨⟨s',by simp_all,by simp_all⟩,a4,?_,hh,fun x hx hk=>?_,fun m hm=>?_,by simp_all,by rw[hS];exact h.ep⟩,fun _=>?_⟩
 ·grind
 ·rcases Yt.1 hx with hx|hx
  ·exact h.rel x hx hk
  ·simp_all
 ·rw[hS] at hm;rcases Yt.1 hm with hm|hm
  ·exact h.held m hm
  ·grind
 ·refine⟨⟨2,(zaA C.X.S 1).1,p⟩,?_,rfl,rfl⟩;show _∈(g.evs++[(⟨2,(zaA C.X.S 1).1,p⟩:EvX)]).take (g.evs.length+1)
  rw[Yf (by rw[hlen];exact Yd _)];simp
end
end Go.Proofs.YtlgbofpennelhaaGreat
namespace Go.Proofs.YtlgbofpennelhaaGreat
open Go Go.Vm
attribute [local irreducible] Brn Ob Grow CallsM inR zX zI Mem.row Mem.cells Mem.setCells Mem.upd Go.Vm.Own zac zar zas zab New SrcOk subA NewSl Mem.textAt Mem.mapAt Mem.iterAt zH zF Wr NewEls Elems
set_option maxRecDepth 10000
theorem Word.zero {x:Word} (h:x.err=0):(1≤x.kind∧x.kind≤4∧0≤x.n∧x.n≤65535) ∧
  (x.kind=4→(x.costs.all cost=true∧x.costs.length=64)∧x.id=za7∧x.data=[]∧x.n=0)∧(x.kind≠4→x.id.err=0∧x.costs=[])∧(x.kind=1→1≤x.data.length∧x.data.length≤48)∧(x.kind≠1→x.data=[]):=by
 obtain⟨h1,h2,h3,h4,h5⟩:=W.err_zero (w:=x.w none 0 none 0) rfl rfl h;refine⟨h1,fun hk=>?_,fun hk=>⟨(h3 hk).1,Yad (h3 hk).2⟩,h4,fun hk=>Yad (h5 hk)⟩;obtain⟨g1,⟨⟨e1,e2,e3,e4⟩,e5⟩,g3⟩:=h2 hk;refine⟨g1,?_,e5,g3⟩;obtain⟨kind,n,⟨o,d,e,c⟩,data,costs⟩:=x;simp only[Word.w] at e1 e2 e3 e4;subst e1 e2 e3 e4;rfl
theorem Word.bytes4 {x:Word} (h:x.kind=4):x.bytes=zr x.kind::x.costs.map zr:=by
 unfold Word.bytes W.bytes;rw[if_pos (show (x.w none 0 none 0).kind=4 from h)];rfl
theorem Word.bytesN {x:Word} (h:x.kind≠4):x.bytes=zr x.kind::(two x.n++zY x.id.o x.id.d x.id.e x.id.c++x.data):=by
 unfold Word.bytes W.bytes;rw[if_neg (show (x.w none 0 none 0).kind≠4 from h)];rfl
theorem zxM {l:List UInt8} (h1:l.length=6) (h2:(zcN l).err=0):zau l=0:=by
 unfold zau;rw[if_neg oM,if_neg (by simp[h2])]
theorem zCF {l:List Int} (h:l.all cost=true):(l.map zr).map (fun b=>(b.toNat:Int))=l:=by
 rw[Ybc]
 conv=>rhs;rw[←Yd0 l]
 apply Ya8;intro b hb;have:=Ya4.1 h b hb
 simp only[cost,decide_eq_true_eq] at this;exact zdU oM
theorem zAs {l:List UInt8} {x:Word} (h:x.err=0) (hb:x.bytes=l):zcK l=some x:=by
 obtain⟨hr,h4,hn4,hk1,hkn⟩:=x.zero h;have hkb:((zr x.kind).toNat:Int)=x.kind:=zdU oM
 have key:zfx l=(x,0)→zcK l=some x:=fun hs=>by
  unfold zcK
  have hne:l≠[]:=by
   rw[←hb];by_cases hk:x.kind=4
   ·rw[Word.bytes4 hk];simp
   ·rw[Word.bytesN hk];simp
  rw[hs,if_neg (by simp_all)]
 apply key;by_cases hk:x.kind=4
 ·obtain⟨⟨hc,hcl⟩,hi,hd,hn⟩:=h4 hk;rw[Word.bytes4 hk] at hb;rw[←hb];unfold zfx;have hd0:(zr x.kind::x.costs.map zr).getD 0 0=zr x.kind:=rfl
  simp only[hd0,hkb,hk,if_true,List.drop_succ_cons,Yco];rw[zCF hc];obtain⟨kind,n,id,data,costs⟩:=x;simp only at hk hi hd hn;subst hk hi hd hn;rfl
 ·obtain⟨hid,hcosts⟩:=hn4 hk;rw[Word.bytesN hk] at hb;obtain⟨q1,q2⟩:=zrS hid;rw[←hb];unfold zfx;have hd0:(zr x.kind::(two x.n++zY x.id.o x.id.d x.id.e x.id.c++x.data)).getD 0 0=zr x.kind:=rfl
  have hd3:(zr x.kind::(two x.n++zY x.id.o x.id.d x.id.e x.id.c++x.data)).drop 3=zY x.id.o x.id.d x.id.e x.id.c++x.data:=rfl
  have hnum:(zal (zr x.kind::(two x.n++zY x.id.o x.id.d x.id.e x.id.c++x.data)) 1 2:Int)=x.n:=by
   have:zal (zr x.kind::(two x.n++zY x.id.o x.id.d x.id.e x.id.c++x.data)) 1 2=num (two x.n) 0:=rfl;rw[this];exact zoj oM
  simp only[hd0,hkb,hd3,hnum];rw[if_neg hk,if_neg (by simp[two])];have htake:(zY x.id.o x.id.d x.id.e x.id.c++x.data).take 6=zY x.id.o x.id.d x.id.e x.id.c:=by rw[←q2];simp
  have hdrop:(zY x.id.o x.id.d x.id.e x.id.c++x.data).drop 6=x.data:=by rw[←q2];simp
  have hge:zau (zY x.id.o x.id.d x.id.e x.id.c)=0:=zxM q2 (by simp_all);by_cases hk':x.kind=1
  ·rw[if_pos hk'];have:=hk1 hk'
   have hme:zaZ (zY x.id.o x.id.d x.id.e x.id.c++x.data)=0:=by
    unfold zaZ;rw[if_neg (by simp[q2]),htake,if_neg (by simp[hge]),if_neg (by grind)]
   rw[zaI,hme,if_pos rfl,htake,hdrop,q1];obtain⟨kind,n,id,data,costs⟩:=x;simp only at hk' hcosts;subst hk' hcosts;rfl
  ·rw[if_neg hk'];have hdata:=hkn hk'
   rw[hdata,Ys,zcU,hge,if_pos rfl,q1];obtain⟨kind,n,id,data,costs⟩:=x;simp only at hdata hcosts;subst hdata hcosts;rfl
theorem zGM (w:Word) (h:w.err=0):zcK w.bytes=some w:=zAs h rfl
theorem zCG {w:Word} (h:w.err=0):0<w.bytes.length∧w.bytes.length≤121:=by
 obtain⟨hr,h4,hn4,hk1,hkn⟩:=w.zero h;by_cases hk:w.kind=4
 ·rw[Word.bytes4 hk,Ym,Ya3,(h4 hk).1.2];omega
 ·rw[Word.bytesN hk,Ym,Yi,Yi];have h6:(zY w.id.o w.id.d w.id.e w.id.c).length=6:=rfl
  have h2:(two w.n).length=2:=rfl;by_cases k1:w.kind=1
  ·omega
  ·simp_all
end Go.Proofs.YtlgbofpennelhaaGreat
