/- Part of this proof;laid by program. -/
import Derived.Test.YtpdkkbpkplhdpaaGreatJ12
import Derived.Shelf.Sort.Plain
import Derived.Test.YtpdkkbpkplhdpaaGreatProg
set_option linter.unusedVariables false
set_option linter.unusedSimpArgs false
namespace Go.Proofs.YtpdkkbpkplhdpaaGreat
open Go Go.Vm
attribute [local irreducible] Brn Ob Grow CallsM inR zax zav Mem.row Mem.cells Mem.setCells Mem.upd Go.Vm.Own zaD za5 zbc zaJ New SrcOk subA NewSl Mem.textAt Mem.mapAt Mem.iterAt zau zaj Wr NewEls Elems
set_option maxRecDepth 10000
variable {M:Mem} {p b:Nat} {D:zf} {es:FsT}
theorem DAt.setFile (h:DAt M p b D es) {k:ByteArray} {x x':FX} (hx:zD es k=some x) (hf:x'.f=x.f) (hrow:Wr M T.zn 1 x'.a x'.p.length x'.c (x'.p.map zl)) (hb:∀ y,z6 x'.a y→z6 x.a y) {M':Mem}
  (hM:M'=M.setCells x.f T.zA [.slice x'.a x'.p.length x'.c,.int .i64 x'.safe]) :
  DAt M' p b D (zQ es k x')∧Mem.keep (fun y=>y=x.f) M M'∧∀ y,zac p b (zQ es k x') y→zac p b es y:=by
 have hxe:FXAt M x:=h.ents _ (zN hx)
 have hk:Mem.keep (fun y=>y=x.f) M M':=fun y o hy ho=>by
  rw[hM];unfold Mem.setCells;rw[Mem.upd_ne _ _ hy];exact ho
 have hown:∀ y,x'.own y→x.own y:=fun y hy=>by
  rcases hy with rfl|hy
  ·exact .inl hf
  ·exact .inr (hb y hy)
 have hE:FXAt M' x':=by
  refine⟨?_,hrow.mono fun q o hq ho=>hk _ _ (fun e=>?_) ho⟩
  ·rw[hf,hM];exact Mem.has_setCells
  ·obtain⟨q',hq',e'⟩:=hb _ ⟨q,hq,rfl⟩;obtain⟨cs,hh⟩:=hxe.row.block hq';rw[e',e] at hh;exact absurd (hh.inj hxe.self).1 (by decide)
 refine⟨h.turn hx (fun y o hy ho=>hk _ _ (fun e=>hy (.inl e)) ho) hE hf fun y hy => .inl (hown y hy),hk,fun y hy=>?_⟩;rcases zhh hy h.map.nodup with h1|h1
 ·exact h1
 ·exact .inr (.inr ⟨_,zN hx,hown y h1⟩)
theorem Wr.subA0 {E:TypeId} {s:Nat} {a:Option Addr} {n c:Nat} {L:List Value} (h:Wr M E s a n c L):subA a 0 c s=a:=by
 unfold Wr at h;obtain⟨-, -, ⟨rfl,rfl⟩|⟨bb,cs,rfl, -⟩⟩:=h
 ·simp[subA]
 ·unfold subA;split
  ·rfl
  ·simp[zcy]
theorem zBx {k:ByteArray} {x:FX} {q:ByteArray×FX} (hn:(es.map (·.1)).Nodup) (hq:q∈zQ es k x):q=(k,x)∨(q∈es∧q.1≠k):=by
 by_cases e:q.1=k
 ·have hg:zD (zQ es k x) k=some q.2:=zdt (zew hn k x) (by obtain⟨q1,q2⟩:=q;simp only at e;subst e;exact hq);rw[zdX,if_pos rfl] at hg;left;obtain⟨q1,q2⟩:=q;simp only at e;subst e;simp only[Option.some.injEq] at hg;rw[hg]
 ·have hg:zD (zQ es k x) q.1=some q.2:=zdt (zew hn k x) hq;rw[zdX,if_neg e] at hg;exact .inr ⟨zN hg,e⟩
theorem zy9 {k:ByteArray} {x:FX} (hp:es.Pairwise fun x y=>znQ x.2 y.2) (hn:(es.map (·.1)).Nodup) (hx:∀ q∈es,∀ y,x.own y→¬q.2.own y):(zQ es k x).Pairwise fun x y=>znQ x.2 y.2:=by
 cases hg:zD es k with
 | none=>
  have hpa:zQ es k x=es++[(k,x)]:=by simp[zQ,hg]
  rw[hpa,List.pairwise_append];refine⟨hp,by simp,fun q hq q' hq'=>?_⟩;simp at hq';subst hq';exact fun y hy hxy=>hx q hq y hxy hy
 | some z=>
  have hpa:zQ es k x=zcA es k x:=by simp[zQ,hg]
  obtain⟨u,v,h1,h2,h3,h4⟩:=ziW hn hg x;rw[hpa,h2];rw[h1] at hp;have hp':=List.pairwise_append.1 hp
  have hmem:∀ q,q∈u∨q∈v→q∈es:=fun q hq=>by rw[h1];rcases hq with hq|hq<;>simp[hq]
  rw[List.pairwise_append];refine⟨hp'.1,List.pairwise_cons.2 ⟨fun q hq y hy hqy=>hx q (hmem q (.inr hq)) y hy hqy,(List.pairwise_cons.1 hp'.2.1).2⟩,fun q hq q' hq'=>?_⟩;rcases List.mem_cons.1 hq' with rfl|hq'
  ·exact fun y hy hxy=>hx q (hmem q (.inl hq)) y hxy hy
  ·exact hp'.2.2 q hq q' (List.mem_cons_of_mem _ hq')
theorem zcR (b:ByteArray) (k:Nat):bl (b.extract 0 k)=(bl b).take k:=by simp[bl]
theorem StepD.fin {M1 M2 M3:Mem} {es2:FsT} {D':zf} (hle:M.le M1) (hk:Mem.keep (zac p b es) M1 M2) (hown:∀ y,zac p b es2 y→zac p b es y) (h3:DAt M3 p b D' es2) (hk3:Mem.keep (fun y=>y=p) M2 M3) (hrel:RelD es2 D'.l):StepD M M3 p b es es2 D':=
 ⟨h3,hrel,fun y o hy ho=>hk3 _ _ (fun e=>hy (.inl e)) (hk _ _ hy (hle _ _ ho)),fun y hy => .inl (hown y hy)⟩
theorem zoe {s:ByteArray} (h:zaA D s=0):D.down=false∧z8 D s=0:=by
 unfold zaA at h;split at h
 ·rename_i g;exact absurd h g
 ·rename_i g;have g1:z8 D s=0:=by simpa using g
  refine⟨?_,g1⟩;rw[←Bool.not_eq_true];intro hd;unfold z8 at g1;rw[if_pos hd] at g1;cases g1
theorem zjP (hr:RelD es D.l) {s:ByteArray} {x:FX} (hx:zD es s=some x):(zx D s).name=s∧x.p=bl (zx D s).all∧x.safe=(zx D s).safe.size∧zg D.l s=some (zx D s):=by
 obtain⟨f,hf,hfn,hfp,hfs⟩:=hr.get hx;have hfile:zx D s=f:=by unfold zx;rw[hf];rfl
 rw[hfile];exact⟨hfn,hfp,hfs,hf⟩
theorem zCX (h:DAt M p b D es) (hr:RelD es D.l) (hI:InvD D) (s:ByteArray) (hs:s.size≤4611686018427387904) :
  CallsM Tryz.prog F.zdj [ptr p,.string s] M fun v M'=>v = .int .i64 (zbn D s).2∧∃ es',StepD M M' p b es es' (zbn D s).1:=by
 refine zoE (by simp) ?_;refine zR ?_;refine(zjO h hr s hs).mono ?_;rintro v M1 ⟨hle1,⟨hne,rfl⟩|⟨h0,x,hx,rfl⟩⟩
 ·(conv=>whnf);refine brn_t (by simp[hne]) ?_;refine zR ?_;have e:zbn D s=(D,zaA D s):=by unfold zbn;rw[if_pos hne]
  rw[e];exact⟨rfl,es,.same h hr hle1⟩
 have h1:=h.le hle1;have hx1:FXAt M1 x:=h1.ents _ (zN hx)
 obtain⟨hfn,hfp,hfs,hff⟩:=zjP hr hx;obtain⟨hdn, -⟩:=zoe h0;refine zR ?_;refine on (hx1.self.c1 rfl) ?_;(conv=>whnf);refine on hx1.self.cells ?_;(conv=>whnf);refine ob (by simp) ?_;obtain⟨h2,hk2,ho2⟩:=h1.setFile (x':=⟨x.f,x.a,x.c,x.p,x.p.length⟩) hx rfl hx1.row (fun y hy=>hy) rfl;obtain⟨M2,hM2⟩:∃ M2,M2=M1.setCells x.f T.zA [.slice x.a x.p.length x.c,.int .i64 x.p.length]:=⟨_,rfl⟩
 dsimp only at h2 hk2;rw[←hM2] at h2 hk2;(conv=>whnf)
 erw [←hM2];refine zR ?_;refine(zf0 h2 hdn (zaO D.l ⟨s,(zx D s).all,.empty⟩) hI.left.2).mono ?_;rintro v M3 ⟨rfl,h3,hk3⟩;have e:zbn D s=(zbh D (zaO D.l ⟨s,(zx D s).all,.empty⟩),0):=by unfold zbn;rw[if_neg (by simp[h0])]
 refine zR ?_;rw[e];refine⟨rfl,_,.fin hle1 (fun y o hy ho=>hk2 _ _ (fun e=>hy (.inr (.inr ⟨_,zN hx,.inl e⟩))) ho) ho2 h3 hk3 ?_⟩;exact hr.put (x:=⟨x.f,x.a,x.c,x.p,x.p.length⟩) (f:=⟨s,(zx D s).all,.empty⟩) (by simp[cont,FileR.all,hfp,←zaH])
theorem zD9 (h:DAt M p b D es) (hr:RelD es D.l) (hI:InvD D) (s:ByteArray) (hs:s.size≤4611686018427387904) (k:Int) :
  CallsM Tryz.prog F.zft [ptr p,.string s,.int .i64 k] M fun v M'=>v = .int .i64 (zcB D s k).2∧∃ es',StepD M M' p b es es' (zcB D s k).1:=by
 refine zqe (by simp) ?_;refine zR ?_;refine(zjO h hr s hs).mono ?_;rintro v M1 ⟨hle1,⟨hne,rfl⟩|⟨h0,x,hx,rfl⟩⟩
 ·(conv=>whnf);refine brn_t (by simp[hne]) ?_;refine zR ?_;have e:zcB D s k=(D,zaA D s):=by unfold zcB;rw[if_pos hne]
  rw[e];exact⟨rfl,es,.same h hr hle1⟩
 have h1:=h.le hle1;have hx1:FXAt M1 x:=h1.ents _ (zN hx)
 obtain⟨hfn,hfp,hfs,hff⟩:=zjP hr hx;obtain⟨hdn, -⟩:=zoe h0;have hxl:x.p.length=(zx D s).all.size:=by rw[hfp,zaH]
 refine zR ?_;refine brn (fun g=>?_) (fun g=>?_)
 ·replace g:=Zd0 g;have e:zcB D s k=(D,1):=by unfold zcB;rw[if_neg (by simp[h0]),if_pos (by omega)]
  refine zR ?_;rw[e];exact⟨rfl,es,.same h hr hle1⟩
 replace g:=Zd1 g;refine zR ?_;refine on (hx1.self.c1 rfl) ?_;(conv=>whnf);refine brn (fun g1=>?_) (fun g1=>?_)
 ·replace g1:=Zd0 g1;have e:zcB D s k=(D,1):=by unfold zcB;rw[if_neg (by simp[h0]),if_pos (by omega)]
  refine zR ?_;rw[e];exact⟨rfl,es,.same h hr hle1⟩
 replace g1:=Zd1 g1;have hrow:=hx1.row
 have hsub:=Wr.subA0 hrow;have hrow':=hrow
 unfold Wr at hrow';have hkn:k.toNat≤x.p.length:=by omega
 refine zR ?_;refine on (hx1.self.c1 rfl) ?_;(conv=>whnf);refine ob ⟨by decide,by omega,by have:=hrow'.2.1;omega⟩ ?_;(conv=>whnf);refine on hx1.self.cells ?_;(conv=>whnf);refine ob (by simp) ?_
 have hk2:Mem.keep (fun y=>y=x.f) M1 (M1.setCells x.f T.zA [.slice (subA x.a 0 x.c 1) (k.toNat - 0) (x.c - 0),.int .i64 x.safe]):=fun y o hy ho=>by
  unfold Mem.setCells;rw[Mem.upd_ne _ _ hy];exact ho
 have hs2:(M1.setCells x.f T.zA [.slice (subA x.a 0 x.c 1) (k.toNat - 0) (x.c - 0),.int .i64 x.safe]).has x.f T.zA [.slice (subA x.a 0 x.c 1) (k.toNat - 0) (x.c - 0),.int .i64 x.safe]:=Mem.has_setCells;have hse:∀ (cs:List Value),(M1.setCells x.f T.zA [.slice (subA x.a 0 x.c 1) (k.toNat - 0) (x.c - 0),.int .i64 x.safe]).setCells x.f T.zA cs=M1.setCells x.f T.zA cs:=fun cs=>Mem.setCells_setCells ..
 obtain⟨M2,hM2⟩:∃ M2,M2=M1.setCells x.f T.zA [.slice (subA x.a 0 x.c 1) (k.toNat - 0) (x.c - 0),.int .i64 x.safe]:=⟨_,rfl⟩
 rw[←hM2] at hk2 hs2 hse;(conv=>whnf)
 erw [←hM2];refine zR ?_;refine on hs2.cells ?_;(conv=>whnf);refine ob (by simp) ?_;obtain⟨x',hx'⟩:∃ x':FX,x'=⟨x.f,x.a,x.c,x.p.take k.toNat,k.toNat⟩:=⟨_,rfl⟩
 have hlen':x'.p.length=k.toNat:=by rw[hx'];simp;omega
 have hrow2:Wr M1 T.zn 1 x'.a x'.p.length x'.c (x'.p.map zl):=by
  rw[hlen',hx'];unfold Wr;obtain⟨w1,w2,w3⟩:=hrow';refine⟨by simp;omega,by dsimp only;omega,w3.imp id fun ⟨bb,cs,e1,e2,e3,e4⟩=>⟨bb,cs,e1,e2,e3,?_⟩⟩;rw[Nat.mul_one] at e4 ⊢;rw[List.map_take,←e4,List.take_take,Nat.min_eq_left hkn]
 obtain⟨h3,hk3,ho3⟩:=h1.setFile (x':=x') hx (by rw[hx']) hrow2 (fun y hy=>by rw[hx'] at hy;exact hy) rfl
 have hcells:[Value.slice x'.a x'.p.length x'.c,.int .i64 x'.safe]=[.slice (subA x.a 0 x.c 1) (k.toNat - 0) (x.c - 0),.int .i64 k]:=by
  rw[hsub,hlen',hx',Nat.sub_zero,Nat.sub_zero];have:((k.toNat:Nat):Int)=k:=by omega
  dsimp only;rw[this]
 rw[hcells,←hse] at h3 hk3;obtain⟨M3,hM3⟩:∃ M3,M3=M2.setCells x.f T.zA [.slice (subA x.a 0 x.c 1) (k.toNat - 0) (x.c - 0),.int .i64 k]:=⟨_,rfl⟩
 rw[←hM3] at h3 hk3;(conv=>whnf)
 erw [←hM3];refine zR ?_;refine(zf0 h3 hdn (zaO D.l ⟨s,(zx D s).all.extract 0 k.toNat,.empty⟩) hI.left.2).mono ?_;rintro v M4 ⟨rfl,h4,hk4⟩;have e:zcB D s k=(zbh D (zaO D.l ⟨s,(zx D s).all.extract 0 k.toNat,.empty⟩),0):=by unfold zcB;rw[if_neg (by simp[h0]),if_neg (by omega)]
 refine zR ?_;rw[e];refine⟨rfl,_,.fin hle1 (fun y o hy ho=>hk3 _ _ (fun e=>hy (.inr (.inr ⟨_,zN hx,.inl e⟩))) ho) ho3 h4 hk4 ?_⟩;refine hr.put (x:=x') (f:=⟨s,(zx D s).all.extract 0 k.toNat,.empty⟩) ?_;rw[hx'];simp only[cont,FileR.all,Prod.mk.injEq];constructor
 ·rw[zad,show bl ByteArray.empty=[] from rfl,List.append_nil,hfp,zcR];rfl
 ·rw[←zaH,zcR,List.length_take,show bl ((zx D s).safe++(zx D s).tail)=x.p from hfp.symm];omega
theorem zAt (h:DAt M p b D es) (hr:RelD es D.l) (hI:InvD D) (s:ByteArray) (hs:s.size≤4611686018427387904) :
  CallsM Tryz.prog F.zbl [ptr p,.string s] M fun v M'=>v = .int .i64 (zC D s).2∧∃ es',StepD M M' p b es es' (zC D s).1:=by
 refine zm0 (by simp) ?_;refine zR ?_;refine(zjO h hr s hs).mono ?_;rintro v M1 ⟨hle1,⟨hne,rfl⟩|⟨h0,x,hx,rfl⟩⟩
 ·(conv=>whnf);refine brn_t (by simp[hne]) ?_;refine zR ?_;have e:zC D s=(D,zaA D s):=by unfold zC;rw[if_pos hne]
  rw[e];exact⟨rfl,es,.same h hr hle1⟩
 have h1:=h.le hle1;obtain⟨hdn, -⟩:=zoe h0;refine zR ?_;refine on (h1.self.c1 rfl) ?_;(conv=>whnf)
 refine h1.map.del zl8 s fun q2 f2 hm=>?_
 replace hm:=hm M1;obtain⟨M2,hM2⟩:∃ M2,M2=M1.upd b (zfO q2 f2):=⟨_,rfl⟩
 have hk2:Mem.keep (fun y=>y=b) M1 M2:=hM2▸Mem.keep_upd _ _ rfl;rw[←hM2] at hm;(conv=>whnf)
 erw [←hM2];have h2:=h1.less s hk2 hm
 refine zR ?_;refine(zf0 h2 hdn (zar D.l s) hI.left.2).mono ?_;rintro v M3 ⟨rfl,h3,hk3⟩;have e:zC D s=(zbh D (zar D.l s),0):=by unfold zC;rw[if_neg (by simp[h0])]
 refine zR ?_;rw[e];exact⟨rfl,_,.fin hle1 (fun y o hy ho=>hk2 _ _ (fun e=>hy (.inr (.inl e))) ho) (fun y hy=>zrx hy) h3 hk3 (hr.del s)⟩
theorem zAu (h:DAt M p b D es) (hr:RelD es D.l) (hI:InvD D) (s t:ByteArray) (hs:s.size≤4611686018427387904) (ht:t.size≤4611686018427387904) :
  CallsM Tryz.prog F.zdy [ptr p,.string s,.string t] M fun v M'=>v = .int .i64 (zaG D s t).2∧∃ es',StepD M M' p b es es' (zaG D s t).1:=by
 refine zm4 (by simp) ?_;refine zR ?_;refine new (fun b1 hb1=>?_);replace hb1:M b1=none:=hb1;have hle1:M.le (M.setCells b1 T.zdl [.string s,.string t]):=Mem.le_setCells hb1
 have hs1:SrcOk (M.setCells b1 T.zdl [.string s,.string t]) 1 (some ⟨b1,0,none⟩) 2 ([s,t].map zfn):=SrcOk.lit rfl;obtain⟨M1,hM1⟩:∃ M1,M1=M.setCells b1 T.zdl [.string s,.string t]:=⟨_,rfl⟩
 rw[←hM1] at hle1 hs1;(conv=>whnf)
 erw [←hM1];refine(zl9 (h.le hle1) hs1 (by omega) (fun z hz=>by simp at hz;rcases hz with rfl|rfl<;>assumption)).mono ?_;rintro v _ ⟨rfl,rfl⟩
 have h2:(if D.down=true then (9:Int) else if [s,t].all zbd=true then 0 else 2)=if z8 D s≠0 then z8 D s else z8 D t:=by
  unfold z8;by_cases hd:D.down=true
  ·simp[hd]
  ·by_cases h1:zbd s=true<;>by_cases h2:zbd t=true<;>simp[hd,h1,h2]
 rw[h2];(conv=>whnf);refine brn (fun g=>?_) (fun g=>?_)
 ·have g1:¬(if z8 D s≠0 then z8 D s else z8 D t)=0:=by simpa using g
  have e:zaG D s t=(D,if z8 D s≠0 then z8 D s else z8 D t):=by
   unfold zaG;by_cases h1:z8 D s≠0
   ·rw[if_pos h1,if_pos h1]
   ·rw[if_neg h1] at g1;rw[if_neg h1,if_neg h1,if_pos g1]
  refine zR ?_;rw[e];exact⟨rfl,es,.same h hr hle1⟩
 have g1:(if z8 D s≠0 then z8 D s else z8 D t)=0:=by simpa using g
 have gs:z8 D s=0:=by
  apply Classical.byContradiction;intro hne;rw[if_pos hne] at g1;exact hne g1
 have gt:z8 D t=0:=by rw[if_neg (by simp[gs])] at g1;exact g1
 clear g;refine zR ?_;refine(zjO (h.le hle1) hr s hs).mono ?_;rintro v M2 ⟨hle2,⟨hne,rfl⟩|⟨h0,x,hx,rfl⟩⟩
 ·(conv=>whnf);refine brn_t (by simp[hne]) ?_;refine zR ?_;have e:zaG D s t=(D,zaA D s):=by unfold zaG;rw[if_neg (by simp[gs]),if_neg (by simp[gt]),if_pos hne]
  rw[e];exact⟨rfl,es,.same h hr (Mem.le_trans hle1 hle2)⟩
 have hle12:=Mem.le_trans hle1 hle2;have h2':=h.le hle12
 have hx2:FXAt M2 x:=h2'.ents _ (zN hx);obtain⟨hfn,hfp,hfs,hff⟩:=zjP hr hx;obtain⟨hdn, -⟩:=zoe h0;have hxl:x.p.length=(zx D s).safe.size+(zx D s).tail.size:=by rw[hfp,FileR.all_size]
 refine zR ?_;refine on (hx2.self.c1 rfl) ?_;(conv=>whnf);refine on (hx2.self.c1 rfl) ?_;(conv=>whnf);refine brn (fun g3=>?_) (fun g3=>?_)
 ·replace g3:=Zd0 g3;have e:zaG D s t=(D,7):=by unfold zaG;rw[if_neg (by simp[gs]),if_neg (by simp[gt]),if_neg (by simp[h0]),if_pos (by omega)]
  refine zR ?_;rw[e];exact⟨rfl,es,.same h hr hle12⟩
 replace g3:=Zd1 g3;have htl:(zx D s).tail = .empty:=zjN (List.eq_nil_of_length_eq_zero (by rw[zaH];omega))
 refine zR ?_;refine on (h2'.self.c1 rfl) ?_;(conv=>whnf)
 refine h2'.map.del zl8 s fun q2 f2 hm=>?_
 replace hm:=hm M2;obtain⟨M3,hM3⟩:∃ M3,M3=M2.upd b (zfO q2 f2):=⟨_,rfl⟩
 have hk3:Mem.keep (fun y=>y=b) M2 M3:=hM3▸Mem.keep_upd _ _ rfl;rw[←hM3] at hm;(conv=>whnf)
 erw [←hM3];have h3:=h2'.less s hk3 hm
 have hx3:FXAt M3 x:=hx2.mono fun y o hy ho=>hk3 _ _ (fun e=>by subst e;exact hx2.nomap h2'.map hy) ho
 refine zR ?_;refine on (h3.self.c1 rfl) ?_;(conv=>whnf)
 refine h3.map.put zl8 t x fun q3 f3 hm4=>?_
 replace hm4:=hm4 M3;obtain⟨M4,hM4⟩:∃ M4,M4=M3.upd b (ze0 q3 f3 (zfn t) (fxV x)):=⟨_,rfl⟩
 have hk4:Mem.keep (fun y=>y=b) M3 M4:=hM4▸Mem.keep_upd _ _ rfl;rw[←hM4] at hm4;(conv=>whnf)
 erw [←hM4]
 have hxn:∀ q∈zfA es s,∀ y,x.own y→¬q.2.own y:=fun q hq y hy hqy=>by
  obtain⟨hq1,hq2⟩:=List.mem_filter.1 hq;have hq3:q.1≠s:=by simpa using hq2
  have hall:∀ {l:FsT},l.Pairwise (fun x y=>znQ x.2 y.2)→∀ q1∈l,∀ q2∈l,q1.1≠q2.1→znQ q1.2 q2.2:=fun {l} hp=>by
   induction l with
   | nil=>intro q1 h1;cases h1
   | cons z r ih=>
    obtain⟨hz,hp'⟩:=List.pairwise_cons.1 hp;intro q1 h1 q2 h2 hne;rcases List.mem_cons.1 h1 with rfl|h1x<;>rcases List.mem_cons.1 h2 with rfl|h2x
    ·exact absurd rfl hne
    ·exact hz q2 h2x
    ·exact fun y hy hy2=>hz q1 h1x y hy2 hy
    ·exact ih hp' q1 h1x q2 h2x hne
  exact hall h.apart _ (zN hx) q hq1 (fun e=>hq3 e.symm) y hy hqy
 have h4:DAt M4 p b D (zQ (zfA es s) t x):=by
  have hx4:FXAt M4 x:=hx3.mono fun y o hy ho=>hk4 _ _ (fun e=>by subst e;exact hx3.nomap h3.map hy) ho
  refine⟨hk4 _ _ (h3.map.nb h3.self) h3.self,hm4,fun q hq=>?_,?_⟩
  ·rcases zBx h3.map.nodup hq with rfl|⟨hq,_⟩
   ·exact hx4
   ·exact(h3.ents q hq).mono fun y o hy ho=>hk4 _ _ (fun e=>by subst e;exact(h3.ents q hq).nomap h3.map hy) ho
  ·exact zy9 h3.apart h3.map.nodup (fun q hq y hy=>hxn q hq y hy)
 refine zR ?_;refine(zf0 h4 hdn (zaO (zar D.l s) ⟨t,(zx D s).safe,.empty⟩) hI.left.2).mono ?_;rintro v M5 ⟨rfl,h5,hk5⟩;have e:zaG D s t=(zbh D (zaO (zar D.l s) ⟨t,(zx D s).safe,.empty⟩),0):=by unfold zaG;rw[if_neg (by simp[gs]),if_neg (by simp[gt]),if_neg (by simp[h0]),if_neg (by omega)]
 refine zR ?_;rw[e];refine⟨rfl,_,.fin hle12 (fun y o hy ho=>hk4 _ _ (fun e=>hy (.inr (.inl e))) (hk3 _ _ (fun e=>hy (.inr (.inl e))) ho)) (fun y hy=>?_) h5 hk5 ?_⟩
 ·rcases zhh hy h3.map.nodup with h1|h1
  ·exact zrx h1
  ·exact .inr (.inr ⟨_,zN hx,h1⟩)
 ·exact(hr.del s).put (x:=x) (f:=⟨t,(zx D s).safe,.empty⟩) (by simp[cont,FileR.all,hfp,hfs,htl])
end Go.Proofs.YtpdkkbpkplhdpaaGreat
namespace Go.Proofs.YtpdkkbpkplhdpaaGreat
open Go Go.Proofs Go.Shelf
def Tryz.lays190_ren:Go.Shelf.Ren:=⟨fun|190=>61|125=>96|258=>95|128=>146|129=>147|302=>137|303=>138|304=>139|305=>140|306=>141|307=>142|308=>143|309=>144|310=>145|333=>170|329=>171|330=>172|334=>173|335=>174|336=>175|344=>199|n=>n,fun|31=>70|9=>9|3=>3|46=>171|0=>0|51=>189|53=>186|4=>4|183=>218|182=>217|131=>223|5=>5|218=>244|222=>248|228=>266|229=>267|n=>n,fun|n=>n⟩
theorem Tryz.lays190:Go.Proofs.Lays.n190 Tryz.prog Tryz.lays190_ren:={
 mixed:=by kernel_rfl
 f125:=Tryz.func96.trans (congrArg some (by kernel_rfl))
 f128:=Tryz.func146.trans (congrArg some (by kernel_rfl))
 f129:=Tryz.func147.trans (congrArg some (by kernel_rfl))
 f190:=Tryz.func61.trans (congrArg some (by kernel_rfl))
 f258:=Tryz.func95.trans (congrArg some (by kernel_rfl))
 f302:=Tryz.func137.trans (congrArg some (by kernel_rfl))
 f303:=Tryz.func138.trans (congrArg some (by kernel_rfl))
 f304:=Tryz.func139.trans (congrArg some (by kernel_rfl))
 f305:=Tryz.func140.trans (congrArg some (by kernel_rfl))
 f306:=Tryz.func141.trans (congrArg some (by kernel_rfl))
 f307:=Tryz.func142.trans (congrArg some (by kernel_rfl))
 f308:=Tryz.func143.trans (congrArg some (by kernel_rfl))
 f309:=Tryz.func144.trans (congrArg some (by kernel_rfl))
 f310:=Tryz.func145.trans (congrArg some (by kernel_rfl))
 f329:=Tryz.func171.trans (congrArg some (by kernel_rfl))
 f330:=Tryz.func172.trans (congrArg some (by kernel_rfl))
 f333:=Tryz.func170.trans (congrArg some (by kernel_rfl))
 f334:=Tryz.func173.trans (congrArg some (by kernel_rfl))
 f335:=Tryz.func174.trans (congrArg some (by kernel_rfl))
 f336:=Tryz.func175.trans (congrArg some (by kernel_rfl))
 f344:=Tryz.func199.trans (congrArg some (by kernel_rfl))
 t0:=Tryz.underlying0
 a0:=Tryz.isAgg0
 z0:=Tryz.sizeOf0
 v0:=Tryz.zeroValue0
 t3:=Tryz.underlying3
 a3:=Tryz.isAgg3
 z3:=Tryz.sizeOf3
 v3:=Tryz.zeroValue3
 t4:=Tryz.underlying4
 a4:=Tryz.isAgg4
 z4:=Tryz.sizeOf4
 v4:=Tryz.zeroValue4
 t5:=Tryz.underlying5
 a5:=Tryz.isAgg5
 z5:=Tryz.sizeOf5
 v5:=Tryz.zeroValue5
 t9:=Tryz.underlying9
 a9:=Tryz.isAgg9
 z9:=Tryz.sizeOf9
 v9:=Tryz.zeroValue9
 t31:=Tryz.underlying70
 a31:=Tryz.isAgg70
 z31:=Tryz.sizeOf70
 v31:=Tryz.zeroValue70
 t46:=Tryz.underlying171
 a46:=Tryz.isAgg171
 z46:=Tryz.sizeOf171
 v46:=Tryz.zeroValue171
 t51:=Tryz.underlying189
 a51:=Tryz.isAgg189
 z51:=Tryz.sizeOf189
 v51:=Tryz.zeroValue189
 t53:=Tryz.underlying186
 a53:=Tryz.isAgg186
 z53:=Tryz.sizeOf186
 v53:=Tryz.zeroValue186
 t131:=Tryz.underlying223
 a131:=Tryz.isAgg223
 z131:=Tryz.sizeOf223
 v131:=Tryz.zeroValue223
 t182:=Tryz.underlying217
 a182:=Tryz.isAgg217
 z182:=Tryz.sizeOf217
 v182:=Tryz.zeroValue217
 t183:=Tryz.underlying218
 a183:=Tryz.isAgg218
 z183:=Tryz.sizeOf218
 v183:=Tryz.zeroValue218
 t218:=Tryz.underlying244
 a218:=Tryz.isAgg244
 z218:=Tryz.sizeOf244
 v218:=Tryz.zeroValue244
 t222:=Tryz.underlying248
 a222:=Tryz.isAgg248
 z222:=Tryz.sizeOf248
 v222:=Tryz.zeroValue248
 t228:=Tryz.underlying266
 a228:=Tryz.isAgg266
 z228:=Tryz.sizeOf266
 v228:=Tryz.zeroValue266
 t229:=Tryz.underlying267
 a229:=Tryz.isAgg267
 z229:=Tryz.sizeOf267
 v229:=Tryz.zeroValue267 }
end Go.Proofs.YtpdkkbpkplhdpaaGreat
namespace Go.Proofs.YtpdkkbpkplhdpaaGreat
open Go Go.Vm
attribute [local irreducible] Brn Ob Grow CallsM inR zax zav Mem.row Mem.cells Mem.setCells Mem.upd Go.Vm.Own zaD za5 zbc zaJ New SrcOk subA NewSl Mem.textAt Mem.mapAt Mem.iterAt zau zaj Wr NewEls Elems
set_option maxRecDepth 10000
section
variable {M:Mem} {p b:Nat} {D:zf} {es:FsT}
theorem zmc {α:Type} (cs vs:List α) (h:cs.length=vs.length):ze cs 0 vs=vs:=by
 unfold ze;simp;omega
theorem zCY (h:DAt M p b D es) (hr:RelD es D.l) (hI:InvD D) (s:ByteArray) (hs:s.size≤4611686018427387904) :
  CallsM Tryz.prog F.zdh [ptr p,.string s] M fun v M'=>∃ a n c,v = .tuple #[.slice a n c,.int .i64 (zas D s).2]∧n=(bl (zas D s).1).length∧NewSl M T.zn 1 a n c ((bl (zas D s).1).map zl) M':=by
 refine zoB (by simp) ?_;refine zR ?_;refine(zjO h hr s hs).mono ?_;rintro v M1 ⟨hle1,⟨hne,rfl⟩|⟨h0,x,hx,rfl⟩⟩
 ·(conv=>whnf);refine brn_t (by simp[hne]) ?_;refine zR ?_;have e:zas D s=(.empty,zaA D s):=by unfold zas;rw[if_pos hne]
  rw[e];exact⟨none,0,0,rfl,rfl,(NewSl.none M T.zn 1).up hle1⟩
 have h1:=h.le hle1;have hx1:FXAt M1 x:=h1.ents _ (zN hx)
 obtain⟨hfn,hfp,hfs,hff⟩:=zjP hr hx
 have hxl:x.p.length≤1048576:=by
  have h1:=zvZ (zN hx);have h2:=hr.used
  have h3:=hI.used;dsimp only at h1;omega
 refine zR ?_;refine on (hx1.self.c1 rfl) ?_;(conv=>whnf);refine ob ⟨by omega,rfl,by omega,by omega⟩ ?_;(conv=>whnf);refine new (fun b2 hb2=>?_);replace hb2:M1 b2=none:=hb2;have hle2:M1.le (M1.setCells b2 T.zn (List.replicate (x.p.length:Int).toNat [Value.int .u8 0]).flatten):=Mem.le_setCells hb2
 have hs2:(M1.setCells b2 T.zn (List.replicate (x.p.length:Int).toNat [Value.int .u8 0]).flatten).has b2 T.zn (List.replicate (x.p.length:Int).toNat [Value.int .u8 0]).flatten:=Mem.has_setCells;have hlen2:(List.replicate (x.p.length:Int).toNat [Value.int .u8 0]).flatten.length=x.p.length:=by simp
 generalize (List.replicate (x.p.length:Int).toNat [Value.int .u8 0]).flatten=zs at *;obtain⟨M2,hM2⟩:∃ M2,M2=M1.setCells b2 T.zn zs:=⟨_,rfl⟩
 rw[←hM2] at hle2 hs2;(conv=>whnf)
 erw [←hM2];have hx2:=hx1.le hle2
 refine on (hx2.self.c1 rfl) ?_;(conv=>whnf)
 refine zdR hx2.row.src ?_;(conv=>whnf);refine ob ⟨by omega,zco _⟩ ?_;(conv=>whnf);refine on hs2.cells ?_;(conv=>whnf);refine ob (by dsimp only;omega) ?_
 have hk3:Mem.keep (fun y=>y=b2) M2 (M2.setCells b2 T.zn (ze zs 0 (x.p.map zl))):=fun y o hy ho=>by
  unfold Mem.setCells;rw[Mem.upd_ne _ _ hy];exact ho
 have hs3:(M2.setCells b2 T.zn (ze zs 0 (x.p.map zl))).has b2 T.zn (ze zs 0 (x.p.map zl)):=Mem.has_setCells;rw[zmc zs _ (by simpa using hlen2)] at hk3 hs3;obtain⟨M3,hM3⟩:∃ M3,M3=M2.setCells b2 T.zn (ze zs 0 (x.p.map zl)):=⟨_,rfl⟩
 rw[←zmc zs (x.p.map zl) (by simpa using hlen2),←hM3] at hk3;have hs3':M3.has b2 T.zn (x.p.map zl):=by rw[hM3,zmc zs _ (by simpa using hlen2)];exact hs3
 (conv=>whnf);erw [←hM3];refine zR ?_;have e:zas D s=((zx D s).all,0):=by unfold zas;rw[if_neg (by simp[h0])]
 rw[e];dsimp only;rw[←hfp]
 have hbM:M b2=none:=by
  cases e:M b2 with
  | none=>rfl
  | some z=>rw[hle1 _ _ e] at hb2;cases hb2
 refine⟨_,_,_,rfl,by omega,newSl_iff.2 ⟨hk3.le (Mem.le_trans hle1 hle2) (fun y hy=>hy▸hbM),by simp,by omega,.inr ⟨b2,x.p.map zl,rfl,hbM,hs3',by simp,by rw[List.take_of_length_le (by simp)]⟩⟩⟩
theorem zCZ (h:DAt M p b D es) (hr:RelD es D.l) (s:ByteArray) :
  CallsM Tryz.prog F.zd6 [ptr p,.string s] M fun v M'=>v = .int .i64 (match zg D.l s with|some f=>(f.safe.size:Int)|none=>0)∧M=M':=by
 refine zoL (by simp) ?_;refine zR ?_;refine on (h.self.c1 rfl) ?_;(conv=>whnf)
 refine h.map.get zl8 s (fun hn=>?_) (fun x j hx=>?_)
 ·refine zR ?_;rw[hr.none.1 hn];exact⟨rfl,rfl⟩
 ·obtain⟨hfn,hfp,hfs,hff⟩:=zjP hr hx;have hx1:FXAt M x:=h.ents _ (zN hx)
  refine zR ?_;refine on (h.self.c1 rfl) ?_;(conv=>whnf)
  refine h.map.get zl8 s (fun hn=>?_) (fun x' j' hx'=>?_)
  ·rw[hn] at hx;cases hx
  ·rw[hx] at hx';cases hx';refine zR ?_;refine on (hx1.self.c1 rfl) ?_;refine zR ?_;rw[hff,hfs];exact⟨rfl,rfl⟩
theorem zC0 (h:DAt M p b D es):CallsM Tryz.prog F.zcz [ptr p] M fun v M'=>v = .bool D.down∧M=M':=by
 refine zov (by simp) ?_;refine zR ?_;refine on (h.self.c1 rfl) ?_;refine zR ?_;exact⟨rfl,rfl⟩
theorem zEa (h:DAt M p b D es) (hr:RelD es D.l) (k:Int):CallsM Tryz.prog F.zfr [ptr p,.int .i64 k] M fun v M'=>v = .int .i64 (zgg D k).2∧StepD M M' p b es es (zgg D k).1:=by
 refine zpL (by simp) ?_;refine zR ?_;refine(zl9 h (ns:=[]) (SrcOk.nil M 1) (by omega) (by simp)).mono ?_;rintro v _ ⟨rfl,rfl⟩;rw[zD8];by_cases hd:D.down=true
 ·rw[if_pos hd];have e:zgg D k=(D,9):=by unfold zgg;rw[if_pos hd]
  refine zR ?_;rw[e];exact⟨rfl,.same h hr (Mem.le_refl _)⟩
 rw[if_neg hd];have e:zgg D k=(⟨D.limit,D.l,if k<0 then -1 else k,decide (k=0)⟩,0):=by unfold zgg;rw[if_neg hd]
 refine zR ?_;refine on h.self.cells ?_;(conv=>whnf);refine ob (by simp) ?_
 have hk2:Mem.keep (fun y=>y=p) M (M.setCells p T.zaC [.int .i64 D.limit,.map (some b),.int .i64 (max k (-1)),.bool D.down]):=fun y o hy ho=>by
  unfold Mem.setCells;rw[Mem.upd_ne _ _ hy];exact ho
 have hs2:(M.setCells p T.zaC [.int .i64 D.limit,.map (some b),.int .i64 (max k (-1)),.bool D.down]).has p T.zaC [.int .i64 D.limit,.map (some b),.int .i64 (max k (-1)),.bool D.down]:=Mem.has_setCells;obtain⟨M2,hM2⟩:∃ M2,M2=M.setCells p T.zaC [.int .i64 D.limit,.map (some b),.int .i64 (max k (-1)),.bool D.down]:=⟨_,rfl⟩
 rw[←hM2] at hs2 hk2;(conv=>whnf)
 erw [←hM2];refine zR ?_;refine on hs2.cells ?_;(conv=>whnf);refine ob (by simp) ?_
 have hk3:Mem.keep (fun y=>y=p) M2 (M2.setCells p T.zaC [.int .i64 D.limit,.map (some b),.int .i64 (max k (-1)),.bool (decide (k=0))]):=fun y o hy ho=>by
  unfold Mem.setCells;rw[Mem.upd_ne _ _ hy];exact ho
 have hmx:max k (-1)=if k<0 then -1 else k:=by split<;>omega
 have h3:=h.head ⟨D.limit,D.l,if k<0 then -1 else k,decide (k=0)⟩ (Mem.keep_trans hk2 hk3) (by rw[←hmx];exact Mem.has_setCells);obtain⟨M3,hM3⟩:∃ M3,M3=M2.setCells p T.zaC [.int .i64 D.limit,.map (some b),.int .i64 (max k (-1)),.bool (decide (k=0))]:=⟨_,rfl⟩
 rw[←hM3] at hk3 h3;(conv=>whnf)
 erw [←hM3];refine zR ?_;rw[e];exact⟨rfl,h3,hr,Mem.keep_mono (Mem.keep_trans hk2 hk3) fun y e => .inl e,fun y hy => .inl hy⟩
theorem zv0 (l:List ByteArray):l.map zfn=(l.map bl).map Go.Proofs.encStr:=by
 rw[List.map_map];apply List.map_congr_left;intro s _;exact congrArg Value.string (zEF s).symm
theorem zjQ (h:DAt M p b D es) (hr:RelD es D.l) (hI:InvD D) :
  CallsM Tryz.prog F.zc1 [ptr p] M fun v M'=>∃ a c,v = .slice a D.l.length c∧NewSl M T.zdl 1 a D.l.length c ((D.l.map (·.name)).map zfn) M':=by
 refine znr (by simp) ?_;have hlen:=hr.len
 have hI1:=hI.len;refine zR ?_;refine on (h.self.c1 rfl) ?_;(conv=>whnf)
 refine h.map.range fun q bi hbi hI2=>?_
 replace hbi:M bi=none:=hbi;(conv=>whnf)
 refine za6 (σ:=Mem×(Option Addr×Nat×Nat)×List ByteArray×FsT) [3] (fun x=>[(3,.slice x.2.1.1 x.2.1.2.1 x.2.1.2.2)]) (fun _=>[]) (fun x=>x.1)
  (fun|⟨M1,(a,n,c),l,todo⟩=>NewSl M T.zdl 1 a n c (l.map zfn) M1∧Iter zfn fxV M1 bi b es todo∧(l++todo.map (·.1)).Perm (es.map (·.1))) (fun x=>x.2.2.2.length) ⟨_,(none,0,0),[],es⟩
  ⟨(NewSl.none M T.zdl 1).up (Mem.le_upd hbi),hI2,by simp⟩ zS ?_
 rintro ⟨M1,⟨a,n,c⟩,l,todo⟩ ⟨hN,hI3,hperm⟩;(conv=>whnf)
 refine hI3.next (fun h0=>?_) (fun i k todo' o' hperm2 hI4 hent=>?_)
 ·subst h0;have hl:l.length=n:=hN.src.maplen
  have hln:n=D.l.length:=by have:=hperm.length_eq;simp at this;omega
  refine zR ?_;have hw:=hN.wr
  rw[zv0] at hw;refine(zBv Tryz.lays190 (by kernel_rfl) hw (show n<4611686018427387904 by omega)).mono ?_;rintro v M2 ⟨rfl,hw2,hk2⟩
  have hnames:zgO (l.map bl)=(D.l.map (·.name)).map bl:=by
   refine List.Perm.eq_of_pairwise (le:=fun x y=>x≤y) (fun x y _ _ h1 h2=>List.le_antisymm h1 h2) ?_ ?_ ?_
   ·have:=List.pairwise_mergeSort (le:=fun (x y:List UInt8)=>decide (x≤y)) (fun a b c h1 h2=>by simp only[decide_eq_true_eq] at *; exact List.le_trans h1 h2) (fun a b=>by simp only[Bool.or_eq_true,decide_eq_true_eq];exact List.le_total a b) (l.map bl);exact this.imp fun h=>Zd0 h
   ·rw[List.pairwise_map,List.pairwise_map];exact hr.sort.imp fun {x y} hxy=>List.le_of_lt ((zgN _ _).1 hxy)
   ·refine(zvY _).trans ?_;have h1:l.Perm (es.map (·.1)):=by simpa using hperm
    exact(h1.trans hr.names).map bl
  rw[hnames,←zv0] at hw2;refine zR ?_;rw[hln] at hw2;dsimp only;rw[hln];exact⟨a,c,rfl,hN.ofWr hw2 hk2 rfl⟩
 ·have hk2:Mem.keep (fun y=>y=bi) M1 (M1.upd bi o'):=Mem.keep_upd _ _ rfl
  have hN2:NewSl M T.zdl 1 a n c (l.map zfn) (M1.upd bi o'):=hN.keep hk2 (fun y e=>e▸hbi) (fun q hq e=>by
    obtain⟨_,cs,hh⟩:=hN.block hq
    exact(hI3.nb hh).1 e)
  obtain⟨M2,hM2⟩:∃ M2,M2=M1.upd bi o':=⟨_,rfl⟩
  rw[←hM2] at hI4 hent hN2;have hl:l.length=n:=hN.src.maplen
  have hlt:l.length<es.length:=by have:=hperm.length_eq;have:=hperm2.length_eq;simp at *; omega
  (conv=>whnf);erw [←hM2];refine zR ?_;refine on hent ?_;(conv=>whnf)
  refine zge M _ hN2 (by first|omega|(dsimp only;omega)) (by simp[maxLen];omega) (by simp[Value.oneCell']) fun a6 c6 M6 hN6 hk6=>?_
  have hnb:∀ y,z6 a y→y≠bi∧y≠b:=fun y ⟨q,hq,e⟩=>by
   obtain⟨_,cs,hh⟩:=hN2.block hq;exact e▸hI4.nb hh
  have hI6:=hI4.keep hk6 (fun hb=>(hnb _ hb).1 rfl) (fun hb=>(hnb _ hb).2 rfl);(conv=>whnf)
  refine⟨⟨M6,(a6,n+1,c6),l++[i],todo'⟩,⟨by simpa using hN6,hI6,?_⟩,by have:=hperm2.length_eq;simp at this ⊢; omega,zS⟩;refine List.Perm.trans ?_ hperm;rw[List.append_assoc];refine List.Perm.append_left _ ?_;simpa using (hperm2.map (·.1)).symm
end
section
variable {M:Mem} {p b:Nat} {D:zf} {es:FsT}
def zdD (keep:List Int) (i:Nat) (L:List FileR):List FileR:=L.mapIdx fun j f=>if j<i then zdI keep j f else f
theorem zir (keep:List Int) (i:Nat) (L:List FileR):(zdD keep i L).map (·.name)=L.map (·.name):=by
 apply List.ext_getElem?;intro j;simp only[zdD,List.getElem?_map,List.getElem?_mapIdx,Option.map_map];cases L[j]? with
 | none=>rfl
 | some f=>simp only[Option.map_some,Function.comp_apply];split<;>rfl
theorem zis {L L':List FileR} (h:SortedR L) (e:L'.map (·.name)=L.map (·.name)):SortedR L':=by
 have h1:(L.map (·.name)).Pairwise fun x y=>zfZ x y=true:=by rw[List.pairwise_map];exact h
 rw[←e,List.pairwise_map] at h1;exact h1
theorem crashTo_mem {keep:List Int} {i:Nat} {L:List FileR} {x:FileR}:x∈zdD keep i L↔∃ j f,L[j]? = some f∧x=if j<i then zdI keep j f else f:=by
 unfold zdD;rw[List.mem_iff_getElem?];constructor
 ·rintro ⟨j,hj⟩;rw[List.getElem?_mapIdx] at hj;obtain⟨f,hf,e⟩:=Option.map_eq_some_iff.1 hj;exact⟨j,f,hf,e.symm⟩
 ·rintro ⟨j,f,hf,rfl⟩;exact⟨j,by rw[List.getElem?_mapIdx,hf];rfl⟩
theorem SortedR.idx {L:List FileR} (h:SortedR L) {i j:Nat} {f g:FileR} (hf:L[i]? = some f) (hg:L[j]? = some g) (e:f.name=g.name):i=j:=by
 obtain⟨h1,rfl⟩:=List.getElem?_eq_some_iff.1 hf;obtain⟨h2,rfl⟩:=List.getElem?_eq_some_iff.1 hg;have hp:=List.pairwise_iff_getElem.1 h
 rcases Nat.lt_trichotomy i j with h3|h3|h3
 ·have:=hp i j h1 h2 h3;rw[e,zcP] at this;cases this
 ·exact h3
 ·have:=hp j i h2 h1 h3;rw[←e,zcP] at this;cases this
theorem zxy {L L':List FileR} (h:SortedR L) (h':SortedR L') (hm:∀ x,x∈L↔x∈L'):L=L':=by
 have nd:∀ {L:List FileR},SortedR L→L.Nodup:=fun {L} h=>h.imp fun {x y} hxy e=>by rw[e,zcP] at hxy;cases hxy
 refine List.Perm.eq_of_pairwise (le:=fun (x y:FileR)=>zfZ x.name y.name=true) (fun x y _ _ h1 h2=>?_) h h' ((List.perm_ext_iff_of_nodup (nd h) (nd h')).2 hm);have:=zpa h1 h2;rw[zcP] at this;cases this
theorem znS {keep:List Int} {i:Nat} {L:List FileR} (h:SortedR L) {f:FileR} (hf:L[i]? = some f):zaO (zdD keep i L) (zdI keep i f)=zdD keep (i+1) L:=by
 have s1:SortedR (zdD keep i L):=zis h (zir keep i L);have s2:SortedR (zdD keep (i+1) L):=zis h (zir keep (i+1) L)
 refine zxy (zfC s1 _) s2 fun x=>?_
 rw[withR_mem,crashTo_mem,crashTo_mem];constructor
 ·rintro (rfl|⟨⟨j,g,hg,rfl⟩,hne⟩)
  ·exact⟨i,f,hf,by rw[if_pos (by omega)]⟩
  ·refine⟨j,g,hg,?_⟩;by_cases hj:j<i
   ·rw[if_pos hj,if_pos (by omega)]
   ·rw[if_neg hj] at hne ⊢;rw[if_neg];intro hj2;have:j=i:=by omega
    subst this;rw[hf] at hg;cases hg;exact hne rfl
 ·rintro ⟨j,g,hg,rfl⟩;by_cases hj:j=i
  ·subst hj;rw[hf] at hg;cases hg;left;rw[if_pos (by omega)]
  ·right
   have e:(if j<i+1 then zdI keep j g else g)=if j<i then zdI keep j g else g:=by
    by_cases hj2:j<i
    ·rw[if_pos hj2,if_pos (by omega)]
    ·rw[if_neg hj2,if_neg (by omega)]
   rw[e];refine⟨⟨j,g,hg,rfl⟩,fun e2=>hj (h.idx hg hf ?_)⟩;split at e2<;>exact e2
theorem zv1 (keep:List Int) (L:List FileR):zdD keep 0 L=L:=by
 unfold zdD;apply List.ext_getElem?;intro j;rw[List.getElem?_mapIdx];cases L[j]? <;> simp
theorem zpd (keep:List Int) (L:List FileR):zdD keep L.length L=L.mapIdx fun i f=>zdI keep i f:=by
 unfold zdD;apply List.ext_getElem?;intro j;rw[List.getElem?_mapIdx,List.getElem?_mapIdx];cases hj:L[j]? with
 | none=>rfl
 | some f=>
  have:=(List.getElem?_eq_some_iff.1 hj).1;simp only[Option.map_some,if_pos this]
theorem zrA:∀ {l:List Nat} {x:Nat},x∈l→x≤l.sum
 | y::r,x,h=>by
  rw[List.sum_cons];rcases List.mem_cons.1 h with rfl|h
  ·omega
  ·have:=zrA h;omega
theorem zqm (keep:List Int) (i:Nat) (f:FileR):zkw keep i f≤f.tail.size:=by
 unfold zkw;split
 ·split
  ·exact Nat.min_le_right _ _
  ·omega
 ·omega
theorem zBy (h:DAt M p b D es) (hr:RelD es D.l) (hI:InvD D) {ka:Option Addr} {kn kc:Nat} {keep:List Int} (hk:SrcOk (M.minus (zac p b es)) 1 ka kn (keep.map zaa)) (hkn:kn≤4194304) :
  CallsM Tryz.prog F.zdH [ptr p,.slice ka kn kc] M fun v M'=>v = .int .i64 0∧∃ es',StepD M M' p b es es' (zbK D keep):=by
 refine znp (by simp) ?_;have hlen:=hI.len
 have hkl:=hk.maplen;refine zR ?_;refine(zjQ h hr hI).mono ?_;rintro v M1 ⟨na,nc,rfl,hN⟩;have hle1:=hN.le
 obtain⟨B,hB⟩:∃ B,B=M1.minus (zac p b es):=⟨_,rfl⟩
 have hBM:B.le M1:=hB▸Mem.minus_le _ _
 have hkB:SrcOk B 1 ka kn (keep.map zaa):=hk.le (fun y o hy=>by
  rw[hB];unfold Mem.minus at hy ⊢;split at hy
  ·cases hy
  ·rw[if_neg ‹_›];exact hle1 _ _ hy)
 have hnB:SrcOk B 1 na D.l.length ((D.l.map (·.name)).map zfn):=hB▸hN.src.minus fun q hq hb=>h.full hb (hN.block hq).1
 have hBn:∀ y,zac p b es y→B y=none:=fun y hy=>hB▸Mem.minus_in hy
 (conv=>whnf)
 refine za6 (σ:=Nat×Mem×FsT) [14] (fun y=>[(14,.int .i64 y.1)]) (fun _=>[]) (fun y=>y.2.1)
  (fun|⟨i,Mc,ec⟩=>i≤D.l.length∧B.le Mc∧DAt Mc p b D ec∧RelD ec (zdD keep i D.l)∧(∀ y,zac p b ec y→zac p b es y)) (fun y=>D.l.length - y.1) ⟨0,M1,es⟩
  ⟨by omega,hBM,h.le hle1,by rw[zv1];exact hr,fun _ hy=>hy⟩ zS ?_
 rintro ⟨i,Mc,ec⟩ ⟨hi,hBc,hc,hrc,hoc⟩;(conv=>whnf);refine brn (fun g=>?_) (fun g=>?_)
 ·have hlt:i<D.l.length:=by have:=Zd0 g;dsimp only at this;omega
  have hfi:D.l[i]? = some D.l[i]:=List.getElem?_eq_getElem hlt;obtain⟨hkx,bx,ox,hax,hrx⟩:=(hnB.le hBc).at (i:=i) hlt;have hnm:(D.l.map (·.name))[i]=D.l[i].name:=by simp
  rw[hnm] at hrx;generalize hf:D.l[i]=f at *;have hfm:zg (zdD keep i D.l) f.name=some f:=(zaz hrc.sort).2 ⟨crashTo_mem.2 ⟨i,f,hfi,by rw[if_neg (by omega)]⟩,rfl⟩
  (conv=>whnf);refine ob (by first|omega|(dsimp only;omega)) ?_;(conv=>whnf);refine atp hax ?_;(conv=>whnf);refine on hrx ?_;(conv=>whnf);refine on (hc.self.c1 rfl) ?_;(conv=>whnf)
  refine hc.map.get zl8 f.name (fun hn=>?_) (fun x j hx=>?_)
  ·rw[hrc.none.1 hn] at hfm;cases hfm
  obtain⟨f',hf', -, hxp,hxs⟩:=hrc.get hx;rw[hfm] at hf';cases hf';have hxe:FXAt Mc x:=hc.ents _ (zN hx)
  have hxl:x.p.length=f.safe.size+f.tail.size:=by rw[hxp,FileR.all_size]
  have hfu:f.safe.size+f.tail.size≤1048576:=by
   have h1:f∈D.l:=List.mem_of_getElem? hfi;have h2:=hI.used
   unfold zaX at h2;have h3:=zrA (List.mem_map.2 ⟨f,h1,rfl⟩:f.safe.size+f.tail.size∈D.l.map fun f=>f.safe.size+f.tail.size)
   omega
  obtain⟨k,hkk⟩:∃ k,k=zkw keep i f:=⟨_,rfl⟩
  have hkt:=zqm keep i f;rw[←hkk] at hkt;(conv=>whnf)
  refine brn (fun g1=>?_) (fun g1=>?_)
  ·have hik:i<kn:=by have:=Zd0 g1;dsimp only at this;omega
   obtain⟨hky,by',oy,hay,hry⟩:=(hkB.le hBc).at (i:=i) hik;have hkv:keep[i]? = some keep[i]:=List.getElem?_eq_getElem hky
   generalize keep[i]=v at *;(conv=>whnf);refine ob (by first|omega|(dsimp only;omega)) ?_;(conv=>whnf);refine atp hay ?_;(conv=>whnf);refine on hry ?_;(conv=>whnf);refine on (hxe.self.c1 rfl) ?_;(conv=>whnf);refine on (hxe.self.c1 rfl) ?_;(conv=>whnf);refine ob (zd (by omega)) ?_;(conv=>whnf)
   erw [show max 0 (min v ((x.p.length:Int) - x.safe))=(k:Int) from by
    rw[hkk,hxl,hxs];unfold zkw;rw[hkv];dsimp only
    split<;>omega]
   refine zR ?_;refine on (hxe.self.c1 rfl) ?_;(conv=>whnf);refine ob (zd (by rw[hxs];omega)) ?_;(conv=>whnf);refine on hxe.self.cells ?_;(conv=>whnf);refine ob (by simp) ?_
   have hk2:Mem.keep (fun y=>y=x.f) Mc (Mc.setCells x.f T.zA [.slice x.a x.p.length x.c,.int .i64 (x.safe+k)]):=fun y o hy ho=>by
    unfold Mem.setCells;rw[Mem.upd_ne _ _ hy];exact ho
   have hs2:(Mc.setCells x.f T.zA [.slice x.a x.p.length x.c,.int .i64 (x.safe+k)]).has x.f T.zA [.slice x.a x.p.length x.c,.int .i64 (x.safe+k)]:=Mem.has_setCells;have hse:∀ (cs:List Value),(Mc.setCells x.f T.zA [.slice x.a x.p.length x.c,.int .i64 (x.safe+k)]).setCells x.f T.zA cs=Mc.setCells x.f T.zA cs:=fun cs=>Mem.setCells_setCells ..
   obtain⟨M2,hM2⟩:∃ M2,M2=Mc.setCells x.f T.zA [.slice x.a x.p.length x.c,.int .i64 (x.safe+k)]:=⟨_,rfl⟩
   rw[←hM2] at hk2 hs2 hse;(conv=>whnf)
   erw [←hM2];have hrow:=hxe.row
   have hsub:=Wr.subA0 hrow;have hrow':=hrow
   unfold Wr at hrow';refine zR ?_;refine on (hs2.c1 rfl) ?_;(conv=>whnf);refine on (hs2.c1 rfl) ?_;(conv=>whnf);refine ob ⟨by decide,by rw[hxs];omega,by have:=hrow'.2.1;rw[hxs];omega⟩ ?_;(conv=>whnf);refine⟨?_,True.intro⟩;(conv=>whnf);refine on hs2.cells ?_;(conv=>whnf);refine ob (by simp) ?_;obtain⟨x',hx'⟩:∃ x':FX,x'=⟨x.f,x.a,x.c,x.p.take (x.safe+k),x.safe+k⟩:=⟨_,rfl⟩
   have hlen':x'.p.length=x.safe+k:=by rw[hx'];simp;rw[hxs,hxl];omega
   have hrow2:Wr Mc T.zn 1 x'.a x'.p.length x'.c (x'.p.map zl):=by
    rw[hlen',hx'];unfold Wr;obtain⟨w1,w2,w3⟩:=hrow';refine⟨by simp;rw[hxs,hxl];omega,by dsimp only;rw[hxs];omega,w3.imp id fun ⟨bb,cs,e1,e2,e3,e4⟩=>⟨bb,cs,e1,e2,e3,?_⟩⟩;rw[Nat.mul_one] at e4 ⊢;rw[List.map_take,←e4,List.take_take,Nat.min_eq_left (by rw[hxs,hxl];omega)]
   obtain⟨h3,hk3,ho3⟩:=hc.setFile (x':=x') hx (by rw[hx']) hrow2 (fun y hy=>by rw[hx'] at hy;exact hy) rfl
   have hcells:[Value.slice x'.a x'.p.length x'.c,.int .i64 x'.safe]=[.slice (subA x.a 0 x.c 1) (((x.safe:Int)+k).toNat - 0) (x.c - 0),.int .i64 (x.safe+k)]:=by
    rw[hsub,hlen',hx',Nat.sub_zero,Nat.sub_zero];have:((x.safe:Int)+k).toNat=x.safe+k:=by omega
    rw[this];rfl
   rw[hcells,←hse] at h3 hk3;obtain⟨M3,hM3⟩:∃ M3,M3=M2.setCells x.f T.zA [.slice (subA x.a 0 x.c 1) (((x.safe:Int)+k).toNat - 0) (x.c - 0),.int .i64 (x.safe+k)]:=⟨_,rfl⟩
   rw[←hM3] at h3 hk3;(conv=>whnf)
   erw [←hM3];refine zR ?_;refine ob (zd (by first|omega|(dsimp only;omega))) ?_;(conv=>whnf)
   have hxin:∀ y,y=x.f→zac p b es y:=fun y e=>hoc y (.inr (.inr ⟨_,zN hx,.inl e⟩))
   refine⟨⟨i+1,M3,zQ ec f.name x'⟩,⟨by omega,hk3.le hBc (fun y e=>hBn y (hxin y e)),h3,?_,fun y hy=>hoc y (ho3 y hy)⟩,by dsimp only;omega,zS⟩;rw[←znS hI.sort hfi];refine hrc.put (x:=x') (f:=zdI keep i f) ?_;rw[hx'];simp only[cont,FileR.all,zdI,Prod.mk.injEq,←hkk];constructor
   ·rw[zad,show bl ByteArray.empty=[] from rfl,List.append_nil,zad,zcR,hxp,FileR.all,zad,hxs];rw[←zaH f.safe,List.take_length_add_append]
   ·rw[hxs,←zaH (f.safe++f.tail.extract 0 k),zad,zcR,List.length_append,List.length_take,zaH,zaH];omega
  ·have hik:¬i<kn:=by have:=Zd1 g1;dsimp only at this;omega
   have hk0:k=0:=by rw[hkk];unfold zkw;rw[List.getElem?_eq_none (by omega)]
   (conv=>whnf);erw [show (0:Int)=(k:Int) from by rw[hk0];rfl];refine zR ?_;refine on (hxe.self.c1 rfl) ?_;(conv=>whnf);refine ob (zd (by rw[hxs];omega)) ?_;(conv=>whnf);refine on hxe.self.cells ?_;(conv=>whnf);refine ob (by simp) ?_
   have hk2:Mem.keep (fun y=>y=x.f) Mc (Mc.setCells x.f T.zA [.slice x.a x.p.length x.c,.int .i64 (x.safe+k)]):=fun y o hy ho=>by
    unfold Mem.setCells;rw[Mem.upd_ne _ _ hy];exact ho
   have hs2:(Mc.setCells x.f T.zA [.slice x.a x.p.length x.c,.int .i64 (x.safe+k)]).has x.f T.zA [.slice x.a x.p.length x.c,.int .i64 (x.safe+k)]:=Mem.has_setCells;have hse:∀ (cs:List Value),(Mc.setCells x.f T.zA [.slice x.a x.p.length x.c,.int .i64 (x.safe+k)]).setCells x.f T.zA cs=Mc.setCells x.f T.zA cs:=fun cs=>Mem.setCells_setCells ..
   obtain⟨M2,hM2⟩:∃ M2,M2=Mc.setCells x.f T.zA [.slice x.a x.p.length x.c,.int .i64 (x.safe+k)]:=⟨_,rfl⟩
   rw[←hM2] at hk2 hs2 hse;(conv=>whnf)
   erw [←hM2];have hrow:=hxe.row
   have hsub:=Wr.subA0 hrow;have hrow':=hrow
   unfold Wr at hrow';refine zR ?_;refine on (hs2.c1 rfl) ?_;(conv=>whnf);refine on (hs2.c1 rfl) ?_;(conv=>whnf);refine ob ⟨by decide,by rw[hxs];omega,by have:=hrow'.2.1;rw[hxs];omega⟩ ?_;(conv=>whnf);refine⟨?_,True.intro⟩;(conv=>whnf);refine on hs2.cells ?_;(conv=>whnf);refine ob (by simp) ?_;obtain⟨x',hx'⟩:∃ x':FX,x'=⟨x.f,x.a,x.c,x.p.take (x.safe+k),x.safe+k⟩:=⟨_,rfl⟩
   have hlen':x'.p.length=x.safe+k:=by rw[hx'];simp;rw[hxs,hxl];omega
   have hrow2:Wr Mc T.zn 1 x'.a x'.p.length x'.c (x'.p.map zl):=by
    rw[hlen',hx'];unfold Wr;obtain⟨w1,w2,w3⟩:=hrow';refine⟨by simp;rw[hxs,hxl];omega,by dsimp only;rw[hxs];omega,w3.imp id fun ⟨bb,cs,e1,e2,e3,e4⟩=>⟨bb,cs,e1,e2,e3,?_⟩⟩;rw[Nat.mul_one] at e4 ⊢;rw[List.map_take,←e4,List.take_take,Nat.min_eq_left (by rw[hxs,hxl];omega)]
   obtain⟨h3,hk3,ho3⟩:=hc.setFile (x':=x') hx (by rw[hx']) hrow2 (fun y hy=>by rw[hx'] at hy;exact hy) rfl
   have hcells:[Value.slice x'.a x'.p.length x'.c,.int .i64 x'.safe]=[.slice (subA x.a 0 x.c 1) (((x.safe:Int)+k).toNat - 0) (x.c - 0),.int .i64 (x.safe+k)]:=by
    rw[hsub,hlen',hx',Nat.sub_zero,Nat.sub_zero];have:((x.safe:Int)+k).toNat=x.safe+k:=by omega
    rw[this];rfl
   rw[hcells,←hse] at h3 hk3;obtain⟨M3,hM3⟩:∃ M3,M3=M2.setCells x.f T.zA [.slice (subA x.a 0 x.c 1) (((x.safe:Int)+k).toNat - 0) (x.c - 0),.int .i64 (x.safe+k)]:=⟨_,rfl⟩
   rw[←hM3] at h3 hk3;(conv=>whnf)
   erw [←hM3];refine zR ?_;refine ob (zd (by first|omega|(dsimp only;omega))) ?_;(conv=>whnf)
   have hxin:∀ y,y=x.f→zac p b es y:=fun y e=>hoc y (.inr (.inr ⟨_,zN hx,.inl e⟩))
   refine⟨⟨i+1,M3,zQ ec f.name x'⟩,⟨by omega,hk3.le hBc (fun y e=>hBn y (hxin y e)),h3,?_,fun y hy=>hoc y (ho3 y hy)⟩,by dsimp only;omega,zS⟩;rw[←znS hI.sort hfi];refine hrc.put (x:=x') (f:=zdI keep i f) ?_;rw[hx'];simp only[cont,FileR.all,zdI,Prod.mk.injEq,←hkk];constructor
   ·rw[zad,show bl ByteArray.empty=[] from rfl,List.append_nil,zad,zcR,hxp,FileR.all,zad,hxs];rw[←zaH f.safe,List.take_length_add_append]
   ·rw[hxs,←zaH (f.safe++f.tail.extract 0 k),zad,zcR,List.length_append,List.length_take,zaH,zaH];omega
 have hge:i=D.l.length:=by have:=Zd1 g;dsimp only at this;omega
 subst hge;rw[zpd] at hrc;refine zR ?_;refine on hc.self.cells ?_;(conv=>whnf);refine ob (by simp) ?_
 have hk2:Mem.keep (fun y=>y=p) Mc (Mc.setCells p T.zaC [.int .i64 D.limit,.map (some b),.int .i64 D.left,.bool false]):=fun y o hy ho=>by
  unfold Mem.setCells;rw[Mem.upd_ne _ _ hy];exact ho
 have hs2:(Mc.setCells p T.zaC [.int .i64 D.limit,.map (some b),.int .i64 D.left,.bool false]).has p T.zaC [.int .i64 D.limit,.map (some b),.int .i64 D.left,.bool false]:=Mem.has_setCells;obtain⟨M2,hM2⟩:∃ M2,M2=Mc.setCells p T.zaC [.int .i64 D.limit,.map (some b),.int .i64 D.left,.bool false]:=⟨_,rfl⟩
 rw[←hM2] at hs2 hk2;(conv=>whnf)
 erw [←hM2];refine zR ?_;refine on hs2.cells ?_;(conv=>whnf);refine ob (by simp) ?_
 have hk3:Mem.keep (fun y=>y=p) M2 (M2.setCells p T.zaC [.int .i64 D.limit,.map (some b),.int .i64 (-1),.bool false]):=fun y o hy ho=>by
  unfold Mem.setCells;rw[Mem.upd_ne _ _ hy];exact ho
 have h3:=hc.head (zbK D keep) (Mem.keep_trans hk2 hk3) Mem.has_setCells;obtain⟨M3,hM3⟩:∃ M3,M3=M2.setCells p T.zaC [.int .i64 D.limit,.map (some b),.int .i64 (-1),.bool false]:=⟨_,rfl⟩
 rw[←hM3] at hk3 h3;(conv=>whnf)
 erw [←hM3];refine zR ?_;have hkk:=Mem.keep_trans hk2 hk3
 refine⟨rfl,ec,h3,hrc,fun y o hy ho=>?_,fun y hy => .inl (hoc y hy)⟩;refine hkk _ _ (fun e=>hy (.inl e)) (hBc _ _ ?_);rw[hB];unfold Mem.minus;rw[if_neg hy];exact hle1 _ _ ho
end
end Go.Proofs.YtpdkkbpkplhdpaaGreat
namespace Go.Proofs.YtpdkkbpkplhdpaaGreat
open Go Go.Vm
variable {D:zf}
theorem zpe {s:ByteArray} (h:z8 D s=0):D.down=false∧zbd s=true:=by
 unfold z8 at h;split at h
 ·cases h
 ·rename_i hd;split at h
  ·cases h
  ·rename_i ho;exact⟨by simpa using hd,by simpa using ho⟩
theorem zbR {s:ByteArray} (h:zaA D s=0):z8 D s=0∧zg D.l s=some (zx D s):=by
 unfold zaA at h;split at h
 ·rename_i g;exact absurd h g
 ·rename_i g;split at h
  ·cases h
  ·rename_i hf;refine⟨by simpa using g,?_⟩;obtain⟨f,hf'⟩:=Option.ne_none_iff_exists'.1 hf;rw[hf'];unfold zx;rw[hf'];rfl
theorem InvD.with (h:InvD D) {f:FileR} (hl:zg D.l f.name=none→D.l.length<64) (hu:zaX (zar D.l f.name)+(f.safe.size+f.tail.size)≤1048576):SortedR (zaO D.l f)∧(zaO D.l f).length≤64∧zaX (zaO D.l f)≤1048576:=by
 refine⟨zfC h.sort f,?_,?_⟩
 ·rw[zaO,zgp];cases hf:zg D.l f.name with
  | none=>rw[zd9 hf];have:=hl hf;omega
  | some x=>have:=(zbs h.sort hf).1;have:=h.len;omega
 ·rw[zaO,zh3];omega
theorem InvD.changed (h:InvD D) {l:List FileR} (h1:SortedR l∧l.length≤64∧zaX l≤1048576):InvD (zbh D l):=by
 refine⟨h1.1,h1.2.1,h1.2.2,h.limit,?_⟩;have:=h.left
 unfold zbh;dsimp only;split<;>omega
theorem InvD.without (h:InvD D) (s:ByteArray):SortedR (zar D.l s)∧(zar D.l s).length≤64∧zaX (zar D.l s)≤1048576:=by
 refine⟨zdC h.sort s,Nat.le_trans (List.length_filter_le _ _) h.len,?_⟩;cases hf:zg D.l s with
 | none=>rw[zd9 hf];exact h.used
 | some x=>have:=(zbs h.sort hf).2;have:=h.used;omega
theorem zv2 {limit:Int} (h:¬(limit<1∨1048576<limit)):InvD ⟨limit,[], -1,false⟩:=
 ⟨by simp[SortedR],by simp,by simp[zaX],by dsimp only;omega,by dsimp only;omega⟩
theorem zpf (h:InvD D) (s:ByteArray) (p:List UInt8):InvD (zW D s p).1:=by
 unfold zW;split
 ·exact h
 ·split
  ·exact h
  ·rename_i h1 h2;have hu:=h.used
   have hlim:=h.limit;refine h.changed (h.with (fun hf=>?_) ?_)
   ·dsimp only at hf;apply Classical.byContradiction;intro hc;exact h2 (.inr ⟨hf,by omega⟩)
   ·dsimp only;have hsz:((zx D s).tail++(⟨p.toArray⟩:ByteArray)).size=(zx D s).tail.size+p.length:=by rw[←zaH,zad,List.length_append,zaH,ziX]
    rw[hsz];cases hf:zg D.l s with
    | none=>
     rw[zd9 hf];have:zx D s=⟨s,.empty,.empty⟩:=by unfold zx;rw[hf];rfl
     rw[this];have:ByteArray.empty.size=0:=rfl
     dsimp only;omega
    | some x=>
     have:zx D s=x:=by unfold zx;rw[hf];rfl
     rw[this];have:=(zbs h.sort hf).2
     omega
theorem all_size (f:FileR):f.all.size=f.safe.size+f.tail.size:=by rw[←zaH,FileR.all_size]
theorem InvD.there (h:InvD D) {s:ByteArray} (h0:zaA D s=0) {f:FileR} (hn:f.name=s) (hs:f.safe.size+f.tail.size≤(zx D s).safe.size+(zx D s).tail.size):SortedR (zaO D.l f)∧(zaO D.l f).length≤64∧zaX (zaO D.l f)≤1048576:=by
 have hf:=(zbR h0).2;refine h.with (fun hn'=>?_) ?_
 ·rw[hn,hf] at hn';cases hn'
 ·rw[hn];have:=(zbs h.sort hf).2
  have:=h.used;omega
theorem znT (h:InvD D) (s:ByteArray):InvD (zbn D s).1:=by
 unfold zbn;split
 ·exact h
 ·rename_i h0;refine h.changed (h.there (by simpa using h0) rfl ?_);have:ByteArray.empty.size=0:=rfl
  dsimp only;rw[all_size];omega
theorem zv3 (h:InvD D) (s:ByteArray) (k:Int):InvD (zcB D s k).1:=by
 unfold zcB;split
 ·exact h
 ·split
  ·exact h
  ·rename_i h0 _;refine h.changed (h.there (by simpa using h0) rfl ?_);have:ByteArray.empty.size=0:=rfl
   dsimp only;have:((zx D s).all.extract 0 k.toNat).size≤(zx D s).all.size:=by rw[←zaH,←zaH,zcR,List.length_take];omega
   rw[all_size] at this;omega
theorem zeH (h:InvD D) (s:ByteArray):InvD (zC D s).1:=by
 unfold zC;split
 ·exact h
 ·exact h.changed (h.without s)
theorem zpg (h:InvD D) (s t:ByteArray):InvD (zaG D s t).1:=by
 unfold zaG;split
 ·exact h
 ·split
  ·exact h
  ·split
   ·exact h
   ·split
    ·exact h
    ·rename_i _ _ h0 _;have hf:=(zbR (by simpa using h0)).2
     obtain⟨w1,w2⟩:=zbs h.sort hf;have hl:=h.len
     have hu:=h.used;have h2:InvD ⟨D.limit,zar D.l s,D.left,D.down⟩:=⟨(h.without s).1,(h.without s).2.1,(h.without s).2.2,h.limit,h.left⟩
     have:=h2.with (f:=⟨t,(zx D s).safe,.empty⟩) (fun _=>by dsimp only;omega) (by
      have e0:ByteArray.empty.size=0:=rfl;dsimp only;cases hft:zg (zar D.l s) t with
      | none=>rw[zd9 hft];omega
      | some x=>have:=(zbs h2.sort hft).2;dsimp only at this;omega)
     exact h.changed this
theorem zqn (h:InvD D) {k:Int} (hk:k≤9223372036854775807):InvD (zgg D k).1:=by
 unfold zgg;split
 ·exact h
 ·exact⟨h.sort,h.len,h.used,h.limit,by dsimp only;split<;>omega⟩
theorem zhi (keep:List Int):(zbK D keep).l.map (·.name)=D.l.map (·.name):=by
 have:=zir keep D.l.length D.l
 rwa [zpd] at this
theorem zph (keep:List Int):zaX (zbK D keep).l≤zaX D.l:=by
 unfold zbK zaX;dsimp only
 have:∀ (l:List FileR) (g:Nat→FileR→FileR),(∀ i f,(g i f).safe.size+(g i f).tail.size≤f.safe.size+f.tail.size)→((l.mapIdx g).map fun f=>f.safe.size+f.tail.size).sum≤(l.map fun f=>f.safe.size+f.tail.size).sum:=fun l=>by
  induction l with
  | nil=>intro g _;simp
  | cons x r ih=>
   intro g hg;rw[List.mapIdx_cons];simp only[List.map_cons,List.sum_cons];have h1:=ih (fun i=>g (i+1)) (fun i f=>hg (i+1) f)
   have h2:=hg 0 x;omega
 refine this _ _ fun i f=>?_
 have h1:=zqm keep i f;have e0:ByteArray.empty.size=0:=rfl
 unfold zdI;dsimp only;rw[←zaH (f.safe++f.tail.extract 0 (zkw keep i f)),zad,zcR,List.length_append,List.length_take,zaH,zaH];omega
theorem zmd (h:InvD D) (keep:List Int):InvD (zbK D keep):=by
 refine⟨zis h.sort (zhi keep),?_,Nat.le_trans (zph keep) h.used,h.limit,by unfold zbK;dsimp only;omega⟩;have:=congrArg List.length (zhi (D:=D) keep)
 simp only[List.length_map] at this;rw[this];exact h.len
end Go.Proofs.YtpdkkbpkplhdpaaGreat
