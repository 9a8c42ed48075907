/- Part of this proof;laid by program. -/
import Derived.Test.YtpdkkbpkplhdpaaGreatJ22
set_option linter.unusedVariables false
set_option linter.unusedSimpArgs false
namespace Go.Proofs.YtpdkkbpkplhdpaaGreat
open Go Go.Vm
attribute [local irreducible] Brn Ob Grow CallsM inR zax zav Mem.row Mem.cells Mem.setCells Mem.upd Go.Vm.Own zaD za5 zbc zaJ New SrcOk subA NewSl Mem.textAt Mem.mapAt Mem.iterAt zau zaj Wr NewEls Elems
set_option maxRecDepth 10000
variable {M:Mem}
theorem InvE.of {es:EsT} (h:FormP (es.map zbe)):InvE es:=by
 have hm:∀ q∈es,zj0 (zbe q):=fun q hq=>h.1 _ (List.mem_map.2 ⟨q,hq,rfl⟩)
 refine⟨?_,fun q hq=>?_,fun q hq=>?_⟩
 ·have:=h.2;rw[List.pairwise_map] at this;unfold List.Nodup;rw[List.pairwise_map];refine this.imp fun {x y} hxy e=>?_
  unfold zbJ zbe at hxy;rw[e] at hxy;dsimp only at hxy;omega
 ·obtain⟨h1,h2,h3⟩:=hm q hq;obtain⟨h4,h5⟩:=h3.can;dsimp only [zbe] at h1 h2 h4 h5;exact⟨⟨h1.2.2.2.2.1,h4,fun c hc=>(h5 c hc).1⟩,h2.imp id fun h e=>by rw[e] at h;simp at h⟩
 ·obtain⟨h1,h2,h3⟩:=hm q hq;obtain⟨h4,h5⟩:=h3.can;dsimp only [zbe] at h1 h2 h4 h5;refine⟨⟨by omega,by omega,by omega,by omega⟩,fun c hc=>?_⟩;rcases hc with hc|hc
  ·omega
  ·exact(h5 c hc).2
theorem zDj (gaps:Int) {a:Option Addr} {n c:Nat} {l:List MkC} (ha:MarksR M a n l) (fl:zzn l) (hn:n≤1048576) (hfl:∀ m∈l,m.more.length≤1048576) :
  CallsM Tryz.prog F.zkR [.int .i64 gaps,.slice a n c] M fun v M'=>∃ k,zn1 gaps (l.map MkC.mk') k ∧
   ((k≠0∧v = .tuple #[.pointer none,.int .i64 k]∧M.le M')∨(k=0∧∃ p b es,v = .tuple #[ptr p,.int .i64 0]∧FreshS M M' p b gaps es∧es.map zbe=l.map MkC.mk')):=by
 refine zvA (by simp) ?_;have hl:=ha.len
 (conv=>whnf);refine(zAC gaps).mono ?_;rintro v M1 (⟨hg,rfl,rfl⟩|⟨hg,p,b,rfl,hp,hb,hle1,hS1⟩)
 ·refine zR ?_;exact⟨1,.inl ⟨hg,rfl⟩,.inl ⟨by decide,rfl,Mem.le_refl _⟩⟩
 have hfr0:∀ y,setB p b [] y→M y=none:=fun y hy=>by
  rcases hy with rfl|rfl|⟨q,hq,_⟩
  ·exact hp
  ·exact hb
  ·cases hq
 refine zR ?_
 refine za6 (σ:=Nat×Mem×EsT) [20] (fun y=>[(20,.int .i64 y.1)]) (fun _=>[]) (fun y=>y.2.1)
  (fun|⟨i,Mc,es⟩=>i≤n∧M.le Mc∧SetAt Mc p b gaps es∧(∀ y,setB p b es y→M y=none)∧es.map zbe=(l.map MkC.mk').take i∧FormP ((l.map MkC.mk').take i)) (fun y=>n - y.1) ⟨0,M1,[]⟩
  ⟨by omega,hle1,hS1,hfr0,by simp,⟨by simp,by simp⟩⟩ zS ?_
 rintro ⟨i,Mc,es⟩ ⟨hi,hle,hS,hfr,hes,hF⟩;(conv=>whnf);refine brn (fun g2=>?_) (fun g2=>?_)
 ·have hlt:i<n:=by have:=Zd0 g2;dsimp only at this;omega
  have hx:l[i]? = some (l[i]'(by omega)):=List.getElem?_eq_getElem (by omega);generalize l[i]'(by omega)=x at *;obtain⟨b1,o1,hra,hrow⟩:=(ha.row.le hle).fall zaS (by decide) hx;have hxm:=(ha.more x (List.mem_of_getElem? hx)).le hle
  have hfx:=fl x (List.mem_of_getElem? hx);have hxk:(l.map MkC.mk')[i]? = some x.mk':=by rw[List.getElem?_map,hx];rfl
  have hxm':x.mk'∈l.map MkC.mk':=List.mem_of_getElem? hxk;have htk:(l.map MkC.mk').take (i+1)=(l.map MkC.mk').take i++[x.mk']:=by rw[List.take_add_one,hxk];rfl
  obtain⟨b2,o2,hab,hcc⟩:=(ha.row.le hle).fcells zaS (by decide) hx;have bad:∀ {k:Int},¬FormP (l.map MkC.mk')→k=2→zn1 gaps (l.map MkC.mk') k:=fun h e => .inr (.inl ⟨hg,h,e⟩)
  (conv=>whnf);refine ob (by first|omega|(dsimp only;omega)) ?_;(conv=>whnf);refine atp hra ?_;(conv=>whnf);refine on hrow ?_;refine zR ?_;refine(zBX hxm hfx).mono ?_;rintro v _ ⟨r,rfl,hr,rfl⟩;refine zU ?_;refine brn (fun g3=>?_) (fun g3=>?_)
  ·have nb:zn1 gaps (l.map MkC.mk') 2:=bad (fun h=>by
    rw[hr.2 (h.1 _ hxm')] at g3
    cases g3) rfl
   repeat' ((conv=>whnf);first|refine⟨?_,True.intro⟩|refine⟨?_,?_,True.intro⟩|refine brn_t rfl ?_|refine brn_f rfl ?_|refine ob rfl ?_|refine ob (by decide) ?_|refine grow_same (Mem.le_refl _) ?_|refine ob (Mem.le_refl _) ?_|refine⟨_,Mem.le_refl _,?_⟩|fail)
   all_goals exact⟨2,nb,.inl ⟨by decide,rfl,hle⟩⟩
  have hR:zj0 x.mk':=hr.1 (by cases r<;>simp_all);(conv=>whnf);refine brn (fun g4=>?_) (fun g4=>?_)
  ·replace g4:=Zd0 g4;obtain⟨j,hij⟩:∃ j,i=j+1:=⟨i - 1,by dsimp only at g4;omega⟩
   have hy:l[j]? = some (l[j]'(by omega)):=List.getElem?_eq_getElem (by omega);generalize l[j]'(by omega)=y at *;obtain⟨b3,o3,hab3,hcc3⟩:=(ha.row.le hle).fcells zaS (by decide) hy;have hyk:(l.map MkC.mk')[j]? = some y.mk':=by rw[List.getElem?_map,hy];rfl
   have hgl:((l.map MkC.mk').take i).getLast? = some y.mk':=by rw[hij,List.take_add_one,hyk];simp
   (conv=>whnf);refine ob (zd (by first|omega|(dsimp only;omega))) ?_;(conv=>whnf)
   erw [show ((i:Nat):Int) - 1=(j:Nat) from by omega];(conv=>whnf);refine ob (by first|omega|(dsimp only;omega)) ?_;(conv=>whnf);refine atp hab3 ?_;(conv=>whnf);refine on (hcc3 0 _ rfl) ?_;(conv=>whnf);refine ob (zd (by first|omega|(dsimp only;omega))) ?_;(conv=>whnf)
   erw [show ((i:Nat):Int) - 1=(j:Nat) from by omega];(conv=>whnf);refine ob (by first|omega|(dsimp only;omega)) ?_;(conv=>whnf);refine atp hab3 ?_;(conv=>whnf);refine on (hcc3 1 _ rfl) ?_;(conv=>whnf)
   refine⟨?_,?_,True.intro⟩
   ·refine zR ?_;refine new (fun b4 hb4=>?_);replace hb4:Mc b4=none:=hb4;refine zR ?_;refine new (fun b5 hb5=>?_);replace hb5:(Mc.setCells b4 T.zr [.int .i64 y.o,.int .i64 y.e]) b5=none:=hb5;have hle6:=Mem.le_trans (Mem.le_setCells hb4 (E:=T.zr) (l:=[.int .i64 y.o,.int .i64 y.e])) (Mem.le_setCells hb5 (E:=T.zr) (l:=[.int .i64 x.o,.int .i64 x.e]))
    have hY6:=((Mem.has_setCells (M:=Mc) (b:=b4) (E:=T.zr) (l:=[.int .i64 y.o,.int .i64 y.e])).src (size:=1) (n:=2) rfl).le (Mem.le_setCells hb5 (E:=T.zr) (l:=[.int .i64 x.o,.int .i64 x.e]));have hX6:=(Mem.has_setCells (M:=Mc.setCells b4 T.zr [.int .i64 y.o,.int .i64 y.e]) (b:=b5) (E:=T.zr) (l:=[.int .i64 x.o,.int .i64 x.e])).src (size:=1) (n:=2) rfl
    obtain⟨M6,hM6⟩:∃ M6,M6=(Mc.setCells b4 T.zr [.int .i64 y.o,.int .i64 y.e]).setCells b5 T.zr [.int .i64 x.o,.int .i64 x.e]:=⟨_,rfl⟩
    rw[←hM6] at hle6 hY6 hX6;refine zR ?_;erw [←hM6];refine(zmj (X:=[y.o,y.e]) (Y:=[x.o,x.e]) hY6 hX6 (by omega) (by omega)).mono ?_;rintro v _ ⟨rfl,rfl⟩;refine zR ?_;refine brn (fun g5=>?_) (fun g5=>?_)
    ·replace g5:=Zd0 g5
     have nb:zn1 gaps (l.map MkC.mk') 2:=bad (fun h=>by
      have h1:=(zhG y x).2 (show zbJ y.mk' x.mk' from h.lt hyk (hij▸hxk));unfold zjX at h1
      omega) rfl
     refine zR ?_;exact⟨2,nb,.inl ⟨by decide,rfl,Mem.le_trans hle hle6⟩⟩
    replace g5:=Zd1 g5;have hlt5:zbJ y.mk' x.mk':=(zhG y x).1 (by unfold zjX;omega)
    have hlast:∀ z,((l.map MkC.mk').take i).getLast? = some z→zbJ z x.mk':=fun z hz=>by
     rw[hgl] at hz;cases hz;exact hlt5
    have hS6:=hS.le hle6;have hF':FormP ((l.map MkC.mk').take (i+1)):=by rw[htk];exact hF.snoc hR hlast
    have hnk:zD es (x.o,x.e)=none:=by
     rw[aget_none];intro hin;obtain⟨q,hq,e⟩:=List.mem_map.1 hin;have hz:zbe q∈(l.map MkC.mk').take i:=hes▸List.mem_map.2 ⟨q,hq,rfl⟩
     have hp:=hF'.2;rw[htk,List.pairwise_append] at hp;have h1:=hp.2.2 _ hz x.mk' (by simp)
     have e1:q.1.1=x.o:=congrArg (·.1) e;have e2:q.1.2=x.e:=congrArg (·.2) e
     rcases h1 with h1|⟨-, h1⟩
     ·exact absurd (show q.1.1<x.o from h1) (by omega)
     ·exact absurd (show q.1.2<x.e from h1) (by omega)
    have hb6:∀ y,M6 y=none→M y=none:=fun y hy=>by
     cases e:M y with
     | none=>rfl
     | some z=>rw[hle6 _ _ (hle _ _ e)] at hy;cases hy
    refine zR ?_;refine on (hS6.self.c1 rfl) ?_;refine zR ?_;refine new (fun b7 hb7=>?_);replace hb7:M6 b7=none:=hb7;have hN7:NewSl M6 T.zr 1 (some ⟨b7,0,none⟩) 0 0 (([]:List Int).map zaa) _:=NewSl.lit hb7 T.zr 1 0 [] rfl
    obtain⟨M7,hM7⟩:∃ M7,M7=M6.setCells b7 T.zr []:=⟨_,rfl⟩
    rw[←hM7] at hN7;(conv=>whnf)
    erw [←hM7];refine zT (hN7.le) ?_;(conv=>whnf)
    refine zdR ((hxm.le hle6).le hN7.le) ?_;(conv=>whnf);refine zuK M6 _ hN7 (by first|omega|(dsimp only;omega)) (by simp[maxLen];omega) (by simp[Value.oneCell']) fun a8 c8 M8 hcap hN8=>?_
    refine zT (hN8.le) ?_;(conv=>whnf)
    refine new (fun r9 hr9=>?_);replace hr9:M8 r9=none:=hr9;have hle9:M8.le (M8.setCells r9 T.zab [.int .i64 x.up,.slice a8 x.more.length c8]):=Mem.le_setCells hr9
    have hself9:(M8.setCells r9 T.zab [.int .i64 x.up,.slice a8 x.more.length c8]).has r9 T.zab [.int .i64 x.up,.slice a8 x.more.length c8]:=Mem.has_setCells;obtain⟨M9,hM9⟩:∃ M9,M9=M8.setCells r9 T.zab [.int .i64 x.up,.slice a8 x.more.length c8]:=⟨_,rfl⟩
    rw[←hM9] at hle9 hself9;rw[←Nat.zero_add x.more.length] at hM9;(conv=>whnf)
    erw [←hM9];have hle69:M6.le M9:=Mem.le_trans hN8.le hle9
    have hm9:MapAt keyV zfE M9 b es:=hS6.map.mono fun o ho=>hle69 _ _ ho
    refine zR ?_;refine hm9.put zsU (x.o,x.e) ⟨r9,a8,c8,x.up,x.more⟩ fun q2 f2 hm10=>?_
    replace hm10:=hm10 M9;obtain⟨M10,hM10⟩:∃ M10,M10=M9.upd b (ze0 q2 f2 (keyV (x.o,x.e)) (zfE ⟨r9,a8,c8,x.up,x.more⟩)):=⟨_,rfl⟩
    have hk10:Mem.keep (fun y=>y=b) M9 M10:=hM10▸Mem.keep_upd _ _ rfl;rw[←hM10] at hm10;(conv=>whnf)
    erw [←hM10];refine zR ?_
    have hown:∀ y,Ent.own ⟨r9,a8,c8,x.up,x.more⟩ y→M6 y=none:=fun y hy=>by
     rcases hy with rfl|⟨q,hq,rfl⟩
     ·cases e:M6 y with
      | none=>rfl
      | some z=>rw[hN8.le _ _ e] at hr9;cases hr9
     ·exact(hN8.block hq).1
    have hrow8:RowI M8 a8 c8 x.more:=by
     have h5:=newSl_iff.1 hN8;obtain⟨-, h6,h7,h8⟩:=h5;rw[Nat.zero_add] at h7 h8 h6;refine⟨⟨h7,by rcases hcap with e|e<;>omega⟩,?_⟩;rcases h8 with ⟨e1,e2⟩|⟨bb,cs,e1, -, e3,e4,e5⟩
     ·exact .inl ⟨e1,e2⟩
     ·refine .inr ⟨bb,0,cs,e1,e3,by omega,?_⟩;simpa using e5
    have hE9:EntAt M9 ⟨r9,a8,c8,x.up,x.more⟩:=⟨hself9,hrow8.mono fun q o hq ho=>hle9 _ _ ho⟩
    have hE10:EntAt M10 ⟨r9,a8,c8,x.up,x.more⟩:=hE9.mono fun y o hy ho=>hk10 _ _ (fun e=>by
     subst e;have h1:=hown _ hy
     obtain⟨l1,cc,hh,_⟩:=hS6.map
     rw[hh] at h1;cases h1) ho
    have hk610:Mem.keep (fun y=>y=b) M6 M10:=fun y o hy ho=>hk10 _ _ hy (hle69 _ _ ho)
    have hS10:=hS6.more hnk hk610 hm10 hE10 hown;have hpa:zQ es (x.o,x.e) ⟨r9,a8,c8,x.up,x.more⟩=es++[((x.o,x.e),⟨r9,a8,c8,x.up,x.more⟩)]:=by simp[zQ,hnk]
    (conv=>whnf);refine ob (zd (by first|omega|(dsimp only;omega))) ?_;(conv=>whnf)
    refine⟨⟨i+1,M10,_⟩,⟨by omega,fun y o hy=>hk10 _ _ (fun e=>?_) (hle69 _ _ (hle6 _ _ (hle _ _ hy))),hS10,fun y hy=>?_,?_,hF'⟩,by dsimp only;omega,zS⟩
    ·have:=hfr b (.inr (.inl rfl));rw[←e,hy] at this;cases this
    ·rw[hpa] at hy;rcases hy with rfl|rfl|⟨q,hq,hy⟩
     ·exact hfr _ (.inl rfl)
     ·exact hfr _ (.inr (.inl rfl))
     ·rcases List.mem_append.1 hq with h1|h1
      ·exact hfr _ (.inr (.inr ⟨q,h1,hy⟩))
      ·simp only[List.mem_singleton] at h1;subst h1;exact hb6 _ (hown _ hy)
    ·rw[hpa,List.map_append,hes,htk];rfl
   ·refine zR ?_;refine new (fun b4 hb4=>?_);replace hb4:Mc b4=none:=hb4;refine zR ?_;refine new (fun b5 hb5=>?_);replace hb5:(Mc.setCells b4 T.zr [.int .i64 x.o,.int .i64 x.e]) b5=none:=hb5;have hle6:=Mem.le_trans (Mem.le_setCells hb4 (E:=T.zr) (l:=[.int .i64 x.o,.int .i64 x.e])) (Mem.le_setCells hb5 (E:=T.zr) (l:=[.int .i64 y.o,.int .i64 y.e]))
    have hX6:=((Mem.has_setCells (M:=Mc) (b:=b4) (E:=T.zr) (l:=[.int .i64 x.o,.int .i64 x.e])).src (size:=1) (n:=2) rfl).le (Mem.le_setCells hb5 (E:=T.zr) (l:=[.int .i64 y.o,.int .i64 y.e]));have hY6:=(Mem.has_setCells (M:=Mc.setCells b4 T.zr [.int .i64 x.o,.int .i64 x.e]) (b:=b5) (E:=T.zr) (l:=[.int .i64 y.o,.int .i64 y.e])).src (size:=1) (n:=2) rfl
    obtain⟨M6,hM6⟩:∃ M6,M6=(Mc.setCells b4 T.zr [.int .i64 x.o,.int .i64 x.e]).setCells b5 T.zr [.int .i64 y.o,.int .i64 y.e]:=⟨_,rfl⟩
    rw[←hM6] at hle6 hY6 hX6;refine zR ?_;erw [←hM6];refine(zmj (X:=[y.o,y.e]) (Y:=[x.o,x.e]) hY6 hX6 (by omega) (by omega)).mono ?_;rintro v _ ⟨rfl,rfl⟩;refine zR ?_;refine brn (fun g5=>?_) (fun g5=>?_)
    ·replace g5:=Zd0 g5
     have nb:zn1 gaps (l.map MkC.mk') 2:=bad (fun h=>by
      have h1:=(zhG y x).2 (show zbJ y.mk' x.mk' from h.lt hyk (hij▸hxk));unfold zjX at h1
      omega) rfl
     refine zR ?_;exact⟨2,nb,.inl ⟨by decide,rfl,Mem.le_trans hle hle6⟩⟩
    replace g5:=Zd1 g5;have hlt5:zbJ y.mk' x.mk':=(zhG y x).1 (by unfold zjX;omega)
    have hlast:∀ z,((l.map MkC.mk').take i).getLast? = some z→zbJ z x.mk':=fun z hz=>by
     rw[hgl] at hz;cases hz;exact hlt5
    have hS6:=hS.le hle6;have hF':FormP ((l.map MkC.mk').take (i+1)):=by rw[htk];exact hF.snoc hR hlast
    have hnk:zD es (x.o,x.e)=none:=by
     rw[aget_none];intro hin;obtain⟨q,hq,e⟩:=List.mem_map.1 hin;have hz:zbe q∈(l.map MkC.mk').take i:=hes▸List.mem_map.2 ⟨q,hq,rfl⟩
     have hp:=hF'.2;rw[htk,List.pairwise_append] at hp;have h1:=hp.2.2 _ hz x.mk' (by simp)
     have e1:q.1.1=x.o:=congrArg (·.1) e;have e2:q.1.2=x.e:=congrArg (·.2) e
     rcases h1 with h1|⟨-, h1⟩
     ·exact absurd (show q.1.1<x.o from h1) (by omega)
     ·exact absurd (show q.1.2<x.e from h1) (by omega)
    have hb6:∀ y,M6 y=none→M y=none:=fun y hy=>by
     cases e:M y with
     | none=>rfl
     | some z=>rw[hle6 _ _ (hle _ _ e)] at hy;cases hy
    refine zR ?_;refine on (hS6.self.c1 rfl) ?_;refine zR ?_;refine new (fun b7 hb7=>?_);replace hb7:M6 b7=none:=hb7;have hN7:NewSl M6 T.zr 1 (some ⟨b7,0,none⟩) 0 0 (([]:List Int).map zaa) _:=NewSl.lit hb7 T.zr 1 0 [] rfl
    obtain⟨M7,hM7⟩:∃ M7,M7=M6.setCells b7 T.zr []:=⟨_,rfl⟩
    rw[←hM7] at hN7;(conv=>whnf)
    erw [←hM7];refine zT (hN7.le) ?_;(conv=>whnf)
    refine zdR ((hxm.le hle6).le hN7.le) ?_;(conv=>whnf);refine zuK M6 _ hN7 (by first|omega|(dsimp only;omega)) (by simp[maxLen];omega) (by simp[Value.oneCell']) fun a8 c8 M8 hcap hN8=>?_
    refine zT (hN8.le) ?_;(conv=>whnf)
    refine new (fun r9 hr9=>?_);replace hr9:M8 r9=none:=hr9;have hle9:M8.le (M8.setCells r9 T.zab [.int .i64 x.up,.slice a8 x.more.length c8]):=Mem.le_setCells hr9
    have hself9:(M8.setCells r9 T.zab [.int .i64 x.up,.slice a8 x.more.length c8]).has r9 T.zab [.int .i64 x.up,.slice a8 x.more.length c8]:=Mem.has_setCells;obtain⟨M9,hM9⟩:∃ M9,M9=M8.setCells r9 T.zab [.int .i64 x.up,.slice a8 x.more.length c8]:=⟨_,rfl⟩
    rw[←hM9] at hle9 hself9;rw[←Nat.zero_add x.more.length] at hM9;(conv=>whnf)
    erw [←hM9];have hle69:M6.le M9:=Mem.le_trans hN8.le hle9
    have hm9:MapAt keyV zfE M9 b es:=hS6.map.mono fun o ho=>hle69 _ _ ho
    refine zR ?_;refine hm9.put zsU (x.o,x.e) ⟨r9,a8,c8,x.up,x.more⟩ fun q2 f2 hm10=>?_
    replace hm10:=hm10 M9;obtain⟨M10,hM10⟩:∃ M10,M10=M9.upd b (ze0 q2 f2 (keyV (x.o,x.e)) (zfE ⟨r9,a8,c8,x.up,x.more⟩)):=⟨_,rfl⟩
    have hk10:Mem.keep (fun y=>y=b) M9 M10:=hM10▸Mem.keep_upd _ _ rfl;rw[←hM10] at hm10;(conv=>whnf)
    erw [←hM10];refine zR ?_
    have hown:∀ y,Ent.own ⟨r9,a8,c8,x.up,x.more⟩ y→M6 y=none:=fun y hy=>by
     rcases hy with rfl|⟨q,hq,rfl⟩
     ·cases e:M6 y with
      | none=>rfl
      | some z=>rw[hN8.le _ _ e] at hr9;cases hr9
     ·exact(hN8.block hq).1
    have hrow8:RowI M8 a8 c8 x.more:=by
     have h5:=newSl_iff.1 hN8;obtain⟨-, h6,h7,h8⟩:=h5;rw[Nat.zero_add] at h7 h8 h6;refine⟨⟨h7,by rcases hcap with e|e<;>omega⟩,?_⟩;rcases h8 with ⟨e1,e2⟩|⟨bb,cs,e1, -, e3,e4,e5⟩
     ·exact .inl ⟨e1,e2⟩
     ·refine .inr ⟨bb,0,cs,e1,e3,by omega,?_⟩;simpa using e5
    have hE9:EntAt M9 ⟨r9,a8,c8,x.up,x.more⟩:=⟨hself9,hrow8.mono fun q o hq ho=>hle9 _ _ ho⟩
    have hE10:EntAt M10 ⟨r9,a8,c8,x.up,x.more⟩:=hE9.mono fun y o hy ho=>hk10 _ _ (fun e=>by
     subst e;have h1:=hown _ hy
     obtain⟨l1,cc,hh,_⟩:=hS6.map
     rw[hh] at h1;cases h1) ho
    have hk610:Mem.keep (fun y=>y=b) M6 M10:=fun y o hy ho=>hk10 _ _ hy (hle69 _ _ ho)
    have hS10:=hS6.more hnk hk610 hm10 hE10 hown;have hpa:zQ es (x.o,x.e) ⟨r9,a8,c8,x.up,x.more⟩=es++[((x.o,x.e),⟨r9,a8,c8,x.up,x.more⟩)]:=by simp[zQ,hnk]
    (conv=>whnf);refine ob (zd (by first|omega|(dsimp only;omega))) ?_;(conv=>whnf)
    refine⟨⟨i+1,M10,_⟩,⟨by omega,fun y o hy=>hk10 _ _ (fun e=>?_) (hle69 _ _ (hle6 _ _ (hle _ _ hy))),hS10,fun y hy=>?_,?_,hF'⟩,by dsimp only;omega,zS⟩
    ·have:=hfr b (.inr (.inl rfl));rw[←e,hy] at this;cases this
    ·rw[hpa] at hy;rcases hy with rfl|rfl|⟨q,hq,hy⟩
     ·exact hfr _ (.inl rfl)
     ·exact hfr _ (.inr (.inl rfl))
     ·rcases List.mem_append.1 hq with h1|h1
      ·exact hfr _ (.inr (.inr ⟨q,h1,hy⟩))
      ·simp only[List.mem_singleton] at h1;subst h1;exact hb6 _ (hown _ hy)
    ·rw[hpa,List.map_append,hes,htk];rfl
  ·replace g4:=Zd1 g4;dsimp only at g4;have hi0:i=0:=by omega
   have hlast:∀ z,((l.map MkC.mk').take i).getLast? = some z→zbJ z x.mk':=fun z hz=>by
    rw[hi0] at hz;simp at hz
   obtain⟨M6,hM6⟩:∃ M6,M6=Mc:=⟨_,rfl⟩
   have hle6:Mc.le M6:=by rw[hM6];exact Mem.le_refl _
   (conv=>whnf);refine⟨?_,?_,True.intro⟩
   ·refine zR ?_;erw [←hM6];have hS6:=hS.le hle6
    have hF':FormP ((l.map MkC.mk').take (i+1)):=by rw[htk];exact hF.snoc hR hlast
    have hnk:zD es (x.o,x.e)=none:=by
     rw[aget_none];intro hin;obtain⟨q,hq,e⟩:=List.mem_map.1 hin;have hz:zbe q∈(l.map MkC.mk').take i:=hes▸List.mem_map.2 ⟨q,hq,rfl⟩
     have hp:=hF'.2;rw[htk,List.pairwise_append] at hp;have h1:=hp.2.2 _ hz x.mk' (by simp)
     have e1:q.1.1=x.o:=congrArg (·.1) e;have e2:q.1.2=x.e:=congrArg (·.2) e
     rcases h1 with h1|⟨-, h1⟩
     ·exact absurd (show q.1.1<x.o from h1) (by omega)
     ·exact absurd (show q.1.2<x.e from h1) (by omega)
    have hb6:∀ y,M6 y=none→M y=none:=fun y hy=>by
     cases e:M y with
     | none=>rfl
     | some z=>rw[hle6 _ _ (hle _ _ e)] at hy;cases hy
    refine zR ?_;refine on (hS6.self.c1 rfl) ?_;refine zR ?_;refine new (fun b7 hb7=>?_);replace hb7:M6 b7=none:=hb7;have hN7:NewSl M6 T.zr 1 (some ⟨b7,0,none⟩) 0 0 (([]:List Int).map zaa) _:=NewSl.lit hb7 T.zr 1 0 [] rfl
    obtain⟨M7,hM7⟩:∃ M7,M7=M6.setCells b7 T.zr []:=⟨_,rfl⟩
    rw[←hM7] at hN7;(conv=>whnf)
    erw [←hM7];refine zT (hN7.le) ?_;(conv=>whnf)
    refine zdR ((hxm.le hle6).le hN7.le) ?_;(conv=>whnf);refine zuK M6 _ hN7 (by first|omega|(dsimp only;omega)) (by simp[maxLen];omega) (by simp[Value.oneCell']) fun a8 c8 M8 hcap hN8=>?_
    refine zT (hN8.le) ?_;(conv=>whnf)
    refine new (fun r9 hr9=>?_);replace hr9:M8 r9=none:=hr9;have hle9:M8.le (M8.setCells r9 T.zab [.int .i64 x.up,.slice a8 x.more.length c8]):=Mem.le_setCells hr9
    have hself9:(M8.setCells r9 T.zab [.int .i64 x.up,.slice a8 x.more.length c8]).has r9 T.zab [.int .i64 x.up,.slice a8 x.more.length c8]:=Mem.has_setCells;obtain⟨M9,hM9⟩:∃ M9,M9=M8.setCells r9 T.zab [.int .i64 x.up,.slice a8 x.more.length c8]:=⟨_,rfl⟩
    rw[←hM9] at hle9 hself9;rw[←Nat.zero_add x.more.length] at hM9;(conv=>whnf)
    erw [←hM9];have hle69:M6.le M9:=Mem.le_trans hN8.le hle9
    have hm9:MapAt keyV zfE M9 b es:=hS6.map.mono fun o ho=>hle69 _ _ ho
    refine zR ?_;refine hm9.put zsU (x.o,x.e) ⟨r9,a8,c8,x.up,x.more⟩ fun q2 f2 hm10=>?_
    replace hm10:=hm10 M9;obtain⟨M10,hM10⟩:∃ M10,M10=M9.upd b (ze0 q2 f2 (keyV (x.o,x.e)) (zfE ⟨r9,a8,c8,x.up,x.more⟩)):=⟨_,rfl⟩
    have hk10:Mem.keep (fun y=>y=b) M9 M10:=hM10▸Mem.keep_upd _ _ rfl;rw[←hM10] at hm10;(conv=>whnf)
    erw [←hM10];refine zR ?_
    have hown:∀ y,Ent.own ⟨r9,a8,c8,x.up,x.more⟩ y→M6 y=none:=fun y hy=>by
     rcases hy with rfl|⟨q,hq,rfl⟩
     ·cases e:M6 y with
      | none=>rfl
      | some z=>rw[hN8.le _ _ e] at hr9;cases hr9
     ·exact(hN8.block hq).1
    have hrow8:RowI M8 a8 c8 x.more:=by
     have h5:=newSl_iff.1 hN8;obtain⟨-, h6,h7,h8⟩:=h5;rw[Nat.zero_add] at h7 h8 h6;refine⟨⟨h7,by rcases hcap with e|e<;>omega⟩,?_⟩;rcases h8 with ⟨e1,e2⟩|⟨bb,cs,e1, -, e3,e4,e5⟩
     ·exact .inl ⟨e1,e2⟩
     ·refine .inr ⟨bb,0,cs,e1,e3,by omega,?_⟩;simpa using e5
    have hE9:EntAt M9 ⟨r9,a8,c8,x.up,x.more⟩:=⟨hself9,hrow8.mono fun q o hq ho=>hle9 _ _ ho⟩
    have hE10:EntAt M10 ⟨r9,a8,c8,x.up,x.more⟩:=hE9.mono fun y o hy ho=>hk10 _ _ (fun e=>by
     subst e;have h1:=hown _ hy
     obtain⟨l1,cc,hh,_⟩:=hS6.map
     rw[hh] at h1;cases h1) ho
    have hk610:Mem.keep (fun y=>y=b) M6 M10:=fun y o hy ho=>hk10 _ _ hy (hle69 _ _ ho)
    have hS10:=hS6.more hnk hk610 hm10 hE10 hown;have hpa:zQ es (x.o,x.e) ⟨r9,a8,c8,x.up,x.more⟩=es++[((x.o,x.e),⟨r9,a8,c8,x.up,x.more⟩)]:=by simp[zQ,hnk]
    (conv=>whnf);refine ob (zd (by first|omega|(dsimp only;omega))) ?_;(conv=>whnf)
    refine⟨⟨i+1,M10,_⟩,⟨by omega,fun y o hy=>hk10 _ _ (fun e=>?_) (hle69 _ _ (hle6 _ _ (hle _ _ hy))),hS10,fun y hy=>?_,?_,hF'⟩,by dsimp only;omega,zS⟩
    ·have:=hfr b (.inr (.inl rfl));rw[←e,hy] at this;cases this
    ·rw[hpa] at hy;rcases hy with rfl|rfl|⟨q,hq,hy⟩
     ·exact hfr _ (.inl rfl)
     ·exact hfr _ (.inr (.inl rfl))
     ·rcases List.mem_append.1 hq with h1|h1
      ·exact hfr _ (.inr (.inr ⟨q,h1,hy⟩))
      ·simp only[List.mem_singleton] at h1;subst h1;exact hb6 _ (hown _ hy)
    ·rw[hpa,List.map_append,hes,htk];rfl
   ·refine zR ?_;erw [←hM6];have hS6:=hS.le hle6
    have hF':FormP ((l.map MkC.mk').take (i+1)):=by rw[htk];exact hF.snoc hR hlast
    have hnk:zD es (x.o,x.e)=none:=by
     rw[aget_none];intro hin;obtain⟨q,hq,e⟩:=List.mem_map.1 hin;have hz:zbe q∈(l.map MkC.mk').take i:=hes▸List.mem_map.2 ⟨q,hq,rfl⟩
     have hp:=hF'.2;rw[htk,List.pairwise_append] at hp;have h1:=hp.2.2 _ hz x.mk' (by simp)
     have e1:q.1.1=x.o:=congrArg (·.1) e;have e2:q.1.2=x.e:=congrArg (·.2) e
     rcases h1 with h1|⟨-, h1⟩
     ·exact absurd (show q.1.1<x.o from h1) (by omega)
     ·exact absurd (show q.1.2<x.e from h1) (by omega)
    have hb6:∀ y,M6 y=none→M y=none:=fun y hy=>by
     cases e:M y with
     | none=>rfl
     | some z=>rw[hle6 _ _ (hle _ _ e)] at hy;cases hy
    refine zR ?_;refine on (hS6.self.c1 rfl) ?_;refine zR ?_;refine new (fun b7 hb7=>?_);replace hb7:M6 b7=none:=hb7;have hN7:NewSl M6 T.zr 1 (some ⟨b7,0,none⟩) 0 0 (([]:List Int).map zaa) _:=NewSl.lit hb7 T.zr 1 0 [] rfl
    obtain⟨M7,hM7⟩:∃ M7,M7=M6.setCells b7 T.zr []:=⟨_,rfl⟩
    rw[←hM7] at hN7;(conv=>whnf)
    erw [←hM7];refine zT (hN7.le) ?_;(conv=>whnf)
    refine zdR ((hxm.le hle6).le hN7.le) ?_;(conv=>whnf);refine zuK M6 _ hN7 (by first|omega|(dsimp only;omega)) (by simp[maxLen];omega) (by simp[Value.oneCell']) fun a8 c8 M8 hcap hN8=>?_
    refine zT (hN8.le) ?_;(conv=>whnf)
    refine new (fun r9 hr9=>?_);replace hr9:M8 r9=none:=hr9;have hle9:M8.le (M8.setCells r9 T.zab [.int .i64 x.up,.slice a8 x.more.length c8]):=Mem.le_setCells hr9
    have hself9:(M8.setCells r9 T.zab [.int .i64 x.up,.slice a8 x.more.length c8]).has r9 T.zab [.int .i64 x.up,.slice a8 x.more.length c8]:=Mem.has_setCells;obtain⟨M9,hM9⟩:∃ M9,M9=M8.setCells r9 T.zab [.int .i64 x.up,.slice a8 x.more.length c8]:=⟨_,rfl⟩
    rw[←hM9] at hle9 hself9;rw[←Nat.zero_add x.more.length] at hM9;(conv=>whnf)
    erw [←hM9];have hle69:M6.le M9:=Mem.le_trans hN8.le hle9
    have hm9:MapAt keyV zfE M9 b es:=hS6.map.mono fun o ho=>hle69 _ _ ho
    refine zR ?_;refine hm9.put zsU (x.o,x.e) ⟨r9,a8,c8,x.up,x.more⟩ fun q2 f2 hm10=>?_
    replace hm10:=hm10 M9;obtain⟨M10,hM10⟩:∃ M10,M10=M9.upd b (ze0 q2 f2 (keyV (x.o,x.e)) (zfE ⟨r9,a8,c8,x.up,x.more⟩)):=⟨_,rfl⟩
    have hk10:Mem.keep (fun y=>y=b) M9 M10:=hM10▸Mem.keep_upd _ _ rfl;rw[←hM10] at hm10;(conv=>whnf)
    erw [←hM10];refine zR ?_
    have hown:∀ y,Ent.own ⟨r9,a8,c8,x.up,x.more⟩ y→M6 y=none:=fun y hy=>by
     rcases hy with rfl|⟨q,hq,rfl⟩
     ·cases e:M6 y with
      | none=>rfl
      | some z=>rw[hN8.le _ _ e] at hr9;cases hr9
     ·exact(hN8.block hq).1
    have hrow8:RowI M8 a8 c8 x.more:=by
     have h5:=newSl_iff.1 hN8;obtain⟨-, h6,h7,h8⟩:=h5;rw[Nat.zero_add] at h7 h8 h6;refine⟨⟨h7,by rcases hcap with e|e<;>omega⟩,?_⟩;rcases h8 with ⟨e1,e2⟩|⟨bb,cs,e1, -, e3,e4,e5⟩
     ·exact .inl ⟨e1,e2⟩
     ·refine .inr ⟨bb,0,cs,e1,e3,by omega,?_⟩;simpa using e5
    have hE9:EntAt M9 ⟨r9,a8,c8,x.up,x.more⟩:=⟨hself9,hrow8.mono fun q o hq ho=>hle9 _ _ ho⟩
    have hE10:EntAt M10 ⟨r9,a8,c8,x.up,x.more⟩:=hE9.mono fun y o hy ho=>hk10 _ _ (fun e=>by
     subst e;have h1:=hown _ hy
     obtain⟨l1,cc,hh,_⟩:=hS6.map
     rw[hh] at h1;cases h1) ho
    have hk610:Mem.keep (fun y=>y=b) M6 M10:=fun y o hy ho=>hk10 _ _ hy (hle69 _ _ ho)
    have hS10:=hS6.more hnk hk610 hm10 hE10 hown;have hpa:zQ es (x.o,x.e) ⟨r9,a8,c8,x.up,x.more⟩=es++[((x.o,x.e),⟨r9,a8,c8,x.up,x.more⟩)]:=by simp[zQ,hnk]
    (conv=>whnf);refine ob (zd (by first|omega|(dsimp only;omega))) ?_;(conv=>whnf)
    refine⟨⟨i+1,M10,_⟩,⟨by omega,fun y o hy=>hk10 _ _ (fun e=>?_) (hle69 _ _ (hle6 _ _ (hle _ _ hy))),hS10,fun y hy=>?_,?_,hF'⟩,by dsimp only;omega,zS⟩
    ·have:=hfr b (.inr (.inl rfl));rw[←e,hy] at this;cases this
    ·rw[hpa] at hy;rcases hy with rfl|rfl|⟨q,hq,hy⟩
     ·exact hfr _ (.inl rfl)
     ·exact hfr _ (.inr (.inl rfl))
     ·rcases List.mem_append.1 hq with h1|h1
      ·exact hfr _ (.inr (.inr ⟨q,h1,hy⟩))
      ·simp only[List.mem_singleton] at h1;subst h1;exact hb6 _ (hown _ hy)
    ·rw[hpa,List.map_append,hes,htk];rfl
 have hge:i=n:=by have:=Zd1 g2;dsimp only at this;omega
 subst hge;rw[List.take_of_length_le (by simp;omega)] at hF hes;have hI:=InvE.of (es:=es) (hes▸hF)
 have hge:zaI es=zcE (l.map MkC.mk'):=by rw[←hes,zcE,List.map_map];rfl
 refine zR ?_
 have hsl:∀ L:List MkC,(∀ m∈L,m.more.length≤1048576)→zcE (L.map MkC.mk')≤L.length*1048576:=fun L=>by
  induction L with
  | nil=>intro _;simp[zcE]
  | cons m r ih=>
   intro h;have h1:=ih fun z hz=>h z (by simp[hz])
   have h2:=h m (by simp);simp only[zcE,List.map_cons,List.sum_cons,List.length_cons,MkC.mk'] at h1 ⊢;omega
 have hs2:=hsl l hfl;refine(zx4 hS (by omega)).mono ?_;rintro v M2 ⟨rfl,hle2⟩;rw[hge];(conv=>whnf)
 refine brn (fun g3=>?_) (fun g3=>?_)
 ·replace g3:=Zd0 g3;refine zR ?_;exact⟨6,.inr (.inr (.inl ⟨hg,hF,g3,rfl⟩)),.inl ⟨by decide,rfl,Mem.le_trans hle hle2⟩⟩
 ·replace g3:=Zd1 g3;refine zR ?_;exact⟨0,.inr (.inr (.inr ⟨hg,hF,by omega,rfl⟩)),.inr ⟨rfl,p,b,es,rfl,⟨Mem.le_trans hle hle2,hS.le hle2,hI,⟨by omega,by omega⟩,hfr⟩,hes⟩⟩
end Go.Proofs.YtpdkkbpkplhdpaaGreat
namespace Go.Proofs.YtpdkkbpkplhdpaaGreat
open Go Go.Vm
abbrev NxT:=List (Int×Int)
structure Nx (me epoch:Int) (ul:NxT):Prop where
 each:∀ n∈ul,(0≤n.1∧n.1≤63)∧n.1≠me∧1≤n.2∧n.2≤65535
 sort:ul.Pairwise fun x y=>x.1<y.1
 some:ul≠[]→epoch≠0
def zrJ (self epoch:Int) (ul:NxT):Prop:=Nx self epoch ul∧0≤epoch∧epoch≤65535
def okM (self epoch:Int) (ul:NxT) (m:zby):Prop:=zdm m.id m.p.length=0∧m.id.d≠self∧(m.id.o=self→m.id.e<epoch∨(m.id.e=epoch∧m.id.c≤zdV ul m.id.d))
def zrK (self epoch:Int) (ul:NxT) (hs:List zby):Prop:=(∀ m∈hs,okM self epoch ul m)∧(hs.map (·.id)).Nodup
def zky (self epoch:Int) (ul:NxT) (hs:List zby) (mks:List Mk):Prop:=zrJ self epoch ul∧zrK self epoch ul hs∧(∀ m∈mks,m.o≠self)∧FormP mks
def zfa (qh qb qg:Int) (hs:List zby) (mks:List Mk):Prop:=qg<zcE mks∨qh<hs.length∨qb<zm hs
def CheckS (qh qb qg self epoch:Int) (ul:NxT) (hs:List zby) (mks:List Mk) (e:Int):Prop:=
 (zbr self qh qb qg∧e=1)∨(¬zbr self qh qb qg∧¬zky self epoch ul hs mks∧e=2)∨(¬zbr self qh qb qg∧zky self epoch ul hs mks∧zfa qh qb qg hs mks∧e=6) ∨
 (¬zbr self qh qb qg∧zky self epoch ul hs mks∧¬zfa qh qb qg hs mks∧e=0)
theorem CheckS.uniq {qh qb qg self epoch:Int} {ul:NxT} {hs:List zby} {mks:List Mk} {e e':Int} (h:CheckS qh qb qg self epoch ul hs mks e) (h':CheckS qh qb qg self epoch ul hs mks e'):e=e':=by
 rcases h with ⟨h1,h2⟩|⟨h1,h2,h3⟩|⟨h1,h2,h3,h4⟩|⟨h1,h2,h3,h4⟩<;>rcases h' with ⟨g1,g2⟩|⟨g1,g2,g3⟩|⟨g1,g2,g3,g4⟩|⟨g1,g2,g3,g4⟩<;>first|omega|exact absurd h1 g1|exact absurd g1 h1|exact absurd h2 g2|exact absurd g2 h2|exact absurd h3 g3|exact absurd g3 h3
def zaL (ul:NxT):List Int:=ul.foldl (fun u n=>u.set n.1.toNat n.2) (List.replicate 64 0)
theorem ztw (ul:NxT) (n:Int×Int):zaL (ul++[n])=(zaL ul).set n.1.toNat n.2:=by simp[zaL]
theorem ztx:∀ (ul:NxT) (u:List Int),(ul.foldl (fun u n=>u.set n.1.toNat n.2) u).length=u.length
 | [],_=>rfl
 | n::r,u=>by rw[List.foldl_cons,ztx r,List.length_set]
theorem zb8 (ul:NxT):(zaL ul).length=64:=by unfold zaL;rw[ztx];simp
theorem zrL {n:Int×Int}:∀ {l:NxT},(∀ x∈l,x.1<n.1)→zdv n false l=l++[n]
 | [],_=>rfl
 | x::r,h=>by
  have h1:=h x (by simp);rw[zdv,if_neg (by omega),if_neg (by omega),zrL fun y hy=>h y (by simp[hy])];rfl
theorem zrM {self epoch:Int} {ul:NxT} (h:Nx self epoch ul):∀ k,k≤ul.length→zG (zaL (ul.take k))=ul.take k
 | 0,_=>zmr
 | k+1,hk=>by
  have hx:ul[k]? = some ul[k]:=List.getElem?_eq_getElem (by omega);have htk:ul.take (k+1)=ul.take k++[ul[k]]:=by rw[List.take_add_one,hx];rfl
  have ih:=zrM h k (by omega);have he:=h.each ul[k] (List.getElem_mem _)
  have hlt:∀ x∈ul.take k,x.1<ul[k].1:=fun x hx=>by
   obtain⟨j,hj,rfl⟩:=List.getElem_of_mem hx;rw[List.getElem_take];simp at hj;exact List.pairwise_iff_getElem.1 h.sort j k (by omega) (by omega) (by omega)
  generalize ul[k]=n at *;rw[htk,ztw];have:=zmq (c:=n.2) (by omega) (zaL (ul.take k)) 0 n.1.toNat (by rw[zb8];omega)
  rw[Nat.zero_add] at this;show zaB 0 ((zaL (ul.take k)).set n.1.toNat n.2)=_
  rw[←this,show zaB 0 (zaL (ul.take k))=ul.take k from ih,show ((n.1.toNat:Int),n.2)=n from Prod.ext (by show (n.1.toNat:Int)=n.1;omega) rfl];exact zrL hlt
theorem zmv {self epoch:Int} {ul:NxT} (h:Nx self epoch ul):zG (zaL ul)=ul:=by
 have:=zrM h ul.length (by omega)
 rwa [List.take_of_length_le (by omega)] at this
theorem zty:∀ (ul:NxT) (u:List Int) (x:Int),x∈ul.foldl (fun u n=>u.set n.1.toNat n.2) u→x∈u∨∃ n∈ul,x=n.2
 | [],_,_,h => .inl h
 | n::r,u,x,h=>by
  rw[List.foldl_cons] at h;rcases zty r _ x h with h|⟨m,hm,e⟩
  ·rcases List.mem_or_eq_of_mem_set h with h|h
   ·exact .inl h
   ·exact .inr ⟨n,by simp,h⟩
  ·exact .inr ⟨m,by simp[hm],e⟩
theorem zqw {self epoch:Int} {ul:NxT} (h:Nx self epoch ul):∀ x∈zaL ul,0≤x∧x≤65535:=fun x hx=>by
 rcases zty ul _ x hx with h1|⟨n,hn,rfl⟩
 ·have:=List.eq_of_mem_replicate h1;omega
 ·have:=h.each n hn;omega
theorem zmw {self epoch:Int} {ul:NxT} (h:Nx self epoch ul) {d:Int} (hd:0≤d):zdV ul d=(zaL ul).getD d.toNat 0:=by
 have:=zlh (zaL ul) 0 d.toNat (fun n hn=>(zqw h n hn).1);rw[Nat.zero_add,show zaB 0 (zaL ul)=ul from zmv h,show ((d.toNat:Nat):Int)=d by omega] at this;exact this
def zcW (self epoch:Int) (u:List Int) (hs:List zby):List Int:=hs.foldl (fun u m=>if m.id.o=self∧m.id.e=epoch then u.set m.id.d.toNat (max (u.getD m.id.d.toNat 0) m.id.c) else u) u
theorem zzt (self epoch:Int) (u:List Int) (hs:List zby) (m:zby):zcW self epoch u (hs++[m])=if m.id.o=self∧m.id.e=epoch then (zcW self epoch u hs).set m.id.d.toNat (max ((zcW self epoch u hs).getD m.id.d.toNat 0) m.id.c) else zcW self epoch u hs:=by simp[zcW]
theorem zj1 {u:List Int} {i j:Nat} {v:Int} (hi:i<u.length):(u.set i v).getD j 0=if j=i then v else u.getD j 0:=by
 rw[List.getD_eq_getElem?_getD,List.getD_eq_getElem?_getD,List.getElem?_set];by_cases h:j=i
 ·subst h;rw[if_pos rfl,if_pos hi,if_pos rfl];rfl
 ·rw[if_neg (by omega),if_neg h]
theorem zzu {self epoch:Int} {u:List Int} {m:zby} (hd:m.id.o=self∧m.id.e=epoch→m.id.d.toNat<u.length) :
  let u':=(if m.id.o=self∧m.id.e=epoch then u.set m.id.d.toNat (max (u.getD m.id.d.toNat 0) m.id.c) else u)
  u'.length=u.length∧(∀ j,u.getD j 0≤u'.getD j 0)∧(m.id.o=self∧m.id.e=epoch→m.id.c≤u'.getD m.id.d.toNat 0):=by
 dsimp only;split
 ·rename_i h;have:=hd h
  refine⟨by simp,fun j=>?_,fun _=>?_⟩
  ·rw[zj1 this];split
   ·rename_i e;subst e;omega
   ·omega
  ·rw[zj1 this,if_pos rfl];omega
 ·rename_i h;exact⟨rfl,fun j=>by omega,fun h'=>absurd h' h⟩
theorem zwr {self epoch:Int}:∀ (hs:List zby) (u:List Int),(∀ m∈hs,m.id.o=self∧m.id.e=epoch→m.id.d.toNat<u.length) →
  (∀ j,u.getD j 0≤(zcW self epoch u hs).getD j 0)∧∀ m∈hs,m.id.o=self∧m.id.e=epoch→m.id.c≤(zcW self epoch u hs).getD m.id.d.toNat 0
 | [],u,_=>⟨fun j=>by simp[zcW],by simp⟩
 | x::r,u,h=>by
  obtain⟨h1,h2,h3⟩:=zzu (self:=self) (epoch:=epoch) (u:=u) (m:=x) (h x (by simp));have e:zcW self epoch u (x::r)=zcW self epoch (if x.id.o=self∧x.id.e=epoch then u.set x.id.d.toNat (max (u.getD x.id.d.toNat 0) x.id.c) else u) r:=rfl
  rw[e];generalize (if x.id.o=self∧x.id.e=epoch then u.set x.id.d.toNat (max (u.getD x.id.d.toNat 0) x.id.c) else u)=u' at *;obtain⟨g1,g2⟩:=zwr r u' (fun m hm hc=>by rw[h1];exact h m (by simp[hm]) hc);refine⟨fun j=>Int.le_trans (h2 j) (g1 j),fun m hm hc=>?_⟩;rcases List.mem_cons.1 hm with rfl|hm
  ·exact Int.le_trans (h3 hc) (g1 _)
  ·exact g2 m hm hc
theorem zrN {self epoch:Int}:∀ (hs:List zby) (u:List Int),(∀ m∈hs,m.id.o=self∧m.id.e=epoch→m.id.d.toNat<u.length∧m.id.c≤u.getD m.id.d.toNat 0)→zcW self epoch u hs=u
 | [],_,_=>rfl
 | x::r,u,h=>by
  have e:zcW self epoch u (x::r)=zcW self epoch (if x.id.o=self∧x.id.e=epoch then u.set x.id.d.toNat (max (u.getD x.id.d.toNat 0) x.id.c) else u) r:=rfl
  have e2:(if x.id.o=self∧x.id.e=epoch then u.set x.id.d.toNat (max (u.getD x.id.d.toNat 0) x.id.c) else u)=u:=by
   split
   ·rename_i hc;obtain⟨h1,h2⟩:=h x (by simp) hc;exact zwn h2 h1
   ·rfl
  rw[e,e2];exact zrN r u fun m hm=>h m (by simp[hm])
end Go.Proofs.YtpdkkbpkplhdpaaGreat
namespace Go.Proofs.YtpdkkbpkplhdpaaGreat
open Go Go.Vm
attribute [local irreducible] Brn Ob Grow CallsM inR zax zav Mem.row Mem.cells Mem.setCells Mem.upd Go.Vm.Own zaD za5 zbc zaJ New SrcOk subA NewSl Mem.textAt Mem.mapAt Mem.iterAt zau zaj Wr NewEls Elems
set_option maxRecDepth 10000
set_option linter.unusedSimpArgs false
section
variable {M:Mem} {self epoch:Int} {ul:NxT}
theorem Nx.snoc {me ep:Int} {l:NxT} {n:Int×Int} (h:Nx me ep l) (h1:0≤n.1∧n.1≤63) (h2:n.1≠me) (h3:1≤n.2∧n.2≤65535) (h4:ep≠0) (h5:∀ x∈l,x.1<n.1):Nx me ep (l++[n]):=by
 refine⟨fun x hx=>?_,?_,fun _=>h4⟩
 ·rcases List.mem_append.1 hx with hx|hx
  ·exact h.each x hx
  ·simp only[List.mem_singleton] at hx;subst hx;exact⟨h1,h2,h3⟩
 ·rw[List.pairwise_append];exact⟨h.sort,by simp,fun x hx y hy=>by simp only[List.mem_singleton] at hy;subst hy;exact h5 x hx⟩
theorem zBY {ua ha ma:Option Addr} {un uc hn hc mn mc:Nat} (hu:SrcOk M 2 ua un (ul.flatMap zeJ)) (hun:un≤4194000) :
  CallsM Tryz.prog F.zih [zhV self epoch ua un uc ha hn hc ma mn mc] M fun v M'=>∃ b:Bool,v = .bool b∧(b=true↔zrJ self epoch ul)∧M=M':=by
 refine zsy (by simp) ?_;have hl:=hu.flen zcD (by decide)
 (conv=>whnf)
 refine za6 (σ:=Nat×Int) [9,3] (fun y=>[(9,.int .i64 y.1),(3,.int .i64 y.2)]) (fun _=>[.live T.zaP [.v (.int .i64 self),.v (.int .i64 epoch),.v (.slice ua un uc),.v (.slice ha hn hc),.v (.slice ma mn mc)]]) (fun _=>M)
  (fun|⟨i,last⟩=>i≤un∧Nx self epoch (ul.take i)∧(∀ x∈ul.take i,x.1≤last)∧((i=0∧last = -1)∨∃ x∈ul.take i,x.1=last)) (fun y=>un - y.1) ⟨0, -1⟩ ⟨by omega,⟨by simp,by simp,by simp⟩,by simp,.inl ⟨rfl,rfl⟩⟩ zS ?_
 rintro ⟨i,last⟩ ⟨hi,hN,hlast,hmax⟩;(conv=>whnf);refine brn (fun g=>?_) (fun g=>?_)
 rotate_left
 ·have hge:un≤i:=by have:=Zd1 g;dsimp only at this;omega
  rw[List.take_of_length_le (by omega)] at hN;refine zR ?_;refine(zjZ _ _).mono ?_;rintro v _ ⟨rfl,rfl⟩;refine zR ?_;exact⟨_,rfl,by rw[decide_eq_true_iff];exact⟨fun h=>⟨hN,h⟩,fun h=>h.2⟩,rfl⟩
 have hlt:i<ul.length:=by have:=Zd0 g;dsimp only at this;omega
 have hx:ul[i]? = some ul[i]:=List.getElem?_eq_getElem hlt;obtain⟨b1,o1,ha1,hc1⟩:=hu.fparts zcD (by decide) hx;have htk:ul.take (i+1)=ul.take i++[ul[i]]:=by rw[List.take_add_one,hx];rfl
 have hmem:ul[i]∈ul:=List.getElem_mem _
 have hord:zrJ self epoch ul→∀ x∈ul.take i,x.1<ul[i].1:=fun h x hx=>by
  obtain⟨j,hj,rfl⟩:=List.getElem_of_mem hx;rw[List.getElem_take];simp at hj;exact List.pairwise_iff_getElem.1 h.1.sort j i (by omega) (by omega) (by omega)
 generalize ul[i]=n at *;(conv=>whnf);refine ob (by first|omega|(dsimp only;omega)) ?_;(conv=>whnf);refine atp ha1 ?_;(conv=>whnf);refine on (hc1 0 2 (by decide)) ?_;(conv=>whnf);refine brn (fun gg=>?_) (fun g1=>?_)
 ·refine zR ?_;refine⟨false,rfl,⟨by simp,fun h=>?_⟩,rfl⟩;exfalso;have he:=h.1.each n hmem
  have ho:=hord h;have hs:=h.1.some (fun e=>by rw[e] at hmem;cases hmem)
  first
  | (simp only[decide_eq_true_eq,Bool.not_eq_true',decide_eq_false_iff_not] at gg;omega)
  | (rcases hmax with ⟨_,rfl⟩|⟨x,hx,rfl⟩
     ·simp only[decide_eq_true_eq] at gg;omega
     ·have:=ho x hx;simp only[decide_eq_true_eq] at gg;omega)
 refine zR ?_;refine(zjZ _ _).mono ?_;rintro v _ ⟨rfl,rfl⟩;(conv=>whnf);refine brn (fun gg=>?_) (fun g2=>?_)
 ·refine zR ?_;refine⟨false,rfl,⟨by simp,fun h=>?_⟩,rfl⟩;exfalso;have he:=h.1.each n hmem
  have ho:=hord h;have hs:=h.1.some (fun e=>by rw[e] at hmem;cases hmem)
  first
  | (simp only[decide_eq_true_eq,Bool.not_eq_true',decide_eq_false_iff_not] at gg;omega)
  | (rcases hmax with ⟨_,rfl⟩|⟨x,hx,rfl⟩
     ·simp only[decide_eq_true_eq] at gg;omega
     ·have:=ho x hx;simp only[decide_eq_true_eq] at gg;omega)
 (conv=>whnf);refine brn (fun gg=>?_) (fun g3=>?_)
 ·refine zR ?_;refine⟨false,rfl,⟨by simp,fun h=>?_⟩,rfl⟩;exfalso;have he:=h.1.each n hmem
  have ho:=hord h;have hs:=h.1.some (fun e=>by rw[e] at hmem;cases hmem)
  first
  | (simp only[decide_eq_true_eq,Bool.not_eq_true',decide_eq_false_iff_not] at gg;omega)
  | (rcases hmax with ⟨_,rfl⟩|⟨x,hx,rfl⟩
     ·simp only[decide_eq_true_eq] at gg;omega
     ·have:=ho x hx;simp only[decide_eq_true_eq] at gg;omega)
 (conv=>whnf);refine brn (fun gg=>?_) (fun g4=>?_)
 ·refine zR ?_;refine⟨false,rfl,⟨by simp,fun h=>?_⟩,rfl⟩;exfalso;have he:=h.1.each n hmem
  have ho:=hord h;have hs:=h.1.some (fun e=>by rw[e] at hmem;cases hmem)
  first
  | (simp only[decide_eq_true_eq,Bool.not_eq_true',decide_eq_false_iff_not] at gg;omega)
  | (rcases hmax with ⟨_,rfl⟩|⟨x,hx,rfl⟩
     ·simp only[decide_eq_true_eq] at gg;omega
     ·have:=ho x hx;simp only[decide_eq_true_eq] at gg;omega)
 (conv=>whnf);refine brn (fun gg=>?_) (fun g5=>?_)
 ·refine zR ?_;refine⟨false,rfl,⟨by simp,fun h=>?_⟩,rfl⟩;exfalso;have he:=h.1.each n hmem
  have ho:=hord h;have hs:=h.1.some (fun e=>by rw[e] at hmem;cases hmem)
  first
  | (simp only[decide_eq_true_eq,Bool.not_eq_true',decide_eq_false_iff_not] at gg;omega)
  | (rcases hmax with ⟨_,rfl⟩|⟨x,hx,rfl⟩
     ·simp only[decide_eq_true_eq] at gg;omega
     ·have:=ho x hx;simp only[decide_eq_true_eq] at gg;omega)
 (conv=>whnf);refine brn (fun gg=>?_) (fun g6=>?_)
 ·refine zR ?_;refine⟨false,rfl,⟨by simp,fun h=>?_⟩,rfl⟩;exfalso;have he:=h.1.each n hmem
  have ho:=hord h;have hs:=h.1.some (fun e=>by rw[e] at hmem;cases hmem)
  first
  | (simp only[decide_eq_true_eq,Bool.not_eq_true',decide_eq_false_iff_not] at gg;omega)
  | (rcases hmax with ⟨_,rfl⟩|⟨x,hx,rfl⟩
     ·simp only[decide_eq_true_eq] at gg;omega
     ·have:=ho x hx;simp only[decide_eq_true_eq] at gg;omega)
 simp only[decide_eq_false_iff_not,Bool.not_eq_false',decide_eq_true_eq] at g1 g2 g3 g4 g5 g6;refine zR ?_;refine ob (zd (by first|omega|(dsimp only;omega))) ?_;(conv=>whnf)
 have hlt':∀ x∈ul.take i,x.1<n.1:=fun x hx=>by have:=hlast x hx;omega
 refine⟨⟨i+1,n.1⟩,⟨by omega,htk▸hN.snoc g2 g3 (by omega) g6 hlt',fun x hx=>?_,.inr ⟨n,by rw[htk];simp,rfl⟩⟩,by dsimp only;omega,zS⟩;rw[htk] at hx;rcases List.mem_append.1 hx with hx|hx
 ·have:=hlt' x hx;omega
 ·simp only[List.mem_singleton] at hx;subst hx;omega
end
section
variable {M:Mem} {self epoch:Int} {ul:NxT} {ms:List MX} {mk:List MkC}
theorem zBZ {l:List zby} {i:IdT}:zda l i=true↔i∈l.map (·.id):=by
 unfold zda;rw[List.any_eq_true];constructor
 ·rintro ⟨m,hm,h⟩;exact List.mem_map.2 ⟨m,hm,by simpa using h⟩
 ·intro h;obtain⟨m,hm,e⟩:=List.mem_map.1 h;exact⟨m,hm,by simpa using e⟩
structure zB0 (ms:List MX) (mk:List MkC) (un hn hc mn:Nat):Prop where
 b1:un≤1048576
 b2:hn≤1048576
 b3:hn≤hc
 b4:mn≤1048576
 msgs:∀ m∈ms,m.p.length≤1048576
 marks:∀ m∈mk,m.more.length≤1048576
end
end Go.Proofs.YtpdkkbpkplhdpaaGreat
