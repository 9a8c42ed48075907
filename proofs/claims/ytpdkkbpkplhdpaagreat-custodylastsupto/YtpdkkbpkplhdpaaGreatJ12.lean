/- Part of this proof;laid by program. -/
import Derived.Test.YtpdkkbpkplhdpaaGreatJ11
import Derived.Test.YtpdkkbpkplhdpaaGreatJ8
import Derived.Test.YtpdkkbpkplhdpaaGreatJ9
import Derived.Test.YtpdkkbpkplhdpaaGreatJ6
import Derived.Test.YtpdkkbpkplhdpaaGreatJ7
import Derived.Test.YtpdkkbpkplhdpaaGreatJ10
set_option linter.unusedVariables false
set_option linter.unusedSimpArgs false
namespace Go.Proofs.YtpdkkbpkplhdpaaGreat
open Go Go.Vm
attribute [local irreducible] Brn Ob Grow CallsM inR zax zav Mem.row Mem.cells Mem.setCells Mem.upd Go.Vm.Own zaD za5 zbc zaJ New SrcOk subA NewSl Mem.textAt Mem.mapAt Mem.iterAt zau zaj Wr NewEls Elems
set_option maxRecDepth 10000
section
variable {M:Mem} {p b:Nat} {D:zf} {es:FsT}
theorem zBw (s:ByteArray) (hs:s.size≤4611686018427387904):CallsM Tryz.prog F.zju [.string s] M fun v M'=>v = .bool (zbd s)∧M=M':=by
 refine zuc (by simp) ?_
 have okc:∀ i,zbd s=true→i<s.size→((s.toList.getD i 0).toNat=46∨(48≤(s.toList.getD i 0).toNat∧(s.toList.getD i 0).toNat≤57)∨(97≤(s.toList.getD i 0).toNat∧(s.toList.getD i 0).toNat≤122)):=fun i h hi=>by
  unfold zbd at h;rw[Bool.and_eq_true,List.all_eq_true] at h;have hl:i<(bl s).length:=by rw[zaH];exact hi
  have:=h.2 _ (List.getElem_mem hl);rw[zkv,List.getD_eq_getElem?_getD,List.getElem?_eq_getElem hl];exact Zd0 this
 (conv=>whnf);refine zdc [7] (fun (i:Nat)=>[(7,.int .i64 i)]) (fun i=>i≤s.size∧∀ j,j<i→((s.toList.getD j 0).toNat=46∨(48≤(s.toList.getD j 0).toNat∧(s.toList.getD j 0).toNat≤57)∨(97≤(s.toList.getD j 0).toNat∧(s.toList.getD j 0).toNat≤122))) (fun i=>s.size - i) 0 ⟨by omega,by omega⟩ zS ?_;rintro i ⟨hi,hall⟩;(conv=>whnf);refine brn (fun g=>?_) (fun g=>?_)
 ·have hlt:i<s.size:=by have:=Zd0 g;omega
  have hok:=fun h=>okc i h hlt
  generalize hc:(s.toList.getD i 0).toNat=c at hok;(conv=>whnf);refine ob (by first|omega|(dsimp only;omega)) ?_;(conv=>whnf)
  rw[Int.toNat_natCast,hc];(conv=>whnf);refine brn (fun g1=>?_) (fun g1=>?_)
  ·replace g1:¬(c:Int)=46:=by simpa using g1
   (conv=>whnf);refine brn (fun g2=>?_) (fun g2=>?_)
   ·replace g2:=Zd0 g2;(conv=>whnf);refine brn (fun g4=>?_) (fun g4=>?_)
    ·replace g4:=Zd0 g4
     ·refine zR ?_;refine⟨?_,rfl⟩
      have:zbd s=false:=by
       rw[←Bool.not_eq_true];intro h;have:=hok h;omega
      rw[this]
    ·replace g4:=Zd1 g4;(conv=>whnf);refine brn (fun g5=>?_) (fun g5=>?_)
     ·replace g5:=Zd0 g5
      ·refine zR ?_;refine⟨?_,rfl⟩
       have:zbd s=false:=by
        rw[←Bool.not_eq_true];intro h;have:=hok h;omega
       rw[this]
     ·replace g5:=Zd1 g5;(conv=>whnf);refine ob (zd (by first|omega|(dsimp only;omega))) ?_;(conv=>whnf)
      refine⟨i+1,⟨by omega,fun j hj=>?_⟩,by omega,zS⟩;by_cases e:j=i
      ·subst e;rw[hc];omega
      ·exact hall j (by omega)
   ·replace g2:=Zd1 g2;(conv=>whnf);refine brn (fun g3=>?_) (fun g3=>?_)
    ·replace g3:=Zd0 g3;(conv=>whnf);refine brn (fun g4=>?_) (fun g4=>?_)
     ·replace g4:=Zd0 g4
      ·refine zR ?_;refine⟨?_,rfl⟩
       have:zbd s=false:=by
        rw[←Bool.not_eq_true];intro h;have:=hok h;omega
       rw[this]
     ·replace g4:=Zd1 g4;(conv=>whnf);refine brn (fun g5=>?_) (fun g5=>?_)
      ·replace g5:=Zd0 g5
       ·refine zR ?_;refine⟨?_,rfl⟩
        have:zbd s=false:=by
         rw[←Bool.not_eq_true];intro h;have:=hok h;omega
        rw[this]
      ·replace g5:=Zd1 g5;(conv=>whnf);refine ob (zd (by first|omega|(dsimp only;omega))) ?_;(conv=>whnf)
       refine⟨i+1,⟨by omega,fun j hj=>?_⟩,by omega,zS⟩;by_cases e:j=i
       ·subst e;rw[hc];omega
       ·exact hall j (by omega)
    ·replace g3:=Zd1 g3;(conv=>whnf);refine ob (zd (by first|omega|(dsimp only;omega))) ?_;(conv=>whnf)
     refine⟨i+1,⟨by omega,fun j hj=>?_⟩,by omega,zS⟩;by_cases e:j=i
     ·subst e;rw[hc];omega
     ·exact hall j (by omega)
  ·replace g1:(c:Int)=46:=by simpa using g1
   (conv=>whnf);refine ob (zd (by first|omega|(dsimp only;omega))) ?_;(conv=>whnf)
   refine⟨i+1,⟨by omega,fun j hj=>?_⟩,by omega,zS⟩;by_cases e:j=i
   ·subst e;rw[hc];omega
   ·exact hall j (by omega)
 have hge:i=s.size:=by have:=Zd1 g;omega
 subst hge
 have hv:zbd s=decide (0<s.size∧s.size≤12):=by
  unfold zbd
  have:((bl s).all fun c=>decide (c.toNat=46∨(48≤c.toNat∧c.toNat≤57)∨(97≤c.toNat∧c.toNat≤122)))=true:=by
   rw[List.all_eq_true];intro c hc;obtain⟨j,hj,rfl⟩:=List.getElem_of_mem hc;have:=hall j (by rw[zaH] at hj;exact hj)
   rw[zkv,List.getD_eq_getElem?_getD,List.getElem?_eq_getElem hj] at this;exact decide_eq_true this
  rw[this,Bool.and_true]
 (conv=>whnf);refine brn (fun g1=>?_) (fun g1=>?_)
 ·replace g1:=Zd0 g1;refine zR ?_;refine⟨?_,rfl⟩;rw[hv];congr 1;exact decide_eq_decide.2 ⟨fun h=>by omega,fun h=>by omega⟩
 ·replace g1:=Zd1 g1;refine zR ?_;refine⟨?_,rfl⟩;rw[hv,decide_eq_false (by omega)]
theorem zl9 (h:DAt M p b D es) {a:Option Addr} {n c:Nat} {ns:List ByteArray} (hs:SrcOk M 1 a n (ns.map zfn)) (hn:n≤4194304) (hsz:∀ s∈ns,s.size≤4611686018427387904) :
  CallsM Tryz.prog F.zc2 [ptr p,.slice a n c] M fun v M'=>v = .int .i64 (if D.down=true then 9 else if ns.all zbd=true then 0 else 2)∧M=M':=by
 refine znx (by simp) ?_;have hl:=hs.maplen
 refine zR ?_;refine on (h.self.c1 rfl) ?_;(conv=>whnf)
 cases g:D.down
 rotate_left
 ·refine zR ?_;exact⟨by simp,rfl⟩
 (conv=>whnf);refine zdc [15] (fun (i:Nat)=>[(15,.int .i64 i)]) (fun i=>i≤n∧∀ j s,j<i→ns[j]? = some s→zbd s=true) (fun i=>n - i) 0 ⟨by omega,by omega⟩ zS ?_;rintro i ⟨hi,hall⟩;(conv=>whnf);refine brn (fun g1=>?_) (fun g1=>?_)
 ·have hlt:i<n:=by have:=Zd0 g1;omega
  obtain⟨hkx,bx,ox,hax,hrx⟩:=hs.at (i:=i) hlt;have hxi:ns[i]? = some ns[i]:=List.getElem?_eq_getElem hkx
  have hxm:ns[i]∈ns:=List.getElem_mem hkx;generalize ns[i]=x at *;(conv=>whnf);refine ob (by first|omega|(dsimp only;omega)) ?_;(conv=>whnf);refine atp hax ?_;(conv=>whnf);refine on hrx ?_;(conv=>whnf);refine(zBw x (hsz x hxm)).mono ?_;rintro v _ ⟨rfl,rfl⟩;(conv=>whnf);refine brn (fun g2=>?_) (fun g2=>?_)
  ·refine zR ?_;refine⟨?_,rfl⟩;rw[if_neg (by simp),if_neg];intro h2;rw[List.all_eq_true] at h2;rw[h2 x hxm] at g2;cases g2
  ·have g3:zbd x=true:=by simpa using g2
   (conv=>whnf);refine ob (zd (by first|omega|(dsimp only;omega))) ?_;(conv=>whnf)
   refine⟨i+1,⟨by omega,fun j s hj hs=>?_⟩,by omega,zS⟩;by_cases e:j=i
   ·subst e;rw[hxi] at hs;cases hs;exact g3
   ·exact hall j s (by omega) hs
 have hge:i=n:=by have:=Zd1 g1;omega
 refine zR ?_;refine⟨?_,rfl⟩;rw[if_neg (by simp),if_pos];rw[List.all_eq_true];intro s hs;obtain⟨j,hj,rfl⟩:=List.getElem_of_mem hs;exact hall j _ (by omega) (List.getElem?_eq_getElem hj)
theorem zD8 (D:zf):(if D.down=true then (9:Int) else if ([]:List ByteArray).all zbd=true then 0 else 2)=if D.down=true then 9 else 0:=by simp
theorem zAq (D:zf) (s:ByteArray):(if D.down=true then (9:Int) else if [s].all zbd=true then 0 else 2)=z8 D s:=by
 unfold z8;by_cases h:zbd s=true<;>simp[h]
theorem zjO (h:DAt M p b D es) (hr:RelD es D.l) (s:ByteArray) (hs:s.size≤4611686018427387904) :
  CallsM Tryz.prog F.zcj [ptr p,.string s] M fun v M'=>M.le M'∧((zaA D s≠0∧v = .tuple #[.pointer none,.int .i64 (zaA D s)])∨(zaA D s=0∧∃ x,zD es s=some x∧v = .tuple #[ptr x.f,.int .i64 0])):=by
 refine znF (by simp) ?_;refine zR ?_;refine new (fun b1 hb1=>?_);replace hb1:M b1=none:=hb1;have hle1:M.le (M.setCells b1 T.zdl [.string s]):=Mem.le_setCells hb1
 have hs1:SrcOk (M.setCells b1 T.zdl [.string s]) 1 (some ⟨b1,0,none⟩) 1 ([s].map zfn):=SrcOk.lit rfl;obtain⟨M1,hM1⟩:∃ M1,M1=M.setCells b1 T.zdl [.string s]:=⟨_,rfl⟩
 rw[←hM1] at hle1 hs1;(conv=>whnf)
 erw [←hM1];refine(zl9 (h.le hle1) hs1 (by omega) (by simpa using hs)).mono ?_;rintro v _ ⟨rfl,rfl⟩;rw[zAq];(conv=>whnf);refine brn (fun g=>?_) (fun g=>?_)
 ·have g1:¬z8 D s=0:=by simpa using g
  have e:zaA D s=z8 D s:=by unfold zaA;rw[if_pos g1]
  refine zR ?_;exact⟨hle1,.inl ⟨by rw[e];exact g1,by rw[e]⟩⟩
 have g1:z8 D s=0:=by simpa using g
 refine zR ?_;refine on ((h.le hle1).self.c1 rfl) ?_;(conv=>whnf)
 refine(h.le hle1).map.get zl8 s (fun hn=>?_) (fun x j hx=>?_)
 ·have e:zaA D s=4:=by unfold zaA;rw[if_neg (by simp[g1]),if_pos (hr.none.1 hn)]
  refine zR ?_;exact⟨hle1,.inl ⟨by rw[e];decide,by rw[e]⟩⟩
 ·have e:zaA D s=0:=by
   unfold zaA;rw[if_neg (by simp[g1]),if_neg];intro hf;rw[hr.none.2 hf] at hx;cases hx
  refine zR ?_;exact⟨hle1,.inr ⟨e,x,hx,rfl⟩⟩
theorem zf0 (h:DAt M p b D es) (hd:D.down=false) (l:List FileR) (hl:D.left≤9223372036854775807) :
  CallsM Tryz.prog F.zbW [ptr p] M fun v M'=>v = .int .i64 0∧DAt M' p b (zbh D l) es∧Mem.keep (fun y=>y=p) M M':=by
 refine zl5 (by simp) ?_;refine zR ?_;refine on (h.self.c1 rfl) ?_;(conv=>whnf);refine brn (fun g=>?_) (fun g=>?_)
 ·replace g:=Zd0 g;refine zR ?_;refine on (h.self.c1 rfl) ?_;(conv=>whnf);refine ob (zd (by omega)) ?_;(conv=>whnf);refine on h.self.cells ?_;(conv=>whnf);refine ob (by simp) ?_
  have hk1:Mem.keep (fun y=>y=p) M (M.setCells p T.zaC [.int .i64 D.limit,.map (some b),.int .i64 (D.left - 1),.bool D.down]):=fun y o hy ho=>by
   unfold Mem.setCells;rw[Mem.upd_ne _ _ hy];exact ho
  have hs1:(M.setCells p T.zaC [.int .i64 D.limit,.map (some b),.int .i64 (D.left - 1),.bool D.down]).has p T.zaC [.int .i64 D.limit,.map (some b),.int .i64 (D.left - 1),.bool D.down]:=Mem.has_setCells;obtain⟨M1,hM1⟩:∃ M1,M1=M.setCells p T.zaC [.int .i64 D.limit,.map (some b),.int .i64 (D.left - 1),.bool D.down]:=⟨_,rfl⟩
  rw[←hM1] at hk1 hs1;(conv=>whnf)
  erw [←hM1];refine on (hs1.c1 rfl) ?_;(conv=>whnf);refine on hs1.cells ?_;(conv=>whnf);refine ob (by simp) ?_
  have hk2:Mem.keep (fun y=>y=p) M1 (M1.setCells p T.zaC [.int .i64 D.limit,.map (some b),.int .i64 (D.left - 1),.bool (decide (D.left - 1=0))]):=fun y o hy ho=>by
   unfold Mem.setCells;rw[Mem.upd_ne _ _ hy];exact ho
  have hs2:(M1.setCells p T.zaC [.int .i64 D.limit,.map (some b),.int .i64 (D.left - 1),.bool (decide (D.left - 1=0))]).has p T.zaC [.int .i64 D.limit,.map (some b),.int .i64 (D.left - 1),.bool (decide (D.left - 1=0))]:=Mem.has_setCells;obtain⟨M2,hM2⟩:∃ M2,M2=M1.setCells p T.zaC [.int .i64 D.limit,.map (some b),.int .i64 (D.left - 1),.bool (decide (D.left - 1=0))]:=⟨_,rfl⟩
  rw[←hM2] at hk2 hs2;(conv=>whnf)
  erw [←hM2];refine zR ?_
  have e:zbh D l=⟨D.limit,l,D.left - 1,decide (D.left - 1=0)⟩:=by
   unfold zbh;rw[if_pos g];congr 1;exact decide_eq_decide.2 ⟨fun h=>by omega,fun h=>by omega⟩
  rw[e];have hk12:=Mem.keep_trans hk1 hk2
  exact⟨rfl,h.head ⟨D.limit,l,D.left - 1,decide (D.left - 1=0)⟩ hk12 hs2,hk12⟩
 ·replace g:=Zd1 g;refine zR ?_;refine⟨rfl,?_,Mem.keep_refl _ _⟩
  have e:zbh D l=⟨D.limit,l,D.left,D.down⟩:=by
   unfold zbh;rw[if_neg g,hd,decide_eq_false (by omega)]
  rw[e];exact⟨h.self,h.map,h.ents,h.apart⟩
end
section
variable {M:Mem} {p b:Nat} {D:zf} {es:FsT}
structure StepD (M M':Mem) (p b:Nat) (es es':FsT) (D':zf):Prop where
 at':DAt M' p b D' es'
 rel:RelD es' D'.l
 keep:Mem.keep (zac p b es) M M'
 own:∀ y,zac p b es' y→zac p b es y∨M y=none
theorem StepD.same (h:DAt M p b D es) (hr:RelD es D.l) {M':Mem} (hle:M.le M'):StepD M M' p b es es D:=⟨h.le hle,hr,Mem.keep_of_le hle,fun _ hy => .inl hy⟩
theorem zxY (h:DAt M p b D es) (hg:zgw es≤4611686018427387904):CallsM Tryz.prog F.zgA [ptr p] M fun v M'=>v = .int .i64 (zgw es)∧M.le M':=by
 refine zoy (by simp) ?_;(conv=>whnf);refine brn_t rfl ?_;(conv=>whnf);refine on (h.self.c1 rfl) ?_;(conv=>whnf)
 refine h.map.range fun q bi hbi hI=>?_
 replace hbi:M bi=none:=hbi;(conv=>whnf)
 refine za6 (σ:=Mem×Nat×FsT) [3] (fun x=>[(3,.int .i64 x.2.1)]) (fun _=>[]) (fun x=>x.1)
  (fun|⟨M1,n,todo⟩=>M.le M1∧Iter zfn fxV M1 bi b es todo∧n+zgw todo=zgw es) (fun x=>x.2.2.length) ⟨_,0,es⟩
  ⟨Mem.le_upd hbi,hI,by omega⟩ zS ?_
 rintro ⟨M1,n,todo⟩ ⟨hle,hI1,hsum⟩;(conv=>whnf)
 refine hI1.next (fun h0=>?_) (fun i k todo' o' hperm hI2 hent=>?_)
 ·subst h0;refine zR ?_;refine⟨?_,hle⟩;have:zgw []=0:=rfl
  congr 1;dsimp only;omega
 ·have hle2:M.le (M1.upd bi o'):=fun y o hb=>by
   rw[Mem.upd_ne _ _ (fun e=>by subst e;rw[hbi] at hb;cases hb)];exact hle _ _ hb
  obtain⟨M2,hM2⟩:∃ M2,M2=M1.upd bi o':=⟨_,rfl⟩
  rw[←hM2] at hI2 hent hle2;have hmem:(i,k)∈es:=hI1.todo_sub _ (hperm.mem_iff.2 (by simp))
  have hke:=(h.le hle2).ents _ hmem
  have hs:zgw todo=k.p.length+zgw todo':=by
   have:=(hperm.map fun q=>q.2.p.length).sum_nat;simpa[zgw] using this
  (conv=>whnf);erw [←hM2];refine zR ?_;refine on hent ?_;(conv=>whnf);refine on (hke.self.c1 rfl) ?_;(conv=>whnf);refine ob (zd (by first|omega|(dsimp only;omega))) ?_;(conv=>whnf)
  refine⟨⟨M2,n+k.p.length,todo'⟩,⟨hle2,hI2,by omega⟩,by have:=hperm.length_eq;simp at this ⊢; omega,zS⟩
theorem zCT (limit:Int):CallsM Tryz.prog F.zg3 [.int .i64 limit] M fun v M'=>
  ((limit<1∨1048576<limit)∧v = .tuple #[.pointer none,.int .i64 1]∧M'=M) ∨
  (¬(limit<1∨1048576<limit)∧∃ p b,v = .tuple #[ptr p,.int .i64 0]∧M.le M'∧DAt M' p b ⟨limit,[], -1,false⟩ []∧∀ y,zac p b [] y→M y=none):=by
 refine zwW (by simp) ?_;(conv=>whnf);refine brn (fun h=>?_) (fun h=>?_)
 ·refine zR ?_;exact .inl ⟨.inl (Zd0 h),rfl,rfl⟩
 (conv=>whnf);refine brn (fun h1=>?_) (fun h1=>?_)
 ·(conv=>whnf);exact .inl ⟨.inr (Zd0 h1),rfl,rfl⟩
 ·(conv=>whnf);refine new (fun b hb=>?_);replace hb:M b=none:=hb;(conv=>whnf);refine new (fun p hp=>?_);replace hp:(M.upd b (.map #[] 0)) p=none:=hp;have hne:p≠b:=fun e=>by subst e;rw[Mem.upd_same] at hp;cases hp
  rw[Mem.upd_ne _ _ hne] at hp;(conv=>whnf)
  have hn:¬(limit<1∨1048576<limit):=by
   have:=Zd1 h;have:=Zd1 h1
   omega
  refine .inr ⟨hn,p,b,rfl,Mem.le_trans (Mem.le_upd hb) (Mem.le_setCells (by rw[Mem.upd_ne _ _ hne];exact hp)),⟨Mem.has_setCells,?_,by simp,by simp⟩,fun y hy=>?_⟩
  ·refine(MapAt.new M b).mono fun o ho=>?_
   unfold Mem.setCells;rw[Mem.upd_ne _ _ (Ne.symm hne)];exact ho
  ·rcases hy with rfl|rfl|⟨q,hq,_⟩
   ·exact hp
   ·exact hb
   ·cases hq
theorem Wr.newSl {E:TypeId} {s:Nat} {a:Option Addr} {n c:Nat} {L:List Value} (h:Wr M E s a n c L):NewSl (M.minus (z6 a)) E s a n c L M:=by
 unfold Wr at h;obtain⟨h1,h2,h3⟩:=h;exact newSl_iff.2 ⟨Mem.minus_le _ _,h1,h2,h3.imp id fun ⟨b,cs,ha,hh,hr⟩=>⟨b,cs,ha,Mem.minus_in ⟨_,ha,rfl⟩,hh,hr⟩⟩
theorem zAr (h:DAt M p b D es) (hr:RelD es D.l) (hI:InvD D) (s:ByteArray) (hs:s.size≤4611686018427387904) {a:Option Addr} {n c:Nat} {l:List UInt8} (hl:SrcOk M 1 a n (l.map zl)) :
  CallsM Tryz.prog F.zcI [ptr p,.string s,.slice a n c] M fun v M'=>v = .int .i64 (zW D s l).2∧∃ es',StepD M M' p b es es' (zW D s l).1:=by
 refine zm3 (by simp) ?_;have hll:=hl.maplen
 refine zR ?_;refine new (fun b1 hb1=>?_);replace hb1:M b1=none:=hb1;have hle1:M.le (M.setCells b1 T.zdl [.string s]):=Mem.le_setCells hb1
 have hs1:SrcOk (M.setCells b1 T.zdl [.string s]) 1 (some ⟨b1,0,none⟩) 1 ([s].map zfn):=SrcOk.lit rfl;obtain⟨M1,hM1⟩:∃ M1,M1=M.setCells b1 T.zdl [.string s]:=⟨_,rfl⟩
 rw[←hM1] at hle1 hs1;(conv=>whnf)
 erw [←hM1];refine(zl9 (h.le hle1) hs1 (by omega) (by simpa using hs)).mono ?_;rintro v _ ⟨rfl,rfl⟩;rw[zAq];(conv=>whnf);refine brn (fun g=>?_) (fun g=>?_)
 ·have g1:¬z8 D s=0:=by simpa using g
  have e:zW D s l=(D,z8 D s):=by unfold zW;rw[if_pos g1]
  refine zR ?_;rw[e];exact⟨rfl,es,.same h hr hle1⟩
 have g1:z8 D s=0:=by simpa using g
 have hdn:D.down=false:=by
  rw[←Bool.not_eq_true];intro hd;unfold z8 at g1;rw[if_pos hd] at g1;cases g1
 have hu:=hr.used;have hIu:=hI.used
 have hlim:=hI.limit;refine zR ?_;refine on ((h.le hle1).self.c1 rfl) ?_;(conv=>whnf)
 refine(h.le hle1).map.get zl8 s (fun hn=>?_) (fun x j hx=>?_)
 ·(conv=>whnf);(conv=>whnf);refine⟨M1,Mem.le_refl _,?_⟩;(conv=>whnf);refine on ((h.le hle1).self.c1 rfl) ?_;(conv=>whnf);refine⟨?_,True.intro⟩;(conv=>whnf);refine(zxY (h.le hle1) (by omega)).mono ?_;rintro v M2 ⟨rfl,hle2⟩;have hle12:=Mem.le_trans hle1 hle2
  rw[hu];refine zT (hle2) ?_;refine ob (zd (by have:=hI.limit;omega)) ?_;(conv=>whnf);refine brn (fun g2=>?_) (fun g2=>?_)
  ·replace g2:=Zd0 g2;have e:zW D s l=(D,6):=by unfold zW;rw[if_neg (by simp[g1]),if_pos (.inl (by omega))]
   refine zR ?_;rw[e];exact⟨rfl,es,.same h hr hle12⟩
  replace g2:=Zd1 g2;have hfn:=hr.none.1 hn
  refine zR ?_;refine on ((h.le hle1).self.c1 rfl) ?_;(conv=>whnf)
  refine(h.le hle1).map.len fun mes mc hmes=>?_
  (conv=>whnf);refine brn (fun g3=>?_) (fun g3=>?_)
  ·replace g3:=Zd0 g3;dsimp only at g3
   have e:zW D s l=(D,6):=by
    unfold zW;rw[if_neg (by simp[g1]),if_pos (.inr ⟨hfn,by have:=hr.len;omega⟩)]
   refine zR ?_;rw[e];exact⟨rfl,es,.same h hr hle12⟩
  replace g3:=Zd1 g3;dsimp only at g3;have hfull:¬(D.limit - zaX D.l<l.length∨(zg D.l s=none∧64≤D.l.length)):=by have:=hr.len;omega
  refine zR ?_;refine on ((h.le hle12).self.c1 rfl) ?_;(conv=>whnf)
  refine new (fun r hr0=>?_);replace hr0:M2 r=none:=hr0;obtain⟨x,hxf,hxa,hxc,hxp,hxs0⟩:∃ x:FX,r=x.f∧x.a=none∧x.c=0∧x.p=[]∧x.safe=0:=⟨⟨r,none,0,[],0⟩,rfl,rfl,rfl,rfl,rfl⟩
  subst hxf;have hle23:M2.le (M2.setCells x.f T.zA [.slice none 0 0,.int .i64 0]):=Mem.le_setCells hr0
  have hself23:(M2.setCells x.f T.zA [.slice none 0 0,.int .i64 0]).has x.f T.zA [.slice none 0 0,.int .i64 0]:=Mem.has_setCells;obtain⟨Mb,hMb⟩:∃ Mb,Mb=M2.setCells x.f T.zA [.slice none 0 0,.int .i64 0]:=⟨_,rfl⟩
  rw[←hMb] at hle23 hself23;(conv=>whnf)
  erw [←hMb];have hb:=(h.le hle12).le hle23
  refine zR ?_;refine hb.map.put zl8 s x fun q2 f2 hm=>?_
  replace hm:=hm Mb;obtain⟨M3,hM3⟩:∃ M3,M3=Mb.upd b (ze0 q2 f2 (zfn s) (fxV x)):=⟨_,rfl⟩
  have hkb:Mem.keep (fun y=>y=b) Mb M3:=hM3▸Mem.keep_upd _ _ rfl;rw[←hM3] at hm;(conv=>whnf)
  erw [←hM3];have hnb:x.f≠b:=hb.map.nb hself23
  have hr1:M1 x.f=none:=by
   cases e:M1 x.f with
   | none=>rfl
   | some z=>rw[hle2 _ _ e] at hr0;cases hr0
  have hr00:M x.f=none:=by
   cases e:M x.f with
   | none=>rfl
   | some z=>rw[hle1 _ _ e] at hr1;cases hr1
  have hEb:FXAt Mb x:=by
   refine⟨?_,?_⟩
   ·rw[hxa,hxc,hxp,hxs0];exact hself23
   ·rw[hxa,hxc,hxp];unfold Wr;exact⟨rfl,Nat.le_refl _,.inl ⟨rfl,rfl⟩⟩
  have hxown:∀ y,x.own y→y=x.f:=fun y hy=>by
   rcases hy with rfl|⟨q,hq,_⟩
   ·rfl
   ·rw[hxa] at hq;cases hq
  have hE3:FXAt M3 x:=hEb.mono fun y o hy ho=>hkb _ _ (by rw[hxown y hy];exact hnb) ho
  have h3:=hb.more hn hkb hm hE3 (fun q hq y hy hqy=>by
   rw[hxown y hy] at hqy
   exact((h.le hle12).ents q hq).full hqy hr0)
  have hl3:SrcOk M3 1 a n (l.map zl):=hb.map.src ((hl.le hle12).le hle23) hkb;have hfile:zx D s=⟨s,.empty,.empty⟩:=by unfold zx;rw[hfn];rfl
  have hx:zD (zQ es s x) s=some x:=by rw[zdX,if_pos rfl]
  obtain⟨es3,he3⟩:∃ es3,es3=zQ es s x:=⟨_,rfl⟩
  rw[←he3] at h3 hx;have hx3l:x.p.length≤1048576:=by rw[hxp];simp
  have hxp2:x.p=bl (zx D s).safe++bl (zx D s).tail:=by rw[hfile];first|rw[hxp];rfl|rw[hxs0];rfl
  have hxs:x.safe=(zx D s).safe.size:=by rw[hfile];first|rw[hxp];rfl|rw[hxs0];rfl
  have hes3:∀ x',zQ es3 s x'=zQ es s x':=fun x'=>by rw[he3,znP]
  have hk13:Mem.keep (zac p b es) M M3:=fun y o hy ho=>hkb _ _ (fun e=>hy (.inr (.inl e))) (hle23 _ _ (hle12 _ _ ho))
  have hown3:∀ y,zac p b es3 y→zac p b es y∨M y=none:=fun y hy=>by
   rw[he3] at hy;rcases zhh hy h.map.nodup with h1|h1
   ·exact .inl h1
   ·right;rw[hxown y h1];exact hr00
  have hful3:∀ y,zac p b es y→M3 y≠none:=fun y hy=>by
   by_cases e:y=b
   ·rw[e];obtain⟨l1,cc,hh,_⟩:=h3.map;rw[hh];simp[zch]
   ·obtain⟨z,hz⟩:=Option.ne_none_iff_exists'.1 (hb.full hy);rw[hkb _ _ e hz];simp
  refine zR ?_;have hx3:FXAt M3 x:=h3.ents _ (zN hx)
  refine zR ?_;refine on (hx3.self.c1 rfl) ?_;(conv=>whnf)
  refine zdR hl3 ?_;(conv=>whnf);refine zge (M3.minus (z6 x.a)) _ (Wr.newSl hx3.row) (by omega) (by simp[maxLen];omega) (zco l) fun a4 c4 M4 hN4 hk4=>?_
  have hxa4:∀ y,z6 a4 y→z6 x.a y∨M3 y=none:=fun y ⟨q,hq,e⟩=>by
   have:=(hN4.block hq).1;rw[e] at this;exact Mem.minus_none this
  have hself4:M4.has x.f T.zA [.slice x.a x.p.length x.c,.int .i64 x.safe]:=hk4 _ _ (fun ⟨q,hq,e⟩=>by
   obtain⟨cs,hh⟩:=hx3.row.block hq;rw[e] at hh
   exact absurd (hh.inj hx3.self).1 (by decide)) hx3.self
  refine zR ?_;refine on hself4.cells ?_;(conv=>whnf);refine ob (by simp) ?_
  have hk5:Mem.keep (fun y=>y=x.f) M4 (M4.setCells x.f T.zA [.slice a4 (x.p.length+n) c4,.int .i64 x.safe]):=fun y o hy ho=>by
   unfold Mem.setCells;rw[Mem.upd_ne _ _ hy];exact ho
  have hs5:(M4.setCells x.f T.zA [.slice a4 (x.p.length+n) c4,.int .i64 x.safe]).has x.f T.zA [.slice a4 (x.p.length+n) c4,.int .i64 x.safe]:=Mem.has_setCells;obtain⟨M5,hM5⟩:∃ M5,M5=M4.setCells x.f T.zA [.slice a4 (x.p.length+n) c4,.int .i64 x.safe]:=⟨_,rfl⟩
  rw[←hM5] at hk5 hs5;(conv=>whnf)
  erw [←hM5];obtain⟨x',hx'⟩:∃ x':FX,x'=⟨x.f,a4,c4,x.p++l,x.safe⟩:=⟨_,rfl⟩
  have hlen':x'.p.length=x.p.length+n:=by rw[hx'];simp[hll]
  have hE5:FXAt M5 x':=by
   refine⟨?_,?_⟩
   ·rw[hlen',hx'];exact hs5
   ·rw[hlen',hx'];have hw:=hN4.wr
    rw[←List.map_append] at hw;refine hw.mono fun q o hq ho=>hk5 _ _ (fun e=>?_) ho
    obtain⟨cs,hh⟩:=(hN4.block hq).2;rw[e] at hh;exact absurd (hh.inj hself4).1 (by decide)
  have hown5:∀ y,x'.own y→x.own y∨M3 y=none:=fun y hy=>by
   rw[hx'] at hy;rcases hy with rfl|hy
   ·exact .inl (.inl rfl)
   ·rcases hxa4 y hy with h1|h1
    ·exact .inl (.inr h1)
    ·exact .inr h1
  have hk35:Mem.keep x.own M3 M5:=fun y o hy ho=>hk5 _ _ (fun e=>hy (.inl e)) (hk4 _ _ (fun e=>hy (.inr e)) ho)
  have h5:=h3.turn hx hk35 hE5 (by rw[hx']) hown5;obtain⟨es5,hes5⟩:∃ es5,es5=zQ es3 s x':=⟨_,rfl⟩
  rw[←hes5] at h5
  have hrel5:RelD es5 (zaO D.l ⟨s,(zx D s).safe,(zx D s).tail++⟨l.toArray⟩⟩):=by
   rw[hes5,hes3 x'];exact hr.put (x:=x') (f:=⟨s,(zx D s).safe,(zx D s).tail++⟨l.toArray⟩⟩) (by rw[hx'];simp[cont,FileR.all,zad,ziX,hxp2,hxs])
  refine zR ?_;refine(zf0 h5 hdn (zaO D.l ⟨s,(zx D s).safe,(zx D s).tail++⟨l.toArray⟩⟩) hI.left.2).mono ?_;rintro v M6 ⟨rfl,h6,hk6⟩
  have e:zW D s l=(zbh D (zaO D.l ⟨s,(zx D s).safe,(zx D s).tail++⟨l.toArray⟩⟩),0):=by
   unfold zW;rw[if_neg (by simp[g1]),if_neg hfull]
  refine zR ?_;rw[e];have hkk:Mem.keep (zac p b es) M M6:=fun y o hy ho=>hk6 _ _ (fun e=>hy (.inl e)) (hk35 _ _ (fun e=>?_) (hk13 _ _ hy ho))
  ·refine⟨rfl,es5,h6,hrel5,hkk,fun y hy=>?_⟩;rw[hes5] at hy;rcases zhh hy h3.map.nodup with h1|h1
   ·exact hown3 y h1
   ·rcases hown5 y h1 with h2|h2
    ·exact hown3 y (.inr (.inr ⟨_,zN hx,h2⟩))
    ·right;cases e:M y with
     | none=>rfl
     | some z=>
      by_cases hb:zac p b es y
      ·exact absurd h2 (hful3 y hb)
      ·rw[hk13 _ _ hb e] at h2;cases h2
  ·rcases hown3 y (.inr (.inr ⟨_,zN hx,e⟩)) with h1|h1
   ·exact hy h1
   ·rw[h1] at ho;cases ho
 ·(conv=>whnf);(conv=>whnf);refine⟨M1,Mem.le_refl _,?_⟩;(conv=>whnf);refine on ((h.le hle1).self.c1 rfl) ?_;(conv=>whnf);refine⟨?_,True.intro⟩;(conv=>whnf);refine(zxY (h.le hle1) (by omega)).mono ?_;rintro v M2 ⟨rfl,hle2⟩;have hle12:=Mem.le_trans hle1 hle2
  rw[hu];refine zT (hle2) ?_;refine ob (zd (by have:=hI.limit;omega)) ?_;(conv=>whnf);refine brn (fun g2=>?_) (fun g2=>?_)
  ·replace g2:=Zd0 g2;have e:zW D s l=(D,6):=by unfold zW;rw[if_neg (by simp[g1]),if_pos (.inl (by omega))]
   refine zR ?_;rw[e];exact⟨rfl,es,.same h hr hle12⟩
  replace g2:=Zd1 g2;obtain⟨f,hf,hfn,hfp,hfs⟩:=hr.get hx
  have hfull:¬(D.limit - zaX D.l<l.length∨(zg D.l s=none∧64≤D.l.length)):=by
   rw[hf];simp;omega
  have hfile:zx D s=f:=by unfold zx;rw[hf];rfl
  rename Mem=>M3
  have h3:DAt M3 p b D es:=h.le hle12;have hl3:SrcOk M3 1 a n (l.map zl):=hl.le hle12
  have hx3l:x.p.length≤1048576:=by have:=zvZ (zN hx);dsimp only at this;omega
  have hxp2:x.p=bl (zx D s).safe++bl (zx D s).tail:=by rw[hfile,hfp,FileR.all,zad]
  have hxs:x.safe=(zx D s).safe.size:=by rw[hfile,hfs]
  obtain⟨es3,he3⟩:∃ es3,es3=es:=⟨_,rfl⟩
  rw[←he3] at h3 hx;have hes3:∀ x',zQ es3 s x'=zQ es s x':=fun x'=>by rw[he3]
  have hk13:Mem.keep (zac p b es) M M3:=Mem.keep_of_le hle12;have hown3:∀ y,zac p b es3 y→zac p b es y∨M y=none:=fun y hy => .inl (he3▸hy)
  have hful3:∀ y,zac p b es y→M3 y≠none:=fun y hy=>h3.full (he3▸hy)
  have hx3:FXAt M3 x:=h3.ents _ (zN hx);refine zR ?_;refine on (hx3.self.c1 rfl) ?_;(conv=>whnf)
  refine zdR hl3 ?_;(conv=>whnf);refine zge (M3.minus (z6 x.a)) _ (Wr.newSl hx3.row) (by omega) (by simp[maxLen];omega) (zco l) fun a4 c4 M4 hN4 hk4=>?_
  have hxa4:∀ y,z6 a4 y→z6 x.a y∨M3 y=none:=fun y ⟨q,hq,e⟩=>by
   have:=(hN4.block hq).1;rw[e] at this;exact Mem.minus_none this
  have hself4:M4.has x.f T.zA [.slice x.a x.p.length x.c,.int .i64 x.safe]:=hk4 _ _ (fun ⟨q,hq,e⟩=>by
   obtain⟨cs,hh⟩:=hx3.row.block hq;rw[e] at hh
   exact absurd (hh.inj hx3.self).1 (by decide)) hx3.self
  refine zR ?_;refine on hself4.cells ?_;(conv=>whnf);refine ob (by simp) ?_
  have hk5:Mem.keep (fun y=>y=x.f) M4 (M4.setCells x.f T.zA [.slice a4 (x.p.length+n) c4,.int .i64 x.safe]):=fun y o hy ho=>by
   unfold Mem.setCells;rw[Mem.upd_ne _ _ hy];exact ho
  have hs5:(M4.setCells x.f T.zA [.slice a4 (x.p.length+n) c4,.int .i64 x.safe]).has x.f T.zA [.slice a4 (x.p.length+n) c4,.int .i64 x.safe]:=Mem.has_setCells;obtain⟨M5,hM5⟩:∃ M5,M5=M4.setCells x.f T.zA [.slice a4 (x.p.length+n) c4,.int .i64 x.safe]:=⟨_,rfl⟩
  rw[←hM5] at hk5 hs5;(conv=>whnf)
  erw [←hM5];obtain⟨x',hx'⟩:∃ x':FX,x'=⟨x.f,a4,c4,x.p++l,x.safe⟩:=⟨_,rfl⟩
  have hlen':x'.p.length=x.p.length+n:=by rw[hx'];simp[hll]
  have hE5:FXAt M5 x':=by
   refine⟨?_,?_⟩
   ·rw[hlen',hx'];exact hs5
   ·rw[hlen',hx'];have hw:=hN4.wr
    rw[←List.map_append] at hw;refine hw.mono fun q o hq ho=>hk5 _ _ (fun e=>?_) ho
    obtain⟨cs,hh⟩:=(hN4.block hq).2;rw[e] at hh;exact absurd (hh.inj hself4).1 (by decide)
  have hown5:∀ y,x'.own y→x.own y∨M3 y=none:=fun y hy=>by
   rw[hx'] at hy;rcases hy with rfl|hy
   ·exact .inl (.inl rfl)
   ·rcases hxa4 y hy with h1|h1
    ·exact .inl (.inr h1)
    ·exact .inr h1
  have hk35:Mem.keep x.own M3 M5:=fun y o hy ho=>hk5 _ _ (fun e=>hy (.inl e)) (hk4 _ _ (fun e=>hy (.inr e)) ho)
  have h5:=h3.turn hx hk35 hE5 (by rw[hx']) hown5;obtain⟨es5,hes5⟩:∃ es5,es5=zQ es3 s x':=⟨_,rfl⟩
  rw[←hes5] at h5
  have hrel5:RelD es5 (zaO D.l ⟨s,(zx D s).safe,(zx D s).tail++⟨l.toArray⟩⟩):=by
   rw[hes5,hes3 x'];exact hr.put (x:=x') (f:=⟨s,(zx D s).safe,(zx D s).tail++⟨l.toArray⟩⟩) (by rw[hx'];simp[cont,FileR.all,zad,ziX,hxp2,hxs])
  refine zR ?_;refine(zf0 h5 hdn (zaO D.l ⟨s,(zx D s).safe,(zx D s).tail++⟨l.toArray⟩⟩) hI.left.2).mono ?_;rintro v M6 ⟨rfl,h6,hk6⟩
  have e:zW D s l=(zbh D (zaO D.l ⟨s,(zx D s).safe,(zx D s).tail++⟨l.toArray⟩⟩),0):=by
   unfold zW;rw[if_neg (by simp[g1]),if_neg hfull]
  refine zR ?_;rw[e];have hkk:Mem.keep (zac p b es) M M6:=fun y o hy ho=>hk6 _ _ (fun e=>hy (.inl e)) (hk35 _ _ (fun e=>?_) (hk13 _ _ hy ho))
  ·refine⟨rfl,es5,h6,hrel5,hkk,fun y hy=>?_⟩;rw[hes5] at hy;rcases zhh hy h3.map.nodup with h1|h1
   ·exact hown3 y h1
   ·rcases hown5 y h1 with h2|h2
    ·exact hown3 y (.inr (.inr ⟨_,zN hx,h2⟩))
    ·right;cases e:M y with
     | none=>rfl
     | some z=>
      by_cases hb:zac p b es y
      ·exact absurd h2 (hful3 y hb)
      ·rw[hk13 _ _ hb e] at h2;cases h2
  ·rcases hown3 y (.inr (.inr ⟨_,zN hx,e⟩)) with h1|h1
   ·exact hy h1
   ·rw[h1] at ho;cases ho
end
section
variable {M:Mem}
theorem zCU (a:Option Addr) (n c:Nat):CallsM Tryz.prog F.zik [.slice a n c] M fun v M'=>∃ B,v = .func (.func F.zhb) #[] #[.pointer (some ⟨B,0,none⟩)]∧M B=none∧M'=M.setCells B T.zaK [.slice a n c]:=by
 refine zsN (by simp) ?_;(conv=>whnf);refine new (fun b hb=>?_);replace hb:M b=none:=hb;refine zR ?_;exact⟨b,rfl,hb,rfl⟩
def znR (xs:List zfB):Int:=match xs.getLast? with|none=>0|some x=>x.at'+8+x.n
theorem zti (pre:List zfB) (x:zfB):znR (pre++[x])=x.at'+8+x.n:=by simp[znR]
theorem AtX.split {x:zfB}:∀ {k:Nat} {xs:List zfB},AtX k (xs++[x])→AtX k xs∧x.at'=k+zae (xs.map (·.p))∧x.n=x.p.length
 | k,[],⟨h1,h2,_⟩=>⟨trivial,by simpa[zae] using h1,h2⟩
 | k,y::r,⟨h3,h4,h5⟩=>by
  obtain⟨h6,h7,h8⟩:=h5.split;exact⟨⟨h3,h4,h6⟩,by rw[h7];simp[zae];omega,h8⟩
theorem AtX.end {xs:List zfB} (h:AtX 0 xs):znR xs=zae (xs.map (·.p)):=by
 rcases List.eq_nil_or_concat xs with rfl|⟨pre,x,rfl⟩
 ·rfl
 ·rw[List.concat_eq_append] at h ⊢;obtain⟨-, h2,h3⟩:=h.split;rw[zti,List.map_append,zlb,h2,h3];simp[zae];omega
@[reducible] def slX (x:zfB):Value := .slice x.a x.n x.c
theorem zCV (x:zfB):∀ u∈[slX x],u.oneCell'=true:=fun u hu=>by simp at hu;subst hu;rfl
structure IX (b1 b2:Nat) (pre:List zfB) (M:Mem):Prop where
 out:∃ a c,M.has b1 T.zbo [.slice a pre.length c]∧Wr M T.zaK 1 a pre.length c (pre.map slX)
 end':M.has b2 T.zr [.int .i64 (znR pre)]
 rows:∀ x∈pre,Wr M T.zn 1 x.a x.n x.c (x.p.map zl)
def BytesW (M:Mem) (cs:List Value) (x:List UInt8):Prop:=∃ a n c,cs=[.slice a n c]∧Wr M T.zn 1 a n c (x.map zl)
theorem BytesW.le {M M':Mem} {cs:List Value} {x:List UInt8} (h:BytesW M cs x) (hle:M.le M'):BytesW M' cs x:=by
 obtain⟨a,n,c,h1,h2⟩:=h;exact⟨a,n,c,h1,h2.le hle⟩
theorem zCW {a:Option Addr} {n c:Nat} {l:List UInt8} (hs:SrcOk M 1 a n (l.map zl)) (hn:n≤2097152) (hnc:n≤c):CallsM Tryz.prog F.zii [.slice a n c] M fun v M'=>
  ∃ a' n' c',v = .tuple #[.slice a' n' c',.int .i64 (zae (zaN l):Nat)]∧NewEls M T.zaK 1 a' n' c' (BytesW M') (zaN l) M':=by
 refine zsL (by simp) ?_;refine zR ?_;refine(zCU a n c).mono ?_;rintro v M1 ⟨B,rfl,hB,hM1⟩;have hle1:M.le M1:=hM1▸Mem.le_setCells hB
 have hB1:M1.has B T.zaK [.slice a n c]:=hM1▸Mem.has_setCells;(conv=>whnf);refine⟨rfl,?_⟩;(conv=>whnf);refine new (fun b1 hb1=>?_);replace hb1:M1 b1=none:=hb1;(conv=>whnf);refine new (fun b2 hb2=>?_);replace hb2:(M1.setCells b1 T.zbo [.slice none 0 0]) b2=none:=hb2
 have hne:b2≠b1:=fun e=>by
  rw[e] at hb2;have h1:=Mem.has_setCells (M:=M1) (b:=b1) (E:=T.zbo) (l:=[.slice none 0 0])
  unfold Mem.has at h1;rw[h1] at hb2;cases hb2
 have hle2:M1.le (M1.setCells b1 T.zbo [.slice none 0 0]):=Mem.le_setCells hb1;have hle3:(M1.setCells b1 T.zbo [.slice none 0 0]).le ((M1.setCells b1 T.zbo [.slice none 0 0]).setCells b2 T.zr [.int .i64 0]):=Mem.le_setCells hb2
 have h1b1:=Mem.has.le hle3 (Mem.has_setCells (M:=M1) (b:=b1) (E:=T.zbo) (l:=[.slice none 0 0]));have h1b2:=Mem.has_setCells (M:=M1.setCells b1 T.zbo [.slice none 0 0]) (b:=b2) (E:=T.zr) (l:=[.int .i64 0])
 have hb21:M1 b2=none:=by
  cases e:M1 b2 with
  | none=>rfl
  | some o=>rw[hle2 _ _ e] at hb2;cases hb2
 obtain⟨M3,hM3⟩:∃ M3,M3=(M1.setCells b1 T.zbo [.slice none 0 0]).setCells b2 T.zr [.int .i64 0]:=⟨_,rfl⟩
 rw[←hM3] at hle3 h1b1 h1b2;obtain⟨M0,hM0⟩:∃ M0:Mem,M0=M3.minus (fun y=>y≠b1∧y≠b2):=⟨_,rfl⟩
 have h01:M0 b1=M3 b1:=by rw[hM0];unfold Mem.minus;rw[if_neg (by simp)]
 have h02:M0 b2=M3 b2:=by rw[hM0];unfold Mem.minus;rw[if_neg (by simp)]
 (conv=>whnf);erw [←hM3];refine zD7 (zCS (A:=M1) (hs.le hle1) hn hnc hB1) (by kernel_rfl) rfl (Mem.le_trans hle2 hle3) (fun _=>rfl) (IX b1 b2) M0 (hM0▸Mem.minus_le _ _) (fun b hb=>?_) ⟨⟨none,0,?_,?_⟩,?_,by simp⟩ ?_ ?_
 ·rw[hM0];refine Mem.minus_in ⟨fun e=>?_,fun e=>?_⟩
  ·rw[e] at hb;exact hb hb1
  ·rw[e] at hb;exact hb hb21
 ·unfold Mem.has at h1b1 ⊢; rw[h01];exact h1b1
 ·unfold Wr;exact⟨rfl,Nat.le_refl _,.inl ⟨rfl,rfl⟩⟩
 ·unfold Mem.has at h1b2 ⊢; rw[h02];exact h1b2
 ·rintro pre x Mb Mx Mc ⟨⟨a2,c2,ho1,ho2⟩,he,hrows⟩ hlt ⟨hx1,hx2,hx3,hx4⟩ hfr hle4 hle5;have g1:Mc.has b1 T.zbo [.slice a2 pre.length c2]:=Mem.has.le hle4 ho1
  have g2:Mc.has b2 T.zr [.int .i64 (znR pre)]:=Mem.has.le hle4 he;have g3:=ho2.le hle4
  have hex:=zti pre x;obtain⟨at',xa,xn,xc,xp⟩:=x;dsimp only at hx1 hx2 hx3 hx4 hex;refine zR ?_;refine⟨rfl,?_⟩;refine zR ?_;refine on (g1.c1 rfl) ?_;refine zR ?_;refine zge (Mc.minus (z6 a2)) _ (Wr.newSl g3) (by omega) (by simp[maxLen];omega) (zCV ⟨at',xa,xn,xc,xp⟩) fun a4 c4 M4 hN4 hk4=>?_
  have hb1n:¬z6 a2 b1:=fun ⟨q,hq,e⟩=>by
   obtain⟨cs,hh⟩:=g3.block hq;rw[e] at hh;exact absurd (hh.inj g1).1 (by decide)
  have hb2n:¬z6 a2 b2:=fun ⟨q,hq,e⟩=>by
   obtain⟨cs,hh⟩:=g3.block hq;rw[e] at hh;exact absurd (hh.inj g2).1 (by decide)
  have k1:M4.has b1 T.zbo [.slice a2 pre.length c2]:=hk4 _ _ hb1n g1;have k2:M4.has b2 T.zr [.int .i64 (znR pre)]:=hk4 _ _ hb2n g2
  have k3:=hN4.wr
  have hb4:∀ q,a4=some q→q.block≠b1∧q.block≠b2:=fun q hq=>by
   obtain⟨cs,hh⟩:=k3.block hq;refine⟨fun e=>?_,fun e=>?_⟩
   ·rw[e] at hh;exact absurd (hh.inj k1).1 (by decide)
   ·rw[e] at hh;exact absurd (hh.inj k2).1 (by decide)
  have krows:∀ y∈pre++[⟨at',xa,xn,xc,xp⟩],Wr M4 T.zn 1 y.a y.n y.c (y.p.map zl):=fun y hy=>by
   have hy1:Wr Mc T.zn 1 y.a y.n y.c (y.p.map zl):=by
    rcases List.mem_append.1 hy with hy|hy
    ·exact(hrows y hy).le hle4
    ·simp at hy;subst hy;exact hx3.le hle5
   refine hy1.mono fun q o hq ho=>hk4 _ _ (fun ⟨q2,hq2,e2⟩=>?_) ho
   obtain⟨cs,hh⟩:=g3.block hq2;obtain⟨cs2,hh2⟩:=hy1.block hq;rw[e2] at hh;exact absurd (hh.inj hh2).1 (by decide)
  refine zR ?_;refine on k1.cells ?_;(conv=>whnf);refine ob (by simp) ?_
  have hk5:Mem.keep (fun y=>y=b1) M4 (M4.setCells b1 T.zbo [.slice a4 (pre.length+1) c4]):=fun y o hy ho=>by
   unfold Mem.setCells;rw[Mem.upd_ne _ _ hy];exact ho
  have m1:(M4.setCells b1 T.zbo [.slice a4 (pre.length+1) c4]).has b1 T.zbo [.slice a4 (pre.length+1) c4]:=Mem.has_setCells;obtain⟨M5,hM5⟩:∃ M5,M5=M4.setCells b1 T.zbo [.slice a4 (pre.length+1) c4]:=⟨_,rfl⟩
  rw[←hM5] at hk5 m1;have m2:M5.has b2 T.zr [.int .i64 (znR pre)]:=hk5 _ _ hne k2
  (conv=>whnf);erw [←hM5];refine ob (zd (by first|omega|(dsimp only;omega))) ?_;(conv=>whnf);refine ob (zd (by first|omega|(dsimp only;omega))) ?_;(conv=>whnf);refine on m2.cells ?_;(conv=>whnf);refine ob (by simp) ?_
  have hk6:Mem.keep (fun y=>y=b2) M5 (M5.setCells b2 T.zr [.int .i64 (at'+8+xn)]):=fun y o hy ho=>by
   unfold Mem.setCells;rw[Mem.upd_ne _ _ hy];exact ho
  have p2:(M5.setCells b2 T.zr [.int .i64 (at'+8+xn)]).has b2 T.zr [.int .i64 (at'+8+xn)]:=Mem.has_setCells;obtain⟨M6,hM6⟩:∃ M6,M6=M5.setCells b2 T.zr [.int .i64 (at'+8+xn)]:=⟨_,rfl⟩
  rw[←hM6] at hk6 p2;(conv=>whnf)
  refine⟨rfl,M6,⟨⟨a4,c4,?_,?_⟩,?_,fun y hy=>?_⟩,hM6▸Mem.le_refl _⟩
  ·rw[List.length_append];exact hk6 _ _ (Ne.symm hne) m1
  ·rw[List.length_append,List.map_append];refine k3.mono fun q o hq ho=>hk6 _ _ (hb4 q hq).2 (hk5 _ _ (hb4 q hq).1 ho)
  ·rw[hex];exact p2
  ·have hy1:=krows y hy;refine hy1.mono fun q o hq ho=>?_
   obtain⟨cs2,hh2⟩:=hy1.block hq;refine hk6 _ _ (fun e=>?_) (hk5 _ _ (fun e=>?_) ho)
   ·rw[e] at hh2;exact absurd (hh2.inj k2).1 (by decide)
   ·rw[e] at hh2;exact absurd (hh2.inj k1).1 (by decide)
 ·rintro xs Mb Mc ⟨hD1,hD2⟩ ⟨⟨a2,c2,ho1,ho2⟩,he,hrows⟩ hdj hle4 hle5;have g1:Mc.has b1 T.zbo [.slice a2 xs.length c2]:=Mem.has.le hle4 ho1
  have g2:Mc.has b2 T.zr [.int .i64 (znR xs)]:=Mem.has.le hle4 he;refine zR ?_;refine on (g1.c1 rfl) ?_;(conv=>whnf);refine on (g2.c1 rfl) ?_;refine zR ?_;refine⟨a2,xs.length,c2,?_,?_⟩
  ·rw[hD2.end,hD1]
  ·have hlen:(zaN l).length=xs.length:=by rw[←hD1];simp
   unfold NewEls;refine⟨xs.map fun x=>[slX x],?_,by simp,hlen,by simp,fun i cs p hi hp=>?_⟩
   ·have e:(xs.map fun x=>[slX x]).flatten=xs.map slX:=by
     clear g1 g2 ho1 ho2 he hrows hlen hD1 hD2
     induction xs with
     | nil=>rfl
     | cons y r ih=>simp[ih]
    rw[e];refine newSl_iff.2 ⟨Mem.le_trans hle1 hle5,?_⟩;unfold Wr at ho2;obtain⟨w1,w2,w3⟩:=ho2;refine⟨w1,w2,w3.imp id fun ⟨b,cs,ha,hh,hr⟩=>⟨b,cs,ha,?_,hh.le hle4,hr⟩⟩;cases e:M b with
    | none=>rfl
    | some o=>
     have:=hdj b (by rw[hle1 _ _ e];simp);unfold Mem.has at hh;rw[hh] at this;cases this
   ·rw[List.getElem?_map] at hi;cases hx:xs[i]? with
    | none=>rw[hx] at hi;cases hi
    | some x=>
     rw[hx] at hi;simp at hi;subst hi;rw[←hD1,List.getElem?_map,hx] at hp;simp at hp;subst hp;have hw:=(hrows x (List.mem_of_getElem? hx)).le hle4
     exact⟨x.a,x.n,x.c,rfl,hw⟩
end
section
variable {M:Mem}
def kk (k:Int):Nat→Int
 | 0=>k
 | j+1=>(kk k j).tdiv 10
def dgI (k:Int) (j:Nat):Int:=IntKind.u8.wrap (48+(kk k j).tmod 10)
def dgB (k:Int) (j:Nat):UInt8:=UInt8.ofNat (48+(kk k j).tmod 10).toNat
theorem zf1 {k:Int} (h:0≤k):∀ j,0≤kk k j
 | 0=>h
 | j+1=>by rw[kk];exact Int.tdiv_nonneg (zf1 h j) (by decide)
theorem zCq {k:Int} (h:0≤k) (h2:k≤99999):∀ j,kk k j≤99999
 | 0=>h2
 | j+1=>by
  have h1:=zf1 h j;have h3:=zCq h h2 j
  rw[kk,Int.tdiv_eq_ediv_of_nonneg h1];omega
theorem zEG {k:Int} (h:0≤k) (j:Nat):Value.int .u8 (dgI k j)=zl (dgB k j):=by
 have h1:=zf1 h j;have h2:(kk k j).tmod 10=kk k j % 10:=Int.tmod_eq_emod_of_nonneg h1
 have e:dgI k j=(48+(kk k j).tmod 10) % 256:=by simp[dgI,IntKind.wrap,IntKind.signed,IntKind.bits]
 rw[e];simp only[zl,dgB];congr 1;rw[h2];simp;omega
def zc (k:Int):ByteArray:=if k<1∨99999<k then ByteArray.empty else ⟨#[119,dgB k 4,dgB k 3,dgB k 2,dgB k 1,dgB k 0]⟩
def zrz (k:Int) (i j:Nat):Value:=if j<i then .int .u8 (dgI k j) else .int .u8 0
theorem zei (k:Int):CallsM Tryz.prog F.zcu [.int .i64 k] M fun v M'=>v = .string (zc k)∧M.le M':=by
 refine zxk (by simp) ?_;have hempty:(k<1∨99999<k)→zc k=ByteArray.empty:=fun h=>by unfold zc;rw[if_pos h]
 refine zR ?_;refine brn (fun g=>?_) (fun g=>?_)
 ·refine zR ?_;exact⟨by rw[hempty (.inl (Zd0 g))],Mem.le_refl _⟩
 have g1:¬k<1:=Zd1 g;refine zR ?_;refine brn (fun g=>?_) (fun g=>?_)
 ·refine zR ?_;exact⟨by rw[hempty (.inr (Zd0 g))],Mem.le_refl _⟩
 have g2:¬99999<k:=Zd1 g;have hnn:0≤k:=by omega
 refine zR ?_;refine za6 (σ:=Nat) [11,0] (fun i=>[(11,.int .i64 i),(0,.int .i64 (kk k i))]) (fun i=>[.live T.ziG [.v (zrz k i 4),.v (zrz k i 3),.v (zrz k i 2),.v (zrz k i 1),.v (zrz k i 0)]]) (fun _=>M) (fun i=>i≤5) (fun i=>5 - i) 0 (by omega) zS ?_;intro i hi;have hkn:=zf1 hnn i
 (conv=>whnf);refine brn (fun g=>?_) (fun g=>?_)
 ·have hlt:i<5:=by have:=Zd0 g;omega
  have hk9:kk k i≤99999:=zCq hnn (by omega) i;have hm:0≤(kk k i).tmod 10∧(kk k i).tmod 10<10:=by rw[Int.tmod_eq_emod_of_nonneg hkn];omega
  have hd:0≤(kk k i).tdiv 10∧(kk k i).tdiv 10≤99999:=by rw[Int.tdiv_eq_ediv_of_nonneg hkn];omega
  match i,hlt,hkn,hk9,hm,hd with
  | 0,_,hkn,hk9,hm,hd=>
   repeat' ((conv=>whnf);first|refine ob (zd (by omega)) ?_|refine ob (by decide) ?_|refine ob (by omega) ?_|fail)
   (conv=>whnf);exact⟨0+1,by omega,by omega,zS⟩
  | 1,_,hkn,hk9,hm,hd=>
   repeat' ((conv=>whnf);first|refine ob (zd (by omega)) ?_|refine ob (by decide) ?_|refine ob (by omega) ?_|fail)
   (conv=>whnf);exact⟨1+1,by omega,by omega,zS⟩
  | 2,_,hkn,hk9,hm,hd=>
   repeat' ((conv=>whnf);first|refine ob (zd (by omega)) ?_|refine ob (by decide) ?_|refine ob (by omega) ?_|fail)
   (conv=>whnf);exact⟨2+1,by omega,by omega,zS⟩
  | 3,_,hkn,hk9,hm,hd=>
   repeat' ((conv=>whnf);first|refine ob (zd (by omega)) ?_|refine ob (by decide) ?_|refine ob (by omega) ?_|fail)
   (conv=>whnf);exact⟨3+1,by omega,by omega,zS⟩
  | 4,_,hkn,hk9,hm,hd=>
   repeat' ((conv=>whnf);first|refine ob (zd (by omega)) ?_|refine ob (by decide) ?_|refine ob (by omega) ?_|fail)
   (conv=>whnf);exact⟨4+1,by omega,by omega,zS⟩
 ·have hi5:i=5:=by have:=Zd1 g;omega
  subst hi5;refine zR ?_;refine new (fun b1 hb1=>?_);replace hb1:M b1=none:=hb1;obtain⟨M2,hM2⟩:∃ M2,M2=M.setCells b1 T.ziG [.int .u8 (dgI k 4),.int .u8 (dgI k 3),.int .u8 (dgI k 2),.int .u8 (dgI k 1),.int .u8 (dgI k 0)]:=⟨_,rfl⟩
  have hN:NewSl M T.ziG 1 (some ⟨b1,0,none⟩) 5 5 ([dgB k 4,dgB k 3,dgB k 2,dgB k 1,dgB k 0].map zl) M2:=by
   rw[hM2];simp only[zEG hnn];exact NewSl.lit hb1 T.ziG 1 5 _ rfl
  (conv=>whnf);erw [←hM2];refine zR ?_;refine zyD hN.src ?_;(conv=>whnf);refine ob (by show 1+5≤_;decide) ?_;refine zR ?_;refine⟨?_,hN.le⟩;unfold zc;rw[if_neg (by omega)];rfl
end
section
variable {M:Mem}
def zdA (k:Int):Nat→Int
 | 0=>0
 | j+1=>10*zdA k j+IntKind.i64.wrap (((dgB k (4 - j)).toNat:Int) - 48)
@[reducible] def zf2 (k:Int):ByteArray:=⟨#[dgB k 4,dgB k 3,dgB k 2,dgB k 1,dgB k 0]⟩
@[reducible] def zhQ (k:Int):ByteArray:=⟨#[119,dgB k 4,dgB k 3,dgB k 2,dgB k 1,dgB k 0]⟩
theorem zfD {k:Int} (h:¬(k<1∨99999<k)):zc k=zhQ k:=by unfold zc;rw[if_neg h]
theorem zxZ {n:Int} (h : -2147483648≤n∧n≤2147483647):inR .i32 n:=by
 simp[inR,IntKind.wrap,IntKind.signed,IntKind.bits];omega
theorem zbx {k:Int} (h:0≤k) (j:Nat):((dgB k j).toNat:Int)=48+kk k j % 10:=by
 have h1:=zf1 h j;have h2:(kk k j).tmod 10=kk k j % 10:=Int.tmod_eq_emod_of_nonneg h1
 unfold dgB;rw[h2];simp;omega
theorem zma {n:Int} (h:0≤n∧n≤100):IntKind.i64.wrap n=n:=by
 simp[IntKind.wrap,IntKind.signed,IntKind.bits];omega
theorem zh4 {k:Int} (h:0≤k) (j:Nat):zdA k (j+1)=10*zdA k j+kk k (4 - j) % 10:=by
 rw[zdA,zbx h,zma (by omega)];omega
theorem zmb {k:Int} (h:0≤k) (h2:k≤99999):zdA k 1=k / 10000∧zdA k 2=k / 1000∧zdA k 3=k / 100∧zdA k 4=k / 10∧zdA k 5=k:=by
 have a0:kk k 0=k:=rfl;have a1:kk k 1=k / 10:=by show (kk k 0).tdiv 10=_;rw[Int.tdiv_eq_ediv_of_nonneg (zf1 h 0)];rfl
 have a2:kk k 2=k / 100:=by show (kk k 1).tdiv 10=_;rw[Int.tdiv_eq_ediv_of_nonneg (zf1 h 1),a1];omega
 have a3:kk k 3=k / 1000:=by show (kk k 2).tdiv 10=_;rw[Int.tdiv_eq_ediv_of_nonneg (zf1 h 2),a2];omega
 have a4:kk k 4=k / 10000:=by show (kk k 3).tdiv 10=_;rw[Int.tdiv_eq_ediv_of_nonneg (zf1 h 3),a3];omega
 have b1:zdA k 1=10*zdA k 0+kk k 4 % 10:=zh4 h 0;have b2:zdA k 2=10*zdA k 1+kk k 3 % 10:=zh4 h 1
 have b3:zdA k 3=10*zdA k 2+kk k 2 % 10:=zh4 h 2;have b4:zdA k 4=10*zdA k 3+kk k 1 % 10:=zh4 h 3
 have b5:zdA k 5=10*zdA k 4+kk k 0 % 10:=zh4 h 4;have b0:zdA k 0=0:=rfl
 omega
theorem ziY (k:Int):(zhQ k).toList.getD 0 0=119:=by
 simp[zhQ,ByteArray.toList,ByteArray.toList.loop,ByteArray.size,ByteArray.get!]
def zfu (s:ByteArray):Prop:=s.size≠6∨((s.toList.getD 0 0).toNat:Int)≠119
theorem zpc {s:ByteArray} (h:zfu s):CallsM Tryz.prog F.zha [.string s] M fun v M'=>v = .int .i64 0∧M=M':=by
 refine zmL (by simp) ?_;(conv=>whnf);refine brn (fun e=>?_) (fun e=>?_)
 ·refine zR ?_;exact⟨rfl,rfl⟩
 ·have e1:s.size=6:=by have:(s.size:Int)=6:=by simpa using e
                       omega
  (conv=>whnf);refine ob (by rw[e1];decide) ?_;(conv=>whnf);refine brn_t (by rcases h with h|h<;>simp_all) ?_;refine zR ?_;exact⟨rfl,rfl⟩
theorem ztj (k:Int) (h:¬(k<1∨99999<k)):CallsM Tryz.prog F.zha [.string (zc k)] M fun v M'=>v = .int .i64 k∧M.le M':=by
 refine zmL (by simp) ?_;rw[zfD h];refine zR ?_;refine ob (by show (0:Int)≤0∧(0:Int)<((6:Nat):Int);decide) ?_;refine zR ?_;refine brn_f (by show (!decide ((((zhQ k).toList.getD 0 0).toNat:Int)=119))=false;rw[ziY];decide) ?_;refine zR ?_;refine ob (by show (0:Int)≤1∧(1:Int)≤((6:Nat):Int)∧((6:Nat):Int)≤((6:Nat):Int);decide) ?_;refine zR ?_;refine new (fun b1 hb1=>?_);replace hb1:M b1=none:=hb1;have hnn:0≤k:=by omega
 have hdlt:∀ j,(dgB k j).toNat<128:=fun j=>by have:=zbx hnn j;omega
 have htl:(zhQ k).extract (1:Int).toNat (((zhQ k).size:Nat):Int).toNat=zf2 k:=rfl;(conv=>whnf)
 refine za6 (σ:=Nat) [3] (fun i=>[(3,.int .i64 (zdA k i))]) (fun _=>[]) (fun i=>M.upd b1 (.stringIter (zf2 k) i)) (fun i=>i≤5) (fun i=>5 - i) 0 (by omega) zS ?_;intro i hi;have hsit:(M.upd b1 (.stringIter (zf2 k) i)).sitAt b1=some (zf2 k,i):=by simp[Mem.sitAt,Mem.upd]
 (conv=>whnf);refine on hsit ?_;(conv=>whnf)
 refine⟨fun hlt=>⟨?_,?_⟩,fun hno=>?_⟩
 ·have hi5:i<5:=hlt
  match i,hi5 with
  | 0,_=>exact hdlt 4
  | 1,_=>exact hdlt 3
  | 2,_=>exact hdlt 2
  | 3,_=>exact hdlt 1
  | 4,_=>exact hdlt 0
 ·have hi5:i<5:=hlt;have hb:48≤((dgB k (4 - i)).toNat:Int)∧((dgB k (4 - i)).toNat:Int)≤57:=by have:=zbx hnn (4 - i);omega
  have ha:0≤zdA k i∧zdA k i≤99999:=by
   obtain⟨c1,c2,c3,c4,c5⟩:=zmb hnn (by omega)
   match i,hi5 with
   | 0,_=>show (0:Int)≤0∧(0:Int)≤99999;omega
   | 1,_=>omega
   | 2,_=>omega
   | 3,_=>omega
   | 4,_=>omega
  have hget:((zf2 k).get! i)=dgB k (4 - i):=by
   match i,hi5 with
   | 0,_=>rfl
   | 1,_=>rfl
   | 2,_=>rfl
   | 3,_=>rfl
   | 4,_=>rfl
  rw[hget];(conv=>whnf);refine brn_t rfl ?_;(conv=>whnf)
  refine ob (zd (by omega)) ?_;(conv=>whnf)
  refine ob (zxZ (by omega)) ?_;(conv=>whnf)
  refine ob (zd ?_) ?_
  ·rw[zma (by omega)];omega
  (conv=>whnf);refine⟨i+1,by omega,by omega,?_⟩;refine⟨(by repeat' first|exact True.intro|refine⟨rfl,?_⟩),(by repeat' first|exact True.intro|refine⟨rfl,?_⟩),?_,rfl⟩;dsimp only;rw[Mem.upd_upd];exact Mem.le_refl _
 ·have hi5:i=5:=by have:¬i<5:=hno;omega
  subst hi5;obtain⟨-, -, -, -, c5⟩:=zmb hnn (by omega);(conv=>whnf);refine brn_f rfl ?_;refine zR ?_;rw[c5];refine(zei k).mono ?_;rintro v M3 ⟨rfl,hle3⟩;rw[zfD h];(conv=>whnf);refine brn_f (by simp) ?_;refine zR ?_;exact⟨rfl,Mem.le_trans (Mem.le_upd hb1) hle3⟩
end
end Go.Proofs.YtpdkkbpkplhdpaaGreat
