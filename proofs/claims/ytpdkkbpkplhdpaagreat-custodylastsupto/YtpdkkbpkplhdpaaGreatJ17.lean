/- Part of this proof;laid by program. -/
import Derived.Test.YtpdkkbpkplhdpaaGreatJ11
import Derived.Test.YtpdkkbpkplhdpaaGreatJ16
import Derived.Test.YtpdkkbpkplhdpaaGreatJ10
set_option linter.unusedVariables false
set_option linter.unusedSimpArgs false
namespace Go.Proofs.YtpdkkbpkplhdpaaGreat
open Go Go.Vm
attribute [local irreducible] Brn Ob Grow CallsM inR zax zav Mem.row Mem.cells Mem.setCells Mem.upd Go.Vm.Own zaD za5 zbc zaJ New SrcOk subA NewSl Mem.textAt Mem.mapAt Mem.iterAt zau zaj Wr NewEls Elems
set_option maxRecDepth 10000
section
@[reducible] def keyV (k:Int×Int):Value := .agg #[.int .i64 k.1,.int .i64 k.2]
theorem zsU:zku keyV:=by
 intro a b;obtain⟨a1,a2⟩:=a;obtain⟨b1,b2⟩:=b;simp only[zfN,zb2,if_true,Prod.mk.injEq]
 (repeat' split)<;>simp_all
structure Ent where
 r:Nat
 a:Option Addr
 c:Nat
 up:Int
 more:List Int
def RowI (M:Mem) (a:Option Addr) (c:Nat) (l:List Int):Prop:=
 (l.length≤c∧c≤maxLen)∧((a=none∧c=0)∨∃ b o cs,a=some ⟨b,o,none⟩∧M.has b T.zr cs∧o+c≤cs.length∧(cs.drop o).take l.length=l.map zaa)
structure EntAt (M:Mem) (x:Ent):Prop where
 self:M.has x.r T.zab [.int .i64 x.up,.slice x.a x.more.length x.c]
 more:RowI M x.a x.c x.more
theorem RowI.src {M:Mem} {a:Option Addr} {c:Nat} {l:List Int} (h:RowI M a c l):SrcOk M 1 a l.length (l.map zaa):=by
 obtain⟨hc,⟨rfl,rfl⟩|⟨b,o,cs,rfl,hh,ho,ht⟩⟩:=h
 ·have:l=[]:=List.eq_nil_of_length_eq_zero (by omega);subst this;unfold SrcOk;exact⟨rfl,.inl rfl⟩
 ·unfold SrcOk;refine⟨by simp,.inr ⟨b,o,rfl,?_⟩⟩;rw[hh.row (by omega),Nat.mul_one];rw[ht]
theorem RowI.mono {M M':Mem} {a:Option Addr} {c:Nat} {l:List Int} (h:RowI M a c l) (hk:∀ q o,a=some q→M q.block=some o→M' q.block=some o):RowI M' a c l:=by
 obtain⟨hc,h1|⟨b,o,cs,rfl,hh,hr⟩⟩:=h
 ·exact⟨hc,.inl h1⟩
 ·exact⟨hc,.inr ⟨b,o,cs,rfl,hk _ _ rfl hh,hr⟩⟩
theorem RowI.block {M:Mem} {a:Option Addr} {c:Nat} {l:List Int} (h:RowI M a c l) {q:Addr} (hq:a=some q):∃ cs,M.has q.block T.zr cs:=by
 obtain⟨hc,⟨h1,_⟩|⟨b,o,cs,rfl,hh,hr⟩⟩:=h
 ·rw[h1] at hq;cases hq
 ·cases hq;exact⟨cs,hh⟩
def Ent.own (x:Ent):Nat→Prop:=fun y=>y=x.r∨z6 x.a y
theorem EntAt.mono {M M':Mem} {x:Ent} (h:EntAt M x) (hk:∀ y o,x.own y→M y=some o→M' y=some o):EntAt M' x:=
 ⟨hk _ _ (.inl rfl) h.self,h.more.mono fun q o hq=>hk _ o (.inr ⟨q,hq,rfl⟩)⟩
theorem EntAt.le {M M':Mem} {x:Ent} (h:EntAt M x) (hle:M.le M'):EntAt M' x:=h.mono fun y o _=>hle y o
def zEc (x y:Ent):Prop:=∀ z,x.own z→¬y.own z
@[reducible] def zfE (x:Ent):Value:=ptr x.r
structure SetAt (M:Mem) (p b:Nat) (gaps:Int) (es:List ((Int×Int)×Ent)):Prop where
 self:M.has p T.zqY [.int .i64 gaps,.map (some b)]
 map:MapAt keyV zfE M b es
 ents:∀ q∈es,EntAt M q.2
 apart:es.Pairwise fun x y=>zEc x.2 y.2
theorem SetAt.le {M M':Mem} {p b:Nat} {gaps:Int} {es:List ((Int×Int)×Ent)} (h:SetAt M p b gaps es) (hle:M.le M'):SetAt M' p b gaps es:=
 ⟨h.self.le hle,h.map.mono fun o=>hle _ o,fun q hq=>(h.ents q hq).le hle,h.apart⟩
theorem EntAt.nomap {M:Mem} {x:Ent} (h:EntAt M x) {b:Nat} {es:List ((Int×Int)×Ent)} (hm:MapAt keyV zfE M b es):¬x.own b:=by
 rintro (e|⟨q,hq,e⟩)
 ·exact hm.nb h.self e.symm
 ·obtain⟨cs,hh⟩:=h.more.block hq;exact hm.nb hh e
variable {M:Mem} {p b:Nat} {gaps:Int} {es:List ((Int×Int)×Ent)}
theorem zAC (gaps:Int):CallsM Tryz.prog F.zg5 [.int .i64 gaps] M fun v M'=>
  ((gaps<0∨256<gaps)∧v = .tuple #[.pointer none,.int .i64 1]∧M'=M) ∨
  (¬(gaps<0∨256<gaps)∧∃ p b,v = .tuple #[ptr p,.int .i64 0]∧M p=none∧M b=none∧M.le M'∧SetAt M' p b gaps []):=by
 refine zxa (by simp) ?_;(conv=>whnf);refine brn (fun h=>?_) (fun h=>?_)
 ·refine zR ?_;exact .inl ⟨.inl (Zd0 h),rfl,rfl⟩
 (conv=>whnf);refine brn (fun h1=>?_) (fun h1=>?_)
 ·(conv=>whnf);exact .inl ⟨.inr (Zd0 h1),rfl,rfl⟩
 ·(conv=>whnf);refine new (fun b hb=>?_);replace hb:M b=none:=hb;(conv=>whnf);refine new (fun p hp=>?_);replace hp:(M.upd b (.map #[] 0)) p=none:=hp;have hne:p≠b:=fun e=>by subst e;rw[Mem.upd_same] at hp;cases hp
  rw[Mem.upd_ne _ _ hne] at hp;(conv=>whnf)
  have hn:¬(gaps<0∨256<gaps):=by
   have:=Zd1 h;have:=Zd1 h1
   omega
  refine .inr ⟨hn,p,b,rfl,hp,hb,Mem.le_trans (Mem.le_upd hb) (Mem.le_setCells (by rw[Mem.upd_ne _ _ hne];exact hp)),Mem.has_setCells,?_,by simp,by simp⟩;refine(MapAt.new M b).mono fun o ho=>?_
  unfold Mem.setCells;rw[Mem.upd_ne _ _ (Ne.symm hne)];exact ho
theorem zzj (h:SetAt M p b gaps es) (o d e c:Int):CallsM Tryz.prog F.zdF [ptr p,.agg #[.int .i64 o,.int .i64 d,.int .i64 e,.int .i64 c]] M fun v M'=>
  (∃ x,zD es (o,e)=some x∧v=ptr x.r∧M'=M) ∨
  (zD es (o,e)=none∧∃ r,v=ptr r∧M r=none∧M'=M.setCells r T.zab [.int .i64 0,.slice none 0 0]):=by
 refine zsI (by simp) ?_;refine zR ?_;refine on (h.self.c1 rfl) ?_;(conv=>whnf)
 refine h.map.get zsU (o,e) (fun hn=>?_) (fun x j hx=>?_)
 ·refine zR ?_;refine new (fun r hr=>?_);replace hr:M r=none:=hr;(conv=>whnf)
  exact .inr ⟨hn,r,rfl,hr,rfl⟩
 ·refine zR ?_;exact .inl ⟨x,hx,rfl,rfl⟩
end
section
set_option maxRecDepth 10000 in
theorem zBI (a:Option Addr) (n c:Nat) (x:Int) (M:Mem) (l:List Int) (hs:SrcOk M 1 a n (l.map zaa)) (hn:n≤4194304) :
  CallsM Tryz.prog F.zeF [.slice a n c,.int .i64 x] M fun v M'=>(∃ i:Int,v = .int .i64 i∧(0≤i↔x∈l))∧M=M':=by
 refine zkm (by simp) ?_;have hl:=hs.maplen
 (conv=>whnf);refine zdc [8] (fun (i:Nat)=>[(8,.int .i64 i)]) (fun i=>i≤n∧x∉l.take i) (fun i=>n - i) 0 ⟨by omega,by simp⟩ zS ?_;intro i ⟨hi,hnot⟩;(conv=>whnf);refine brn (fun h=>?_) (fun h=>?_)
 ·simp only[decide_eq_true_eq] at h;obtain⟨hlt,b,o,rfl,hrow⟩:=hs.at (i:=i) (by omega);(conv=>whnf);refine ob (by omega) ?_;(conv=>whnf);refine on hrow ?_;(conv=>whnf);refine brn (fun g=>?_) (fun g=>?_)
  ·(conv=>whnf);refine⟨⟨i,rfl,?_⟩,rfl⟩;simp only[decide_eq_true_eq] at g;subst g;exact⟨fun _=>List.getElem_mem _,fun _=>by omega⟩
  ·(conv=>whnf);refine ob (zd (by omega)) ?_;(conv=>whnf)
   refine⟨i+1,⟨by omega,?_⟩,by omega,zS⟩;simp only[decide_eq_false_iff_not] at g;rw[List.take_add_one,List.getElem?_eq_getElem hlt];simp only[Option.toList_some,List.mem_append,List.mem_singleton,not_or];exact⟨hnot,g⟩
 ·(conv=>whnf);simp only[decide_eq_false_iff_not] at h;refine⟨⟨-1,rfl,?_⟩,rfl⟩;rw[List.take_of_length_le (by omega)] at hnot;simp[hnot]
theorem zpl (a:Option Addr) (n c:Nat) (x:Int) (M:Mem) (l:List Int) (hs:SrcOk M 1 a n (l.map zaa)) (hn:n≤4194304) :
  CallsM Tryz.prog F.zdQ [.slice a n c,.int .i64 x] M fun v M'=>v = .bool (decide (x∈l))∧M=M':=by
 refine ziq (by simp) ?_;(conv=>whnf);refine(zBI a n c x M l hs hn).mono ?_;rintro v M' ⟨⟨i,rfl,hi⟩,rfl⟩;(conv=>whnf)
 exact⟨by simp[hi],rfl⟩
variable {M:Mem} {p b:Nat} {gaps:Int} {es:List ((Int×Int)×Ent)}
def zck (es:List ((Int×Int)×Ent)) (k:Int×Int):Int:=match zD es k with|some x=>x.up|none=>0
def zbZ (es:List ((Int×Int)×Ent)) (k:Int×Int):List Int:=match zD es k with|some x=>x.more|none=>[]
def zgh (es:List ((Int×Int)×Ent)) (o d e c:Int):Bool:=decide (za4 o d e c=0)&&(decide (c≤zck es (o,e))||decide (c∈zbZ es (o,e)))
def zaI (es:List ((Int×Int)×Ent)):Nat:=(es.map fun q=>q.2.more.length).sum
theorem zzk {l r:List ((Int×Int)×Ent)} (h:l.Perm r):zaI l=zaI r:=(h.map _).sum_nat
theorem zjV {q:(Int×Int)×Ent}:∀ {es:List ((Int×Int)×Ent)},q∈es→q.2.more.length≤zaI es
 | [],h=>by cases h
 | x::r,h=>by
  simp only[zaI,List.map_cons,List.sum_cons];rcases List.mem_cons.1 h with rfl|h
  ·omega
  ·have:=zjV h;simp only[zaI] at this;omega
def zuO (es:List ((Int×Int)×Ent)):Prop:=∀ q∈es,0≤q.2.up∧q.2.up≤65535
theorem zEd (h:SetAt M p b gaps es) (hg:zaI es≤4194304) (o d e c:Int):CallsM Tryz.prog F.zhy [ptr p,.agg #[.int .i64 o,.int .i64 d,.int .i64 e,.int .i64 c]] M fun v M'=>v = .bool (zgh es o d e c)∧M.le M':=by
 refine zrf (by simp) ?_;(conv=>whnf);refine brn_f rfl ?_;(conv=>whnf);refine(zgG o d e c M).mono ?_;rintro v _ ⟨rfl,rfl⟩;(conv=>whnf);refine brn (fun g=>?_) (fun g=>?_)
 ·(conv=>whnf);have:¬za4 o d e c=0:=by simpa using g
  exact⟨by simp[zgh,this],Mem.le_refl _⟩
 have hok:za4 o d e c=0:=by simpa using g
 (conv=>whnf);refine(zzj h o d e c).mono ?_;rintro v M1 (⟨x,hx,rfl,rfl⟩|⟨hn,r,rfl,hr,rfl⟩)
 ·have hxe:=h.ents _ (zN hx);have hlen:x.more.length≤4194304:=Nat.le_trans (zjV (zN hx)) hg
  (conv=>whnf);refine on (hxe.self.c1 rfl) ?_;(conv=>whnf);refine brn (fun g1=>?_) (fun g1=>?_)
  ·have g1':c≤x.up:=Zd0 g1;refine zR ?_;exact⟨by simp[zgh,hok,zck,hx,g1'],Mem.le_refl _⟩
  ·have g1':¬c≤x.up:=Zd1 g1;(conv=>whnf);refine on (hxe.self.c1 rfl) ?_;refine zU ?_;refine(zpl x.a x.more.length x.c c _ x.more hxe.more.src hlen).mono ?_;rintro v _ ⟨rfl,rfl⟩;(conv=>whnf)
   exact⟨by simp[zgh,hok,zck,zbZ,hx,g1'],Mem.le_refl _⟩
 ·have hle:M.le (M.setCells r T.zab [.int .i64 0,.slice none 0 0]):=Mem.le_setCells hr;have hh:=Mem.has_setCells (M:=M) (b:=r) (E:=T.zab) (l:=[.int .i64 0,.slice none 0 0])
  obtain⟨M1,hM1⟩:∃ M1,M1=M.setCells r T.zab [.int .i64 0,.slice none 0 0]:=⟨_,rfl⟩
  rw[←hM1] at hle hh ⊢;have hc:1≤c:=by unfold za4 at hok;split at hok<;>(try cases hok);omega
  (conv=>whnf);refine on (hh.c1 rfl) ?_;(conv=>whnf);refine brn_f (by simp;omega) ?_;(conv=>whnf);refine on (hh.c1 rfl) ?_;refine zU ?_;refine(zpl none 0 0 c M1 [] (SrcOk.nil M1 1) (by omega)).mono ?_;rintro v _ ⟨rfl,rfl⟩;(conv=>whnf)
  have hlt:¬c≤0:=by omega
  exact⟨by simp[zgh,hok,zck,zbZ,hn,hlt],hle⟩
theorem zx4 (h:SetAt M p b gaps es) (hg:zaI es≤4611686018427387904):CallsM Tryz.prog F.zfs [ptr p] M fun v M'=>v = .int .i64 (zaI es)∧M.le M':=by
 refine zqb (by simp) ?_;(conv=>whnf);refine brn_t rfl ?_;(conv=>whnf);refine on (h.self.c1 rfl) ?_;(conv=>whnf)
 refine h.map.range fun q bi hbi hI=>?_
 replace hbi:M bi=none:=hbi;(conv=>whnf)
 refine za6 (σ:=Mem×Nat×List ((Int×Int)×Ent)) [3] (fun x=>[(3,.int .i64 x.2.1)]) (fun _=>[]) (fun x=>x.1)
  (fun|⟨M1,n,todo⟩=>M.le M1∧Iter keyV zfE M1 bi b es todo∧n+zaI todo=zaI es) (fun x=>x.2.2.length) ⟨_,0,es⟩
  ⟨Mem.le_upd hbi,hI,by omega⟩ zS ?_
 rintro ⟨M1,n,todo⟩ ⟨hle,hI1,hsum⟩;(conv=>whnf)
 refine hI1.next (fun h0=>?_) (fun i k todo' o' hperm hI2 hent=>?_)
 ·subst h0;refine zR ?_;refine⟨?_,hle⟩;have:zaI []=0:=rfl
  congr 1;dsimp only;omega
 ·have hle2:M.le (M1.upd bi o'):=fun y o hb=>by
   rw[Mem.upd_ne _ _ (fun e=>by subst e;rw[hbi] at hb;cases hb)];exact hle _ _ hb
  obtain⟨M2,hM2⟩:∃ M2,M2=M1.upd bi o':=⟨_,rfl⟩
  rw[←hM2] at hI2 hent hle2;have hmem:(i,k)∈es:=hI1.todo_sub _ (hperm.mem_iff.2 (by simp))
  have hke:=(h.le hle2).ents _ hmem;have hs:=zzk hperm
  simp only[zaI,List.map_cons,List.sum_cons] at hs;have hsum':n+k.more.length+zaI todo'=zaI es:=by simp only[zaI] at hsum ⊢; omega
  (conv=>whnf);erw [←hM2];refine zR ?_;refine on hent ?_;(conv=>whnf);refine on (hke.self.c1 rfl) ?_;(conv=>whnf);refine ob (zd (by dsimp only;omega)) ?_;(conv=>whnf)
  refine⟨⟨M2,n+k.more.length,todo'⟩,⟨hle2,hI2,hsum'⟩,by have:=hperm.length_eq;simp at this ⊢; omega,zS⟩
def zc9 (gaps:Int) (es:List ((Int×Int)×Ent)) (o d e c:Int):Int:=
 if za4 o d e c≠0 then za4 o d e c else if zgh es o d e c then 5 else if c≠zck es (o,e)+1∧gaps≤zaI es then 6 else 0
theorem zrE (hgd:zuO es) (k:Int×Int):0≤zck es k∧zck es k≤65535:=by
 unfold zck;cases hx:zD es k with
 | none=>dsimp only;omega
 | some x=>exact hgd _ (zN hx)
theorem zwb (h:SetAt M p b gaps es) (hg:zaI es≤4194304) (hgd:zuO es) (o d e c:Int):CallsM Tryz.prog F.zfV [ptr p,.agg #[.int .i64 o,.int .i64 d,.int .i64 e,.int .i64 c]] M fun v M'=>v = .int .i64 (zc9 gaps es o d e c)∧M.le M':=by
 refine zrl (by simp) ?_;(conv=>whnf);refine brn_f rfl ?_;(conv=>whnf);refine(zgG o d e c M).mono ?_;rintro v _ ⟨rfl,rfl⟩;(conv=>whnf);refine brn (fun g=>?_) (fun g=>?_)
 ·(conv=>whnf);have:¬za4 o d e c=0:=by simpa using g
  exact⟨by simp[zc9,this],Mem.le_refl _⟩
 have hok:za4 o d e c=0:=by simpa using g
 (conv=>whnf);refine(zEd h hg o d e c).mono ?_;rintro v M1 ⟨rfl,hle1⟩;have h1:=h.le hle1
 (conv=>whnf);refine brn (fun g=>?_) (fun g=>?_)
 ·(conv=>whnf);exact⟨by simp[zc9,hok,g],hle1⟩
 have hno:zgh es o d e c=false:=g;have hur:=zrE hgd (o,e)
 have fin:∀ (t:Bool),t=(decide (c≠zck es (o,e)+1)&&decide (gaps≤zaI es))→zc9 gaps es o d e c=if t then 6 else 0:=fun t ht=>by
  subst ht;simp only[zc9,hok,hno];by_cases e1:c=zck es (o,e)+1<;>by_cases e2:gaps≤(zaI es:Int)<;>simp[e1,e2]
 have key:CallsM Tryz.prog F.zdF [ptr p,.agg #[.int .i64 o,.int .i64 d,.int .i64 e,.int .i64 c]] M1 fun v M'=>∃ r,v=ptr r∧M1.le M'∧M'.row r 0 1=some [.int .i64 (zck es (o,e))]:=(zzj h1 o d e c).mono fun v M' hv=>by
  rcases hv with ⟨x,hx,rfl,rfl⟩|⟨hn,r,rfl,hr,rfl⟩
  ·refine⟨x.r,rfl,Mem.le_refl _,?_⟩;have:=(h1.ents _ (zN hx)).self.c1 (o:=0) rfl
   simpa[zck,hx] using this
  ·refine⟨r,rfl,Mem.le_setCells hr,?_⟩;have:=(Mem.has_setCells (M:=M1) (b:=r) (E:=T.zab) (l:=[.int .i64 0,.slice none 0 0])).c1 (o:=0) rfl
   simpa[zck,hn] using this
 (conv=>whnf);refine⟨M1,Mem.le_refl _,?_⟩;refine zU ?_;refine key.mono ?_;rintro v M2 ⟨r,rfl,hle2,hrow⟩;have hself2:=(h1.le hle2).self
 (conv=>whnf);refine ob rfl ?_;(conv=>whnf);refine zEA M2 hle2 (Mem.le_refl _) ?_;(conv=>whnf);refine on hrow ?_;(conv=>whnf);refine ob (zd (by omega)) ?_;(conv=>whnf);refine brn (fun g1=>?_) (fun g1=>?_)
 ·(conv=>whnf);refine on (hself2.c1 rfl) ?_;refine zU ?_;refine(zx4 (h1.le hle2) (by omega)).mono ?_;rintro v M3 ⟨rfl,hle3⟩;refine zT (hle3) ?_;refine brn (fun g2=>?_) (fun g2=>?_)
  ·have e:=fin true (by rw[Bool.not_eq_true',decide_eq_false_iff_not] at g1;simp[g1,Zd0 g2]);(conv=>whnf)
   exact⟨by rw[e];rfl,Mem.le_trans hle1 (Mem.le_trans hle2 hle3)⟩
  ·have e:=fin false (by simp[Zd1 g2]);(conv=>whnf)
   exact⟨by rw[e];rfl,Mem.le_trans hle1 (Mem.le_trans hle2 hle3)⟩
 ·have e:=fin false (by simp at g1;simp[g1]);refine zU ?_;(conv=>whnf)
  exact⟨by rw[e];rfl,Mem.le_trans hle1 hle2⟩
end
section
variable {M:Mem}
theorem zqp (x:Int):CallsM Tryz.prog F.zdB [.int .i64 x] M fun v M'=>v = .bool false∧M=M':=by
 refine zqh (by simp) ?_;refine zR ?_;exact⟨by simp,rfl⟩
theorem zEe (x:Int):CallsM Tryz.prog F.zev [.int .i64 x] M fun v M'=>v = .bool false∧M=M':=by
 refine zm8 (by simp) ?_;refine zR ?_;exact⟨by simp,rfl⟩
theorem zC7 (x y:Int):CallsM Tryz.prog F.zhA [.int .i64 x,.int .i64 y] M fun v M'=>v = .bool (decide (x<y))∧M=M':=by
 refine zrr (by simp) ?_;(conv=>whnf);refine(zqp x).mono ?_;rintro v _ ⟨rfl,rfl⟩;refine zR ?_;exact⟨rfl,rfl⟩
theorem zzl {a:Option Addr} {n c:Nat} {l:List Int} (hs:SrcOk M 1 a n (l.map zaa)) (hn:n≤4194304) (hl:l.Pairwise (· < ·)) (x:Int) :
  CallsM Tryz.prog F.zc6 [.slice a n c,.int .i64 x] M fun v M'=>∃ (i:Nat) (f:Bool),v = .tuple #[.int .i64 i,.bool f]∧i≤n∧(∀ k y,k<i→l[k]? = some y→y<x)∧(∀ k y,i≤k→l[k]? = some y→x≤y)∧M=M':=by
 refine zhd (by simp) ?_;have hll:=hs.maplen
 have hmono:∀ k k' y y',k≤k'→l[k]? = some y→l[k']? = some y'→y≤y':=fun k k' y y' hk h1 h2=>by
  rcases Nat.lt_or_ge k k' with h|h
  ·have hk':=(List.getElem?_eq_some_iff.1 h2).1;have:=List.pairwise_iff_getElem.1 hl k k' (by omega) hk' h
   rw[List.getElem?_eq_getElem (by omega)] at h1;rw[List.getElem?_eq_getElem hk'] at h2;cases h1;cases h2;omega
  ·have:k=k':=Nat.le_antisymm hk h;subst this;rw[h1] at h2;cases h2;omega
 (conv=>whnf)
 refine zdc (σ:=Nat×Nat) [7,8] (fun q=>[(7,.int .i64 q.1),(8,.int .i64 q.2)]) (fun|⟨i,j⟩=>i≤j∧j≤n∧(∀ k y,k<i→l[k]? = some y→y<x)∧(∀ k y,j≤k→l[k]? = some y→x≤y)) (fun q=>q.2 - q.1) ⟨0,n⟩
  ⟨by omega,by omega,fun k y hk=>by omega,fun k y hk hy=>by rw[List.getElem?_eq_none (by omega)] at hy;cases hy⟩ zS ?_
 rintro ⟨i,j⟩ ⟨hij,hj,h1,h2⟩;(conv=>whnf);refine brn (fun g=>?_) (fun g=>?_)
 ·have hlt:i<j:=by have:=Zd0 g;dsimp only at this;omega
  (conv=>whnf);refine ob (zd (by first|omega|(dsimp only;omega))) ?_;(conv=>whnf);refine ob (by decide) ?_;(conv=>whnf)
  have hmid:IntKind.i64.wrap ((IntKind.u64.wrap ((i:Int)+j)).fdiv (2 ^ min (Int.toNat 1) IntKind.u64.bits))=(((i+j) / 2:Nat):Int):=by
   have e1:IntKind.u64.wrap ((i:Int)+j)=((i+j:Nat):Int):=by rw[IntKind.wrap_u64];omega
   have e2:(2:Int) ^ min (Int.toNat 1) IntKind.u64.bits=2:=by decide
   have e3:((i+j:Nat):Int).fdiv 2=(((i+j) / 2:Nat):Int):=by rw[Int.fdiv_eq_ediv_of_nonneg _ (by decide)];omega
   rw[e1,e2,e3,IntKind.wrap_i64];omega
  rw[hmid];obtain⟨m,hm⟩:∃ m,m=(i+j) / 2:=⟨_,rfl⟩
  rw[←hm];obtain⟨hlm,b,o,rfl,hrow⟩:=hs.at (i:=m) (by omega);have hgm:l[m]? = some l[m]:=List.getElem?_eq_getElem hlm
  refine ob (by omega) ?_;(conv=>whnf);refine on hrow ?_;(conv=>whnf);refine(zC7 _ _).mono ?_;rintro v _ ⟨rfl,rfl⟩;(conv=>whnf);refine brn (fun g1=>?_) (fun g1=>?_)
  ·have hx:l[m]<x:=Zd0 g1;(conv=>whnf);refine ob (zd (by omega)) ?_;(conv=>whnf)
   refine⟨⟨m+1,j⟩,⟨by omega,by omega,fun k y hk hy=>?_,h2⟩,by dsimp only;omega,zS⟩;have:=hmono k m y l[m] (by omega) hy hgm
   omega
  ·have hx:¬l[m]<x:=Zd1 g1;(conv=>whnf)
   refine⟨⟨i,m⟩,⟨by omega,by omega,h1,fun k y hk hy=>?_⟩,by dsimp only;omega,zS⟩;have:=hmono m k l[m] y hk hgm hy
   omega
 ·have he:i=j:=by have:=Zd1 g;dsimp only at this;omega
  subst he;(conv=>whnf);refine brn (fun g=>?_) (fun g=>?_)
  ·have hlt:i<n:=by have:=Zd0 g;dsimp only at this;omega
   obtain⟨_,b,o,rfl,hrow⟩:=hs.at (i:=i) hlt;(conv=>whnf);refine ob (by first|omega|(dsimp only;omega)) ?_;(conv=>whnf);refine on hrow ?_;(conv=>whnf);refine brn (fun g1=>?_) (fun g1=>?_)
   ·refine zR ?_;exact⟨i,_,rfl,hj,h1,h2,rfl⟩
   ·(conv=>whnf);refine ob (by first|omega|(dsimp only;omega)) ?_;(conv=>whnf);refine on hrow ?_;(conv=>whnf);refine(zEe _).mono ?_;rintro v _ ⟨rfl,rfl⟩;refine zR ?_;exact⟨i,_,rfl,hj,h1,h2,rfl⟩
  ·refine zR ?_;exact⟨i,_,rfl,hj,h1,h2,rfl⟩
end
section
variable {M:Mem} {p b:Nat} {gaps:Int} {es:List ((Int×Int)×Ent)}
theorem EntAt.some {x:Ent} (h:EntAt M x) {y:Nat} (hy:x.own y):M y≠none:=by
 rcases hy with rfl|⟨q,hq,rfl⟩
 ·have:=h.self;unfold Mem.has at this;rw[this];simp
 ·obtain⟨cs,hh⟩:=h.more.block hq;unfold Mem.has at hh;rw[hh];simp
theorem EntAt.noset {x:Ent} (h:EntAt M x) {p:Nat} {l:List Value} (hp:M.has p T.zqY l):¬x.own p:=by
 rintro (e|⟨q,hq,e⟩)
 ·subst e;exact absurd (h.self.inj hp).1 (by decide)
 ·obtain⟨cs,hh⟩:=h.more.block hq;subst e;exact absurd (hh.inj hp).1 (by decide)
theorem SetAt.turn {M':Mem} (h:SetAt M p b gaps es) {k:Int×Int} {x x':Ent} (hx:zD es k=some x) (hk:Mem.keep x.own M M') (he:EntAt M' x') (hr:x'.r=x.r) (hown:∀ y,x'.own y→x.own y∨M y=none):SetAt M' p b gaps (zQ es k x'):=by
 have hxe:=h.ents _ (zN hx);have hpa:zQ es k x'=zcA es k x':=by simp[zQ,hx]
 obtain⟨u,v,h1,h2,h3,h4⟩:=ziW h.map.nodup hx x';have hap:=h.apart
 rw[h1] at hap;have hap':=List.pairwise_append.1 hap
 have hmem:∀ q,q∈u∨q∈v→q∈es:=fun q hq=>by rw[h1];rcases hq with hq|hq<;>simp[hq]
 have hfar:∀ q,q∈u∨q∈v→∀ y,q.2.own y→¬x.own y:=fun q hq y hy hxy=>by
  rcases hq with hq|hq
  ·exact hap'.2.2 q hq (k,x) (by simp) y hy hxy
  ·exact(List.pairwise_cons.1 hap'.2.1).1 q hq y hxy hy
 have hfar':∀ q,q∈u∨q∈v→∀ y,q.2.own y→¬x'.own y:=fun q hq y hy hxy=>by
  rcases hown y hxy with h5|h5
  ·exact hfar q hq y hy h5
  ·exact(h.ents q (hmem q hq)).some hy h5
 rw[hpa,h2];refine⟨hk _ _ (hxe.noset h.self) h.self,?_,fun q hq=>?_,?_⟩
 ·have hm:=h.map.relabel (fun q=>if q.1=k then x' else q.2) (fun q hq=>by
   split
   ·rename_i e;have:zD es k=some q.2:=zdt h.map.nodup (by obtain⟨q1,q2⟩:=q;simp only at e;subst e;exact hq)
    rw[hx] at this;rw[show q.2=x from (Option.some.inj this).symm];simp[zfE,hr]
   ·rfl)
  have e:(es.map fun q=>(q.1,if q.1=k then x' else q.2))=u++(k,x')::v:=by
   rw[h1,List.map_append,List.map_cons];congr 1
   ·rw[List.map_congr_left (g:=id),List.map_id];intro q hq;simp[h3 q hq]
   ·congr 1
    ·simp
    ·rw[List.map_congr_left (g:=id),List.map_id];intro q hq;simp[h4 q hq]
  rw[e] at hm;exact hm.mono fun o ho=>hk _ o (hxe.nomap h.map) ho
 ·rcases List.mem_append.1 hq with hq|hq
  ·exact(h.ents q (hmem q (.inl hq))).mono fun y o hy ho=>hk y o (hfar q (.inl hq) y hy) ho
  ·rcases List.mem_cons.1 hq with rfl|hq
   ·exact he
   ·exact(h.ents q (hmem q (.inr hq))).mono fun y o hy ho=>hk y o (hfar q (.inr hq) y hy) ho
 ·rw[List.pairwise_append];refine⟨hap'.1,List.pairwise_cons.2 ⟨fun q hq y hy hqy=>hfar' q (.inr hq) y hqy hy,(List.pairwise_cons.1 hap'.2.1).2⟩,fun q hq q' hq'=>?_⟩;rcases List.mem_cons.1 hq' with rfl|hq'
  ·exact fun y hy hxy=>hfar' q (.inl hq) y hy hxy
  ·exact hap'.2.2 q hq q' (List.mem_cons_of_mem _ hq')
theorem SetAt.more {M':Mem} (h:SetAt M p b gaps es) {k:Int×Int} {x:Ent} (hx:zD es k=none) (hk:Mem.keep (fun y=>y=b) M M') (hm:MapAt keyV zfE M' b (zQ es k x)) (he:EntAt M' x) (hown:∀ y,x.own y→M y=none):SetAt M' p b gaps (zQ es k x):=by
 have hpa:zQ es k x=es++[(k,x)]:=by simp[zQ,hx]
 refine⟨hk _ _ (h.map.nb h.self) h.self,hm,fun q hq=>?_,?_⟩
 ·rw[hpa] at hq;rcases List.mem_append.1 hq with hq|hq
  ·exact(h.ents q hq).mono fun y o hy ho=>hk y o (fun e=>by subst e;exact(h.ents q hq).nomap h.map hy) ho
  ·simp at hq;subst hq;exact he
 ·rw[hpa,List.pairwise_append];refine⟨h.apart,by simp,fun q hq q' hq'=>?_⟩;simp at hq';subst hq';exact fun y hy hxy=>(h.ents q hq).some hy (hown y hxy)
end
section
variable {M:Mem} {p b:Nat} {gaps:Int} {es:List ((Int×Int)×Ent)}
def zeb (c:Int):List Int→List Int
 | []=>[c]
 | y::r=>if y<c then y::zeb c r else c::y::r
theorem zx5 (c:Int):∀ (l:List Int) (i:Nat),i≤l.length→(∀ k y,k<i→l[k]? = some y→y<c)→(∀ k y,i≤k→l[k]? = some y→c≤y)→l.take i++c::l.drop i=zeb c l
 | [],i,hi,_,_=>by
  have:i=0:=by simpa using hi
  subst this;rfl
 | y::r,0,_,_,h2=>by
  have:=h2 0 y (Nat.le_refl _) rfl;simp only[List.take_zero,List.drop_zero,List.nil_append,zeb];rw[if_neg (by omega)]
 | y::r,i+1,hi,h1,h2=>by
  have:=h1 0 y (by omega) rfl;simp only[List.take_succ_cons,List.drop_succ_cons,List.cons_append,zeb];rw[if_pos this,zx5 c r i (by simpa using hi) (fun k y hk hy=>h1 (k+1) y (by omega) (by simpa using hy)) (fun k y hk hy=>h2 (k+1) y (by omega) (by simpa using hy))]
theorem zqq (c:Int):∀ l:List Int,(zeb c l).length=l.length+1
 | []=>rfl
 | y::r=>by
  simp only[zeb];split
  ·simp[zqq c r]
  ·simp
def normC (up:Int):List Int→Int×List Int
 | []=>(up,[])
 | y::r=>if y=up+1 then normC (up+1) r else (up,y::r)
theorem RowI.pop {M:Mem} {a:Option Addr} {c:Nat} {y:Int} {r:List Int} (h:RowI M a c (y::r)):RowI M (subA a 1 (r.length+1) 1) r.length r∧∀ q,subA a 1 (r.length+1) 1=some q→∃ q',a=some q'∧q'.block=q.block:=by
 obtain⟨⟨h1,h2⟩,⟨rfl,rfl⟩|⟨b,o,cs,rfl,hh,ho,ht⟩⟩:=h
 ·simp at h1
 ·simp only[List.length_cons] at h1 ht;unfold subA;split
  ·have hr:r=[]:=List.eq_nil_of_length_eq_zero (by omega);subst hr;exact⟨⟨⟨Nat.le_refl _,Nat.zero_le _⟩,.inr ⟨b,o,cs,rfl,hh,by simp at h1 ⊢; omega,by simp⟩⟩,fun q hq=>⟨_,rfl,by cases hq;rfl⟩⟩
  ·refine⟨⟨⟨Nat.le_refl _,by omega⟩,.inr ⟨b,o+1,cs,by simp[zcy],hh,by omega,?_⟩⟩,fun q hq=>⟨_,rfl,by simp[zcy] at hq;rw[←hq]⟩⟩;have h5:((cs.drop o).take (r.length+1)).drop 1=r.map zaa:=by rw[ht];rfl
   rw[List.drop_take,List.drop_drop] at h5;simpa using h5
theorem SetAt.remap {M':Mem} (h:SetAt M p b gaps es) (hk:Mem.keep (fun y=>y=b) M M') (hm:MapAt keyV zfE M' b es):SetAt M' p b gaps es:=
 ⟨hk _ _ (h.map.nb h.self) h.self,hm,fun q hq=>(h.ents q hq).mono fun y o hy ho=>hk y o (fun e=>by subst e;exact(h.ents q hq).nomap h.map hy) ho,h.apart⟩
def setB (p b:Nat) (es:List ((Int×Int)×Ent)):Nat→Prop:=fun y=>y=p∨y=b∨∃ q∈es,q.2.own y
def ze7 (es:List ((Int×Int)×Ent)) (o e c:Int):Int×List Int:=normC (zck es (o,e)) (zeb c (zbZ es (o,e)))
theorem zEf (h:SetAt M p b gaps es) (hg:zaI es≤4194000) (hgd:zuO es) (hso:∀ q∈es,q.2.more.Pairwise (· < ·)) (o d e c:Int):CallsM Tryz.prog F.zfT [ptr p,.agg #[.int .i64 o,.int .i64 d,.int .i64 e,.int .i64 c]] M fun v M'=>
  v = .int .i64 (zc9 gaps es o d e c)∧((zc9 gaps es o d e c≠0∧M.le M') ∨
   (zc9 gaps es o d e c=0∧Mem.keep (setB p b es) M M'∧∃ x,SetAt M' p b gaps (zQ es (o,e) x)∧(x.up,x.more)=ze7 es o e c∧∀ y,x.own y→setB p b es y∨M y=none)):=by
 refine zrh (by simp) ?_;(conv=>whnf);refine(zwb h (by omega) hgd o d e c).mono ?_;rintro v M1 ⟨rfl,hle1⟩;(conv=>whnf);refine brn (fun g=>?_) (fun g=>?_)
 ·have hne:¬zc9 gaps es o d e c=0:=by simpa using g
  (conv=>whnf);exact⟨rfl,.inl ⟨hne,hle1⟩⟩
 have hz:zc9 gaps es o d e c=0:=by simpa using g
 have hok:za4 o d e c=0:=by
  apply Classical.byContradiction;intro hn;simp[zc9,hn] at hz
 have hcr:1≤c∧c≤65535:=by unfold za4 at hok;split at hok<;>(try cases hok);omega
 have h1:=h.le hle1
 have key:CallsM Tryz.prog F.zdF [ptr p,.agg #[.int .i64 o,.int .i64 d,.int .i64 e,.int .i64 c]] M1 fun v M'=>∃ x0,v=ptr x0.r∧M1.le M'∧SetAt M' p b gaps es∧x0.up=zck es (o,e)∧x0.more=zbZ es (o,e)∧(x0.more.Pairwise (· < ·)∧x0.more.length≤4194000)∧(∀ y,x0.own y→setB p b es y∨M y=none) ∧
   ∀ ob,MapAt keyV zfE (M'.upd b ob) b (zQ es (o,e) x0)→SetAt (M'.upd b ob) p b gaps (zQ es (o,e) x0):=(zzj h1 o d e c).mono fun v M' hv=>by
  rcases hv with ⟨x,hx,rfl,rfl⟩|⟨hn,r,rfl,hr,rfl⟩
  ·have hpa:zQ es (o,e) x=es:=by simp only[zQ,hx];exact zAn hx
   refine⟨x,rfl,Mem.le_refl _,h1,by simp[zck,hx],by simp[zbZ,hx],⟨hso _ (zN hx),Nat.le_trans (zjV (zN hx)) hg⟩,fun y hy => .inl (.inr (.inr ⟨_,zN hx,hy⟩)),fun ob hm=>?_⟩;rw[hpa] at hm ⊢;exact h1.remap (Mem.keep_upd _ _ rfl) hm
  ·have hle:=Mem.le_setCells (E:=T.zab) (l:=[.int .i64 0,.slice none 0 0]) hr
   have hrM:M r=none:=by
    cases hM:M r with
    | none=>rfl
    | some z=>rw[hle1 _ _ hM] at hr;cases hr
   refine⟨⟨r,none,0,0,[]⟩,rfl,hle,h1.le hle,by simp[zck,hn],by simp[zbZ,hn],by simp,fun y hy=>?_,fun ob hm=>?_⟩
   ·rcases hy with rfl|⟨q,hq,_⟩
    ·exact .inr hrM
    ·cases hq
   ·have hrb:r≠b:=fun e=>by subst e;obtain⟨l1,c1,hh,_⟩:=h1.map;rw[hh] at hr;cases hr
    have hk:Mem.keep (fun y=>y=b) M1 ((M1.setCells r T.zab [.int .i64 0,.slice none 0 0]).upd b ob):=Mem.keep_trans (Mem.keep_of_le hle) (Mem.keep_upd _ _ rfl);refine h1.more hn hk hm ⟨Mem.has_setCells.upd hrb ob,⟨by simp,by simp[maxLen]⟩,.inl ⟨rfl,rfl⟩⟩ fun y hy=>?_
    rcases hy with rfl|⟨q,hq,_⟩
    ·exact hr
    ·cases hq
 (conv=>whnf);refine key.mono ?_;rintro v M2 ⟨x0,rfl,hle2,hS2,hup0,hmore0,⟨hso0,hlen0⟩,hown0,hput⟩;refine zR ?_;refine on (hS2.self.c1 rfl) ?_;(conv=>whnf)
 refine⟨?_,True.intro⟩;(conv=>whnf)
 refine hS2.map.put zsU (o,e) x0 fun q f hm=>?_
 have hS3:=hput _ (hm M2);obtain⟨M3,hM3⟩:∃ M3,M3=M2.upd b (ze0 q f (keyV (o,e)) (zfE x0)):=⟨_,rfl⟩
 have hk3:Mem.keep (fun y=>y=b) M2 M3:=hM3▸Mem.keep_upd _ _ rfl;rw[←hM3] at hS3;(conv=>whnf)
 erw [←hM3];have hx0:zD (zQ es (o,e) x0) (o,e)=some x0:=by rw[zdX,if_pos rfl]
 have hE3:=hS3.ents _ (zN hx0);refine zR ?_;refine on (hE3.self.c1 rfl) ?_;refine zU ?_;refine(zzl hE3.more.src (by dsimp only;omega) hso0 c).mono ?_;rintro v _ ⟨i,ff,rfl,hi,hlo,hhi,rfl⟩;dsimp only at hi hlo hhi;have hinsC:=zx5 c x0.more i hi hlo hhi
 refine zR ?_;refine on (hE3.self.c1 rfl) ?_;refine zU ?_;refine new (fun vb hvb=>?_);replace hvb:M3 vb=none:=hvb;have hle4:M3.le (M3.setCells vb T.zr [.int .i64 c]):=Mem.le_setCells hvb
 have hhv:(M3.setCells vb T.zr [.int .i64 c]).has vb T.zr [.int .i64 c]:=Mem.has_setCells;obtain⟨M4,hM4⟩:∃ M4,M4=M3.setCells vb T.zr [.int .i64 c]:=⟨_,rfl⟩
 rw[←hM4] at hle4 hhv;(conv=>whnf)
 erw [←hM4];have hE4:=hE3.le hle4
 refine zU ?_
 refine(zC6 (vc:=1) Tryz.laysIns (by kernel_rfl) (M:=M4) (a:=x0.a) (c:=x0.c) (l:=x0.more) hE4.more (by omega) i hi hhv fun q hq e=>by
  obtain⟨cs,hh⟩:=hE3.more.block hq;have e:q.block=vb:=e
  rw[e] at hh;unfold Mem.has at hh;rw[hvb] at hh;cases hh).mono ?_
 rintro v M5 ⟨a',c',rfl,hrow5,hk5,hblk5⟩;rw[hinsC] at hrow5;replace hrow5:RowI M5 a' c' (zeb c x0.more):=hrow5
 have hnr:¬z6 x0.a x0.r:=fun ⟨q,hq,e⟩=>by
  obtain⟨cs,hh⟩:=hE3.more.block hq;rw[e] at hh;exact absurd (hh.inj hE3.self).1 (by decide)
 have hself5:M5.has x0.r T.zab [.int .i64 x0.up,.slice x0.a x0.more.length x0.c]:=hk5 _ _ hnr hE4.self;refine zR ?_;refine on hself5.cells ?_;(conv=>whnf);refine ob (Nat.le_refl 2) ?_;have hcap:(zeb c x0.more).length=x0.more.length+1:=zqq c x0.more
 have hnr5:¬z6 a' x0.r:=fun ⟨q,hq,e⟩=>by
  rcases hblk5 q hq with h6|h6
  ·rw[e] at h6;exact hnr h6
  ·have h7:=hE4.self;unfold Mem.has at h7;rw[e] at h6;rw[h6] at h7;cases h7
 obtain⟨M6,hM6⟩:∃ M6,M6=M5.setCells x0.r T.zab [.int .i64 x0.up,.slice a' (zeb c x0.more).length c']:=⟨_,rfl⟩
 have hE6:EntAt M6 ⟨x0.r,a',c',x0.up,zeb c x0.more⟩:=by
  refine⟨hM6▸Mem.has_setCells,hrow5.mono fun q o' hq ho=>?_⟩;rw[hM6];unfold Mem.setCells;rw[Mem.upd_ne _ _ fun e=>hnr5 ⟨q,hq,e⟩];exact ho
 have hk6:Mem.keep x0.own M3 M6:=Mem.keep_trans (Mem.keep_of_le hle4) (Mem.keep_trans (Mem.keep_mono hk5 fun y hy => .inr hy) (hM6▸fun y o' hy ho=>by
  unfold Mem.setCells
  rw[Mem.upd_ne _ _ fun e=>hy (.inl e)];exact ho))
 have hown6:∀ y,Ent.own ⟨x0.r,a',c',x0.up,zeb c x0.more⟩ y→x0.own y∨M3 y=none:=fun y hy=>by
  rcases hy with e|⟨q,hq,e⟩
  ·exact .inl (.inl e)
  ·rcases hblk5 q hq with h6|h6
   ·exact .inl (.inr (e▸h6))
   ·right;rw[e] at h6;cases hM:M3 y with
    | none=>rfl
    | some z=>rw[hle4 _ _ hM] at h6;cases h6
 rw[hcap] at hM6;(conv=>whnf)
 erw [←hM6];have hup:=zrE hgd (o,e)
 rw[←hup0] at hup;have hadd:normC x0.up (zeb c x0.more)=ze7 es o e c:=by rw[ze7,hup0,hmore0]
 refine za6 (σ:=Mem×Ent) [] (fun _=>[]) (fun _=>[.live T.zpG [.v (.int .i64 o),.v (.int .i64 d),.v (.int .i64 e),.v (.int .i64 c)],.gone vb]) (fun y=>y.1)
  (fun|⟨Mc,x⟩=>Mem.keep x0.own M3 Mc∧EntAt Mc x∧x.r=x0.r∧(∀ y,x.own y→x0.own y∨M3 y=none)∧normC x.up x.more=ze7 es o e c∧0≤x.up∧x.up+x.more.length≤5000000) (fun y=>y.2.more.length) ⟨M6,⟨x0.r,a',c',x0.up,zeb c x0.more⟩⟩
  ⟨hk6,hE6,rfl,hown6,hadd,hup.1,by dsimp only;omega⟩ zS ?_
 rintro ⟨Mc,x⟩ ⟨hkC,hEC,hrC,hownC,hnC,hu0,hu1⟩;have hselfC:=hEC.self
 rw[hrC] at hselfC;refine zR ?_;refine on (hselfC.c1 rfl) ?_;(conv=>whnf);refine brn (fun g1=>?_) (fun g1=>?_)
 ·obtain⟨y,r,hxm⟩:∃ y r,x.more=y::r:=by
   cases hxm:x.more with
   | nil=>rw[hxm] at g1;simp at g1
   | cons y r=>exact⟨y,r,rfl⟩
  have hxl:x.more.length=r.length+1:=by rw[hxm];rfl
  obtain⟨_,bb,oo,hba,hrow0⟩:=hEC.more.src.at (i:=0) (by omega);have hy0:x.more[0]'(by omega)=y:=by simp[hxm]
  rw[hy0] at hrow0;(conv=>whnf);refine on (hselfC.c1 rfl) ?_;(conv=>whnf);refine ob ⟨Int.le_refl _,by omega⟩ ?_;(conv=>whnf);refine atp hba ?_;(conv=>whnf);refine on hrow0 ?_;(conv=>whnf);refine on (hselfC.c1 rfl) ?_;(conv=>whnf);refine ob (zd (by omega)) ?_;(conv=>whnf);refine brn (fun g2=>?_) (fun g2=>?_)
  ·have hy:y=x.up+1:=Zd0 g2;(conv=>whnf);refine on (hselfC.c1 rfl) ?_;(conv=>whnf);refine ob (zd (by omega)) ?_;refine zR ?_;refine on hselfC.cells ?_;(conv=>whnf);refine ob (Nat.le_succ 1) ?_;obtain⟨M7,hM7⟩:∃ M7,M7=Mc.setCells x0.r T.zab [.int .i64 (x.up+1),.slice x.a x.more.length x.c]:=⟨_,rfl⟩
   have hself7:M7.has x0.r T.zab [.int .i64 (x.up+1),.slice x.a x.more.length x.c]:=hM7▸Mem.has_setCells;(conv=>whnf)
   erw [←hM7];refine zR ?_;refine on (hself7.c1 rfl) ?_;(conv=>whnf);refine on (hself7.c1 rfl) ?_;(conv=>whnf);refine on (hself7.c1 rfl) ?_;(conv=>whnf);refine ob ⟨by decide,by omega,by omega,by have:=hEC.more.1.1;omega⟩ ?_;refine zU ?_;refine on hself7.cells ?_;(conv=>whnf);refine ob (Nat.le_refl 2) ?_;have e1:((x.more.length:Int)).toNat - (1:Int).toNat=r.length:=by omega
   have e2:((x.more.length:Int)).toNat=r.length+1:=by omega
   have e3:(1:Int).toNat=1:=rfl;obtain⟨hpop,hpb⟩:=RowI.pop (hxm▸hEC.more);obtain⟨M8,hM8⟩:∃ M8,M8=M7.setCells x0.r T.zab [.int .i64 (x.up+1),.slice (subA x.a (1:Int).toNat ((x.more.length:Int)).toNat 1) (((x.more.length:Int)).toNat - (1:Int).toNat) (((x.more.length:Int)).toNat - (1:Int).toNat)]:=⟨_,rfl⟩
   have hself8:M8.has x0.r T.zab [.int .i64 (x.up+1),.slice (subA x.a 1 (r.length+1) 1) r.length r.length]:=by
    have:M8.has x0.r T.zab _:=hM8▸Mem.has_setCells;rw[e1,e2,e3] at this;exact this
   have hk8:Mem.keep (fun z=>z=x0.r) Mc M8:=fun z oo' hz ho=>by
    rw[hM8,hM7];unfold Mem.setCells;rw[Mem.upd_ne _ _ hz,Mem.upd_ne _ _ hz];exact ho
   have hblkr:∀ q,x.a=some q→q.block≠x0.r:=fun q hq e=>by
    obtain⟨cs,hh⟩:=hEC.more.block hq;rw[e] at hh;exact absurd (hh.inj hselfC).1 (by decide)
   (conv=>whnf);refine⟨⟨M8,⟨x0.r,subA x.a 1 (r.length+1) 1,r.length,x.up+1,r⟩⟩,⟨Mem.keep_trans hkC (Mem.keep_mono hk8 fun z hz => .inl hz),⟨hself8,hpop.mono fun q o' hq ho=>?_⟩,rfl,fun z hz=>?_,?_,by dsimp only;omega,by dsimp only;omega⟩,by dsimp only;omega,?_⟩
   ·obtain⟨q',hq',eb⟩:=hpb q hq;exact hk8 _ _ (fun e=>hblkr q' hq' (eb.trans e)) ho
   ·rcases hz with e|⟨q,hq,e⟩
    ·exact .inl (.inl e)
    ·obtain⟨q',hq',eb⟩:=hpb q hq;exact hownC z (.inr ⟨q',hq',eb.trans e⟩)
   ·rw[←hnC,hxm];simp only[normC,if_pos hy]
   ·rw[hM8];exact zS
  ·have hfin:normC x.up x.more=(x.up,x.more):=by
    have:¬y=x.up+1:=Zd1 g2;rw[hxm];simp only[normC,if_neg this]
   refine zR ?_;have hS:=hS3.turn hx0 hkC hEC hrC hownC
   rw[znP] at hS;refine⟨by rw[hz],.inr ⟨hz,fun y o' hy ho=>?_,x,hS,?_,fun y hy=>?_⟩⟩
   ·have hM2:M2 y=some o':=hle2 _ _ (hle1 _ _ ho);have hM3:=hk3 y o' (fun e=>hy (.inr (.inl e))) hM2
    refine hkC y o' (fun hxy=>?_) hM3;rcases hown0 y hxy with h8|h8
    ·exact hy h8
    ·rw[ho] at h8;cases h8
   ·rw[hfin] at hnC;exact hnC
   ·rcases hownC y hy with h8|h8
    ·exact hown0 y h8
    ·right;cases hM:M y with
     | none=>rfl
     | some z=>
      have hM2:M2 y=some z:=hle2 _ _ (hle1 _ _ hM);by_cases e:y=b
      ·subst e;obtain⟨l1,c1,hh,_⟩:=hS3.map;rw[hh] at h8;cases h8
      ·rw[hk3 y z e hM2] at h8;cases h8
 ·have hfin:normC x.up x.more=(x.up,x.more):=by
   have:x.more=[]:=List.eq_nil_of_length_eq_zero (by have:=Zd1 g1;omega);rw[this];rfl
  refine zR ?_;have hS:=hS3.turn hx0 hkC hEC hrC hownC
  rw[znP] at hS;refine⟨by rw[hz],.inr ⟨hz,fun y o' hy ho=>?_,x,hS,?_,fun y hy=>?_⟩⟩
  ·have hM2:M2 y=some o':=hle2 _ _ (hle1 _ _ ho);have hM3:=hk3 y o' (fun e=>hy (.inr (.inl e))) hM2
   refine hkC y o' (fun hxy=>?_) hM3;rcases hown0 y hxy with h8|h8
   ·exact hy h8
   ·rw[ho] at h8;cases h8
  ·rw[hfin] at hnC;exact hnC
  ·rcases hownC y hy with h8|h8
   ·exact hown0 y h8
   ·right;cases hM:M y with
    | none=>rfl
    | some z=>
     have hM2:M2 y=some z:=hle2 _ _ (hle1 _ _ hM);by_cases e:y=b
     ·subst e;obtain⟨l1,c1,hh,_⟩:=hS3.map;rw[hh] at h8;cases h8
     ·rw[hk3 y z e hM2] at h8;cases h8
end
section
@[reducible] def idV (o d e c:Int):Value := .agg #[.int .i64 o,.int .i64 d,.int .i64 e,.int .i64 c]
structure IdT where
 o:Int
 d:Int
 e:Int
 c:Int
deriving DecidableEq
@[reducible] def zE8 (i:IdT):List Value:=[.int .i64 i.o,.int .i64 i.d,.int .i64 i.e,.int .i64 i.c]
end
section
variable {M:Mem}
structure K where
 o:Int
 e:Int
 c:Int
deriving DecidableEq,Inhabited
@[reducible] def zfF (k:K):List Value:=[.int .i64 k.o,.int .i64 k.e,.int .i64 k.c]
@[reducible] def zzm (k:K):Value := .agg #[.int .i64 k.o,.int .i64 k.e,.int .i64 k.c]
theorem zhE (k:K):(zfF k).length=3:=rfl
def zfw (a b:K):Bool:=if a.o≠b.o then decide (a.o<b.o) else if a.e≠b.e then decide (a.e<b.e) else decide (a.c<b.c)
theorem zBJ (a b:K):CallsM Tryz.prog F.zjy [zzm a,zzm b] M fun v M'=>v = .bool (zfw a b)∧M=M':=by
 refine zum (by simp) ?_;(conv=>whnf);refine brn (fun h=>?_) (fun h=>?_)
 ·refine zR ?_;have h1:a.o≠b.o:=by simpa using h
  refine⟨?_,rfl⟩;unfold zfw;rw[if_pos h1]
 ·have h1:¬a.o≠b.o:=by simpa using h
  (conv=>whnf);refine brn (fun g=>?_) (fun g=>?_)
  ·refine zR ?_;have h2:a.e≠b.e:=by simpa using g
   refine⟨?_,rfl⟩;unfold zfw;rw[if_neg h1,if_pos h2]
  ·refine zR ?_;have h2:¬a.e≠b.e:=by simpa using g
   refine⟨?_,rfl⟩;unfold zfw;rw[if_neg h1,if_neg h2]
@[reducible] def zmi (room:Int) (a:Option Addr) (n c:Nat):Value := .agg #[.int .i64 room,.slice a n c]
theorem zAE {a:Option Addr} {n c:Nat} {L:List K} (hs:SrcOk M 3 a n (L.flatMap zfF)) (hn:n≤4194304) (room:Int) (k:K) :
  CallsM Tryz.prog F.zij [zmi room a n c,zzm k] M fun v M'=>v = .bool (decide (k∈L))∧M=M':=by
 refine zsM (by simp) ?_;have hl:=hs.flen zhE (by decide)
 (conv=>whnf);refine zdc [5] (fun (i:Nat)=>[(5,.int .i64 i)]) (fun i=>i≤n∧k∉L.take i) (fun i=>n - i) 0 ⟨by omega,by simp⟩ zS ?_;intro i ⟨hi,hnot⟩;(conv=>whnf);refine brn (fun h=>?_) (fun h=>?_)
 ·have hlt:i<L.length:=by have:=Zd0 h;omega
  have hx:L[i]? = some L[i]:=List.getElem?_eq_getElem hlt;obtain⟨b,o,rfl,hrow⟩:=hs.fall zhE (by decide) hx;have hin:L[i]∈L:=List.getElem_mem _
  have htk:L.take (i+1)=L.take i++[L[i]]:=by rw[List.take_add_one,hx];rfl
  generalize L[i]=x at *;(conv=>whnf);refine ob (by omega) ?_;(conv=>whnf);refine on hrow ?_;(conv=>whnf);refine brn (fun g=>?_) (fun g=>?_)
  ·refine zR ?_;refine⟨?_,rfl⟩
   have:x=k:=by
    obtain⟨x1,x2,x3⟩:=x;obtain⟨k1,k2,k3⟩:=k;simpa[and_assoc] using g
   subst this;simp[hin]
  ·(conv=>whnf);refine ob (zd (by omega)) ?_;(conv=>whnf)
   refine⟨i+1,⟨by omega,?_⟩,by omega,zS⟩;rw[htk];simp only[List.mem_append,List.mem_singleton,not_or];refine⟨hnot,fun e=>?_⟩;subst e;simp at g
 ·(conv=>whnf);simp only[decide_eq_false_iff_not] at h;refine⟨?_,rfl⟩;rw[List.take_of_length_le (by omega)] at hnot;simp[hnot]
def putK (k:K):List K→List K
 | []=>[k]
 | x::r=>if zfw k x then k::x::r else x::putK k r
def zi1 (dn:Bool) (k:K) (r:List K):List K:=if dn then r else putK k r
theorem zC8 {a:Option Addr} {n c:Nat} {L:List K} (hs:SrcOk M 3 a n (L.flatMap zfF)) (hn:n≤4194000) (k:K) :
  CallsM Tryz.prog F.zkQ [.slice a n c,zzm k] M fun v M'=>∃ a' c',v = .slice a' (n+1) c'∧NewSl M T.zbm 3 a' (n+1) c' ((putK k L).flatMap zfF) M':=by
 refine zvt (by simp) ?_;have hl:=hs.flen zhE (by decide)
 (conv=>whnf);refine new (fun b9 hb9=>?_);replace hb9:M b9=none:=hb9;have hN:NewSl M T.zbm 3 (some ⟨b9,0,none⟩) 0 0 (([]:List K).flatMap zfF) _:=NewSl.lit hb9 T.zbm 3 0 [] rfl
 obtain⟨M3,hM3⟩:∃ M3,M3=M.setCells b9 T.zbm []:=⟨_,rfl⟩
 rw[←hM3] at hN;(conv=>whnf)
 erw [←hM3]
 refine za6 (σ:=Nat×Mem×Option Addr×Nat×Bool×List K) [7,6,5] (fun y=>[(7,.int .i64 y.1),(6,.c (.v (.bool y.2.2.2.2.1))),(5,.slice y.2.2.1 y.2.2.2.2.2.length y.2.2.2.1)]) (fun _=>[.live T.zbm [.v (.int .i64 k.o),.v (.int .i64 k.e),.v (.int .i64 k.c)],.gone b9]) (fun y=>y.2.1)
  (fun|⟨i,M4,a4,c4,dn,out⟩=>i≤n∧out.length=i+dn.toNat∧NewSl M T.zbm 3 a4 out.length c4 (out.flatMap zfF) M4∧putK k L=out++zi1 dn k (L.drop i)) (fun y=>n - y.1) ⟨0,M3,_,_,false,[]⟩ ⟨by omega,by simp,hN,rfl⟩ zS ?_
 rintro ⟨i,M4,a4,c4,dn,out⟩ ⟨hi,hol,hN4,hins⟩;have hol1:out.length≤i+1:=by rw[hol];cases dn<;>simp
 (conv=>whnf);refine brn (fun g=>?_) (fun g=>?_)
 ·have hi':i<n:=by have:=Zd0 g;dsimp only at this;omega
  have hx:L[i]? = some (L[i]'(by omega)):=List.getElem?_eq_getElem (by omega);obtain⟨b,o,ha,hrow⟩:=hs.fall zhE (by decide) hx;have hrow4:=Mem.row_le hN4.le hrow
  rw[List.drop_eq_getElem_cons (by omega)] at hins;generalize L[i]'(by omega)=x at *
  have fin:∀ (dn':Bool) (out':List K) M6 a6 c6,out'.length=i+dn'.toNat→putK k L=out'++x::zi1 dn' k (L.drop (i+1))→NewSl M T.zbm 3 a6 (out'.length+1) c6 ((out'++[x]).flatMap zfF) M6 →
    (i+1≤n∧(out'++[x]).length=i+1+dn'.toNat∧NewSl M T.zbm 3 a6 (out'++[x]).length c6 ((out'++[x]).flatMap zfF) M6∧putK k L=(out'++[x])++zi1 dn' k (L.drop (i+1))):=fun dn' out' M6 a6 c6 h1 h2 h3=>
   ⟨by omega,by simp;omega,by simpa using h3,by rw[h2];simp⟩
  cases dn with
  | true=>
   have hrow5:=hrow4;have hN5:=hN4
   refine zR ?_;refine ob (by first|omega|(dsimp only;omega)) ?_;(conv=>whnf);refine atp ha ?_;(conv=>whnf);refine on hrow5 ?_;refine zR ?_;refine zdS M hN5 x rfl (by first|omega|(dsimp only;omega)) (by simp[maxLen];omega) (by simp[Value.oneCell']) fun a6 c6 M6 hN6 _=>?_
   (conv=>whnf);refine ob (zd (by first|omega|(dsimp only;omega))) ?_;(conv=>whnf)
   refine⟨⟨i+1,M6,a6,c6,true,out++[x]⟩,fin true out _ _ _ hol hins hN6,by dsimp only;omega,?_⟩;simp only[List.length_append,List.length_cons,List.length_nil];exact zS
  | false=>
   refine zR ?_;refine ob (by first|omega|(dsimp only;omega)) ?_;(conv=>whnf);refine atp ha ?_;(conv=>whnf);refine on hrow4 ?_;(conv=>whnf);refine⟨?_,True.intro⟩;(conv=>whnf);refine(zBJ k x).mono ?_;rintro v _ ⟨rfl,rfl⟩;refine zU ?_;refine brn (fun g1=>?_) (fun g1=>?_)
   ·have g1':zfw k x=true:=g1
    have hins':putK k L=(out++[k])++x::zi1 true k (L.drop (i+1)):=by
     rw[hins];simp[zi1,putK,g1']
    refine zR ?_;refine zdS M hN4 k rfl (by first|omega|(dsimp only;omega)) (by simp[maxLen];omega) (by simp[Value.oneCell']) fun a5 c5 M5 hN5' _=>?_
    have hrow5:=Mem.row_le hN5'.le hrow;have hN5:NewSl M T.zbm 3 a5 (out++[k]).length c5 ((out++[k]).flatMap zfF) M5:=by simpa using hN5'
    have hol5:(out++[k]).length=i+true.toNat:=by simp at hol ⊢; omega
    (conv=>whnf);have ho1:out.length=i:=by simpa using hol
    have hlen5:(out++[k]).length=out.length+1:=by simp
    rw[hlen5] at hN5;refine zR ?_;refine ob (by first|omega|(dsimp only;omega)) ?_;(conv=>whnf);refine atp ha ?_;(conv=>whnf);refine on hrow5 ?_;refine zR ?_;refine zdS M hN5 x rfl (by first|omega|(dsimp only;omega)) (by simp[maxLen];omega) (by simp[Value.oneCell']) fun a6 c6 M6 hN6 _=>?_
    (conv=>whnf);refine ob (zd (by first|omega|(dsimp only;omega))) ?_;(conv=>whnf)
    refine⟨⟨i+1,M6,a6,c6,true,(out++[k])++[x]⟩,fin true (out++[k]) _ _ _ hol5 hins' (by simpa using hN6),by dsimp only;omega,?_⟩;simp only[List.length_append,List.length_cons,List.length_nil];exact zS
   ·have g1':zfw k x=false:=g1
    have hins':putK k L=out++x::zi1 false k (L.drop (i+1)):=by
     rw[hins];simp[zi1,putK,g1']
    have hrow5:=hrow4;have hN5:=hN4
    refine zR ?_;refine ob (by first|omega|(dsimp only;omega)) ?_;(conv=>whnf);refine atp ha ?_;(conv=>whnf);refine on hrow5 ?_;refine zR ?_;refine zdS M hN5 x rfl (by first|omega|(dsimp only;omega)) (by simp[maxLen];omega) (by simp[Value.oneCell']) fun a6 c6 M6 hN6 _=>?_
    (conv=>whnf);refine ob (zd (by first|omega|(dsimp only;omega))) ?_;(conv=>whnf)
    refine⟨⟨i+1,M6,a6,c6,false,out++[x]⟩,fin false out _ _ _ hol hins' hN6,by dsimp only;omega,?_⟩;simp only[List.length_append,List.length_cons,List.length_nil];exact zS
 ·have hi':i=n:=by have:=Zd1 g;dsimp only at this;omega
  subst hi';have hdr:L.drop i=[]:=List.drop_of_length_le (by omega)
  rw[hdr] at hins;cases dn with
  | true=>
   have ho1:out.length=i+1:=by simpa using hol
   simp only[zi1,if_true,List.append_nil] at hins;refine zR ?_;rw[hins];exact⟨a4,c4,by rw[ho1],ho1▸hN4⟩
  | false=>
   have ho1:out.length=i:=by simpa using hol
   have e:zi1 false k []=[k]:=rfl;rw[e] at hins;refine zR ?_;refine zdS M hN4 k rfl (by first|omega|(dsimp only;omega)) (by simp[maxLen];omega) (by simp[Value.oneCell']) fun a6 c6 M6 hN6 _=>?_
   refine zR ?_;rw[hins];exact⟨a6,c6,by rw[ho1],ho1▸hN6⟩
end
section
variable {M:Mem}
def zjW (x y:Int):Int:=if x<y then -1 else if y<x then 1 else 0
theorem zEg (x y:Int):CallsM Tryz.prog F.zgd [.int .i64 x,.int .i64 y] M fun v M'=>v = .int .i64 (zjW x y)∧M=M':=by
 refine znK (by simp) ?_;(conv=>whnf);refine(zqp x).mono ?_;rintro v _ ⟨rfl,rfl⟩;refine zR ?_;refine(zqp y).mono ?_;rintro v _ ⟨rfl,rfl⟩;refine zR ?_;refine brn (fun h=>?_) (fun h=>?_)
 ·refine zR ?_;exact⟨by simp[zjW,Zd0 h],rfl⟩
 ·have h1:=Zd1 h;(conv=>whnf);refine brn (fun g=>?_) (fun g=>?_)
  ·refine zR ?_;exact⟨by simp[zjW,h1,Zd0 g],rfl⟩
  ·refine zR ?_;have g1:=Zd1 g
   refine⟨?_,rfl⟩;unfold zjW;rw[if_neg h1,if_neg g1]
def zlf:List Int→List Int→Int
 | [],[]=>0
 | [],_::_ => -1
 | _::_,[]=>1
 | x::r,y::s=>if zjW x y≠0 then zjW x y else zlf r s
theorem zmj {a b:Option Addr} {n m c d:Nat} {X Y:List Int} (hx:SrcOk M 1 a n (X.map zaa)) (hy:SrcOk M 1 b m (Y.map zaa)) (hn:n≤4194304) (hm:m≤4194304) :
  CallsM Tryz.prog F.zb4 [.slice a n c,.slice b m d] M fun v M'=>v = .int .i64 (zlf X Y)∧M=M':=by
 refine ziQ (by simp) ?_;have hX:=hx.maplen
 have hY:=hy.maplen;(conv=>whnf)
 refine zdc [11] (fun (i:Nat)=>[(11,.int .i64 i)]) (fun i=>i≤n∧i≤m∧zlf X Y=zlf (X.drop i) (Y.drop i)) (fun i=>n - i) 0 ⟨by omega,by omega,rfl⟩ zS ?_;rintro i ⟨hi,hj,he⟩;(conv=>whnf);refine brn (fun h=>?_) (fun h=>?_)
 ·have hlt:i<n:=by have:=Zd0 h;omega
  obtain⟨h1,b1,o1,rfl,hrow1⟩:=hx.at (i:=i) hlt;(conv=>whnf);refine ob (by omega) ?_;(conv=>whnf);refine on hrow1 ?_;(conv=>whnf);refine brn (fun g=>?_) (fun g=>?_)
  ·have hge:m≤i:=by have:=Zd0 g;omega
   refine zR ?_;refine⟨?_,rfl⟩;rw[he,List.drop_eq_getElem_cons h1,List.drop_of_length_le (l:=Y) (by omega)];rfl
  ·have hlt2:i<m:=by have:=Zd1 g;omega
   obtain⟨h2,b2,o2,rfl,hrow2⟩:=hy.at (i:=i) hlt2;(conv=>whnf);refine ob (by omega) ?_;(conv=>whnf);refine on hrow2 ?_;(conv=>whnf);refine(zEg _ _).mono ?_;rintro v _ ⟨rfl,rfl⟩
   have he2:zlf X Y=if zjW X[i] Y[i]≠0 then zjW X[i] Y[i] else zlf (X.drop (i+1)) (Y.drop (i+1)):=by
    rw[he,List.drop_eq_getElem_cons h1,List.drop_eq_getElem_cons h2];rfl
   (conv=>whnf);refine brn (fun k=>?_) (fun k=>?_)
   ·have hk:zjW X[i] Y[i]≠0:=by simpa using k
    refine zR ?_;refine⟨?_,rfl⟩;rw[he2,if_pos hk]
   ·have hk:¬zjW X[i] Y[i]≠0:=by simpa using k
    (conv=>whnf);refine ob (zd (by omega)) ?_;(conv=>whnf)
    refine⟨i+1,⟨by omega,by omega,?_⟩,by omega,zS⟩;rw[he2,if_neg hk]
 ·have hge:n≤i:=by have:=Zd1 h;omega
  have hdx:X.drop i=[]:=List.drop_of_length_le (by omega);(conv=>whnf);refine brn (fun g=>?_) (fun g=>?_)
  ·have hlt2:i<m:=by have:=Zd0 g;omega
   refine zR ?_;refine⟨?_,rfl⟩;rw[he,hdx,List.drop_eq_getElem_cons (l:=Y) (by omega)];rfl
  ·have hge2:m≤i:=by have:=Zd1 g;omega
   refine zR ?_;refine⟨?_,rfl⟩;rw[he,hdx,List.drop_of_length_le (l:=Y) (by omega)];rfl
structure MkC where
 o:Int
 e:Int
 up:Int
 a:Option Addr
 c:Nat
 more:List Int
deriving Inhabited
@[reducible] def zhF (m:MkC):List Value:=[.int .i64 m.o,.int .i64 m.e,.int .i64 m.up,.slice m.a m.more.length m.c]
theorem zaS (m:MkC):(zhF m).length=4:=rfl
def zjX (x y:MkC):Int:=zlf [x.o,x.e] [y.o,y.e]
theorem zC9 (x y:MkC):CallsM Tryz.prog F.zes [.agg (zhF x).toArray,.agg (zhF y).toArray] M fun v _=>v = .int .i64 (zjX x y):=by
 refine zm7 (by simp) ?_;refine zR ?_;refine new (fun b1 hb1=>?_);replace hb1:M b1=none:=hb1;refine zR ?_;refine new (fun b2 hb2=>?_);replace hb2:(M.setCells b1 T.zr [.int .i64 x.o,.int .i64 x.e]) b2=none:=hb2;refine zR ?_;refine(zmj (X:=[x.o,x.e]) (Y:=[y.o,y.e]) ?_ ?_ (by omega) (by omega)).mono ?_
 ·exact((Mem.has_setCells (M:=M)).src rfl).le (Mem.le_setCells hb2)
 ·exact Mem.has_setCells.src rfl
 rintro v _ ⟨rfl,rfl⟩;refine zR ?_;rfl
theorem zhG (x y:MkC):zjX x y<0↔x.o<y.o∨(x.o=y.o∧x.e<y.e):=by
 unfold zjX zlf zlf zlf zjW
 repeat' split
 all_goals omega
theorem zBK:Go.Sort.SWO (Go.Proofs.ltOf zjX):=by
 have h:∀ x y:MkC,Go.Proofs.ltOf zjX x y=decide (x.o<y.o∨(x.o=y.o∧x.e<y.e)):=fun x y=>by
  unfold Go.Proofs.ltOf;simp only[zhG]
 refine⟨fun x=>?_,fun x y z=>?_,fun x y z=>?_⟩<;>simp only[h,decide_eq_true_eq,decide_eq_false_iff_not]<;>omega
end
end Go.Proofs.YtpdkkbpkplhdpaaGreat
