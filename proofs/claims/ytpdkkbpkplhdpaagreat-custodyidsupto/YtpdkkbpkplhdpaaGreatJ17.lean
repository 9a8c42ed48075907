/- Part of this proof;laid by program. -/
import Derived.Test.YtpdkkbpkplhdpaaGreatJ11
import Derived.Test.YtpdkkbpkplhdpaaGreatJ16
import Derived.Test.YtpdkkbpkplhdpaaGreatJ10
set_option linter.unusedVariables false
set_option linter.unusedSimpArgs false
namespace Go.Proofs.YtpdkkbpkplhdpaaGreat
open Go Go.Vm
attribute [local irreducible] Brn Ob Grow CallsM inR zaD zaC Mem.row Mem.cells Mem.setCells Mem.upd Go.Vm.Own zaG za7 za9 zaR New SrcOk subA NewSl Mem.textAt Mem.mapAt Mem.iterAt zaB zam Wr NewEls Elems
set_option maxRecDepth 10000
section
@[reducible] def keyV (k:Int×Int):Value := .agg #[.int .i64 k.1,.int .i64 k.2]
theorem zsH:zjM keyV:=by
 intro a b
 obtain⟨a1,a2⟩:=a
 obtain⟨b1,b2⟩:=b
 simp only[zfm,zbU,if_true,Prod.mk.injEq]
 (repeat' split)<;>simp_all
structure Ent where
 r:Nat
 a:Option Addr
 c:Nat
 up:Int
 more:List Int
def RowI (M:Mem) (a:Option Addr) (c:Nat) (l:List Int):Prop:=
 (l.length≤c∧c≤maxLen)∧((a=none∧c=0)∨∃ b o cs,a=some ⟨b,o,none⟩∧M.has b T.zw cs∧o+c≤cs.length∧(cs.drop o).take l.length=l.map zan)
structure EntAt (M:Mem) (x:Ent):Prop where
 self:M.has x.r T.zaa [.int .i64 x.up,.slice x.a x.more.length x.c]
 more:RowI M x.a x.c x.more
theorem RowI.src {M:Mem} {a:Option Addr} {c:Nat} {l:List Int} (h:RowI M a c l):SrcOk M 1 a l.length (l.map zan):=by
 obtain⟨hc,⟨rfl,rfl⟩|⟨b,o,cs,rfl,hh,ho,ht⟩⟩:=h
 ·have:l=[]:=List.eq_nil_of_length_eq_zero (by omega)
  subst this
  unfold SrcOk
  exact⟨rfl,.inl rfl⟩
 ·unfold SrcOk
  refine⟨by simp,.inr ⟨b,o,rfl,?_⟩⟩
  rw[hh.row (by omega),Nat.mul_one];rw[ht]
theorem RowI.mono {M M':Mem} {a:Option Addr} {c:Nat} {l:List Int} (h:RowI M a c l) (hk:∀ q o,a=some q→M q.block=some o→M' q.block=some o):RowI M' a c l:=by
 obtain⟨hc,h1|⟨b,o,cs,rfl,hh,hr⟩⟩:=h
 ·exact⟨hc,.inl h1⟩
 ·exact⟨hc,.inr ⟨b,o,cs,rfl,hk _ _ rfl hh,hr⟩⟩
theorem RowI.block {M:Mem} {a:Option Addr} {c:Nat} {l:List Int} (h:RowI M a c l) {q:Addr} (hq:a=some q):∃ cs,M.has q.block T.zw cs:=by
 obtain⟨hc,⟨h1,_⟩|⟨b,o,cs,rfl,hh,hr⟩⟩:=h
 ·rw[h1] at hq;cases hq
 ·cases hq;exact⟨cs,hh⟩
def Ent.own (x:Ent):Nat→Prop:=fun y=>y=x.r∨blk x.a y
theorem EntAt.mono {M M':Mem} {x:Ent} (h:EntAt M x) (hk:∀ y o,x.own y→M y=some o→M' y=some o):EntAt M' x:=
 ⟨hk _ _ (.inl rfl) h.self,h.more.mono fun q o hq=>hk _ o (.inr ⟨q,hq,rfl⟩)⟩
theorem EntAt.le {M M':Mem} {x:Ent} (h:EntAt M x) (hle:M.le M'):EntAt M' x:=h.mono fun y o _=>hle y o
def zDB (x y:Ent):Prop:=∀ z,x.own z→¬y.own z
@[reducible] def zfd (x:Ent):Value:=ptr x.r
structure SetAt (M:Mem) (p b:Nat) (gaps:Int) (es:List ((Int×Int)×Ent)):Prop where
 self:M.has p T.zqA [.int .i64 gaps,.map (some b)]
 map:MapAt keyV zfd M b es
 ents:∀ q∈es,EntAt M q.2
 apart:es.Pairwise fun x y=>zDB x.2 y.2
theorem SetAt.le {M M':Mem} {p b:Nat} {gaps:Int} {es:List ((Int×Int)×Ent)} (h:SetAt M p b gaps es) (hle:M.le M'):SetAt M' p b gaps es:=
 ⟨h.self.le hle,h.map.mono fun o=>hle _ o,fun q hq=>(h.ents q hq).le hle,h.apart⟩
theorem EntAt.nomap {M:Mem} {x:Ent} (h:EntAt M x) {b:Nat} {es:List ((Int×Int)×Ent)} (hm:MapAt keyV zfd M b es):¬x.own b:=by
 rintro (e|⟨q,hq,e⟩)
 ·exact hm.nb h.self e.symm
 ·obtain⟨cs,hh⟩:=h.more.block hq
  exact hm.nb hh e
variable {M:Mem} {p b:Nat} {gaps:Int} {es:List ((Int×Int)×Ent)}
theorem zzZ (gaps:Int):CallsM Tryz.prog F.zgy [.int .i64 gaps] M fun v M'=>
  ((gaps<0∨256<gaps)∧v = .tuple #[.pointer none,.int .i64 1]∧M'=M) ∨
  (¬(gaps<0∨256<gaps)∧∃ p b,v = .tuple #[ptr p,.int .i64 0]∧M p=none∧M b=none∧M.le M'∧SetAt M' p b gaps []):=by
 refine zww (by simp) ?_
 (conv=>whnf);refine brn (fun h=>?_) (fun h=>?_)
 ·refine zR ?_
  exact .inl ⟨.inl (Zd0 h),rfl,rfl⟩
 (conv=>whnf);refine brn (fun h1=>?_) (fun h1=>?_)
 ·(conv=>whnf)
  exact .inl ⟨.inr (Zd0 h1),rfl,rfl⟩
 ·(conv=>whnf);refine new (fun b hb=>?_)
  replace hb:M b=none:=hb
  (conv=>whnf);refine new (fun p hp=>?_)
  replace hp:(M.upd b (.map #[] 0)) p=none:=hp
  have hne:p≠b:=fun e=>by subst e;rw[Mem.upd_same] at hp;cases hp
  rw[Mem.upd_ne _ _ hne] at hp
  (conv=>whnf)
  have hn:¬(gaps<0∨256<gaps):=by
   have:=Zd1 h
   have:=Zd1 h1
   omega
  refine .inr ⟨hn,p,b,rfl,hp,hb,Mem.le_trans (Mem.le_upd hb) (Mem.le_setCells (by rw[Mem.upd_ne _ _ hne];exact hp)),Mem.has_setCells,?_,by simp,by simp⟩
  refine(MapAt.new M b).mono fun o ho=>?_
  unfold Mem.setCells
  rw[Mem.upd_ne _ _ (Ne.symm hne)];exact ho
theorem zyD (h:SetAt M p b gaps es) (o d e c:Int):CallsM Tryz.prog F.zdm [ptr p,.agg #[.int .i64 o,.int .i64 d,.int .i64 e,.int .i64 c]] M fun v M'=>
  (∃ x,zF es (o,e)=some x∧v=ptr x.r∧M'=M) ∨
  (zF es (o,e)=none∧∃ r,v=ptr r∧M r=none∧M'=M.setCells r T.zaa [.int .i64 0,.slice none 0 0]):=by
 refine zst (by simp) ?_
 refine zR ?_
 refine on (h.self.c1 rfl) ?_
 (conv=>whnf)
 refine h.map.get zsH (o,e) (fun hn=>?_) (fun x j hx=>?_)
 ·refine zR ?_
  refine new (fun r hr=>?_)
  replace hr:M r=none:=hr
  (conv=>whnf)
  exact .inr ⟨hn,r,rfl,hr,rfl⟩
 ·refine zR ?_
  exact .inl ⟨x,hx,rfl,rfl⟩
end
section
set_option maxRecDepth 10000 in
theorem zA4 (a:Option Addr) (n c:Nat) (x:Int) (M:Mem) (l:List Int) (hs:SrcOk M 1 a n (l.map zan)) (hn:n≤4194304) :
  CallsM Tryz.prog F.zen [.slice a n c,.int .i64 x] M fun v M'=>(∃ i:Int,v = .int .i64 i∧(0≤i↔x∈l))∧M=M':=by
 refine zjE (by simp) ?_
 have hl:=hs.maplen
 (conv=>whnf)
 refine ze1 [8] (fun (i:Nat)=>[(8,.int .i64 i)]) (fun i=>i≤n∧x∉l.take i) (fun i=>n - i) 0 ⟨by omega,by simp⟩ zS ?_
 intro i ⟨hi,hnot⟩
 (conv=>whnf);refine brn (fun h=>?_) (fun h=>?_)
 ·simp only[decide_eq_true_eq] at h
  obtain⟨hlt,b,o,rfl,hrow⟩:=hs.at (i:=i) (by omega)
  (conv=>whnf);refine ob (by omega) ?_
  (conv=>whnf);refine on hrow ?_
  (conv=>whnf);refine brn (fun g=>?_) (fun g=>?_)
  ·(conv=>whnf)
   refine⟨⟨i,rfl,?_⟩,rfl⟩
   simp only[decide_eq_true_eq] at g
   subst g
   exact⟨fun _=>List.getElem_mem _,fun _=>by omega⟩
  ·(conv=>whnf);refine ob (ze (by omega)) ?_
   (conv=>whnf)
   refine⟨i+1,⟨by omega,?_⟩,by omega,zS⟩
   simp only[decide_eq_false_iff_not] at g
   rw[List.take_add_one,List.getElem?_eq_getElem hlt]
   simp only[Option.toList_some,List.mem_append,List.mem_singleton,not_or]
   exact⟨hnot,g⟩
 ·(conv=>whnf)
  simp only[decide_eq_false_iff_not] at h
  refine⟨⟨-1,rfl,?_⟩,rfl⟩
  rw[List.take_of_length_le (by omega)] at hnot
  simp[hnot]
theorem zoV (a:Option Addr) (n c:Nat) (x:Int) (M:Mem) (l:List Int) (hs:SrcOk M 1 a n (l.map zan)) (hn:n≤4194304) :
  CallsM Tryz.prog F.zdy [.slice a n c,.int .i64 x] M fun v M'=>v = .bool (decide (x∈l))∧M=M':=by
 refine zhH (by simp) ?_
 (conv=>whnf);refine(zA4 a n c x M l hs hn).mono ?_
 rintro v M' ⟨⟨i,rfl,hi⟩,rfl⟩
 (conv=>whnf)
 exact⟨by simp[hi],rfl⟩
variable {M:Mem} {p b:Nat} {gaps:Int} {es:List ((Int×Int)×Ent)}
def zcC (es:List ((Int×Int)×Ent)) (k:Int×Int):Int:=match zF es k with|some x=>x.up|none=>0
def zbY (es:List ((Int×Int)×Ent)) (k:Int×Int):List Int:=match zF es k with|some x=>x.more|none=>[]
def zg8 (es:List ((Int×Int)×Ent)) (o d e c:Int):Bool:=decide (zbz o d e c=0)&&(decide (c≤zcC es (o,e))||decide (c∈zbY es (o,e)))
def zaH (es:List ((Int×Int)×Ent)):Nat:=(es.map fun q=>q.2.more.length).sum
theorem zyE {l r:List ((Int×Int)×Ent)} (h:l.Perm r):zaH l=zaH r:=(h.map _).sum_nat
theorem zi9 {q:(Int×Int)×Ent}:∀ {es:List ((Int×Int)×Ent)},q∈es→q.2.more.length≤zaH es
 | [],h=>by cases h
 | x::r,h=>by
  simp only[zaH,List.map_cons,List.sum_cons]
  rcases List.mem_cons.1 h with rfl|h
  ·omega
  ·have:=zi9 h
   simp only[zaH] at this
   omega
def zur (es:List ((Int×Int)×Ent)):Prop:=∀ q∈es,0≤q.2.up∧q.2.up≤65535
theorem zDC (h:SetAt M p b gaps es) (hg:zaH es≤4194304) (o d e c:Int):CallsM Tryz.prog F.zg2 [ptr p,.agg #[.int .i64 o,.int .i64 d,.int .i64 e,.int .i64 c]] M fun v M'=>v = .bool (zg8 es o d e c)∧M.le M':=by
 refine zqR (by simp) ?_
 (conv=>whnf);refine brn_f rfl ?_
 (conv=>whnf);refine(zf8 o d e c M).mono ?_
 rintro v _ ⟨rfl,rfl⟩
 (conv=>whnf);refine brn (fun g=>?_) (fun g=>?_)
 ·(conv=>whnf)
  have:¬zbz o d e c=0:=by simpa using g
  exact⟨by simp[zg8,this],Mem.le_refl _⟩
 have hok:zbz o d e c=0:=by simpa using g
 (conv=>whnf);refine(zyD h o d e c).mono ?_
 rintro v M1 (⟨x,hx,rfl,rfl⟩|⟨hn,r,rfl,hr,rfl⟩)
 ·have hxe:=h.ents _ (zQ hx)
  have hlen:x.more.length≤4194304:=Nat.le_trans (zi9 (zQ hx)) hg
  (conv=>whnf);refine on (hxe.self.c1 rfl) ?_
  (conv=>whnf);refine brn (fun g1=>?_) (fun g1=>?_)
  ·have g1':c≤x.up:=Zd0 g1
   refine zR ?_
   exact⟨by simp[zg8,hok,zcC,hx,g1'],Mem.le_refl _⟩
  ·have g1':¬c≤x.up:=Zd1 g1
   (conv=>whnf);refine on (hxe.self.c1 rfl) ?_
   refine zU ?_
   refine(zoV x.a x.more.length x.c c _ x.more hxe.more.src hlen).mono ?_
   rintro v _ ⟨rfl,rfl⟩
   (conv=>whnf)
   exact⟨by simp[zg8,hok,zcC,zbY,hx,g1'],Mem.le_refl _⟩
 ·have hle:M.le (M.setCells r T.zaa [.int .i64 0,.slice none 0 0]):=Mem.le_setCells hr
  have hh:=Mem.has_setCells (M:=M) (b:=r) (E:=T.zaa) (l:=[.int .i64 0,.slice none 0 0])
  obtain⟨M1,hM1⟩:∃ M1,M1=M.setCells r T.zaa [.int .i64 0,.slice none 0 0]:=⟨_,rfl⟩
  rw[←hM1] at hle hh ⊢
  have hc:1≤c:=by unfold zbz at hok;split at hok<;>(try cases hok);omega
  (conv=>whnf);refine on (hh.c1 rfl) ?_
  (conv=>whnf);refine brn_f (by simp;omega) ?_
  (conv=>whnf);refine on (hh.c1 rfl) ?_
  refine zU ?_
  refine(zoV none 0 0 c M1 [] (SrcOk.nil M1 1) (by omega)).mono ?_
  rintro v _ ⟨rfl,rfl⟩
  (conv=>whnf)
  have hlt:¬c≤0:=by omega
  exact⟨by simp[zg8,hok,zcC,zbY,hn,hlt],hle⟩
theorem zxg (h:SetAt M p b gaps es) (hg:zaH es≤4611686018427387904):CallsM Tryz.prog F.zeZ [ptr p] M fun v M'=>v = .int .i64 (zaH es)∧M.le M':=by
 refine zpN (by simp) ?_
 (conv=>whnf);refine brn_t rfl ?_
 (conv=>whnf);refine on (h.self.c1 rfl) ?_
 (conv=>whnf)
 refine h.map.range fun q bi hbi hI=>?_
 replace hbi:M bi=none:=hbi
 (conv=>whnf)
 refine zbh (σ:=Mem×Nat×List ((Int×Int)×Ent)) [3] (fun x=>[(3,.int .i64 x.2.1)]) (fun _=>[]) (fun x=>x.1)
  (fun|⟨M1,n,todo⟩=>M.le M1∧Iter keyV zfd M1 bi b es todo∧n+zaH todo=zaH es) (fun x=>x.2.2.length) ⟨_,0,es⟩
  ⟨Mem.le_upd hbi,hI,by omega⟩ zS ?_
 rintro ⟨M1,n,todo⟩ ⟨hle,hI1,hsum⟩
 (conv=>whnf)
 refine hI1.next (fun h0=>?_) (fun i k todo' o' hperm hI2 hent=>?_)
 ·subst h0
  refine zR ?_
  refine⟨?_,hle⟩
  have:zaH []=0:=rfl
  congr 1
  dsimp only
  omega
 ·have hle2:M.le (M1.upd bi o'):=fun y o hb=>by
   rw[Mem.upd_ne _ _ (fun e=>by subst e;rw[hbi] at hb;cases hb)];exact hle _ _ hb
  obtain⟨M2,hM2⟩:∃ M2,M2=M1.upd bi o':=⟨_,rfl⟩
  rw[←hM2] at hI2 hent hle2
  have hmem:(i,k)∈es:=hI1.todo_sub _ (hperm.mem_iff.2 (by simp))
  have hke:=(h.le hle2).ents _ hmem
  have hs:=zyE hperm
  simp only[zaH,List.map_cons,List.sum_cons] at hs
  have hsum':n+k.more.length+zaH todo'=zaH es:=by simp only[zaH] at hsum ⊢; omega
  (conv=>whnf)
  erw [←hM2]
  refine zR ?_
  refine on hent ?_
  (conv=>whnf);refine on (hke.self.c1 rfl) ?_
  (conv=>whnf);refine ob (ze (by dsimp only;omega)) ?_
  (conv=>whnf)
  refine⟨⟨M2,n+k.more.length,todo'⟩,⟨hle2,hI2,hsum'⟩,by have:=hperm.length_eq;simp at this ⊢; omega,zS⟩
def zdn (gaps:Int) (es:List ((Int×Int)×Ent)) (o d e c:Int):Int:=
 if zbz o d e c≠0 then zbz o d e c else if zg8 es o d e c then 5 else if c≠zcC es (o,e)+1∧gaps≤zaH es then 6 else 0
theorem zrk (hgd:zur es) (k:Int×Int):0≤zcC es k∧zcC es k≤65535:=by
 unfold zcC
 cases hx:zF es k with
 | none=>dsimp only;omega
 | some x=>exact hgd _ (zQ hx)
theorem zvC (h:SetAt M p b gaps es) (hg:zaH es≤4194304) (hgd:zur es) (o d e c:Int):CallsM Tryz.prog F.zfu [ptr p,.agg #[.int .i64 o,.int .i64 d,.int .i64 e,.int .i64 c]] M fun v M'=>v = .int .i64 (zdn gaps es o d e c)∧M.le M':=by
 refine zqY (by simp) ?_
 (conv=>whnf);refine brn_f rfl ?_
 (conv=>whnf);refine(zf8 o d e c M).mono ?_
 rintro v _ ⟨rfl,rfl⟩
 (conv=>whnf);refine brn (fun g=>?_) (fun g=>?_)
 ·(conv=>whnf)
  have:¬zbz o d e c=0:=by simpa using g
  exact⟨by simp[zdn,this],Mem.le_refl _⟩
 have hok:zbz o d e c=0:=by simpa using g
 (conv=>whnf);refine(zDC h hg o d e c).mono ?_
 rintro v M1 ⟨rfl,hle1⟩
 have h1:=h.le hle1
 (conv=>whnf);refine brn (fun g=>?_) (fun g=>?_)
 ·(conv=>whnf)
  exact⟨by simp[zdn,hok,g],hle1⟩
 have hno:zg8 es o d e c=false:=g
 have hur:=zrk hgd (o,e)
 have fin:∀ (t:Bool),t=(decide (c≠zcC es (o,e)+1)&&decide (gaps≤zaH es))→zdn gaps es o d e c=if t then 6 else 0:=fun t ht=>by
  subst ht
  simp only[zdn,hok,hno]
  by_cases e1:c=zcC es (o,e)+1<;>by_cases e2:gaps≤(zaH es:Int)<;>simp[e1,e2]
 have key:CallsM Tryz.prog F.zdm [ptr p,.agg #[.int .i64 o,.int .i64 d,.int .i64 e,.int .i64 c]] M1 fun v M'=>∃ r,v=ptr r∧M1.le M'∧M'.row r 0 1=some [.int .i64 (zcC es (o,e))]:=(zyD h1 o d e c).mono fun v M' hv=>by
  rcases hv with ⟨x,hx,rfl,rfl⟩|⟨hn,r,rfl,hr,rfl⟩
  ·refine⟨x.r,rfl,Mem.le_refl _,?_⟩
   have:=(h1.ents _ (zQ hx)).self.c1 (o:=0) rfl
   simpa[zcC,hx] using this
  ·refine⟨r,rfl,Mem.le_setCells hr,?_⟩
   have:=(Mem.has_setCells (M:=M1) (b:=r) (E:=T.zaa) (l:=[.int .i64 0,.slice none 0 0])).c1 (o:=0) rfl
   simpa[zcC,hn] using this
 (conv=>whnf);refine⟨M1,Mem.le_refl _,?_⟩
 refine zU ?_
 refine key.mono ?_
 rintro v M2 ⟨r,rfl,hle2,hrow⟩
 have hself2:=(h1.le hle2).self
 (conv=>whnf);refine ob rfl ?_
 (conv=>whnf);refine zD3 M2 hle2 (Mem.le_refl _) ?_
 (conv=>whnf);refine on hrow ?_
 (conv=>whnf);refine ob (ze (by omega)) ?_
 (conv=>whnf);refine brn (fun g1=>?_) (fun g1=>?_)
 ·(conv=>whnf);refine on (hself2.c1 rfl) ?_
  refine zU ?_
  refine(zxg (h1.le hle2) (by omega)).mono ?_
  rintro v M3 ⟨rfl,hle3⟩
  refine zT (hle3) ?_
  refine brn (fun g2=>?_) (fun g2=>?_)
  ·have e:=fin true (by rw[Bool.not_eq_true',decide_eq_false_iff_not] at g1;simp[g1,Zd0 g2])
   (conv=>whnf)
   exact⟨by rw[e];rfl,Mem.le_trans hle1 (Mem.le_trans hle2 hle3)⟩
  ·have e:=fin false (by simp[Zd1 g2])
   (conv=>whnf)
   exact⟨by rw[e];rfl,Mem.le_trans hle1 (Mem.le_trans hle2 hle3)⟩
 ·have e:=fin false (by simp at g1;simp[g1])
  refine zU ?_
  (conv=>whnf)
  exact⟨by rw[e];rfl,Mem.le_trans hle1 hle2⟩
end
section
variable {M:Mem}
theorem zp3 (x:Int):CallsM Tryz.prog F.zdi [.int .i64 x] M fun v M'=>v = .bool false∧M=M':=by
 refine zpV (by simp) ?_
 refine zR ?_
 exact⟨by simp,rfl⟩
theorem zDD (x:Int):CallsM Tryz.prog F.zeb [.int .i64 x] M fun v M'=>v = .bool false∧M=M':=by
 refine zmz (by simp) ?_
 refine zR ?_
 exact⟨by simp,rfl⟩
theorem zCr (x y:Int):CallsM Tryz.prog F.zg4 [.int .i64 x,.int .i64 y] M fun v M'=>v = .bool (decide (x<y))∧M=M':=by
 refine zq6 (by simp) ?_
 (conv=>whnf);refine(zp3 x).mono ?_
 rintro v _ ⟨rfl,rfl⟩
 refine zR ?_
 exact⟨rfl,rfl⟩
theorem zyF {a:Option Addr} {n c:Nat} {l:List Int} (hs:SrcOk M 1 a n (l.map zan)) (hn:n≤4194304) (hl:l.Pairwise (· < ·)) (x:Int) :
  CallsM Tryz.prog F.zcR [.slice a n c,.int .i64 x] M fun v M'=>∃ (i:Nat) (f:Bool),v = .tuple #[.int .i64 i,.bool f]∧i≤n∧(∀ k y,k<i→l[k]? = some y→y<x)∧(∀ k y,i≤k→l[k]? = some y→x≤y)∧M=M':=by
 refine zgF (by simp) ?_
 have hll:=hs.maplen
 have hmono:∀ k k' y y',k≤k'→l[k]? = some y→l[k']? = some y'→y≤y':=fun k k' y y' hk h1 h2=>by
  rcases Nat.lt_or_ge k k' with h|h
  ·have hk':=(List.getElem?_eq_some_iff.1 h2).1
   have:=List.pairwise_iff_getElem.1 hl k k' (by omega) hk' h
   rw[List.getElem?_eq_getElem (by omega)] at h1
   rw[List.getElem?_eq_getElem hk'] at h2
   cases h1;cases h2;omega
  ·have:k=k':=Nat.le_antisymm hk h
   subst this;rw[h1] at h2;cases h2;omega
 (conv=>whnf)
 refine ze1 (σ:=Nat×Nat) [7,8] (fun q=>[(7,.int .i64 q.1),(8,.int .i64 q.2)]) (fun|⟨i,j⟩=>i≤j∧j≤n∧(∀ k y,k<i→l[k]? = some y→y<x)∧(∀ k y,j≤k→l[k]? = some y→x≤y)) (fun q=>q.2 - q.1) ⟨0,n⟩
  ⟨by omega,by omega,fun k y hk=>by omega,fun k y hk hy=>by rw[List.getElem?_eq_none (by omega)] at hy;cases hy⟩ zS ?_
 rintro ⟨i,j⟩ ⟨hij,hj,h1,h2⟩
 (conv=>whnf);refine brn (fun g=>?_) (fun g=>?_)
 ·have hlt:i<j:=by have:=Zd0 g;dsimp only at this;omega
  (conv=>whnf);refine ob (ze (by first|omega|(dsimp only;omega))) ?_
  (conv=>whnf);refine ob (by decide) ?_
  (conv=>whnf)
  have hmid:IntKind.i64.wrap ((IntKind.u64.wrap ((i:Int)+j)).fdiv (2 ^ min (Int.toNat 1) IntKind.u64.bits))=(((i+j) / 2:Nat):Int):=by
   have e1:IntKind.u64.wrap ((i:Int)+j)=((i+j:Nat):Int):=by rw[IntKind.wrap_u64];omega
   have e2:(2:Int) ^ min (Int.toNat 1) IntKind.u64.bits=2:=by decide
   have e3:((i+j:Nat):Int).fdiv 2=(((i+j) / 2:Nat):Int):=by rw[Int.fdiv_eq_ediv_of_nonneg _ (by decide)];omega
   rw[e1,e2,e3,IntKind.wrap_i64]
   omega
  rw[hmid]
  obtain⟨m,hm⟩:∃ m,m=(i+j) / 2:=⟨_,rfl⟩
  rw[←hm]
  obtain⟨hlm,b,o,rfl,hrow⟩:=hs.at (i:=m) (by omega)
  have hgm:l[m]? = some l[m]:=List.getElem?_eq_getElem hlm
  refine ob (by omega) ?_
  (conv=>whnf);refine on hrow ?_
  (conv=>whnf);refine(zCr _ _).mono ?_
  rintro v _ ⟨rfl,rfl⟩
  (conv=>whnf);refine brn (fun g1=>?_) (fun g1=>?_)
  ·have hx:l[m]<x:=Zd0 g1
   (conv=>whnf);refine ob (ze (by omega)) ?_
   (conv=>whnf)
   refine⟨⟨m+1,j⟩,⟨by omega,by omega,fun k y hk hy=>?_,h2⟩,by dsimp only;omega,zS⟩
   have:=hmono k m y l[m] (by omega) hy hgm
   omega
  ·have hx:¬l[m]<x:=Zd1 g1
   (conv=>whnf)
   refine⟨⟨i,m⟩,⟨by omega,by omega,h1,fun k y hk hy=>?_⟩,by dsimp only;omega,zS⟩
   have:=hmono m k l[m] y hk hgm hy
   omega
 ·have he:i=j:=by have:=Zd1 g;dsimp only at this;omega
  subst he
  (conv=>whnf);refine brn (fun g=>?_) (fun g=>?_)
  ·have hlt:i<n:=by have:=Zd0 g;dsimp only at this;omega
   obtain⟨_,b,o,rfl,hrow⟩:=hs.at (i:=i) hlt
   (conv=>whnf);refine ob (by first|omega|(dsimp only;omega)) ?_
   (conv=>whnf);refine on hrow ?_
   (conv=>whnf);refine brn (fun g1=>?_) (fun g1=>?_)
   ·refine zR ?_
    exact⟨i,_,rfl,hj,h1,h2,rfl⟩
   ·(conv=>whnf);refine ob (by first|omega|(dsimp only;omega)) ?_
    (conv=>whnf);refine on hrow ?_
    (conv=>whnf);refine(zDD _).mono ?_
    rintro v _ ⟨rfl,rfl⟩
    refine zR ?_
    exact⟨i,_,rfl,hj,h1,h2,rfl⟩
  ·refine zR ?_
   exact⟨i,_,rfl,hj,h1,h2,rfl⟩
end
section
variable {M:Mem} {p b:Nat} {gaps:Int} {es:List ((Int×Int)×Ent)}
theorem EntAt.some {x:Ent} (h:EntAt M x) {y:Nat} (hy:x.own y):M y≠none:=by
 rcases hy with rfl|⟨q,hq,rfl⟩
 ·have:=h.self;unfold Mem.has at this;rw[this];simp
 ·obtain⟨cs,hh⟩:=h.more.block hq
  unfold Mem.has at hh;rw[hh];simp
theorem EntAt.noset {x:Ent} (h:EntAt M x) {p:Nat} {l:List Value} (hp:M.has p T.zqA l):¬x.own p:=by
 rintro (e|⟨q,hq,e⟩)
 ·subst e
  exact absurd (h.self.inj hp).1 (by decide)
 ·obtain⟨cs,hh⟩:=h.more.block hq
  subst e
  exact absurd (hh.inj hp).1 (by decide)
theorem SetAt.turn {M':Mem} (h:SetAt M p b gaps es) {k:Int×Int} {x x':Ent} (hx:zF es k=some x) (hk:Mem.keep x.own M M') (he:EntAt M' x') (hr:x'.r=x.r) (hown:∀ y,x'.own y→x.own y∨M y=none):SetAt M' p b gaps (zY es k x'):=by
 have hxe:=h.ents _ (zQ hx)
 have hpa:zY es k x'=zco es k x':=by simp[zY,hx]
 obtain⟨u,v,h1,h2,h3,h4⟩:=zie h.map.nodup hx x'
 have hap:=h.apart
 rw[h1] at hap
 have hap':=List.pairwise_append.1 hap
 have hmem:∀ q,q∈u∨q∈v→q∈es:=fun q hq=>by rw[h1];rcases hq with hq|hq<;>simp[hq]
 have hfar:∀ q,q∈u∨q∈v→∀ y,q.2.own y→¬x.own y:=fun q hq y hy hxy=>by
  rcases hq with hq|hq
  ·exact hap'.2.2 q hq (k,x) (by simp) y hy hxy
  ·exact(List.pairwise_cons.1 hap'.2.1).1 q hq y hxy hy
 have hfar':∀ q,q∈u∨q∈v→∀ y,q.2.own y→¬x'.own y:=fun q hq y hy hxy=>by
  rcases hown y hxy with h5|h5
  ·exact hfar q hq y hy h5
  ·exact(h.ents q (hmem q hq)).some hy h5
 rw[hpa,h2]
 refine⟨hk _ _ (hxe.noset h.self) h.self,?_,fun q hq=>?_,?_⟩
 ·have hm:=h.map.relabel (fun q=>if q.1=k then x' else q.2) (fun q hq=>by
   split
   ·rename_i e
    have:zF es k=some q.2:=zdc h.map.nodup (by obtain⟨q1,q2⟩:=q;simp only at e;subst e;exact hq)
    rw[hx] at this
    rw[show q.2=x from (Option.some.inj this).symm]
    simp[zfd,hr]
   ·rfl)
  have e:(es.map fun q=>(q.1,if q.1=k then x' else q.2))=u++(k,x')::v:=by
   rw[h1,List.map_append,List.map_cons]
   congr 1
   ·rw[List.map_congr_left (g:=id),List.map_id]
    intro q hq;simp[h3 q hq]
   ·congr 1
    ·simp
    ·rw[List.map_congr_left (g:=id),List.map_id]
     intro q hq;simp[h4 q hq]
  rw[e] at hm
  exact hm.mono fun o ho=>hk _ o (hxe.nomap h.map) ho
 ·rcases List.mem_append.1 hq with hq|hq
  ·exact(h.ents q (hmem q (.inl hq))).mono fun y o hy ho=>hk y o (hfar q (.inl hq) y hy) ho
  ·rcases List.mem_cons.1 hq with rfl|hq
   ·exact he
   ·exact(h.ents q (hmem q (.inr hq))).mono fun y o hy ho=>hk y o (hfar q (.inr hq) y hy) ho
 ·rw[List.pairwise_append]
  refine⟨hap'.1,List.pairwise_cons.2 ⟨fun q hq y hy hqy=>hfar' q (.inr hq) y hqy hy,(List.pairwise_cons.1 hap'.2.1).2⟩,fun q hq q' hq'=>?_⟩
  rcases List.mem_cons.1 hq' with rfl|hq'
  ·exact fun y hy hxy=>hfar' q (.inl hq) y hy hxy
  ·exact hap'.2.2 q hq q' (List.mem_cons_of_mem _ hq')
theorem SetAt.more {M':Mem} (h:SetAt M p b gaps es) {k:Int×Int} {x:Ent} (hx:zF es k=none) (hk:Mem.keep (fun y=>y=b) M M') (hm:MapAt keyV zfd M' b (zY es k x)) (he:EntAt M' x) (hown:∀ y,x.own y→M y=none):SetAt M' p b gaps (zY es k x):=by
 have hpa:zY es k x=es++[(k,x)]:=by simp[zY,hx]
 refine⟨hk _ _ (h.map.nb h.self) h.self,hm,fun q hq=>?_,?_⟩
 ·rw[hpa] at hq
  rcases List.mem_append.1 hq with hq|hq
  ·exact(h.ents q hq).mono fun y o hy ho=>hk y o (fun e=>by subst e;exact(h.ents q hq).nomap h.map hy) ho
  ·simp at hq;subst hq;exact he
 ·rw[hpa,List.pairwise_append]
  refine⟨h.apart,by simp,fun q hq q' hq'=>?_⟩
  simp at hq';subst hq'
  exact fun y hy hxy=>(h.ents q hq).some hy (hown y hxy)
end
section
variable {M:Mem} {p b:Nat} {gaps:Int} {es:List ((Int×Int)×Ent)}
def zdQ (c:Int):List Int→List Int
 | []=>[c]
 | y::r=>if y<c then y::zdQ c r else c::y::r
theorem zxh (c:Int):∀ (l:List Int) (i:Nat),i≤l.length→(∀ k y,k<i→l[k]? = some y→y<c)→(∀ k y,i≤k→l[k]? = some y→c≤y)→l.take i++c::l.drop i=zdQ c l
 | [],i,hi,_,_=>by
  have:i=0:=by simpa using hi
  subst this;rfl
 | y::r,0,_,_,h2=>by
  have:=h2 0 y (Nat.le_refl _) rfl
  simp only[List.take_zero,List.drop_zero,List.nil_append,zdQ]
  rw[if_neg (by omega)]
 | y::r,i+1,hi,h1,h2=>by
  have:=h1 0 y (by omega) rfl
  simp only[List.take_succ_cons,List.drop_succ_cons,List.cons_append,zdQ]
  rw[if_pos this,zxh c r i (by simpa using hi) (fun k y hk hy=>h1 (k+1) y (by omega) (by simpa using hy)) (fun k y hk hy=>h2 (k+1) y (by omega) (by simpa using hy))]
theorem zp4 (c:Int):∀ l:List Int,(zdQ c l).length=l.length+1
 | []=>rfl
 | y::r=>by
  simp only[zdQ]
  split
  ·simp[zp4 c r]
  ·simp
def normC (up:Int):List Int→Int×List Int
 | []=>(up,[])
 | y::r=>if y=up+1 then normC (up+1) r else (up,y::r)
theorem RowI.pop {M:Mem} {a:Option Addr} {c:Nat} {y:Int} {r:List Int} (h:RowI M a c (y::r)):RowI M (subA a 1 (r.length+1) 1) r.length r∧∀ q,subA a 1 (r.length+1) 1=some q→∃ q',a=some q'∧q'.block=q.block:=by
 obtain⟨⟨h1,h2⟩,⟨rfl,rfl⟩|⟨b,o,cs,rfl,hh,ho,ht⟩⟩:=h
 ·simp at h1
 ·simp only[List.length_cons] at h1 ht
  unfold subA
  split
  ·have hr:r=[]:=List.eq_nil_of_length_eq_zero (by omega)
   subst hr
   exact⟨⟨⟨Nat.le_refl _,Nat.zero_le _⟩,.inr ⟨b,o,cs,rfl,hh,by simp at h1 ⊢; omega,by simp⟩⟩,fun q hq=>⟨_,rfl,by cases hq;rfl⟩⟩
  ·refine⟨⟨⟨Nat.le_refl _,by omega⟩,.inr ⟨b,o+1,cs,by simp[zcm],hh,by omega,?_⟩⟩,fun q hq=>⟨_,rfl,by simp[zcm] at hq;rw[←hq]⟩⟩
   have h5:((cs.drop o).take (r.length+1)).drop 1=r.map zan:=by rw[ht];rfl
   rw[List.drop_take,List.drop_drop] at h5
   simpa using h5
theorem SetAt.remap {M':Mem} (h:SetAt M p b gaps es) (hk:Mem.keep (fun y=>y=b) M M') (hm:MapAt keyV zfd M' b es):SetAt M' p b gaps es:=
 ⟨hk _ _ (h.map.nb h.self) h.self,hm,fun q hq=>(h.ents q hq).mono fun y o hy ho=>hk y o (fun e=>by subst e;exact(h.ents q hq).nomap h.map hy) ho,h.apart⟩
def setB (p b:Nat) (es:List ((Int×Int)×Ent)):Nat→Prop:=fun y=>y=p∨y=b∨∃ q∈es,q.2.own y
def zfe (es:List ((Int×Int)×Ent)) (o e c:Int):Int×List Int:=normC (zcC es (o,e)) (zdQ c (zbY es (o,e)))
theorem zDE (h:SetAt M p b gaps es) (hg:zaH es≤4194000) (hgd:zur es) (hso:∀ q∈es,q.2.more.Pairwise (· < ·)) (o d e c:Int):CallsM Tryz.prog F.zfs [ptr p,.agg #[.int .i64 o,.int .i64 d,.int .i64 e,.int .i64 c]] M fun v M'=>
  v = .int .i64 (zdn gaps es o d e c)∧((zdn gaps es o d e c≠0∧M.le M') ∨
   (zdn gaps es o d e c=0∧Mem.keep (setB p b es) M M'∧∃ x,SetAt M' p b gaps (zY es (o,e) x)∧(x.up,x.more)=zfe es o e c∧∀ y,x.own y→setB p b es y∨M y=none)):=by
 refine zqT (by simp) ?_
 (conv=>whnf);refine(zvC h (by omega) hgd o d e c).mono ?_
 rintro v M1 ⟨rfl,hle1⟩
 (conv=>whnf);refine brn (fun g=>?_) (fun g=>?_)
 ·have hne:¬zdn gaps es o d e c=0:=by simpa using g
  (conv=>whnf)
  exact⟨rfl,.inl ⟨hne,hle1⟩⟩
 have hz:zdn gaps es o d e c=0:=by simpa using g
 have hok:zbz o d e c=0:=by
  apply Classical.byContradiction
  intro hn
  simp[zdn,hn] at hz
 have hcr:1≤c∧c≤65535:=by unfold zbz at hok;split at hok<;>(try cases hok);omega
 have h1:=h.le hle1
 have key:CallsM Tryz.prog F.zdm [ptr p,.agg #[.int .i64 o,.int .i64 d,.int .i64 e,.int .i64 c]] M1 fun v M'=>∃ x0,v=ptr x0.r∧M1.le M'∧SetAt M' p b gaps es∧x0.up=zcC es (o,e)∧x0.more=zbY es (o,e)∧(x0.more.Pairwise (· < ·)∧x0.more.length≤4194000)∧(∀ y,x0.own y→setB p b es y∨M y=none) ∧
   ∀ ob,MapAt keyV zfd (M'.upd b ob) b (zY es (o,e) x0)→SetAt (M'.upd b ob) p b gaps (zY es (o,e) x0):=(zyD h1 o d e c).mono fun v M' hv=>by
  rcases hv with ⟨x,hx,rfl,rfl⟩|⟨hn,r,rfl,hr,rfl⟩
  ·have hpa:zY es (o,e) x=es:=by simp only[zY,hx];exact zzK hx
   refine⟨x,rfl,Mem.le_refl _,h1,by simp[zcC,hx],by simp[zbY,hx],⟨hso _ (zQ hx),Nat.le_trans (zi9 (zQ hx)) hg⟩,fun y hy => .inl (.inr (.inr ⟨_,zQ hx,hy⟩)),fun ob hm=>?_⟩
   rw[hpa] at hm ⊢
   exact h1.remap (Mem.keep_upd _ _ rfl) hm
  ·have hle:=Mem.le_setCells (E:=T.zaa) (l:=[.int .i64 0,.slice none 0 0]) hr
   have hrM:M r=none:=by
    cases hM:M r with
    | none=>rfl
    | some z=>rw[hle1 _ _ hM] at hr;cases hr
   refine⟨⟨r,none,0,0,[]⟩,rfl,hle,h1.le hle,by simp[zcC,hn],by simp[zbY,hn],by simp,fun y hy=>?_,fun ob hm=>?_⟩
   ·rcases hy with rfl|⟨q,hq,_⟩
    ·exact .inr hrM
    ·cases hq
   ·have hrb:r≠b:=fun e=>by subst e;obtain⟨l1,c1,hh,_⟩:=h1.map;rw[hh] at hr;cases hr
    have hk:Mem.keep (fun y=>y=b) M1 ((M1.setCells r T.zaa [.int .i64 0,.slice none 0 0]).upd b ob):=Mem.keep_trans (Mem.keep_of_le hle) (Mem.keep_upd _ _ rfl)
    refine h1.more hn hk hm ⟨Mem.has_setCells.upd hrb ob,⟨by simp,by simp[maxLen]⟩,.inl ⟨rfl,rfl⟩⟩ fun y hy=>?_
    rcases hy with rfl|⟨q,hq,_⟩
    ·exact hr
    ·cases hq
 (conv=>whnf);refine key.mono ?_
 rintro v M2 ⟨x0,rfl,hle2,hS2,hup0,hmore0,⟨hso0,hlen0⟩,hown0,hput⟩
 refine zR ?_
 refine on (hS2.self.c1 rfl) ?_
 (conv=>whnf)
 refine⟨?_,True.intro⟩
 (conv=>whnf)
 refine hS2.map.put zsH (o,e) x0 fun q f hm=>?_
 have hS3:=hput _ (hm M2)
 obtain⟨M3,hM3⟩:∃ M3,M3=M2.upd b (zeH q f (keyV (o,e)) (zfd x0)):=⟨_,rfl⟩
 have hk3:Mem.keep (fun y=>y=b) M2 M3:=hM3▸Mem.keep_upd _ _ rfl
 rw[←hM3] at hS3
 (conv=>whnf)
 erw [←hM3]
 have hx0:zF (zY es (o,e) x0) (o,e)=some x0:=by rw[zdC,if_pos rfl]
 have hE3:=hS3.ents _ (zQ hx0)
 refine zR ?_
 refine on (hE3.self.c1 rfl) ?_
 refine zU ?_
 refine(zyF hE3.more.src (by dsimp only;omega) hso0 c).mono ?_
 rintro v _ ⟨i,ff,rfl,hi,hlo,hhi,rfl⟩
 dsimp only at hi hlo hhi
 have hinsC:=zxh c x0.more i hi hlo hhi
 refine zR ?_
 refine on (hE3.self.c1 rfl) ?_
 refine zU ?_
 refine new (fun vb hvb=>?_)
 replace hvb:M3 vb=none:=hvb
 have hle4:M3.le (M3.setCells vb T.zw [.int .i64 c]):=Mem.le_setCells hvb
 have hhv:(M3.setCells vb T.zw [.int .i64 c]).has vb T.zw [.int .i64 c]:=Mem.has_setCells
 obtain⟨M4,hM4⟩:∃ M4,M4=M3.setCells vb T.zw [.int .i64 c]:=⟨_,rfl⟩
 rw[←hM4] at hle4 hhv
 (conv=>whnf)
 erw [←hM4]
 have hE4:=hE3.le hle4
 refine zU ?_
 refine(zCq (vc:=1) Tryz.laysIns (by kernel_rfl) (M:=M4) (a:=x0.a) (c:=x0.c) (l:=x0.more) hE4.more (by omega) i hi hhv fun q hq e=>by
  obtain⟨cs,hh⟩:=hE3.more.block hq
  have e:q.block=vb:=e
  rw[e] at hh;unfold Mem.has at hh;rw[hvb] at hh;cases hh).mono ?_
 rintro v M5 ⟨a',c',rfl,hrow5,hk5,hblk5⟩
 rw[hinsC] at hrow5
 replace hrow5:RowI M5 a' c' (zdQ c x0.more):=hrow5
 have hnr:¬blk x0.a x0.r:=fun ⟨q,hq,e⟩=>by
  obtain⟨cs,hh⟩:=hE3.more.block hq
  rw[e] at hh
  exact absurd (hh.inj hE3.self).1 (by decide)
 have hself5:M5.has x0.r T.zaa [.int .i64 x0.up,.slice x0.a x0.more.length x0.c]:=hk5 _ _ hnr hE4.self
 refine zR ?_
 refine on hself5.cells ?_
 (conv=>whnf);refine ob (Nat.le_refl 2) ?_
 have hcap:(zdQ c x0.more).length=x0.more.length+1:=zp4 c x0.more
 have hnr5:¬blk a' x0.r:=fun ⟨q,hq,e⟩=>by
  rcases hblk5 q hq with h6|h6
  ·rw[e] at h6;exact hnr h6
  ·have h7:=hE4.self
   unfold Mem.has at h7
   rw[e] at h6;rw[h6] at h7;cases h7
 obtain⟨M6,hM6⟩:∃ M6,M6=M5.setCells x0.r T.zaa [.int .i64 x0.up,.slice a' (zdQ c x0.more).length c']:=⟨_,rfl⟩
 have hE6:EntAt M6 ⟨x0.r,a',c',x0.up,zdQ c x0.more⟩:=by
  refine⟨hM6▸Mem.has_setCells,hrow5.mono fun q o' hq ho=>?_⟩
  rw[hM6];unfold Mem.setCells
  rw[Mem.upd_ne _ _ fun e=>hnr5 ⟨q,hq,e⟩];exact ho
 have hk6:Mem.keep x0.own M3 M6:=Mem.keep_trans (Mem.keep_of_le hle4) (Mem.keep_trans (Mem.keep_mono hk5 fun y hy => .inr hy) (hM6▸fun y o' hy ho=>by
  unfold Mem.setCells
  rw[Mem.upd_ne _ _ fun e=>hy (.inl e)];exact ho))
 have hown6:∀ y,Ent.own ⟨x0.r,a',c',x0.up,zdQ c x0.more⟩ y→x0.own y∨M3 y=none:=fun y hy=>by
  rcases hy with e|⟨q,hq,e⟩
  ·exact .inl (.inl e)
  ·rcases hblk5 q hq with h6|h6
   ·exact .inl (.inr (e▸h6))
   ·right
    rw[e] at h6
    cases hM:M3 y with
    | none=>rfl
    | some z=>rw[hle4 _ _ hM] at h6;cases h6
 rw[hcap] at hM6
 (conv=>whnf)
 erw [←hM6]
 have hup:=zrk hgd (o,e)
 rw[←hup0] at hup
 have hadd:normC x0.up (zdQ c x0.more)=zfe es o e c:=by rw[zfe,hup0,hmore0]
 refine zbh (σ:=Mem×Ent) [] (fun _=>[]) (fun _=>[.live T.zf6 [.v (.int .i64 o),.v (.int .i64 d),.v (.int .i64 e),.v (.int .i64 c)],.gone vb]) (fun y=>y.1)
  (fun|⟨Mc,x⟩=>Mem.keep x0.own M3 Mc∧EntAt Mc x∧x.r=x0.r∧(∀ y,x.own y→x0.own y∨M3 y=none)∧normC x.up x.more=zfe es o e c∧0≤x.up∧x.up+x.more.length≤5000000) (fun y=>y.2.more.length) ⟨M6,⟨x0.r,a',c',x0.up,zdQ c x0.more⟩⟩
  ⟨hk6,hE6,rfl,hown6,hadd,hup.1,by dsimp only;omega⟩ zS ?_
 rintro ⟨Mc,x⟩ ⟨hkC,hEC,hrC,hownC,hnC,hu0,hu1⟩
 have hselfC:=hEC.self
 rw[hrC] at hselfC
 refine zR ?_
 refine on (hselfC.c1 rfl) ?_
 (conv=>whnf);refine brn (fun g1=>?_) (fun g1=>?_)
 ·obtain⟨y,r,hxm⟩:∃ y r,x.more=y::r:=by
   cases hxm:x.more with
   | nil=>rw[hxm] at g1;simp at g1
   | cons y r=>exact⟨y,r,rfl⟩
  have hxl:x.more.length=r.length+1:=by rw[hxm];rfl
  obtain⟨_,bb,oo,hba,hrow0⟩:=hEC.more.src.at (i:=0) (by omega)
  have hy0:x.more[0]'(by omega)=y:=by simp[hxm]
  rw[hy0] at hrow0
  (conv=>whnf);refine on (hselfC.c1 rfl) ?_
  (conv=>whnf);refine ob ⟨Int.le_refl _,by omega⟩ ?_
  (conv=>whnf);refine atp hba ?_
  (conv=>whnf);refine on hrow0 ?_
  (conv=>whnf);refine on (hselfC.c1 rfl) ?_
  (conv=>whnf);refine ob (ze (by omega)) ?_
  (conv=>whnf);refine brn (fun g2=>?_) (fun g2=>?_)
  ·have hy:y=x.up+1:=Zd0 g2
   (conv=>whnf);refine on (hselfC.c1 rfl) ?_
   (conv=>whnf);refine ob (ze (by omega)) ?_
   refine zR ?_
   refine on hselfC.cells ?_
   (conv=>whnf);refine ob (Nat.le_succ 1) ?_
   obtain⟨M7,hM7⟩:∃ M7,M7=Mc.setCells x0.r T.zaa [.int .i64 (x.up+1),.slice x.a x.more.length x.c]:=⟨_,rfl⟩
   have hself7:M7.has x0.r T.zaa [.int .i64 (x.up+1),.slice x.a x.more.length x.c]:=hM7▸Mem.has_setCells
   (conv=>whnf)
   erw [←hM7]
   refine zR ?_
   refine on (hself7.c1 rfl) ?_
   (conv=>whnf);refine on (hself7.c1 rfl) ?_
   (conv=>whnf);refine on (hself7.c1 rfl) ?_
   (conv=>whnf);refine ob ⟨by decide,by omega,by omega,by have:=hEC.more.1.1;omega⟩ ?_
   refine zU ?_
   refine on hself7.cells ?_
   (conv=>whnf);refine ob (Nat.le_refl 2) ?_
   have e1:((x.more.length:Int)).toNat - (1:Int).toNat=r.length:=by omega
   have e2:((x.more.length:Int)).toNat=r.length+1:=by omega
   have e3:(1:Int).toNat=1:=rfl
   obtain⟨hpop,hpb⟩:=RowI.pop (hxm▸hEC.more)
   obtain⟨M8,hM8⟩:∃ M8,M8=M7.setCells x0.r T.zaa [.int .i64 (x.up+1),.slice (subA x.a (1:Int).toNat ((x.more.length:Int)).toNat 1) (((x.more.length:Int)).toNat - (1:Int).toNat) (((x.more.length:Int)).toNat - (1:Int).toNat)]:=⟨_,rfl⟩
   have hself8:M8.has x0.r T.zaa [.int .i64 (x.up+1),.slice (subA x.a 1 (r.length+1) 1) r.length r.length]:=by
    have:M8.has x0.r T.zaa _:=hM8▸Mem.has_setCells
    rw[e1,e2,e3] at this;exact this
   have hk8:Mem.keep (fun z=>z=x0.r) Mc M8:=fun z oo' hz ho=>by
    rw[hM8,hM7];unfold Mem.setCells
    rw[Mem.upd_ne _ _ hz,Mem.upd_ne _ _ hz];exact ho
   have hblkr:∀ q,x.a=some q→q.block≠x0.r:=fun q hq e=>by
    obtain⟨cs,hh⟩:=hEC.more.block hq
    rw[e] at hh
    exact absurd (hh.inj hselfC).1 (by decide)
   (conv=>whnf)
   refine⟨⟨M8,⟨x0.r,subA x.a 1 (r.length+1) 1,r.length,x.up+1,r⟩⟩,⟨Mem.keep_trans hkC (Mem.keep_mono hk8 fun z hz => .inl hz),⟨hself8,hpop.mono fun q o' hq ho=>?_⟩,rfl,fun z hz=>?_,?_,by dsimp only;omega,by dsimp only;omega⟩,by dsimp only;omega,?_⟩
   ·obtain⟨q',hq',eb⟩:=hpb q hq
    exact hk8 _ _ (fun e=>hblkr q' hq' (eb.trans e)) ho
   ·rcases hz with e|⟨q,hq,e⟩
    ·exact .inl (.inl e)
    ·obtain⟨q',hq',eb⟩:=hpb q hq
     exact hownC z (.inr ⟨q',hq',eb.trans e⟩)
   ·rw[←hnC,hxm];simp only[normC,if_pos hy]
   ·rw[hM8];exact zS
  ·have hfin:normC x.up x.more=(x.up,x.more):=by
    have:¬y=x.up+1:=Zd1 g2
    rw[hxm];simp only[normC,if_neg this]
   refine zR ?_
   have hS:=hS3.turn hx0 hkC hEC hrC hownC
   rw[znq] at hS
   refine⟨by rw[hz],.inr ⟨hz,fun y o' hy ho=>?_,x,hS,?_,fun y hy=>?_⟩⟩
   ·have hM2:M2 y=some o':=hle2 _ _ (hle1 _ _ ho)
    have hM3:=hk3 y o' (fun e=>hy (.inr (.inl e))) hM2
    refine hkC y o' (fun hxy=>?_) hM3
    rcases hown0 y hxy with h8|h8
    ·exact hy h8
    ·rw[ho] at h8;cases h8
   ·rw[hfin] at hnC;exact hnC
   ·rcases hownC y hy with h8|h8
    ·exact hown0 y h8
    ·right
     cases hM:M y with
     | none=>rfl
     | some z=>
      have hM2:M2 y=some z:=hle2 _ _ (hle1 _ _ hM)
      by_cases e:y=b
      ·subst e
       obtain⟨l1,c1,hh,_⟩:=hS3.map
       rw[hh] at h8;cases h8
      ·rw[hk3 y z e hM2] at h8;cases h8
 ·have hfin:normC x.up x.more=(x.up,x.more):=by
   have:x.more=[]:=List.eq_nil_of_length_eq_zero (by have:=Zd1 g1;omega)
   rw[this];rfl
  refine zR ?_
  have hS:=hS3.turn hx0 hkC hEC hrC hownC
  rw[znq] at hS
  refine⟨by rw[hz],.inr ⟨hz,fun y o' hy ho=>?_,x,hS,?_,fun y hy=>?_⟩⟩
  ·have hM2:M2 y=some o':=hle2 _ _ (hle1 _ _ ho)
   have hM3:=hk3 y o' (fun e=>hy (.inr (.inl e))) hM2
   refine hkC y o' (fun hxy=>?_) hM3
   rcases hown0 y hxy with h8|h8
   ·exact hy h8
   ·rw[ho] at h8;cases h8
  ·rw[hfin] at hnC;exact hnC
  ·rcases hownC y hy with h8|h8
   ·exact hown0 y h8
   ·right
    cases hM:M y with
    | none=>rfl
    | some z=>
     have hM2:M2 y=some z:=hle2 _ _ (hle1 _ _ hM)
     by_cases e:y=b
     ·subst e
      obtain⟨l1,c1,hh,_⟩:=hS3.map
      rw[hh] at h8;cases h8
     ·rw[hk3 y z e hM2] at h8;cases h8
end
section
@[reducible] def idV (o d e c:Int):Value := .agg #[.int .i64 o,.int .i64 d,.int .i64 e,.int .i64 c]
structure IdT where
 o:Int
 d:Int
 e:Int
 c:Int
deriving DecidableEq
@[reducible] def zEC (i:IdT):List Value:=[.int .i64 i.o,.int .i64 i.d,.int .i64 i.e,.int .i64 i.c]
end
section
variable {M:Mem}
structure K where
 o:Int
 e:Int
 c:Int
deriving DecidableEq,Inhabited
@[reducible] def zED (k:K):List Value:=[.int .i64 k.o,.int .i64 k.e,.int .i64 k.c]
def zBO (a b:K):Bool:=if a.o≠b.o then decide (a.o<b.o) else if a.e≠b.e then decide (a.e<b.e) else decide (a.c<b.c)
def putK (k:K):List K→List K
 | []=>[k]
 | x::r=>if zBO k x then k::x::r else x::putK k r
end
section
variable {M:Mem}
def zja (x y:Int):Int:=if x<y then -1 else if y<x then 1 else 0
theorem zDF (x y:Int):CallsM Tryz.prog F.zfH [.int .i64 x,.int .i64 y] M fun v M'=>v = .int .i64 (zja x y)∧M=M':=by
 refine znk (by simp) ?_
 (conv=>whnf);refine(zp3 x).mono ?_
 rintro v _ ⟨rfl,rfl⟩
 refine zR ?_
 refine(zp3 y).mono ?_
 rintro v _ ⟨rfl,rfl⟩
 refine zR ?_
 refine brn (fun h=>?_) (fun h=>?_)
 ·refine zR ?_
  exact⟨by simp[zja,Zd0 h],rfl⟩
 ·have h1:=Zd1 h
  (conv=>whnf);refine brn (fun g=>?_) (fun g=>?_)
  ·refine zR ?_
   exact⟨by simp[zja,h1,Zd0 g],rfl⟩
  ·refine zR ?_
   have g1:=Zd1 g
   refine⟨?_,rfl⟩
   unfold zja
   rw[if_neg h1,if_neg g1]
def zkz:List Int→List Int→Int
 | [],[]=>0
 | [],_::_ => -1
 | _::_,[]=>1
 | x::r,y::s=>if zja x y≠0 then zja x y else zkz r s
theorem zlG {a b:Option Addr} {n m c d:Nat} {X Y:List Int} (hx:SrcOk M 1 a n (X.map zan)) (hy:SrcOk M 1 b m (Y.map zan)) (hn:n≤4194304) (hm:m≤4194304) :
  CallsM Tryz.prog F.zbV [.slice a n c,.slice b m d] M fun v M'=>v = .int .i64 (zkz X Y)∧M=M':=by
 refine zh7 (by simp) ?_
 have hX:=hx.maplen
 have hY:=hy.maplen
 (conv=>whnf)
 refine ze1 [11] (fun (i:Nat)=>[(11,.int .i64 i)]) (fun i=>i≤n∧i≤m∧zkz X Y=zkz (X.drop i) (Y.drop i)) (fun i=>n - i) 0 ⟨by omega,by omega,rfl⟩ zS ?_
 rintro i ⟨hi,hj,he⟩
 (conv=>whnf);refine brn (fun h=>?_) (fun h=>?_)
 ·have hlt:i<n:=by have:=Zd0 h;omega
  obtain⟨h1,b1,o1,rfl,hrow1⟩:=hx.at (i:=i) hlt
  (conv=>whnf);refine ob (by omega) ?_
  (conv=>whnf);refine on hrow1 ?_
  (conv=>whnf);refine brn (fun g=>?_) (fun g=>?_)
  ·have hge:m≤i:=by have:=Zd0 g;omega
   refine zR ?_
   refine⟨?_,rfl⟩
   rw[he,List.drop_eq_getElem_cons h1,List.drop_of_length_le (l:=Y) (by omega)];rfl
  ·have hlt2:i<m:=by have:=Zd1 g;omega
   obtain⟨h2,b2,o2,rfl,hrow2⟩:=hy.at (i:=i) hlt2
   (conv=>whnf);refine ob (by omega) ?_
   (conv=>whnf);refine on hrow2 ?_
   (conv=>whnf);refine(zDF _ _).mono ?_
   rintro v _ ⟨rfl,rfl⟩
   have he2:zkz X Y=if zja X[i] Y[i]≠0 then zja X[i] Y[i] else zkz (X.drop (i+1)) (Y.drop (i+1)):=by
    rw[he,List.drop_eq_getElem_cons h1,List.drop_eq_getElem_cons h2];rfl
   (conv=>whnf);refine brn (fun k=>?_) (fun k=>?_)
   ·have hk:zja X[i] Y[i]≠0:=by simpa using k
    refine zR ?_
    refine⟨?_,rfl⟩
    rw[he2,if_pos hk]
   ·have hk:¬zja X[i] Y[i]≠0:=by simpa using k
    (conv=>whnf);refine ob (ze (by omega)) ?_
    (conv=>whnf)
    refine⟨i+1,⟨by omega,by omega,?_⟩,by omega,zS⟩
    rw[he2,if_neg hk]
 ·have hge:n≤i:=by have:=Zd1 h;omega
  have hdx:X.drop i=[]:=List.drop_of_length_le (by omega)
  (conv=>whnf);refine brn (fun g=>?_) (fun g=>?_)
  ·have hlt2:i<m:=by have:=Zd0 g;omega
   refine zR ?_
   refine⟨?_,rfl⟩
   rw[he,hdx,List.drop_eq_getElem_cons (l:=Y) (by omega)];rfl
  ·have hge2:m≤i:=by have:=Zd1 g;omega
   refine zR ?_
   refine⟨?_,rfl⟩
   rw[he,hdx,List.drop_of_length_le (l:=Y) (by omega)];rfl
structure MkC where
 o:Int
 e:Int
 up:Int
 a:Option Addr
 c:Nat
 more:List Int
deriving Inhabited
@[reducible] def zkA (m:MkC):List Value:=[.int .i64 m.o,.int .i64 m.e,.int .i64 m.up,.slice m.a m.more.length m.c]
theorem zff (m:MkC):(zkA m).length=4:=rfl
def zjb (x y:MkC):Int:=zkz [x.o,x.e] [y.o,y.e]
theorem zCs (x y:MkC):CallsM Tryz.prog F.zd8 [.agg (zkA x).toArray,.agg (zkA y).toArray] M fun v _=>v = .int .i64 (zjb x y):=by
 refine zmy (by simp) ?_
 refine zR ?_
 refine new (fun b1 hb1=>?_)
 replace hb1:M b1=none:=hb1
 refine zR ?_
 refine new (fun b2 hb2=>?_)
 replace hb2:(M.setCells b1 T.zw [.int .i64 x.o,.int .i64 x.e]) b2=none:=hb2
 refine zR ?_
 refine(zlG (X:=[x.o,x.e]) (Y:=[y.o,y.e]) ?_ ?_ (by omega) (by omega)).mono ?_
 ·exact((Mem.has_setCells (M:=M)).src rfl).le (Mem.le_setCells hb2)
 ·exact Mem.has_setCells.src rfl
 rintro v _ ⟨rfl,rfl⟩
 refine zR ?_
 rfl
theorem ziv (x y:MkC):zjb x y<0↔x.o<y.o∨(x.o=y.o∧x.e<y.e):=by
 unfold zjb zkz zkz zkz zja
 repeat' split
 all_goals omega
theorem zA5:Go.Sort.SWO (Go.Proofs.ltOf zjb):=by
 have h:∀ x y:MkC,Go.Proofs.ltOf zjb x y=decide (x.o<y.o∨(x.o=y.o∧x.e<y.e)):=fun x y=>by
  unfold Go.Proofs.ltOf
  simp only[ziv]
 refine⟨fun x=>?_,fun x y z=>?_,fun x y z=>?_⟩<;>simp only[h,decide_eq_true_eq,decide_eq_false_iff_not]<;>omega
end
section
variable {M:Mem} {p b:Nat} {gaps:Int} {es:List ((Int×Int)×Ent)}
structure Mk where
 o:Int
 e:Int
 up:Int
 more:List Int
deriving DecidableEq
def MkC.mk' (m:MkC):Mk:=⟨m.o,m.e,m.up,m.more⟩
def zby (q:(Int×Int)×Ent):Mk:=⟨q.1.1,q.1.2,q.2.up,q.2.more⟩
structure MarksAt (M0:Mem) (a:Option Addr) (n c:Nat) (l:List MkC) (M':Mem):Prop where
 row:NewSl M0 T.zhU 4 a n c (l.flatMap zkA) M'
 more:∀ m∈l,NewSl M0 T.zw 1 m.a m.more.length m.c (m.more.map zan) M'
theorem MarksAt.len {M0 M':Mem} {a:Option Addr} {n c:Nat} {l:List MkC} (h:MarksAt M0 a n c l M'):l.length=n:=h.row.src.flen zff (by decide)
theorem zA6 (x:MkC):∀ v∈zkA x,v.oneCell'=true:=by
 intro v hv
 simp only[zkA,List.mem_cons,List.not_mem_nil,or_false] at hv
 rcases hv with rfl|rfl|rfl|rfl<;>rfl
theorem zp5 (h:SetAt M p b gaps es) (hg:zaH es≤4194304) (hn:es.length≤4194000):CallsM Tryz.prog F.zdJ [ptr p] M fun v M'=>
  ∃ a n c l,v = .slice a n c∧MarksAt M a n c l M'∧(l.map MkC.mk').Perm (es.map zby)∧l.Pairwise (fun x y=>¬zjb y x<0):=by
 refine zoa (by simp) ?_
 (conv=>whnf);refine brn_f rfl ?_
 (conv=>whnf);refine on (h.self.c1 rfl) ?_
 (conv=>whnf)
 refine h.map.range fun q bi hbi hI=>?_
 replace hbi:M bi=none:=hbi
 (conv=>whnf)
 refine zbh (σ:=Mem×(Option Addr×Nat×Nat)×List MkC×List ((Int×Int)×Ent)) [3] (fun x=>[(3,.slice x.2.1.1 x.2.1.2.1 x.2.1.2.2)]) (fun _=>[]) (fun x=>x.1)
  (fun|⟨M1,(a,n,c),l,todo⟩=>MarksAt M a n c l M1∧Iter keyV zfd M1 bi b es todo∧(l.map MkC.mk'++todo.map zby).Perm (es.map zby)) (fun x=>x.2.2.2.length) ⟨_,(none,0,0),[],es⟩
  ⟨⟨(NewSl.none M _ _).up (Mem.le_upd hbi),by simp⟩,hI,.refl _⟩ zS ?_
 rintro ⟨M1,⟨a,n,c⟩,l,todo⟩ ⟨hMk,hI1,hperm⟩
 (conv=>whnf)
 refine hI1.next (fun h0=>?_) (fun i k todo' o' hperm2 hI2 hent=>?_)
 ·subst h0
  refine zR ?_
  have hlen:=hMk.len
  refine(zvA Tryz.laysF (by kernel_rfl) (k:=4) (by decide) Tryz.isAgg161 Tryz.sizeOf161 zff zA6 zA5 (g:=F.zd8) (fun args w=>zhR (by kernel_rfl) args w) (fun x y=>zCs x y) hMk.row.wr (by have:=hperm.length_eq;simp at this;omega)).mono ?_
  rintro v M5 ⟨rfl,l',hp',hs',hw',hk'⟩
  (conv=>whnf)
  refine⟨a,n,c,l',rfl,⟨hMk.row.ofWr hw' hk' rfl,fun m hm=>(hMk.more m (hp'.mem_iff.1 hm)).keep hk' (fun y ⟨q,hq,e⟩=>e▸(hMk.row.block hq).1) fun q hq ⟨q',hq',e⟩=>?_⟩,?_,hs'⟩
  ·exact hMk.row.ne (hMk.more m (hp'.mem_iff.1 hm)) (by decide) hq' hq e
  ·simpa using (hp'.map MkC.mk').trans (by simpa using hperm)
 ·have hk2:Mem.keep (fun y=>y=bi) M1 (M1.upd bi o'):=Mem.keep_upd _ _ rfl
  have hle2:M.le (M1.upd bi o'):=fun y o hb=>by
   rw[Mem.upd_ne _ _ (fun e=>by subst e;rw[hbi] at hb;cases hb)];exact hMk.row.le _ _ hb
  have hMk2:MarksAt M a n c l (M1.upd bi o'):=⟨hMk.row.keep hk2 (fun y e=>e▸hbi) (fun q hq e=>by
    obtain⟨_,cs,hh⟩:=hMk.row.block hq
    exact(hI1.nb hh).1 e),fun m hm=>(hMk.more m hm).keep hk2 (fun y e=>e▸hbi) (fun q hq e=>by
    obtain⟨_,cs,hh⟩:=(hMk.more m hm).block hq
    exact(hI1.nb hh).1 e)⟩
  obtain⟨M2,hM2⟩:∃ M2,M2=M1.upd bi o':=⟨_,rfl⟩
  rw[←hM2] at hI2 hent hle2 hMk2
  have hmem:(i,k)∈es:=hI1.todo_sub _ (hperm2.mem_iff.2 (by simp))
  have hke:=(h.le hle2).ents _ hmem
  have hkl:k.more.length≤4194304:=Nat.le_trans (zi9 hmem) hg
  (conv=>whnf)
  erw [←hM2]
  refine zR ?_
  refine on hent ?_
  refine zR ?_
  refine on (hke.self.c1 rfl) ?_
  refine zR ?_
  refine on (hke.self.c1 rfl) ?_
  refine zR ?_
  refine new (fun b1 hb1=>?_)
  replace hb1:M2 b1=none:=hb1
  have hN1:NewSl M2 T.zw 1 (some ⟨b1,0,none⟩) 0 0 (([]:List Int).map zan) _:=NewSl.lit hb1 T.zw 1 0 [] rfl
  obtain⟨M3,hM3⟩:∃ M3,M3=M2.setCells b1 T.zw []:=⟨_,rfl⟩
  rw[←hM3] at hN1
  (conv=>whnf)
  erw [←hM3]
  refine zT (hN1.le) ?_
  (conv=>whnf)
  refine zdW (hke.more.src.le hN1.le) ?_
  (conv=>whnf);refine ze8 M2 _ hN1 (by dsimp only;omega) (by dsimp only;simp[maxLen];omega) (by simp[Value.oneCell']) fun a5 c5 M4 hN4=>?_
  have hMk4:MarksAt M a n c l M4:=⟨hMk2.row.up hN4.le,fun m hm=>(hMk2.more m hm).up hN4.le⟩
  have hnew:NewSl M T.zw 1 a5 k.more.length c5 (k.more.map zan) M4:=by
   have:=hN4.mono hle2
   simpa using this
  have hlen:=hMk.len
  have hlt:l.length<es.length:=by have:=hperm.length_eq;have:=hperm2.length_eq;simp at *; omega
  refine zT (hN4.le) ?_
  (conv=>whnf)
  refine zlu M hMk4.row ⟨i.1,i.2,k.up,a5,c5,k.more⟩ (by simp) (by dsimp only;omega) (by dsimp only;simp[maxLen];omega) (by simp[Value.oneCell']) fun a6 c6 M6 hN6 hk6=>?_
  (conv=>whnf)
  have hfr:∀ y,blk a y→M y=none:=fun y ⟨q,hq,e⟩=>e▸(hMk4.row.block hq).1
  have hI4:=hI2.le hN4.le
  have hnb:∀ y,blk a y→y≠bi∧y≠b:=fun y ⟨q,hq,e⟩=>by
   obtain⟨_,cs,hh⟩:=hMk4.row.block hq
   exact e▸hI4.nb hh
  have hI6:=hI4.keep hk6 (fun hb=>(hnb _ hb).1 rfl) (fun hb=>(hnb _ hb).2 rfl)
  refine⟨⟨M6,(a6,n+1,c6),l++[⟨i.1,i.2,k.up,a5,c5,k.more⟩],todo'⟩,⟨⟨hN6,fun m hm=>?_⟩,hI6,?_⟩,by have:=hperm2.length_eq;simp at this ⊢; omega,zS⟩
  ·rcases List.mem_append.1 hm with hm|hm
   ·exact(hMk4.more m hm).keep hk6 hfr fun q hq ⟨q',hq',e⟩=>hMk4.row.ne (hMk4.more m hm) (by decide) hq' hq e
   ·simp only[List.mem_singleton] at hm
    subst hm
    exact hnew.keep hk6 hfr fun q hq ⟨q',hq',e⟩=>hMk4.row.ne hnew (by decide) hq' hq e
  ·refine List.Perm.trans ?_ hperm
   rw[List.map_append,List.append_assoc]
   refine List.Perm.append_left _ ?_
   have:=hperm2.map zby
   simpa[MkC.mk',zby] using this.symm
end
section
variable {M:Mem}
structure MarksR (M:Mem) (a:Option Addr) (n:Nat) (l:List MkC):Prop where
 row:SrcOk M 4 a n (l.flatMap zkA)
 more:∀ m∈l,SrcOk M 1 m.a m.more.length (m.more.map zan)
theorem MarksAt.r {M0 M':Mem} {a:Option Addr} {n c:Nat} {l:List MkC} (h:MarksAt M0 a n c l M'):MarksR M' a n l:=⟨h.row.src,fun m hm=>(h.more m hm).src⟩
theorem MarksR.le {M M':Mem} {a:Option Addr} {n:Nat} {l:List MkC} (h:MarksR M a n l) (hle:M.le M'):MarksR M' a n l:=⟨h.row.le hle,fun m hm=>(h.more m hm).le hle⟩
theorem MarksR.len {M:Mem} {a:Option Addr} {n:Nat} {l:List MkC} (h:MarksR M a n l):l.length=n:=h.row.flen zff (by decide)
def zDG (l:List MkC):Prop:=∀ m∈l,m.more.length≤4194304
end
end Go.Proofs.YtpdkkbpkplhdpaaGreat
