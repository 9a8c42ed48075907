/- Part of this proof;laid by program. -/
import Derived.Test.YtpnhjkiligohnaaGreatDoorJ9
import Derived.Shelf.Sort.Plain
import Derived.Shelf.Slices.In.SortNone
import Derived.Test.YtpnhjkiligohnaaGreatDoorJ20
import Derived.Test.YtpnhjkiligohnaaGreatDoorJ10
import Derived.Test.YtpnhjkiligohnaaGreatDoorJ11
import Derived.Test.YtpnhjkiligohnaaGreatDoorJ12
import Derived.Test.YtpnhjkiligohnaaGreatDoorJ13
import Derived.Test.YtpnhjkiligohnaaGreatDoorJ14
import Derived.Test.YtpnhjkiligohnaaGreatDoorJ19
import Derived.Shelf.Spec.SlicesInsertGrow
import Derived.Sort.Grow
import Derived.Test.YtpnhjkiligohnaaGreatDoorProg
set_option linter.unusedVariables false
set_option linter.unusedSimpArgs false
namespace Go.Vm
open Go.RowKit Go.Shelf Go.Sort Go.Proofs
theorem zCM {α:Type} [Inhabited α] (enc:α→Value) (d:Array α) (cs:List Value) (h:d.size≤cs.length):putCells enc 0 d cs.toArray=(d.toList.map enc++cs.drop d.size).toArray:=by
 apply Array.ext_getElem?;intro k;simp only[putCells,Array.getElem?_mapIdx,List.getElem?_toArray];by_cases hk:k<d.size
 ·have hc:k<cs.length:=by omega
  rw[List.getElem?_append_left (by simpa using hk),List.getElem?_map];have e1:cs[k]? = some cs[k]:=List.getElem?_eq_getElem hc
  have e2:d.toList[k]? = some d[k]:=by simp[hk]
  rw[e1,e2];simp[hk]
 ·rw[List.getElem?_append_right (by simpa using hk),List.getElem?_drop];simp only[List.length_map,Array.length_toList];rw[show d.size+(k - d.size)=k by omega];cases cs[k]? with
  | none=>rfl
  | some v=>simp only[Option.map_some];rw[if_neg (by omega)]
theorem zNa {α:Type} [Inhabited α] {M F:Mem} {w:World} (hM:M.le (zj w)) (hF:F.le (zj w)) (hdj:M.disj F) {b:Nat} {E:TypeId} {cs:List Value} (hh:M.has b E cs) (enc:α→Value) (d:Array α) (hd:d.size≤cs.length) (n:Nat) (os:Array Obj) :
  (M.setCells b E (d.toList.map enc++cs.drop d.size)).le (zj (grow (putRow enc (Sort.ahead w n) b 0 d) os))∧F.le (zj (grow (putRow enc (Sort.ahead w n) b 0 d) os))∧(M.setCells b E (d.toList.map enc++cs.drop d.size)).disj F ∧
  (grow (putRow enc (Sort.ahead w n) b 0 d) os).os=w.os∧(grow (putRow enc (Sort.ahead w n) b 0 d) os).output=w.output∧(grow (putRow enc (Sort.ahead w n) b 0 d) os).tape=w.tape ∧
  w.heap.size≤(grow (putRow enc (Sort.ahead w n) b 0 d) os).heap.size∧w.drawn≤(grow (putRow enc (Sort.ahead w n) b 0 d) os).drawn:=by
 have hhb:w.heap[b]? = some (.cells cs.toArray E (0,0)):=hM _ _ hh;have hb:b<w.heap.size:=(Array.getElem?_eq_some_iff.1 hhb).1
 have hFb:F b=none:=(hdj b).resolve_left (by unfold Mem.has at hh;rw[hh];simp)
 have other:∀ x o,x≠b→w.heap[x]? = some o→zj (grow (putRow enc (Sort.ahead w n) b 0 d) os) x=some o:=fun x o hx hxo=>by
  have hlt:x<w.heap.size:=(Array.getElem?_eq_some_iff.1 hxo).1;show (w.heap.modify b (onCells (putCells enc 0 d))++os)[x]? = some o
  rw[Array.getElem?_append_left (by simpa using hlt),Array.getElem?_modify,if_neg (Ne.symm hx)];exact hxo
 refine⟨fun x o hx=>?_,fun x o hx=>?_,fun x=>?_,rfl,rfl,rfl,by simp[grow,putRow,mapBlock],by simp[grow,putRow,mapBlock]⟩
 ·by_cases e:x=b
  ·subst e;simp only[Mem.setCells,Mem.upd_same,Option.some.injEq] at hx;subst hx;show (w.heap.modify x (onCells (putCells enc 0 d))++os)[x]? = _
   rw[Array.getElem?_append_left (by simpa using hb),Array.getElem?_modify,if_pos rfl,hhb];simp only[Option.map_some,onCells,zCM enc d cs hd]
  ·simp only[Mem.setCells,Mem.upd_ne _ _ e] at hx;exact other x o e (hM x o hx)
 ·have e:x≠b:=fun e=>by subst e;rw[hFb] at hx;cases hx
  exact other x o e (hF x o hx)
 ·by_cases e:x=b
  ·subst e;exact .inr hFb
  ·simp only[Mem.setCells,Mem.upd_ne _ _ e];exact hdj x
theorem holds_of {α:Type} [Inhabited α] {M:Mem} {w:World} (hM:M.le (zj w)) {b:Nat} {E:TypeId} {cs:List Value} (hh:M.has b E cs) (enc:α→Value) (l:List α) (h:cs.take l.length=l.map enc):Holds enc w b 0 l.toArray:=by
 have hhb:w.heap[b]? = some (.cells cs.toArray E (0,0)):=hM _ _ hh;intro j hj;have hj:j<l.length:=by simpa using hj
 constructor
 ·simp only[World.cell?, hhb,Nat.zero_add];have:(cs.take l.length)[j]? = (l.map enc)[j]? := by rw[h]
  rw[List.getElem?_take_of_lt hj,List.getElem?_map,List.getElem?_eq_getElem hj] at this;simp[this,hj]
 ·simp[World.frozen?, hhb]
section
variable {P:Program} {ρ:Ren}
def zfx (l:List Int):List Int:=l.mergeSort fun x y=>decide (x≤y)
theorem zIc (Ly:Lays.n189 P ρ) (he:zfm P (ρ.f 189)=true) {M:Mem} {E:TypeId} {a:Option Addr} {n c:Nat} {l:List Int} (h:Wr M E 1 a n c (l.map (Value.int .i64))) (hn:n<4611686018427387904) :
  CallsM P (ρ.f 189) [.slice a n c] M fun v M'=>v = .tuple #[]∧Wr M' E 1 a n c ((zfx l).map (Value.int .i64))∧Mem.keep (blk a) M M':=by
 refine⟨he,fun F w hM hF hdj=>?_⟩;have hll:l.length=n:=h.maplen
 obtain⟨h1,h2,⟨rfl,rfl⟩|⟨b,cs,rfl,hh,hcl,ht⟩⟩:=h
 ·have:n=0:=by omega
  subst this;have:l=[]:=by simpa using hll
  subst this;refine(Any.slices_Sort_int_none Ly none 0 w).mono ?_;rintro e w' ⟨rfl,rfl⟩;exact⟨_,M,rfl,⟨rfl,⟨by simp[zfx],Nat.le_refl _,.inl ⟨rfl,rfl⟩⟩,Mem.keep_refl _ _⟩,hM,hF,hdj,rfl,rfl,rfl,Nat.le_refl _,Nat.le_refl _⟩
 ·have hb:b<w.heap.size:=(Array.getElem?_eq_some_iff.1 (hM _ _ hh)).1;have hH:=holds_of hM hh (Value.int .i64) l (by rw[hll];simpa using ht)
  have hs:=Any.slices_Sort_int Ly b 0 c l w hH hb (by omega);rw[hll] at hs;refine hs.mono ?_;rintro e w' ⟨rfl,q,os,rfl⟩;have hsl:(zfx l).length=l.length:=List.length_mergeSort l
  have ht':=zNa hM hF hdj hh (Value.int .i64) (zfx l).toArray (by simp[hsl];omega) q os;refine⟨_,M.setCells b E ((zfx l).toArray.toList.map (Value.int .i64)++cs.drop (zfx l).toArray.size),rfl,⟨rfl,⟨by simp[hsl,hll],h2,.inr ⟨b,_,rfl,Mem.has_setCells,?_,?_⟩⟩,?_⟩,ht'⟩
  ·simp[hsl,hll,hcl];omega
  ·simp only[List.size_toArray,hsl,hll];rw[List.take_append_of_le_length (by simp[hsl];omega),List.take_of_length_le (by simp[hsl];omega)]
  ·intro x o hx hxo;have e:x≠b:=fun e=>hx ⟨_,rfl,e.symm⟩
   simp only[Mem.setCells,Mem.upd_ne _ _ e];exact hxo
theorem zBT (l:List Int):(zfx l).Perm l:=List.mergeSort_perm l _
theorem zzm (l:List Int):(zfx l).Pairwise (· ≤ ·):=by
 have:=List.pairwise_mergeSort (le:=fun (x y:Int)=>decide (x≤y)) (fun a b c h1 h2=>by simp at *; omega) (fun a b=>by simp;omega) l;exact this.imp fun h=>by simpa using h
end
end Go.Vm
namespace Go.Proofs.YtpnhjkiligohnaaGreatDoor
open Go Go.Vm
attribute [local irreducible] Brn Ob Grow CallsM inR zay zav Mem.row Mem.cells Mem.setCells Mem.upd Go.Vm.Own zaU zbF zbE zaV New SrcOk zah NewSl Mem.textAt Mem.mapAt Mem.iterAt zak kfind Wr NewEls Elems
set_option maxRecDepth 10000
section
@[reducible] def zOT (k:ByteArray):Value := .string k
structure FX where
 f:Nat
 a:Option Addr
 c:Nat
 p:List UInt8
 safe:Nat
@[reducible] def fxV (x:FX):Value:=ptr x.f
structure zOU (M:Mem) (x:FX):Prop where
 self:M.has x.f T.zvv [.slice x.a x.p.length x.c,.int .i64 x.safe]
 row:Wr M T.zY 1 x.a x.p.length x.c (x.p.map z7)
def FX.own (x:FX):Nat→Prop:=fun y=>y=x.f∨blk x.a y
def zNb (x y:FX):Prop:=∀ z,x.own z→¬y.own z
abbrev FsT:=List (ByteArray×FX)
structure DAt (M:Mem) (p b:Nat) (D:zyd) (es:FsT):Prop where
 self:M.has p T.zoK [.int .i64 D.limit,.map (some b),.int .i64 D.left,.bool D.down]
 map:MapAt zOT fxV M b es
 ents:∀ q∈es,zOU M q.2
 apart:es.Pairwise fun x y=>zNb x.2 y.2
def zES (p b:Nat) (es:FsT):Nat→Prop:=fun y=>y=p∨y=b∨∃ q∈es,q.2.own y
variable {M:Mem} {p b:Nat} {D:zyd} {es:FsT}
def cont (f:FileR):List UInt8×Nat:=(bl f.all,f.safe.size)
structure zOV (es:FsT) (L:List FileR):Prop where
 sort:zDl L
 nodup:(es.map (·.1)).Nodup
 same:∀ n,(zL es n).map (fun x=>(x.p,x.safe))=(zOg L n).map cont
end
section
variable {M:Mem} {p b:Nat} {D:zyd} {es:FsT}
structure zPo (M M':Mem) (p b:Nat) (es es':FsT) (D':zyd):Prop where
 at':DAt M' p b D' es'
 rel:zOV es' D'.l
 keep:Mem.keep (zES p b es) M M'
 own:∀ y,zES p b es' y→zES p b es y∨M y=none
theorem Wr.newSl {E:TypeId} {s:Nat} {a:Option Addr} {n c:Nat} {L:List Value} (h:Wr M E s a n c L):NewSl (M.minus (blk a)) E s a n c L M:=by
 unfold Wr at h;obtain⟨h1,h2,h3⟩:=h;exact newSl_iff.2 ⟨Mem.minus_le _ _,h1,h2,h3.imp id fun ⟨b,cs,ha,hh,hr⟩=>⟨b,cs,ha,Mem.minus_in ⟨_,ha,rfl⟩,hh,hr⟩⟩
end
section
variable {M:Mem}
theorem zDn (base size:Int):CallsM Tryz.prog F.ziE [.int .i64 base,.int .i64 size] M fun v M'=>∃ B1 B2,v = .func (.func F.zkq) #[] #[.pointer (some ⟨B1,0,none⟩),.pointer (some ⟨B2,0,none⟩)] ∧
  M'.has B1 T.int [.int .i64 size]∧M'.has B2 T.int [.int .i64 base]∧M.le M':=by
 refine zyF (by simp) ?_;refine zR ?_;refine new (fun b1 hb1=>?_);replace hb1:M b1=none:=hb1;(conv=>whnf)
 refine new (fun b2 hb2=>?_);replace hb2:(M.setCells b1 T.int [.int .i64 size]) b2=none:=hb2;refine zR ?_;have hle1:M.le (M.setCells b1 T.int [.int .i64 size]):=Mem.le_setCells hb1
 have hle2:(M.setCells b1 T.int [.int .i64 size]).le ((M.setCells b1 T.int [.int .i64 size]).setCells b2 T.int [.int .i64 base]):=Mem.le_setCells hb2;exact⟨b1,b2,rfl,Mem.has.le hle2 Mem.has_setCells,Mem.has_setCells,Mem.le_trans hle1 hle2⟩
def IU (b1:Nat) (out:List Int) (M:Mem):Prop:=∃ a c,M.has b1 T.zb6 [.slice a out.length c]∧Wr M T.int 1 a out.length c (out.map (Value.int .i64))∧(out=[]→a=none∧c=0)
theorem zLD (x:Int):∀ u∈[Value.int .i64 x],u.oneCell'=true:=fun u hu=>by simp at hu;subst hu;rfl
theorem under_nil:CallsM Tryz.prog F.za0 [.pointer none] M fun v M'=>v = .slice none 0 0∧M=M':=by
 refine ziu (by simp) ?_
 repeat' ((conv=>whnf);first|refine⟨?_,True.intro⟩|refine⟨?_,?_,True.intro⟩|refine brn_t rfl ?_|refine brn_f rfl ?_|refine ob rfl ?_|refine obr rfl ?_|refine ob (by decide) ?_|refine obr (by decide) ?_|refine grow_same (Mem.le_refl _) ?_|refine ob (Mem.le_refl _) ?_|refine⟨_,Mem.le_refl _,?_⟩|fail)
 exact⟨rfl,rfl⟩
set_option maxHeartbeats 1000000 in
theorem zId {p:Nat} {sz:Value} {base un:Int} {al:Value} (h:M.has p T.zks [sz,.int .i64 base,al,.int .i64 un]) (hu : -9223372036854775808≤un∧un<9223372036854775808) :
  CallsM Tryz.prog F.za0 [.pointer (some ⟨p,0,none⟩)] M fun v M'=>∃ a c,v = .slice a (zbR base (zax un)).length c∧NewSl M T.int 1 a (zbR base (zax un)).length c ((zbR base (zax un)).map (Value.int .i64)) M'∧(zbR base (zax un)=[]→a=none∧c=0):=by
 refine ziu (by simp) ?_
 repeat' ((conv=>whnf);first|refine⟨?_,True.intro⟩|refine⟨?_,?_,True.intro⟩|refine brn_t rfl ?_|refine brn_f rfl ?_|refine ob rfl ?_|refine obr rfl ?_|refine ob (by decide) ?_|refine obr (by decide) ?_|refine grow_same (Mem.le_refl _) ?_|refine ob (Mem.le_refl _) ?_|refine⟨_,Mem.le_refl _,?_⟩|fail)
 refine on (h.c1 rfl) ?_;refine zR ?_;refine on (h.c1 rfl) ?_;refine zR ?_;refine(zDn base un).mono ?_;rintro v M1 ⟨B1,B2,rfl,hB1,hB2,hle1⟩;(conv=>whnf);refine⟨rfl,?_⟩;(conv=>whnf);refine new (fun b1 hb1=>?_);replace hb1:M1 b1=none:=hb1;have hle2:M1.le (M1.setCells b1 T.zb6 [.slice none 0 0]):=Mem.le_setCells hb1
 have h1b1:=Mem.has_setCells (M:=M1) (b:=b1) (E:=T.zb6) (l:=[.slice none 0 0]);obtain⟨M3,hM3⟩:∃ M3,M3=M1.setCells b1 T.zb6 [.slice none 0 0]:=⟨_,rfl⟩
 rw[←hM3] at hle2 h1b1;obtain⟨M0,hM0⟩:∃ M0:Mem,M0=M3.minus (fun y=>y≠b1):=⟨_,rfl⟩
 have h01:M0 b1=M3 b1:=by rw[hM0];unfold Mem.minus;rw[if_neg (by simp)]
 (conv=>whnf);erw [←hM3];refine zGq (zCW (A:=M1) hB1 hB2 hu) (by kernel_rfl) rfl hle2 (fun _=>rfl) (IU b1) M0 (hM0▸Mem.minus_le _ _) (fun b hb=>?_) ⟨none,0,?_,?_,fun _=>⟨rfl,rfl⟩⟩ ?_ ?_
 ·rw[hM0];refine Mem.minus_in (fun e=>?_);rw[e] at hb;exact hb hb1
 ·unfold Mem.has at h1b1 ⊢; rw[h01];exact h1b1
 ·unfold Wr;exact⟨rfl,Nat.le_refl _,.inl ⟨rfl,rfl⟩⟩
 ·rintro pre x Mb Mx Mc ⟨a2,c2,ho1,ho2,ho3⟩ hlt ⟨hx1,hx2⟩ hfr hle4 hle5;have g1:Mc.has b1 T.zb6 [.slice a2 pre.length c2]:=Mem.has.le hle4 ho1
  have g3:=ho2.le hle4;have hN:zax un≤128:=by unfold zax;omega
  refine zR ?_;refine⟨rfl,?_⟩;refine zR ?_;refine on (g1.c1 rfl) ?_;refine zR ?_;refine appK (Mc.minus (blk a2)) _ (Wr.newSl g3) (by omega) (by simp[maxLen];omega) (zLD x) fun a4 c4 M4 hN4 hk4=>?_
  have hb1n:¬blk a2 b1:=fun ⟨q,hq,e⟩=>by
   obtain⟨cs,hh⟩:=g3.block hq;rw[e] at hh;exact absurd (hh.inj g1).1 (by decide)
  have k1:M4.has b1 T.zb6 [.slice a2 pre.length c2]:=hk4 _ _ hb1n g1;have k3:=hN4.wr
  have hb4:∀ q,a4=some q→q.block≠b1:=fun q hq e=>by
   obtain⟨cs,hh⟩:=k3.block hq;rw[e] at hh;exact absurd (hh.inj k1).1 (by decide)
  refine zR ?_;refine on k1.cells ?_;(conv=>whnf);refine ob (by simp) ?_
  have hk5:Mem.keep (fun y=>y=b1) M4 (M4.setCells b1 T.zb6 [.slice a4 (pre.length+1) c4]):=fun y o hy ho=>by
   unfold Mem.setCells;rw[Mem.upd_ne _ _ hy];exact ho
  have m1:(M4.setCells b1 T.zb6 [.slice a4 (pre.length+1) c4]).has b1 T.zb6 [.slice a4 (pre.length+1) c4]:=Mem.has_setCells;obtain⟨M5,hM5⟩:∃ M5,M5=M4.setCells b1 T.zb6 [.slice a4 (pre.length+1) c4]:=⟨_,rfl⟩
  rw[←hM5] at hk5 m1;(conv=>whnf)
  refine⟨rfl,M5,⟨a4,c4,?_,?_,fun h=>by simp at h⟩,hM5▸Mem.le_refl _⟩
  ·rw[List.length_append];exact m1
  ·rw[List.length_append,List.map_append];refine k3.mono fun q o hq ho=>hk5 _ _ (hb4 q hq) ho
 ·rintro xs Mb Mc hD ⟨a2,c2,ho1,ho2,ho3⟩ hdj hle4 hle5;have g1:Mc.has b1 T.zb6 [.slice a2 xs.length c2]:=Mem.has.le hle4 ho1
  refine zR ?_;refine on (g1.c1 rfl) ?_;refine zR ?_;subst hD;refine⟨a2,c2,rfl,?_,ho3⟩;refine newSl_iff.2 ⟨Mem.le_trans hle1 hle5,?_⟩;unfold Wr at ho2;obtain⟨w1,w2,w3⟩:=ho2;refine⟨w1,w2,w3.imp id fun ⟨b,cs,ha,hh,hr⟩=>⟨b,cs,ha,?_,hh.le hle4,hr⟩⟩;cases e:M b with
  | none=>rfl
  | some o=>
   have:=hdj b (by rw[hle1 _ _ e];simp);unfold Mem.has at hh;rw[hh] at this;cases this
end
section
variable {M:Mem}
def zNc:Rn.T Rn.FC := .n (.n (.n (.n (.e) none (.n (.n (.n (.n (.e) none (.n (.e) (some ⟨9,zn1,zn2⟩) (.e))) none (.e)) none (.e)) none (.e))) none (.e)) none (.n (.e) none (.n (.e) none (.n (.e) none (.n (.n (.n (.n (.e) (some ⟨3,zgn,zgo⟩) (.e)) none (.e)) none (.e)) none (.e)))))) none (.e)
theorem zBU:Rn.Worth Tryz.prog F.zem ⟨9,zn1,zn2⟩:=fun hn h=>zAf (Nat.le_trans hn (by decide)) h
theorem zLE:Rn.T.All (Rn.Worth Tryz.prog) zNc := .no (.no (.no (.no (.nil) (.no (.no (.no (.no (.nil) (.at zBU (.nil) (.nil))) (.nil)) (.nil)) (.nil))) (.nil)) (.no (.nil) (.no (.nil) (.no (.nil) (.no (.no (.no (.at zow (.nil) (.nil)) (.nil)) (.nil)) (.nil)))))) (.nil)
noncomputable def zNd:Rn.R:=Rn.run .e zNc 10 3 F.zem [.c .nl] 0 .e
noncomputable def isF (c:Rn.C):Bool:=match c with | .t false=>true|_=>false
noncomputable def zKz (r:Rn.R):Bool:=match r with|some (.rt (.ag l) _ _)=>Nat.beq l.length 128&&l.all isF|_=>false
theorem zHi:zKz zNd=true:=by kernel_rfl
theorem zHj {l:List Rn.C} {σ:List Rn.E} {vs:List Value} (hl:l.all isF=true) (h:Rn.All2 (Rn.CR σ) l vs):vs=List.replicate l.length (.bool false):=by
 induction l generalizing vs with
 | nil=>cases vs with
  | nil=>rfl
  | cons _ _=>exact h.elim
 | cons c l ih=>cases vs with
  | nil=>exact h.elim
  | cons v vs=>
   rw[List.all_cons,Bool.and_eq_true] at hl;rw[ih hl.2 h.2,List.length_cons,List.replicate_succ];have hc:=hl.1
   unfold isF at hc;split at hc
   ·have h1:some (Value.bool false)=some v:=h.1;cases h1;rfl
   ·cases hc
theorem has_nil:CallsM Tryz.prog F.zem [.slice none 0 0] M fun v M'=>v = .agg (List.replicate 128 (.bool false)).toArray∧M.le M':=by
 have h1:CallsM Tryz.prog F.zem [.slice none 0 0] Mem.empty fun v _=>v = .agg (List.replicate 128 (.bool false)).toArray:=by
  have hk:=zHi;unfold zKz at hk;split at hk
  ·rename_i l n H hr;have:=Rn.run_ok (P:=Tryz.prog) (prim := .e) trivial zLE 10 3 hr rfl (σ:=[]) (M:=Mem.empty) (vs:=[.slice none 0 0]) rfl ⟨fun _ _ h=>(by cases h),fun _ _ _ _ _ _ h=>(by cases h)⟩ ⟨rfl,trivial⟩
   refine this.mono ?_;rintro v M' ⟨τ, -, h2, -⟩;obtain⟨vs,h3,rfl⟩:=h2;rw[Bool.and_eq_true] at hk;rw[zHj hk.2 h3,Nat.eq_of_beq_eq_true hk.1]
  ·cases hk
 refine(h1.frame (Mem.empty_le M)).mono ?_;rintro v M' ⟨A',rfl, -, h2⟩;exact⟨rfl,fun b o hb=>(h2 b o rfl hb).1⟩
theorem zIe (base:Int):CallsM Tryz.prog F.ziF [.int .i64 base,.slice none 0 0] M fun v M'=>v = .slice none 0 0∧M.le M':=by
 refine zyG (by simp) ?_;refine zR ?_;refine has_nil.mono ?_;rintro v M1 ⟨rfl,hle1⟩;refine zR ?_;refine(zDn base 128).mono ?_;rintro v M2 ⟨B1,B2,rfl,hB1,hB2,hle2⟩;(conv=>whnf);refine⟨rfl,?_⟩;(conv=>whnf);refine new (fun b0 hb0=>?_);replace hb0:M2 b0=none:=hb0;(conv=>whnf);refine new (fun b1 hb1=>?_);replace hb1:(M2.setCells b0 T.zcb (List.replicate 128 (.bool false))) b1=none:=hb1
 have hne:b1≠b0:=fun e=>by
  rw[e] at hb1;have h1:=Mem.has_setCells (M:=M2) (b:=b0) (E:=T.zcb) (l:=List.replicate 128 (.bool false))
  unfold Mem.has at h1;rw[h1] at hb1;cases hb1
 have hle3:M2.le (M2.setCells b0 T.zcb (List.replicate 128 (.bool false))):=Mem.le_setCells hb0;have hle4:(M2.setCells b0 T.zcb (List.replicate 128 (.bool false))).le ((M2.setCells b0 T.zcb (List.replicate 128 (.bool false))).setCells b1 T.zb6 [.slice none 0 0]):=Mem.le_setCells hb1
 have h1b0:=Mem.has.le hle4 (Mem.has_setCells (M:=M2) (b:=b0) (E:=T.zcb) (l:=List.replicate 128 (.bool false)));have h1b1:=Mem.has_setCells (M:=M2.setCells b0 T.zcb (List.replicate 128 (.bool false))) (b:=b1) (E:=T.zb6) (l:=[.slice none 0 0])
 have hb21:M2 b1=none:=by
  cases e:M2 b1 with
  | none=>rfl
  | some o=>rw[hle3 _ _ e] at hb1;cases hb1
 obtain⟨M3,hM3⟩:∃ M3,M3=(M2.setCells b0 T.zcb (List.replicate 128 (.bool false))).setCells b1 T.zb6 [.slice none 0 0]:=⟨_,rfl⟩
 rw[←hM3] at hle4 h1b1 h1b0;obtain⟨M0,hM0⟩:∃ M0:Mem,M0=M3.minus (fun y=>y≠b1∧y≠b0):=⟨_,rfl⟩
 have h01:M0 b1=M3 b1:=by rw[hM0];unfold Mem.minus;rw[if_neg (by simp)]
 have h02:M0 b0=M3 b0:=by rw[hM0];unfold Mem.minus;rw[if_neg (by simp)]
 (conv=>whnf);erw [←hM3];refine zGq (zCW (A:=M2) hB1 hB2 (by omega)) (by kernel_rfl) rfl (Mem.le_trans hle3 hle4) (fun _=>rfl) (fun _ Mb=>Mb.has b1 T.zb6 [.slice none 0 0]∧Mb.has b0 T.zcb (List.replicate 128 (.bool false))) M0 (hM0▸Mem.minus_le _ _) (fun b hb=>?_) ⟨?_,?_⟩ ?_ ?_
 ·rw[hM0];refine Mem.minus_in ⟨fun e=>?_,fun e=>?_⟩
  ·rw[e] at hb;exact hb hb21
  ·rw[e] at hb;exact hb hb0
 ·unfold Mem.has at h1b1 ⊢; rw[h01];exact h1b1
 ·unfold Mem.has at h1b0 ⊢; rw[h02];exact h1b0
 ·rintro pre x Mb Mx Mc ⟨ho1,ho2⟩ hlt ⟨hx1,hx2⟩ hfr hle5 hle6;have g1:=Mem.has.le hle5 ho1
  have g2:=Mem.has.le hle5 ho2;refine zR ?_;refine⟨rfl,?_⟩;refine zR ?_;refine ob ⟨by omega,by omega⟩ ?_;refine zR ?_;refine on (g2.c1 (v := .bool false) ?_) ?_
  ·rw[List.getElem?_replicate,if_pos (by omega)]
  (conv=>whnf);exact⟨rfl,Mc,⟨g1,g2⟩,Mem.le_refl _⟩
 ·rintro xs Mb Mc hD ⟨ho1,ho2⟩ hdj hle5 hle6;have g1:=Mem.has.le hle5 ho1
  refine zR ?_;refine on (g1.c1 rfl) ?_;refine zR ?_;exact⟨rfl,Mem.le_trans (Mem.le_trans hle1 hle2) hle6⟩
end
end Go.Proofs.YtpnhjkiligohnaaGreatDoor
namespace Go.Vm.Rn
open Go.Vm
set_option linter.unusedVariables false
noncomputable def zET (H:T O) (k:Nat) (v:Option O):Bool:=match v with|none=>true|some o=>(match H.get k with|some o'=>o.eqb o'|none=>false)
noncomputable def T.sub (a:T O) (H:T O):(Nat→Nat)→Bool:=
 T.rec (fun _=>true) (fun _ v _ il ir w=>zM (zET H (w 0) v) (zM (il fun k=>w (2*k+1)) (ir fun k=>w (2*k+2)))) a
structure Stg where
 n:Nat
 H:T O
 v:V
 n':Nat
 H':T O
noncomputable def Stg.ok (F:List W→Nat→T O→R) (ws:List W) (g:Stg):Bool:=match F ws g.n g.H with|some (.rt v n' H')=>zM (v.eqb g.v) (zM (Nat.beq n' g.n') (g.H'.sub H' id))|_=>false
noncomputable def T.ofs (H:T O) (l:List (Nat×Option O)):T O:=List.rec (fun H=>H) (fun p _ ih H=>Prod.rec (fun k o=>H.set k o ih) p) l H
@[reducible] def Q.i (x:Nat):C := .n .i64 (.ofNat x)
@[reducible] def Q.u (x:Nat):C := .n .u8 (.ofNat x)
noncomputable def zmk (ws:List W):List Stg→List W→Nat→T O→R
 | [],_,_,_=>fail
 | g::gs,us,n,H=>Bool.rec (zmk ws gs us n H) (cB (zM (zpa W.eqb ws us) (g.H.sub H id)) (some (.rt g.v g.n' g.H')) fail) (Nat.beq n g.n)
theorem T.zpS {H:T O}:∀ {a:T O} {w:Nat→Nat},a.sub H w=true→∀ {k:Nat} {o:O},a.get k=some o→H.get (w k)=some o
 | .e,_,_,_,_,h=>by cases h
 | .n l v r,w,h,0,o,hk=>by
  have h':zM (zET H (w 0) v) (zM (l.sub H fun k=>w (2*k+1)) (r.sub H fun k=>w (2*k+2)))=true:=h;obtain⟨h1, -⟩:=zs h';have hv:v=some o:=hk
  subst hv;unfold zET at h1;dsimp only at h1;split at h1
  ·rename_i o' hg;rw[hg,O.eqb_s h1]
  ·cases h1
 | .n l v r,w,h,m+1,o,hk=>by
  have h':zM (zET H (w 0) v) (zM (l.sub H fun k=>w (2*k+1)) (r.sub H fun k=>w (2*k+2)))=true:=h;obtain⟨-, h1⟩:=zs h';obtain⟨h2,h3⟩:=zs h1;rw[T.get_1] at hk;split at hk
  ·rename_i hm;have hm':m % 2=1:=Nat.eq_of_beq_eq_true hm
   have:=T.zpS h3 hk
   rwa [show 2*(m / 2)+2=m+1 by omega] at this
  ·rename_i hm;have hm':m % 2≠1:=fun e=>by rw[e] at hm;exact hm rfl
   have:=T.zpS h2 hk
   rwa [show 2*(m / 2)+1=m+1 by omega] at this
theorem HR.sub {σ:List E} {H a:T O} {M:Mem} (h:HR σ H M) (ha:a.sub H id=true):HR σ a M:=
 ⟨fun k o hk=>h.has k o (T.zpS ha hk),fun k k' o o' e e' hk hk'=>h.inj k k' o o' e e' (T.zpS ha hk) (T.zpS ha hk')⟩
theorem zlS {P:Program} {F:Cal} (hF:FOk P F) {g:Nat} {ws:List W}:∀ {l:List Stg},(∀ s∈l,s.ok (F g) ws=true)→Prim P g (zmk ws l)
 | [],_=>by intro h;cases h
 | s::l,hl=>by
  intro h σ M vs hn hh hvs;rename_i us n H v n' H';have h':(Bool.rec (zmk ws l us n H) (cB (zM (zpa W.eqb ws us) (s.H.sub H id)) (some (.rt s.v s.n' s.H')) fail) (Nat.beq n s.n):R)=some (.rt v n' H'):=h
  cases hb:Nat.beq n s.n with
  | false=>
   rw[hb] at h';exact zlS hF (fun x hx=>hl x (List.mem_cons_of_mem _ hx)) h' hn hh hvs
  | true=>
   rw[hb] at h';obtain⟨h1,h2⟩:=zr h';obtain⟨h3,h4⟩:=zs h1;have e1:=zmg (fun _ _=>W.eqb_s) h3
   have e2:=zE hb;subst e1 e2;cases h2;have hs:=hl s (by simp)
   unfold Stg.ok at hs;split at hs
   ·rename_i v2 n2 H2 hr;obtain⟨h5,h6⟩:=zs hs;obtain⟨h7,h8⟩:=zs h6;have e3:=V.eqb_s h5
    have e4:=zE h7;subst e3 e4;refine CallsM.mono (hF hr rfl hn (hh.sub h4) hvs) ?_;rintro u M' ⟨τ,h9,h10,h11⟩;exact⟨τ,h9,h10,h11.sub h8⟩
   ·cases hs
noncomputable def orP (p q:List W→Nat→T O→R) (ws:List W) (n:Nat) (H:T O):R:=Option.rec (q ws n H) (fun y=>some y) (p ws n H)
theorem zOi {P:Program} {g:Nat} {p q:List W→Nat→T O→R} (hp:Prim P g p) (hq:Prim P g q):Prim P g (orP p q):=by
 intro ws n H v n' H' h;unfold orP at h;cases hx:p ws n H with
 | none=>rw[hx] at h;exact hq h
 | some y=>rw[hx] at h;exact hp (hx.trans h)
theorem all_cons {p:Stg→Prop} {x:Stg} {l:List Stg} (h:p x) (t:∀ s∈l,p s):∀ s∈x::l,p s:=fun s hs=>by
 cases hs with
 | head=>exact h
 | tail _ hs=>exact t s hs
theorem zpT {p:Stg→Prop}:∀ s∈([]:List Stg),p s:=fun s hs=>by cases hs
end Go.Vm.Rn
namespace Go.Proofs.YtpnhjkiligohnaaGreatDoor
open Go Go.Vm
attribute [local irreducible] Brn Ob Grow CallsM inR zay zav Mem.row Mem.cells Mem.setCells Mem.upd Go.Vm.Own zaU zbF zbE zaV New SrcOk zah NewSl Mem.textAt Mem.mapAt Mem.iterAt zak kfind Wr NewEls Elems
set_option maxRecDepth 10000
variable {M:Mem}
theorem zEU {σ:List Rn.E} {H:Rn.T Rn.O} {M M':Mem} (h:Rn.HR σ H M) (hle:M.le M'):Rn.HR σ H M':=
 ⟨fun a o ha=>by
  obtain⟨e,h1,h2⟩:=h.has a o ha;refine⟨e,h1,h2.frame fun hn=>?_⟩;obtain⟨ob,h3⟩:=h2.some hn
  rw[h3];exact hle _ _ h3,h.inj⟩
def zrm (ws:List Rn.W) (n:Nat) (H:Rn.T Rn.O):Rn.R:=match ws with
 | [.c (.n .i64 _),.c .nl]=>some (.rt (.c .nl) n H)
 | _=>none
theorem zvx:Rn.Prim Tryz.prog F.ziF zrm:=by
 intro ws n H v n' H' h σ M vs hn hh hvs;unfold zrm at h;split at h
 ·rename_i b;cases h
  match vs,hvs with
  | [v1,v2],hvs=>
   have e1:some (Value.int .i64 b)=some v1:=hvs.1;have e2:some (Value.slice none 0 0)=some v2:=hvs.2.1
   cases e1;cases e2;refine(zIe b).mono ?_;rintro u M' ⟨rfl,hle⟩;exact⟨[],by simpa using hn,by simp[Rn.OVR,Rn.CR,Rn.C.val],by simpa using zEU hh hle⟩
  | [_],hvs=>exact hvs.2.elim
  | _::_::_::_,hvs=>exact hvs.2.2.elim
 ·cases h
noncomputable def zox (ws:List Rn.W) (n:Nat) (H:Rn.T Rn.O):Rn.R:=match ws with
 | [.c .np]=>some (.rt (.c .nl) n H)
 | [.c (.p a 0)]=>(match H.get a with
  | some (.row E [_,.n .i64 base,_,.n .i64 un])=>if E=T.zks ∧ -9223372036854775808≤un∧un<9223372036854775808 then (match zax un with
   | 0=>some (.rt (.c .nl) n H)
   | k+1=>H.set n (some (.gr T.int 1 ((zbR base (k+1)).map (Rn.C.n .i64)))) fun H'=>Rn.fN (fun n'=>some (.rt (.c (.g n 0 0 (k+1))) n' H')) (n+1)) else none
  | _=>none)
 | _=>none
theorem zBV (base:Int) (n:Nat):(zbR base n).length=n:=by simp[zbR]
theorem zNg {σ:List Rn.E} (l:List Int):Rn.All2 (Rn.CR σ) (l.map (Rn.C.n .i64)) (l.map (Value.int .i64)):=by
 induction l with
 | nil=>trivial
 | cons x l ih=>exact⟨rfl,ih⟩
theorem ztu:Rn.Prim Tryz.prog F.za0 zox:=by
 intro ws n H v n' H' h σ M vs hn hh hvs;unfold zox at h;split at h
 ·cases h
  match vs,hvs with
  | [v1],hvs=>
   have e1:some (Value.pointer none)=some v1:=hvs.1;cases e1;refine under_nil.mono ?_;rintro u M' ⟨rfl,rfl⟩;exact⟨[],by simpa using hn,by simp[Rn.OVR,Rn.CR,Rn.C.val],by simpa using hh⟩
  | _::_::_,hvs=>exact hvs.2.elim
 ·rename_i a;split at h
  ·rename_i E c0 base c2 un hg;split at h
   ·rename_i hc;obtain⟨hE,hu⟩:=hc;subst hE
    match vs,hvs with
    | [v1],hvs=>
     obtain⟨e,he,ho⟩:=hh.has a _ hg;have h1:=hvs.1
     simp only[Rn.WR,Rn.CR,Rn.C.val,he,Option.map_some,Option.some.injEq] at h1;subst h1;obtain⟨h0,us,h2,h3⟩:=ho
     match us,h2 with
     | [w0,w1,w2,w3],h2=>
      have e1:some (Value.int .i64 base)=some w1:=h2.2.1;have e3:some (Value.int .i64 un)=some w3:=h2.2.2.2.1
      cases e1;cases e3;have hM:M.has e.addr T.zks [w0,.int .i64 base,w2,.int .i64 un]:=h3
      refine(zId hM hu).mono ?_;rintro u M' ⟨q,c,rfl,hN,hnil⟩;rw[zBV] at hN ⊢;cases hk:zax un with
      | zero=>
       rw[hk] at h;cases h;obtain⟨rfl,rfl⟩:=hnil (List.length_eq_zero_iff.1 (by rw[zBV,hk]));exact⟨[],by simpa using hn,by simp[Rn.OVR,Rn.CR,Rn.C.val],by simpa using zEU hh hN.le⟩
      | succ k=>
       rw[hk] at h hN;dsimp only at h;rw[Rn.T.set_put,Rn.fN_eq] at h;cases h;unfold NewSl at hN;obtain⟨M0,hle,hown⟩:=hN;obtain⟨e2,h5,h6⟩:=Rn.own_new (zEU hh hle) (zNg (zbR base (k+1))) hown;rw[hn] at h5 h6;exact⟨[e2],by simp[hn],h6,h5⟩
     | [],h2=>exact h2.elim
     | [_],h2=>exact h2.2.elim
     | [_,_],h2=>exact h2.2.2.elim
     | [_,_,_],h2=>exact h2.2.2.2.elim
     | _::_::_::_::_::_,h2=>exact h2.2.2.2.2.elim
    | _::_::_,hvs=>exact hvs.2.elim
   ·cases h
  ·cases h
 ·cases h
end Go.Proofs.YtpnhjkiligohnaaGreatDoor
namespace Go.Vm
open Go.RowKit Go.Shelf Go.Sort Go.Proofs
def zOW (M:Mem) (E:TypeId) (a:Option Addr) (c:Nat) (l:List Int):Prop:=
 (l.length≤c∧c≤maxLen)∧((a=none∧c=0)∨∃ b o cs,a=some ⟨b,o,none⟩∧M.has b E cs∧o+c≤cs.length∧(cs.drop o).take l.length=l.map (Value.int .i64))
def zkW (c:Array Value):Nat→List Value→Array Value
 | _,[]=>c
 | o,v::r=>zkW (c.setIfInBounds o v) (o+1) r
theorem zas (b:Nat):∀ (vs:List Value) (o:Nat) (w:World),w.setCells b o vs=mapBlock w b fun c=>zkW c o vs
 | [],o,w=>by
  show w=_;rw[mapBlock_id];intro c e fr _;rfl
 | v::r,o,w=>by
  show (w.setCell ⟨b,o,none⟩ v).setCells b (o+1) r=_;rw[zas b r (o+1),setCell_eq,mapBlock_mapBlock];rfl
theorem zj9:∀ (vs:List Value) (o:Nat) (cs:List Value),o+vs.length≤cs.length→zkW cs.toArray o vs=(splice cs o vs).toArray
 | [],o,cs,h=>by simp[zkW,splice]
 | v::r,o,cs,h=>by
  simp only[List.length_cons] at h;have e:cs.toArray.setIfInBounds o v=(cs.set o v).toArray:=by simp
  rw[zkW,e,zj9 r (o+1) (cs.set o v) (by simp;omega)];congr 1;unfold splice
  have h1:(cs.set o v).take (o+1)=cs.take o++[v]:=by
   rw[List.take_add_one,List.take_set,List.set_eq_of_length_le (by simp;omega),List.getElem?_set_self (by omega)];rfl
  have h2:(cs.set o v).drop (o+1+r.length)=cs.drop (o+(v::r).length):=by
   rw[List.drop_set_of_lt (by omega)];congr 1;simp;omega
  rw[h1,h2];simp
theorem zvy {cs V:List Value} {o k:Nat} (h:o+k≤cs.length):(splice cs (o+k) V).drop o=splice (cs.drop o) k V:=by
 unfold splice;rw[List.append_assoc,List.drop_append_of_le_length (by simp;omega),List.drop_take,show o+k - o=k by omega,List.drop_drop,←List.append_assoc];congr 2;omega
theorem zLF {A l:List Value} {i:Nat} {x:Value} (ht:A.take l.length=l) (hi:i≤l.length) (ha:l.length+1≤A.length):(splice (splice A (i+1) (l.drop i)) i [x]).take (l.length+1)=l.take i++x::l.drop i:=by
 have h1:A.take i=l.take i:=by rw[←ht,List.take_take,Nat.min_eq_left hi]
 have h2:(splice A (i+1) (l.drop i)).take i=l.take i:=by
  unfold splice;rw[List.append_assoc,List.take_append_of_le_length (by simp;omega),List.take_take,Nat.min_eq_left (by omega),h1]
 have h3:(splice A (i+1) (l.drop i)).drop (i+1)=l.drop i++A.drop (i+1+(l.drop i).length):=by
  unfold splice;rw[List.append_assoc,List.drop_append_of_le_length (by simp;omega),List.drop_of_length_le (by simp;omega),List.nil_append]
 have e:splice (splice A (i+1) (l.drop i)) i [x]=(l.take i++x::l.drop i)++A.drop (i+1+(l.drop i).length):=by
  rw[splice,h2,show i+[x].length=i+1 from rfl,h3];simp
 rw[e,List.take_append_of_le_length (by simp;omega),List.take_of_length_le (by simp;omega)]
theorem zLG {A l:List Value} {i:Nat} {x:Value} (ht:A.take i=l.take i) (hi:i≤l.length) (ha:l.length+1≤A.length):(splice (splice A i [x]) (i+1) (l.drop i)).take (l.length+1)=l.take i++x::l.drop i:=by
 have h2:(splice A i [x]).take (i+1)=l.take i++[x]:=by
  unfold splice;rw[List.take_append_of_le_length (by simp;omega),ht,List.take_of_length_le (by simp;omega)]
 have e:splice (splice A i [x]) (i+1) (l.drop i)=(l.take i++x::l.drop i)++(splice A i [x]).drop (i+1+(l.drop i).length):=by
  rw[splice,h2];simp
 rw[e,List.take_append_of_le_length (by simp;omega),List.take_of_length_le (by simp;omega)]
theorem zvz {h:Array Obj} {o:Obj} {f:Obj→Obj}:(h.push o).modify h.size f=h.push (f o):=by
 apply Array.ext_getElem?;intro k;rw[Array.getElem?_modify];by_cases hk:h.size=k
 ·subst hk;simp
 ·rw[if_neg hk];by_cases h2:k<h.size
  ·rw[Array.getElem?_push_lt h2,Array.getElem?_push_lt h2]
  ·rw[Array.getElem?_eq_none (by simp;omega),Array.getElem?_eq_none (by simp;omega)]
theorem zLH {M F:Mem} {w w':World} (hM:M.le (zj w)) (hF:F.le (zj w)) (hdj:M.disj F) {b:Nat} {E:TypeId} {cs cs':List Value} (hh:M.has b E cs) (f:Array Value→Array Value) (hf:f cs.toArray=cs'.toArray) {q:Nat} (hw:w'=mapBlock (Sort.ahead w q) b f) :
  (M.setCells b E cs').le (zj w')∧F.le (zj w')∧(M.setCells b E cs').disj F∧w'.os=w.os∧w'.output=w.output∧w'.tape=w.tape∧w.heap.size≤w'.heap.size∧w.drawn≤w'.drawn:=by
 subst hw;have hhb:w.heap[b]? = some (.cells cs.toArray E (0,0)):=hM _ _ hh
 have hb:b<w.heap.size:=(Array.getElem?_eq_some_iff.1 hhb).1;have hFb:F b=none:=(hdj b).resolve_left (by unfold Mem.has at hh;rw[hh];simp)
 have other:∀ x o,x≠b→w.heap[x]? = some o→zj (mapBlock (Sort.ahead w q) b f) x=some o:=fun x o hx hxo=>by
  show (w.heap.modify b (onCells f))[x]? = some o;rw[Array.getElem?_modify,if_neg (Ne.symm hx)];exact hxo
 refine⟨fun x o hx=>?_,fun x o hx=>?_,fun x=>?_,rfl,rfl,rfl,by simp[mapBlock],by simp[mapBlock]⟩
 ·by_cases e:x=b
  ·subst e;simp only[Mem.setCells,Mem.upd_same,Option.some.injEq] at hx;subst hx;show (w.heap.modify x (onCells f))[x]? = _
   rw[Array.getElem?_modify,if_pos rfl,hhb];simp only[Option.map_some,onCells,hf]
  ·simp only[Mem.setCells,Mem.upd_ne _ _ e] at hx;exact other x o e (hM x o hx)
 ·have e:x≠b:=fun e=>by subst e;rw[hFb] at hx;cases hx
  exact other x o e (hF x o hx)
 ·by_cases e:x=b
  ·subst e;exact .inr hFb
  ·simp only[Mem.setCells,Mem.upd_ne _ _ e];exact hdj x
theorem zOj {M F:Mem} {w w':World} (hM:M.le (zj w)) (hF:F.le (zj w)) (hdj:M.disj F) {E:TypeId} {cs:List Value} (hh:w'.heap=w.heap.push (.cells cs.toArray E)) (ho:w'.os=w.os) (hp:w'.output=w.output) (ht:w'.tape=w.tape) (hd:w.drawn≤w'.drawn) :
  M w.heap.size=none∧(M.setCells w.heap.size E cs).le (zj w')∧F.le (zj w')∧(M.setCells w.heap.size E cs).disj F∧w'.os=w.os∧w'.output=w.output∧w'.tape=w.tape∧w.heap.size≤w'.heap.size∧w.drawn≤w'.drawn:=by
 have hn:∀ N:Mem,N.le (zj w)→N w.heap.size=none:=fun N hN=>Mem.none_of_le hN (Nat.le_refl _)
 have other:∀ x o,w.heap[x]? = some o→zj w' x=some o:=fun x o hx=>by
  show w'.heap[x]? = some o;have hlt:x<w.heap.size:=(Array.getElem?_eq_some_iff.1 hx).1
  rw[hh,Array.getElem?_push_lt hlt,←Array.getElem?_eq_getElem hlt];exact hx
 refine⟨hn M hM,fun x o hx=>?_,fun x o hx=>other x o (hF x o hx),fun x=>?_,ho,hp,ht,by rw[hh];simp,hd⟩
 ·by_cases e:x=w.heap.size
  ·subst e;simp only[Mem.setCells,Mem.upd_same,Option.some.injEq] at hx;subst hx;show w'.heap[w.heap.size]? = _
   rw[hh];simp
  ·simp only[Mem.setCells,Mem.upd_ne _ _ e] at hx;exact other x o (hM x o hx)
 ·by_cases e:x=w.heap.size
  ·subst e;exact .inr (hn F hF)
  ·simp only[Mem.setCells,Mem.upd_ne _ _ e];exact hdj x
theorem zBW {M:Mem} {w:World} (hM:M.le (zj w)) {b:Nat} {E:TypeId} {cs:List Value} (hh:M.has b E cs) (j:Nat):w.cell? ⟨b,j,none⟩=cs[j]? ∧ w.frozen? ⟨b,j,none⟩=false∧w.shape? b=some (E,cs.length):=by
 have hhb:w.heap[b]? = some (.cells cs.toArray E (0,0)):=hM _ _ hh;refine⟨by simp[World.cell?, hhb],by simp[World.frozen?, hhb],by simp[World.shape?, hhb]⟩
def zIf (M M':Mem) (E:TypeId) (a:Option Addr) (c b' o' c':Nat) (cs':List Value) (l':List Int):Prop:=
 (l'.length≤c'∧c'≤maxLen)∧M'=M.setCells b' E cs'∧o'+c'≤cs'.length∧(cs'.drop o').take l'.length=l'.map (Value.int .i64) ∧
  ((o'=0∧cs'.length=c'∧M b'=none)∨(a=some ⟨b',o',none⟩∧c'=c∧∃ cs0,M.has b' E cs0∧cs'.length=cs0.length))
section
variable {P:Program} {ρ:Ren}
theorem zLI (L:Lays2.n21 P ρ) (he:zfm P (ρ.f 21)=true) {M:Mem} {a:Option Addr} {c:Nat} {l:List Int} (h:zOW M (ρ.t 3) a c l) (hc:l.length≤4194303) (i:Nat) (hi:i≤l.length) {vb vc:Nat} {x:Int} {E':TypeId} (hv:M.has vb E' [.int .i64 x]) (hne:∀ q,a=some q→q.block≠vb) :
  CallsM P (ρ.f 21) [.slice a l.length c,.int .i64 i,.slice (some ⟨vb,0,none⟩) 1 vc] M fun v M'=>∃ b' o' c' cs',v = .slice (some ⟨b',o',none⟩) (l.length+1) c'∧zIf M M' (ρ.t 3) a c b' o' c' cs' (l.take i++x::l.drop i):=by
 refine⟨he,fun F w hM hF hdj=>?_⟩;have hvc:=fun j=>zBW hM hv j
 have hvs:∀ (j:Nat) v,([Value.int .i64 x]:List Value)[j]? = some v→w.cell? ⟨vb,0+j,none⟩=some v:=fun j v hj=>by rw[Nat.zero_add,(hvc j).1];exact hj
 have h1v:∀ v∈([Value.int .i64 x]:List Value),v.oneCell'=true:=by simp[Value.oneCell']
 have h1c:∀ v∈l.map (Value.int .i64),v.oneCell'=true:=by simp[Value.oneCell']
 have hll:(l.map (Value.int .i64)).length=l.length:=by simp
 have hnew:∀ (w':World) (cells:List Value) (c':Nat),cells.length=c'→(l.length+1≤c'∧c'≤maxLen)→cells.take (l.length+1)=(l.take i++x::l.drop i).map (Value.int .i64) →
   w'.heap=w.heap.push (.cells cells.toArray (ρ.t 3))→w'.os=w.os→w'.output=w.output→w'.tape=w.tape→w.drawn≤w'.drawn →
   ∃ v M',(Ending.returned (.slice (some ⟨w.heap.size,0,none⟩) (l.length+1) c')) = .returned v∧(∃ b' o' c' cs',v = .slice (some ⟨b',o',none⟩) (l.length+1) c'∧zIf M M' (ρ.t 3) a c b' o' c' cs' (l.take i++x::l.drop i)) ∧
    M'.le (zj w')∧F.le (zj w')∧M'.disj F∧w'.os=w.os∧w'.output=w.output∧w'.tape=w.tape∧w.heap.size≤w'.heap.size∧w.drawn≤w'.drawn:=fun w' cells c' hcl hcc ht hh ho hp htt hd=>by
  obtain⟨hn,hrest⟩:=zOj hM hF hdj hh ho hp htt hd;have hlen:(l.take i++x::l.drop i).length=l.length+1:=by simp;omega
  exact⟨_,M.setCells w.heap.size (ρ.t 3) cells,rfl,⟨_,_,_,_,rfl,⟨by rw[hlen];exact hcc,rfl,by omega,by rw[hlen];exact ht,.inl ⟨rfl,hcl,hn⟩⟩⟩,hrest⟩
 have hins:∀ cs:List Value,(cs.take l.length=l.map (Value.int .i64))→True:=fun _ _=>trivial
 obtain⟨⟨hlc,hcM⟩,⟨rfl,rfl⟩|⟨b,o,cs,rfl,hh,hoc,ht⟩⟩:=h
 ·have hl0:l=[]:=List.eq_nil_of_length_eq_zero (by omega);subst hl0;have hi0:i=0:=by simpa using hi
  subst hi0;refine Calls.mono (Any2.slices_Insert_int_end_grow L none 0 0 vb 0 1 vc [] [.int .i64 x] w (by decide) (by decide) (by decide) (by decide) rfl rfl (fun _=>rfl) (fun a ha=>by cases ha) hvs h1v) ?_;rintro e w' ⟨rfl,rfl⟩;have hge:0+1≤grownCap w (0+1) 0 (ρ.t 3)∧grownCap w (0+1) 0 (ρ.t 3)≤maxLen:=⟨grownCap_ge w (0+1) 0 (ρ.t 3),grownCap_le_maxLen w (0+1) 0 (ρ.t 3) (by simp[maxLen])⟩
  generalize grownCap w (0+1) 0 (ρ.t 3)=g at *;refine hnew _ ([.int .i64 x]++(Builtin.zeroCells (Value.int .i64 0).cells (g - (0+1))).toList) g ?_ hge ?_ ?_ rfl rfl rfl (Nat.le_succ _)
  ·simp[Builtin.zeroCells,Value.cells];omega
  ·simp
  ·show (w.heap.push _)=_;congr 2;simp
 ·have hcell:=fun j=>zBW hM hh j
  have hget:∀ (j:Nat) v,(l.map (Value.int .i64))[j]? = some v→w.cell? ⟨b,o+j,none⟩=some v:=fun j v hj=>by
   rw[(hcell _).1];rw[←ht] at hj;have hlt:=(List.getElem?_eq_some_iff.1 hj).1
   rw[List.getElem?_take_of_lt (by simp at hlt;omega),List.getElem?_drop] at hj;exact hj
  have hbv:vb≠b:=fun e=>hne _ rfl e.symm
  by_cases hroom:l.length+1≤c
  ·
   have fin:∀ (w':World) (q:Nat) (f:Array Value→Array Value) (cs':List Value),f cs.toArray=cs'.toArray→w'=mapBlock (Sort.ahead w q) b f→cs'.length=cs.length→(cs'.drop o).take (l.length+1)=(l.take i++x::l.drop i).map (Value.int .i64) →
     ∃ v M',(Ending.returned (.slice (some ⟨b,o,none⟩) (l.length+1) c)) = .returned v∧(∃ b' o' c' cs',v = .slice (some ⟨b',o',none⟩) (l.length+1) c'∧zIf M M' (ρ.t 3) (some ⟨b,o,none⟩) c b' o' c' cs' (l.take i++x::l.drop i)) ∧
      M'.le (zj w')∧F.le (zj w')∧M'.disj F∧w'.os=w.os∧w'.output=w.output∧w'.tape=w.tape∧w.heap.size≤w'.heap.size∧w.drawn≤w'.drawn:=fun w' q f cs' hf hw hcl ht'=>by
    have hlen:(l.take i++x::l.drop i).length=l.length+1:=by simp;omega
    exact⟨_,M.setCells b (ρ.t 3) cs',rfl,⟨_,_,_,_,rfl,⟨by rw[hlen];exact⟨hroom,hcM⟩,rfl,by omega,by rw[hlen];exact ht',.inr ⟨rfl,rfl,cs,hh,hcl⟩⟩⟩,zLH hM hF hdj hh f hf hw⟩
   by_cases hend:i=l.length
   ·subst hend;refine Calls.mono (Any2.slices_Insert_int_end_room L b o l.length c vb 0 1 vc [.int .i64 x] w (by decide) hroom (by simp[maxLen] at hcM;omega) rfl (fun j hj=>by rw[(hcell _).1,List.getElem?_eq_getElem (by omega)];rfl) (fun j _=>(hcell _).2.1) hvs h1v) ?_;rintro e w' ⟨rfl,rfl⟩;rw[zas];refine fin _ 0 _ (splice cs (o+l.length) [.int .i64 x]) (zj9 _ _ _ (by simp;omega)) rfl (by simp[splice];omega) ?_;unfold splice;rw[List.append_assoc,List.drop_append_of_le_length (by simp;omega),List.drop_take,show o+l.length - o=l.length by omega,ht];rw[List.take_append,List.take_of_length_le (by simp)];simp
   ·refine Calls.mono (Any2.slices_Insert_int_shift L b o l.length c i vb 0 1 vc (l.map (Value.int .i64)) [.int .i64 x] w (by omega) (by decide) hroom (by simp[maxLen] at hcM;omega) hbv hll rfl hget (fun j hj=>by rw[(hcell _).1,List.getElem?_eq_getElem (by omega)];rfl) (fun j _=>(hcell _).2.1) hvs h1c h1v E' (ρ.t 3) 1 cs.length (hvc 0).2.2 (hcell 0).2.2 (by omega) (hvc 0).2.1 (hvc 1).2.1) ?_;rintro e w' ⟨rfl,rfl⟩;rw[zas,zas,mapBlock_mapBlock];have hdl:((l.map (Value.int .i64)).drop i).length=l.length - i:=by simp
    have s1:(splice cs (o+(i+1)) ((l.map (Value.int .i64)).drop i)).length=cs.length:=by unfold splice;simp;omega
    refine fin _ 1 _ (splice (splice cs (o+(i+1)) ((l.map (Value.int .i64)).drop i)) (o+i) [.int .i64 x]) ?_ rfl (by unfold splice at s1 ⊢; simp at s1 ⊢; omega) ?_
    ·show zkW (zkW cs.toArray (o+(i+1)) ((l.map (Value.int .i64)).drop i)) (o+i) [.int .i64 x]=_;rw[zj9 ((l.map (Value.int .i64)).drop i) (o+(i+1)) cs (by rw[hdl];omega),zj9 [.int .i64 x] (o+i) _ (by rw[s1];simp;omega)]
    ·have hz:=zLF (A:=cs.drop o) (l:=l.map (Value.int .i64)) (i:=i) (x := .int .i64 x) (by simpa using ht) (by simp;omega) (by simp;omega);rw[hll] at hz;rw[zvy (by rw[s1];omega),zvy (by omega),hz];simp
  ·have hcl:c<l.length+1:=by omega
   have hge:l.length+1≤grownCap w (l.length+1) c (ρ.t 3)∧grownCap w (l.length+1) c (ρ.t 3)≤maxLen:=⟨grownCap_ge w (l.length+1) c (ρ.t 3),grownCap_le_maxLen w (l.length+1) c (ρ.t 3) (by simp[maxLen];omega)⟩
   by_cases hend:i=l.length
   ·subst hend;refine Calls.mono (Any2.slices_Insert_int_end_grow L (some ⟨b,o,none⟩) l.length c vb 0 1 vc (l.map (Value.int .i64)) [.int .i64 x] w (by decide) hlc hcl (by omega) hll rfl (fun h=>by cases h) (fun a ha j v hj=>by cases ha;rw[Addr.add_lit];exact hget j v hj) hvs h1v) ?_;rintro e w' ⟨rfl,rfl⟩;refine hnew _ (l.map (Value.int .i64)++[.int .i64 x]++(Builtin.zeroCells (Value.int .i64 0).cells (grownCap w (l.length+1) c (ρ.t 3) - (l.length+1))).toList) (grownCap w (l.length+1) c (ρ.t 3)) ?_ hge ?_ ?_ rfl rfl rfl (Nat.le_succ _)
    ·simp[Builtin.zeroCells,Value.cells];omega
    ·rw[List.take_append_of_le_length (by simp),List.take_of_length_le (by simp)];simp
    ·show (w.heap.push _)=_;congr 2;simp
   ·refine Calls.mono (Any2.slices_Insert_int_grow L b o l.length c i vb 0 1 vc (l.map (Value.int .i64)) [.int .i64 x] w (by omega) (by decide) hlc hcl (by omega) hll rfl hget hvs h1c h1v) ?_;rintro e w' ⟨rfl,rfl⟩;generalize grownCap w (l.length+1) c (ρ.t 3)=g at *;have hdl:((l.map (Value.int .i64)).drop i).length=l.length - i:=by simp
    obtain⟨C0,hC0⟩:∃ C0:List Value,C0=(l.map (Value.int .i64)).take i++(Builtin.zeroCells (Value.int .i64 0).cells (l.length+1 - i)).toList++(Builtin.zeroCells (Value.int .i64 0).cells (g - (l.length+1))).toList:=⟨_,rfl⟩
    have hC:(((l.map (Value.int .i64)).take i).toArray++Builtin.zeroCells (Value.int .i64 0).cells (l.length+1 - i)++Builtin.zeroCells (Value.int .i64 0).cells (g - (l.length+1)))=C0.toArray:=by rw[hC0];simp
    have hCl:C0.length=g:=by rw[hC0];simp[Builtin.zeroCells,Value.cells];omega
    have hCt:C0.take i=(l.map (Value.int .i64)).take i:=by rw[hC0,List.append_assoc,List.take_append_of_le_length (by simp;omega),List.take_of_length_le (by simp;omega)]
    have s1:(splice C0 i [Value.int .i64 x]).length=C0.length:=by unfold splice;simp;omega
    rw[hC];refine hnew _ (splice (splice C0 i [.int .i64 x]) (i+1) ((l.map (Value.int .i64)).drop i)) g ?_ hge ?_ ?_ ?_ ?_ ?_ ?_
    ·unfold splice at s1 ⊢; simp at s1 ⊢; omega
    ·have hz:=zLG (A:=C0) (l:=l.map (Value.int .i64)) (i:=i) (x := .int .i64 x) hCt (by simp;omega) (by simp;omega);rw[hll] at hz;rw[hz];simp
    ·rw[zas,zas];show ((w.heap.push (Obj.cells C0.toArray (ρ.t 3))).modify w.heap.size _).modify w.heap.size _=_
     rw[zvz,zvz];congr 1;show Obj.cells (zkW (zkW C0.toArray i [.int .i64 x]) (i+1) ((l.map (Value.int .i64)).drop i)) (ρ.t 3) _=_
     rw[zj9 [.int .i64 x] i C0 (by simp;omega),zj9 _ (i+1) _ (by rw[s1,hdl];omega)]
    ·rw[zas,zas];rfl
    ·rw[zas,zas];rfl
    ·rw[zas,zas];rfl
    ·rw[zas,zas];exact Nat.le_trans (Nat.le_succ _) (Nat.le_succ _)
end
end Go.Vm
namespace Go.Proofs.YtpnhjkiligohnaaGreatDoor
open Go Go.Proofs Go.Shelf
def Tryz.laysIns_ren:Go.Shelf.Ren:=⟨fun|21=>326|27=>365|28=>366|35=>386|39=>321|n=>n,fun|22=>99|3=>3|4=>4|0=>0|n=>n,fun|n=>n⟩
theorem Tryz.laysIns:Go.Proofs.Lays2.n21 Tryz.prog Tryz.laysIns_ren:={
 mixed:=by kernel_rfl
 f21:=Tryz.func326.trans (congrArg some (by kernel_rfl))
 f27:=Tryz.func365.trans (congrArg some (by kernel_rfl))
 f28:=Tryz.func366.trans (congrArg some (by kernel_rfl))
 f35:=Tryz.func386.trans (congrArg some (by kernel_rfl))
 f39:=Tryz.func321.trans (congrArg some (by kernel_rfl))
 t0:=Tryz.underlying0
 a0:=Tryz.isAgg0
 z0:=Tryz.sizeOf0
 v0:=Tryz.zeroValue0
 t3:=Tryz.underlying3
 a3:=Tryz.isAgg3
 z3:=Tryz.sizeOf3
 v3:=Tryz.zeroValue3
 t4:=Tryz.underlying4
 a4:=Tryz.isAgg4
 z4:=Tryz.sizeOf4
 v4:=Tryz.zeroValue4
 t22:=Tryz.underlying99
 a22:=Tryz.isAgg99
 z22:=Tryz.sizeOf99
 v22:=Tryz.zeroValue99
 i3:=by kernel_rfl }
end Go.Proofs.YtpnhjkiligohnaaGreatDoor
namespace Go.Proofs.YtpnhjkiligohnaaGreatDoor
open Go Go.Vm
attribute [local irreducible] Brn Ob Grow CallsM inR zay zav Mem.row Mem.cells Mem.setCells Mem.upd Go.Vm.Own zaU zbF zbE zaV New SrcOk zah NewSl Mem.textAt Mem.mapAt Mem.iterAt zak kfind Wr NewEls Elems
set_option maxRecDepth 10000
variable {M:Mem}
noncomputable def ztX (ws:List Rn.W) (n:Nat) (H:Rn.T Rn.O):Rn.R:=match ws with
 | [.c .nl,.c (.n .i64 0),.c (.l b 0 1 _)]=>(match H.get b with
  | some (.row _ [.n .i64 x])=>H.set n (some (.gr T.int 1 [.n .i64 x])) fun H'=>Rn.fN (fun n'=>some (.rt (.c (.g n 0 0 1)) n' H')) (n+1)
  | _=>none)
 | _=>none
theorem zye:Rn.Prim Tryz.prog F.zhB ztX:=by
 intro ws n H v n' H' h σ M vs hn hh hvs;unfold ztX at h;split at h
 ·rename_i b c;split at h
  ·rename_i E0 x hb
   match vs,hvs with
   | [v1,v2,v3],hvs=>
    obtain⟨e,he,ho⟩:=hh.has b _ hb;have h3:=hvs.2.2.1
    simp only[Rn.WR,Rn.CR,Rn.C.val,he,Option.map_some,Option.some.injEq] at h3;subst h3;have e1:some (Value.slice none 0 0)=some v1:=hvs.1
    have e2:some (Value.int .i64 0)=some v2:=hvs.2.1;cases e1;cases e2;obtain⟨h0,us,h5,h6⟩:=ho
    match us,h5 with
    | [w0],h5=>
     have e3:some (Value.int .i64 x)=some w0:=h5.1;cases e3;have hv:M.has e.addr E0 [.int .i64 x]:=h6
     refine(zLI (vc:=c) Tryz.laysIns (by kernel_rfl) (M:=M) (a:=none) (c:=0) (l:=[]) ⟨⟨Nat.le_refl _,by decide⟩,.inl ⟨rfl,rfl⟩⟩ (by decide) 0 (by decide) hv (fun q hq=>by cases hq)).mono ?_;rintro u M' ⟨b',o',c',cs',rfl,h7,rfl,h8,h9,h10⟩;rcases h10 with ⟨rfl,h11,h12⟩|⟨h11, -, -⟩
     ·rw[Rn.T.set_put,Rn.fN_eq] at h;cases h;have ho:Vm.Own M T.int 1 (some ⟨b',0,none⟩) 1 c' [.int .i64 x] (M.setCells b' T.int cs'):=by unfold Vm.Own;exact⟨rfl,h7.1,.inr ⟨b',cs',rfl,h12,rfl,by omega,h9⟩⟩
      obtain⟨e2,h13,h14⟩:=Rn.own_new hh (l:=[.n .i64 x]) (L:=[.int .i64 x]) ⟨rfl,trivial⟩ ho;rw[hn] at h13 h14;exact⟨[e2],by simp[hn],h14,h13⟩
     ·cases h11
    | [],h5=>exact h5.elim
    | _::_::_,h5=>exact h5.2.elim
   | [],hvs=>exact hvs.elim
   | [_],hvs=>exact hvs.2.elim
   | [_,_],hvs=>exact hvs.2.2.elim
   | _::_::_::_::_,hvs=>exact hvs.2.2.2.elim
  ·cases h
 ·cases h
end Go.Proofs.YtpnhjkiligohnaaGreatDoor
namespace Go.Proofs.YtpnhjkiligohnaaGreatDoor
open Go Go.Vm Go.Vm.Rn Go.Vm.Rn.Q
set_option maxRecDepth 20000
noncomputable def primsN:T (List W→Nat→T O→R) := .n (.n (.e) none (.n (.n (.n (.n (.e) none (.n (.n (.e) (some zox) (.e)) none (.e))) none (.e)) none (.e)) none (.e))) none (.n (.e) none (.n (.e) none (.n (.n (.n (.n (.n (.e) none (.n (.e) (some zrm) (.e))) none (.n (.n (.e) (some ztX) (.e)) none (.e))) none (.e)) none (.e)) none (.e))))
theorem zHk:primsN.All (Prim Tryz.prog) := .no (.no (.nil) (.no (.no (.no (.no (.nil) (.no (.at ztu (.nil) (.nil)) (.nil))) (.nil)) (.nil)) (.nil))) (.no (.nil) (.no (.nil) (.no (.no (.no (.no (.no (.nil) (.at zvx (.nil) (.nil))) (.no (.at zye (.nil) (.nil)) (.nil))) (.nil)) (.nil)) (.nil))))
theorem zgj:FOk Tryz.prog (run primsN zu 1000 40):=run_ok zHk zDk 1000 40
end Go.Proofs.YtpnhjkiligohnaaGreatDoor
