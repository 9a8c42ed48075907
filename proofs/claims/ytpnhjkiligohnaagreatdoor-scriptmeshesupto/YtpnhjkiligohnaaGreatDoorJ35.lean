/- Part of this proof;laid by program. -/
import Derived.Test.YtpnhjkiligohnaaGreatDoorCards
import Derived.Test.YtpnhjkiligohnaaGreatDoorTie
import Derived.Test.YtpnhjkiligohnaaGreatDoorJ32
import Derived.Test.YtpnhjkiligohnaaGreatDoorJ30
import Derived.Deep.DeepHandedRow
import Derived.SevenTiedAt
import Derived.Stop.LaidErr
import Derived.Lib.LaidTab
import Derived.Test.YtpnhjkiligohnaaGreatDoorJ31
import Derived.Test.YtpnhjkiligohnaaGreatDoorJ33
import Derived.Test.YtpnhjkiligohnaaGreatDoorJ9
import Derived.Shelf.Sort.Plain
import Derived.Test.YtpnhjkiligohnaaGreatDoorProg
import Derived.Test.YtpnhjkiligohnaaGreatDoorJ8
import Derived.Test.YtpnhjkiligohnaaGreatDoorJ21
import Derived.Test.YtpnhjkiligohnaaGreatDoorJ20
set_option linter.unusedVariables false
set_option linter.unusedSimpArgs false
namespace Go.Proofs.YtpnhjkiligohnaaGreatDoor
open Go Go.Vm
set_option maxRecDepth 100000
theorem zNt:Tryz.prog.globalNamed "internal/strconv.uint64pow10" = some 0:=by kernel_rfl
theorem zJH:(Tryz.prog.globals[0]?).map (·.type)=some T.znF:=by kernel_rfl
theorem zOq:Tryz.prog.underlying T.znF=some (.array 20 T.zvJ):=by kernel_rfl
theorem zNu:Tryz.prog.underlying T.zvJ=some (.int .u64):=by kernel_rfl
theorem zNv:Tryz.prog.cellsOf T.zvJ=1:=by kernel_rfl
theorem zNw:Tryz.prog.cellsOf T.znF=20:=by kernel_rfl
theorem zFV:(Rows.laid_internal_strconv_uint64pow10:DataW Unit)=Lib.tabData .u64 Lib.pow10Tab:=by kernel_rfl
theorem zL1 {W:World} (h:laidMet Tryz.prog [("math/bits.deBruijn32tab", Rows.laid_math_bits_deBruijn32tab),("math/bits.deBruijn64tab", Rows.laid_math_bits_deBruijn64tab),("internal/strconv.uint64pow10", Rows.laid_internal_strconv_uint64pow10)] W):TabM Tryz.prog (zj W):=by
 have h2:=laidMet.tail (laidMet.tail h);rw[zFV] at h2;have h3:=Lib.tabIs_of_head (rest:=[]) zNt zJH zOq zNu zNv zNw h2
 intro w hw;unfold Lib.TabIs World.var? at h3 ⊢;rw[zNt] at h3 ⊢;simp only[Option.bind_some] at h3 ⊢;cases hg:W.heap[0]? with
 | none=>rw[hg] at h3;cases h3
 | some o=>
  have:w.heap[0]? = some o:=hw 0 o hg;rw[this];rw[hg] at h3;exact h3
def zB2 (cs:Array Value):Obj→Obj
 | .cells _ t frozen => .cells cs t frozen
 | o=>o
noncomputable def ztA (os:Os):World:=
 { World.holding Tryz.prog os ⟨#[], #[],[]⟩ with heap:=(((World.holding Tryz.prog os ⟨#[], #[],[]⟩).heap.modify 0 (zB2 (Lib.pow10Tab.map fun n=>Value.int .u64 n).toArray)).modify 1 (zB2 #[.int .u8 0,.int .u8 1,.int .u8 28,.int .u8 2,.int .u8 29,.int .u8 14,.int .u8 24,.int .u8 3,.int .u8 30,.int .u8 22,.int .u8 20,.int .u8 15,.int .u8 25,.int .u8 17,.int .u8 4,.int .u8 8,.int .u8 31,.int .u8 27,.int .u8 13,.int .u8 23,.int .u8 21,.int .u8 19,.int .u8 16,.int .u8 7,.int .u8 26,.int .u8 12,.int .u8 18,.int .u8 6,.int .u8 11,.int .u8 5,.int .u8 10,.int .u8 9])).modify 2 (zB2 #[.int .u8 0,.int .u8 1,.int .u8 56,.int .u8 2,.int .u8 57,.int .u8 49,.int .u8 28,.int .u8 3,.int .u8 61,.int .u8 58,.int .u8 42,.int .u8 50,.int .u8 38,.int .u8 29,.int .u8 17,.int .u8 4,.int .u8 62,.int .u8 47,.int .u8 59,.int .u8 36,.int .u8 45,.int .u8 43,.int .u8 51,.int .u8 22,.int .u8 53,.int .u8 39,.int .u8 33,.int .u8 30,.int .u8 24,.int .u8 18,.int .u8 12,.int .u8 5,.int .u8 63,.int .u8 55,.int .u8 48,.int .u8 27,.int .u8 60,.int .u8 41,.int .u8 37,.int .u8 16,.int .u8 46,.int .u8 35,.int .u8 44,.int .u8 21,.int .u8 52,.int .u8 32,.int .u8 23,.int .u8 11,.int .u8 54,.int .u8 26,.int .u8 40,.int .u8 15,.int .u8 34,.int .u8 20,.int .u8 31,.int .u8 10,.int .u8 25,.int .u8 14,.int .u8 19,.int .u8 9,.int .u8 13,.int .u8 8,.int .u8 7,.int .u8 6]) }
end Go.Proofs.YtpnhjkiligohnaaGreatDoor
namespace Go.Proofs.YtpnhjkiligohnaaGreatDoor
open Go Go.Vm
attribute [local irreducible] Brn Ob Grow CallsM inR zay zav Mem.row Mem.cells Mem.setCells Mem.upd Go.Vm.Own zaU zbF zbE zaV New SrcOk zah NewSl Mem.textAt Mem.mapAt Mem.iterAt zak kfind Wr NewEls Elems
set_option maxRecDepth 10000
open Rn Rn.Q
variable {M M' M0:Mem}
set_option maxRecDepth 100000
theorem zOZ {σ:List E} {k o d n:Nat} {v:Value} (h:CR σ (.g k o d n) v):∃ q c,v = .slice q n c:=by
 simp only[CR,C.val,Option.bind_eq_some_iff] at h;obtain⟨e, -, h⟩:=h;split at h
 ·split at h
  ·rename_i hz;cases h;exact⟨none,0,by rw[hz.1]⟩
  ·cases h
 ·split at h
  ·cases h;exact⟨_,_,rfl⟩
  ·cases h
theorem zL2 {σ:List E} (hz:Zs M0 σ zFS M) {v:Value} (hv:CR σ (.g 9663 0 0 2) v):∃ b c q1 c1 q2 c2,v = .slice (some ⟨b,0,none⟩) 2 c ∧
  M.row b 0 9=some [.int .i64 0,.int .i64 0,.int .i64 0,.int .i64 1,.int .i64 1,.int .i64 1,.int .i64 0,.slice q1 0 c1,.bool false] ∧
  M.row b 9 9=some [.int .i64 1,.int .i64 1,.int .i64 0,.int .i64 1,.int .i64 1,.int .i64 1,.int .i64 0,.slice q2 1 c2,.bool true]∧CR σ (.g 9662 0 0 1) (.slice q2 1 c2):=by
 obtain⟨A,hA,h0,hd,hr⟩:=hz;obtain⟨e,he,vs,hvs,ho⟩:=hr.has 9663 (.gr 94 9 [i 0,i 0,i 0,i 1,i 1,i 1,i 0,.l 9659 0 0 0,.t false,i 1,i 1,i 0,i 1,i 1,i 1,i 0,.g 9662 0 0 1,.t true]) (by kernel_rfl)
 match vs,hvs with
 | [v0,v1,v2,v3,v4,v5,v6,v7,v8,w0,w1,w2,w3,w4,w5,w6,w7,w8],hvs=>
  obtain⟨a0,a1,a2,a3,a4,a5,a6,a7,a8,b0,b1,b2,b3,b4,b5,b6,b7,b8,_⟩:=hvs;have c0:some (Value.int .i64 0)=some v0:=a0
  have c1:some (Value.int .i64 0)=some v1:=a1;have c2:some (Value.int .i64 0)=some v2:=a2
  have c3:some (Value.int .i64 1)=some v3:=a3;have c4:some (Value.int .i64 1)=some v4:=a4
  have c5:some (Value.int .i64 1)=some v5:=a5;have c6:some (Value.int .i64 0)=some v6:=a6
  have c8:some (Value.bool false)=some v8:=a8;have d0:some (Value.int .i64 1)=some w0:=b0
  have d1:some (Value.int .i64 1)=some w1:=b1;have d2:some (Value.int .i64 0)=some w2:=b2
  have d3:some (Value.int .i64 1)=some w3:=b3;have d4:some (Value.int .i64 1)=some w4:=b4
  have d5:some (Value.int .i64 1)=some w5:=b5;have d6:some (Value.int .i64 0)=some w6:=b6
  have d8:some (Value.bool true)=some w8:=b8;cases c0;cases c1;cases c2;cases c3;cases c4;cases c5;cases c6;cases c8;cases d0;cases d1;cases d2;cases d3;cases d4;cases d5;cases d6;cases d8;simp only[CR,C.val,Option.map_eq_some_iff] at a7;obtain⟨e7, -, rfl⟩:=a7;obtain⟨q2,cc2,rfl⟩:=zOZ b7;rcases ho with ⟨_,h2,_⟩|⟨hn,hc,hl⟩
  ·cases h2
  have hrow:∀ k,k≤9→M.row e.addr k 9=some ((([Value.int .i64 0,.int .i64 0,.int .i64 0,.int .i64 1,.int .i64 1,.int .i64 1,.int .i64 0,.slice (some ⟨e7.addr,0,none⟩) 0 0,.bool false,.int .i64 1,.int .i64 1,.int .i64 0,.int .i64 1,.int .i64 1,.int .i64 1,.int .i64 0,.slice q2 1 cc2,.bool true]++e.sp).drop k).take 9):=fun k hk=>
   Mem.row_obj (hA _ _ hc) (by simp only[List.length_append,List.length_cons,List.length_nil];omega)
  simp only[CR,C.val,he,Option.bind_some,hn] at hv;split at hv
  ·cases hv
  ·split at hv
   ·cases hv;exact⟨_,_,_,_,_,_,rfl,hrow 0 (by decide),hrow 9 (by decide),b7⟩
   ·cases hv
@[reducible] def outS:Nat→ByteArray|0 => .empty|1=>ByteArray.empty++(zFT++⟨#[10]⟩)|_=>ByteArray.empty++(zFT++⟨#[10]⟩)++(zJz++⟨#[10]⟩)
theorem zL3 (hT:TabM Tryz.prog M0) {q:Option Addr} {c:Nat} (h:NewSl M0 T.zY 1 q 19 c (runB.map fun n=>Value.int .u8 n) M) :
  CallsM Tryz.prog F.znB [.slice q 19 c] M fun v M'=>v = .string (outS 2)∧M0.le M':=by
 obtain⟨e,hz,hcr⟩:=Zs.row h (by decide) (l:=[u 1,u 0,u 20,u 100,u 20,u 200,u 100,u 3,u 2,u 2,u 2,u 0,u 0,u 0,u 1,u 1,u 120,u 11,u 20]) ⟨rfl,rfl,rfl,rfl,rfl,rfl,rfl,rfl,rfl,rfl,rfl,rfl,rfl,rfl,rfl,rfl,rfl,rfl,rfl,trivial⟩;refine zzT (by simp) ?_;refine zR ?_;refine(ztY zgj zDo hz rfl (by kernel_rfl) (show All2 (WR [e]) zIg [.slice q 19 c] from ⟨hcr,trivial⟩)).mono ?_;rintro u M1 ⟨τ,hl1,⟨vs,hv,rfl⟩,hz1⟩
 match vs,hv with
 | [v0,v1,v2,v3,v4,v5,v6,v7,v8,v9,v10,v11,v12],hv=>
  refine zR ?_;refine(ztY zNp zNo hz1 hl1 (by kernel_rfl) (show All2 (WR _) [.ag [i 2,.g 4 0 0 1,i 20,i 800,i 20,i 51456,i 116,i 4,i 3,i 3,i 3,i 0,.g 7 0 0 2]] [.agg #[v0,v1,v2,v3,v4,v5,v6,v7,v8,v9,v10,v11,v12]] from ⟨⟨_,hv,rfl⟩,trivial⟩)).mono ?_;rintro u M2 ⟨τ2,hl2,⟨us,hu,rfl⟩,hz2⟩
  match us,hu with
  | [w0,w1],⟨hw0,hw1,_⟩=>
   obtain⟨em,hem,rfl⟩:=ztv hw0;have e1:some (Value.int .i64 0)=some w1:=hw1
   cases e1;refine zR ?_;refine(ztY zgj zBX hz2 hl2 (by kernel_rfl) (show All2 (WR _) _ [.pointer (some ⟨em.addr,0,none⟩)] from ⟨zBY hem,trivial⟩)).mono ?_;rintro u M3 ⟨τ3,hl3,hu3,hz3⟩;replace hz3:Zs M0 _ zFS M3:=hz3.sub (by kernel_rfl);obtain⟨b,cc,q1,c1,q2,c2,rfl,hr1,hr2,hd2⟩:=zL2 hz3 hu3;have hTM:=hT.le hz3.base
   refine zR ?_;(conv=>whnf)
   refine zaL (σ:=Nat×Mem) [25,5] (fun y=>[(25,.int .i64 y.1),(5,.c (.v (.string (outS y.1))))]) (fun _=>[]) (fun y=>y.2)
    (fun|⟨j,Mc⟩=>j≤2∧M0.le Mc∧(j≤1→Mc=M3)) (fun y=>2 - y.1) ⟨0,M3⟩ ⟨by omega,hz3.base,fun _=>rfl⟩ zS ?_
   rintro ⟨j,Mc⟩ ⟨hj,hle,hm⟩
   match j,hj,hm with
   | 0,_,hm=>
    cases hm (by omega);refine zR ?_;(conv=>whnf);refine ob (by dsimp only;omega) ?_;(conv=>whnf);refine on hr1 ?_;refine zR ?_;refine(zJA hTM q1 0 c1).mono ?_;rintro v _ ⟨rfl,rfl⟩;refine zR ?_;(conv=>whnf);refine ob (show (outS 0).size+(zFT++⟨#[10]⟩:ByteArray).size≤9223372036854775807 by decide) ?_;(conv=>whnf);refine obr (zm (by dsimp only;omega)) ?_;(conv=>whnf)
    exact⟨⟨1,M3⟩,⟨by omega,hle,fun _=>rfl⟩,by dsimp only;omega,zS⟩
   | 1,_,hm=>
    cases hm (by omega);refine zR ?_;(conv=>whnf);refine ob (by dsimp only;omega) ?_;(conv=>whnf);refine on hr2 ?_;refine zR ?_;refine(zJB hTM q2 1 c2 (Q:=fun M'=>M0.le M') ((ztY zNp zNq hz3 hl3 (by kernel_rfl) (show All2 (WR _) [.c (.g 9662 0 0 1)] [.slice q2 1 c2] from ⟨hd2,trivial⟩)).mono ?_)).mono ?_
    ·rintro u M5 ⟨τ5, -, hu5,hz5⟩;have e5:some (Value.string (zab [55,56]))=some u:=hu5
     cases e5;exact⟨rfl,hz5.base⟩
    rintro v M5 ⟨rfl,hle5⟩;refine zR ?_;(conv=>whnf);refine ob (show (outS 1).size+(zJz++⟨#[10]⟩:ByteArray).size≤9223372036854775807 by decide) ?_;(conv=>whnf);refine obr (zm (by dsimp only;omega)) ?_;(conv=>whnf)
    exact⟨⟨2,M5⟩,⟨by omega,hle5,fun h=>by omega⟩,by dsimp only;omega,zS⟩
   | 2,_,_=>
    refine zR ?_;(conv=>whnf)
    exact⟨rfl,hle⟩
theorem zHq (hT:TabM Tryz.prog M):CallsM Tryz.prog F.ziB [] M fun v M2=>v = .bool true∧M.le M2:=by
 refine zyo (by simp) ?_;refine zR ?_;refine start_ok.mono ?_;rintro u M1 ⟨q,c,rfl,h1⟩;refine zR ?_;(conv=>whnf)
 refine appK M _ h1 (by decide) (by decide) (by simp[Value.oneCell']) (fun q2 c2 M2 h2 hk2=>?_);refine zR ?_;(conv=>whnf)
 refine(zL3 (M0:=M) hT (q:=q2) (c:=c2) h2).mono ?_;rintro u M3 ⟨rfl,h3⟩;refine zR ?_;(conv=>whnf)
 exact⟨by kernel_rfl,h3⟩
end Go.Proofs.YtpnhjkiligohnaaGreatDoor
namespace Go.Proofs.YtpnhjkiligohnaaGreatDoor
def zwW (p q:Nat×Nat):Prop:=p.1<q.1∨(p.1=q.1∧p.2<q.2)
theorem zwX {oth:List (Nat×Nat)} {a b:Nat} {p:Nat×Nat} (h:p∈lk1 oth a b):p=(a,b):=by
 unfold lk1 at h;split at h<;>simp at h;exact h
theorem zwY {oth:List (Nat×Nat)} {a k:Nat} {p:Nat×Nat} (h:p∈zbW oth a k):p.1=a∧a<p.2∧p.2<a+1+k:=by
 unfold zbW at h;rw[List.mem_flatMap] at h;obtain⟨j,hj,h⟩:=h;rw[zwX h];have:=List.mem_range.1 hj
 exact⟨rfl,by simp only;omega,by simp only;omega⟩
theorem zHr {n:Nat} {oth:List (Nat×Nat)} {p:Nat×Nat} (h:p∈ziz n oth):p.1<p.2∧p.2<n:=by
 unfold ziz at h;rw[List.mem_flatMap] at h;obtain⟨a,ha,h⟩:=h;have:=List.mem_range.1 ha
 obtain⟨h1,h2,h3⟩:=zwY h;omega
theorem zJI (n:Nat) (oth:List (Nat×Nat)):(ziz n oth).Pairwise zwW:=by
 unfold ziz;rw[List.pairwise_flatMap];refine⟨fun a _=>?_,List.pairwise_lt_range.imp fun {a b} hab x hx y hy => .inl ?_⟩
 ·unfold zbW;rw[List.pairwise_flatMap];refine⟨fun j _=>?_,List.pairwise_lt_range.imp fun {a b} hab x hx y hy => .inr ?_⟩
  ·unfold lk1;split<;>simp
  ·rw[zwX hx,zwX hy];exact⟨rfl,by simp only;omega⟩
 ·rw[(zwY hx).1,(zwY hy).1];exact hab
def zAE (n:Nat) (l:Int×Int) (p:Nat×Nat):Prop:=(n:Int)≤p.2∨(p.2:Int)≤p.1∨(p.1:Int)<l.1∨((p.1:Int)=l.1∧(p.2:Int)≤l.2)
def zl2 (L:List (Nat×Nat)) (i:Nat):Int×Int:=match i with|0=>(-1,0)|i+1=>match L[i]? with|some p=>(p.1,p.2)|none=>(-1,0)
structure LinksOk (n:Nat) (L:List (Nat×Nat)):Prop where
 num:1≤n∧n≤64
 mem:∀ p∈L,p.1<p.2∧p.2<n
 lt:L.Pairwise zwW
theorem LinksOk.of {n:Nat} (hn:1≤n∧n≤64) (oth:List (Nat×Nat)):LinksOk n (ziz n oth):=⟨hn,fun _ h=>zHr h,zJI n oth⟩
section
variable {n:Nat} {L:List (Nat×Nat)}
theorem LinksOk.good (h:LinksOk n L) {i:Nat} {p:Nat×Nat} (hp:L[i]? = some p):¬zAE n (zl2 L i) p:=by
 have hm:=h.mem p (List.mem_of_getElem? hp);unfold zAE zl2;cases i with
 | zero=>simp only;omega
 | succ i=>
  have hi:=(List.getElem?_eq_some_iff.1 hp).1;have hq:L[i]? = some (L[i]'(by omega)):=List.getElem?_eq_getElem (by omega)
  simp only[hq];have h1:zwW (L[i]'(by omega)) (L[i+1]'hi):=List.pairwise_iff_getElem.1 h.lt i (i+1) (by omega) hi (by omega)
  have h2:=(List.getElem?_eq_some_iff.1 hp).2;rw[h2] at h1;unfold zwW at h1;omega
def zaz (L:List (Nat×Nat)):List (Nat×Nat):=L.flatMap fun p=>[(p.1,p.2),(p.2,p.1)]
theorem wayL_mem {w:Nat×Nat}:w∈zaz L↔w∈L∨(w.2,w.1)∈L:=by
 unfold zaz;rw[List.mem_flatMap];constructor
 ·rintro ⟨p,hp,hw⟩;simp at hw;rcases hw with rfl|rfl
  ·exact .inl hp
  ·exact .inr hp
 ·rintro (h|h)
  ·exact⟨w,h,by simp⟩
  ·exact⟨(w.2,w.1),h,by simp⟩
theorem LinksOk.way (h:LinksOk n L) {w:Nat×Nat} (hw:w∈zaz L):w.1≠w.2∧w.1<n∧w.2<n:=by
 rcases wayL_mem.1 hw with h1|h1
 ·have:=h.mem _ h1;omega
 ·have:=h.mem _ h1;simp only at this;omega
theorem zHs (L:List (Nat×Nat)) {i:Nat} {p:Nat×Nat} (hp:L[i]? = some p):zaz (L.take (i+1))=zaz (L.take i)++[(p.1,p.2),(p.2,p.1)]:=by
 unfold zaz;rw[List.take_add_one,hp,List.flatMap_append];simp
theorem zB3 (L:List (Nat×Nat)):(zaz L).length=2*L.length:=by
 unfold zaz
 induction L with
 | nil=>rfl
 | cons p r ih=>rw[List.flatMap_cons,List.length_append,ih];simp;omega
theorem LinksOk.few (h:LinksOk n L):L.length≤4096:=by
 have hnd:(L.map fun p=>p.1*64+p.2).Nodup:=by
  refine List.Pairwise.map _ (fun p q hpq=>?_) (h.lt.imp_of_mem (S:=fun p q=>zwW p q∧(p.1<p.2∧p.2<n)∧(q.1<q.2∧q.2<n)) fun hp hq hpq=>⟨hpq,h.mem _ hp,h.mem _ hq⟩);have:=h.num
  unfold zwW at hpq;omega
 have hsub:(L.map fun p=>p.1*64+p.2) ⊆ List.range 4096:=fun x hx=>by
  obtain⟨p,hp,rfl⟩:=List.mem_map.1 hx;have:=h.mem p hp
  have:=h.num;exact List.mem_range.2 (by omega)
 have:=hnd.length_le_of_subset hsub;simpa using this
theorem LinksOk.nodup (h:LinksOk n L):(zaz L).Nodup:=by
 unfold zaz;show List.Pairwise _ _
 rw[List.pairwise_flatMap];refine⟨fun p hp=>?_,h.lt.imp_of_mem fun {p q} hp hq hpq x hx y hy=>?_⟩
 ·have:=h.mem p hp;simp;omega
 ·have h1:=h.mem p hp;have h2:=h.mem q hq
  simp at hx hy;unfold zwW at hpq;rcases hx with rfl|rfl<;>rcases hy with rfl|rfl<;>simp only[ne_eq,Prod.mk.injEq]<;>omega
instance (L:List (Nat×Nat)) (w:Nat×Nat):Decidable (w∈zaz L):=inferInstance
def zaK (L:List (Nat×Nat)) (i k:Nat):List Nat:=(List.range k).filter fun j=>decide ((i,j)∈zaz L)
theorem zFW (L:List (Nat×Nat)) (i k:Nat):zaK L i (k+1)=zaK L i k++if (i,k)∈zaz L then [k] else []:=by
 unfold zaK;rw[List.range_succ,List.filter_append];congr 1;by_cases h:(i,k)∈zaz L<;>simp[h]
theorem nearL_mem {i k j:Nat}:j∈zaK L i k↔j<k∧(i,j)∈zaz L:=by simp[zaK]
theorem zB4 (L:List (Nat×Nat)) (i k:Nat):(zaK L i k).Pairwise (· < ·):=List.pairwise_lt_range.filter _
theorem zzF (L:List (Nat×Nat)) (i k:Nat):(zaK L i k).length≤k:=by
 have:=List.length_filter_le (fun j=>decide ((i,j)∈zaz L)) (List.range k);simpa[zaK] using this
end
end Go.Proofs.YtpnhjkiligohnaaGreatDoor
namespace Go.Proofs.YtpnhjkiligohnaaGreatDoor
open Go Go.Vm
attribute [local irreducible] Brn Ob Grow CallsM inR zay zav Mem.row Mem.cells Mem.setCells Mem.upd Go.Vm.Own zaU zbF zbE zaV New SrcOk zah NewSl Mem.textAt Mem.mapAt Mem.iterAt zak kfind Wr NewEls Elems
set_option maxRecDepth 10000
variable {M M':Mem}
structure StI where
 qh:Int
 qb:Int
 qg:Int
 disk:Int
 seg:Int
 win:Int
 timer:Int
 tries:Int
 wait:Int
 delay:Int
@[reducible] def zdK (S:StI) (lk ds ns:Value) (mb:Nat):List Value:=[.int .i64 S.qh,.int .i64 S.qb,.int .i64 S.qg,.int .i64 S.disk,.int .i64 S.seg,.int .i64 S.win,.int .i64 S.timer,.int .i64 S.tries,.int .i64 S.wait,.int .i64 S.delay,lk,ds,ns,.map (some mb),.slice none 0 0,.int .i64 0]
@[reducible] def zgq (dl:Int):List Value:=[.int .i64 dl,.int .i64 0,.slice none 0 0,.slice none 0 0]
@[reducible] def zam (b:Nat):Value:=ptr b
@[reducible] def ztB (k:Nat):Value := .int .i64 (k:Nat)
theorem zfl (M:Mem) (b:Nat) (E:TypeId) (l:List Value):Mem.keep (fun y=>y=b) M (M.setCells b E l):=by
 unfold Mem.setCells;exact Mem.keep_upd (S:=fun y=>y=b) M (b:=b) _ rfl
theorem zL4 {p:Nat} {S:StI} {a:Option Addr} {c:Nat} {ds ns:Value} {mb:Nat} {L:List (Nat×Nat)} (hm:M.has p T.zad (zdK S (.slice a L.length c) ds ns mb)) (hs:SrcOk M 2 a L.length (L.flatMap zd4)) (hl:L.length≤4096) :
  CallsM Tryz.prog F.zbv [ptr p] M fun v M'=>∃ q c',v = .slice q (zaz L).length c'∧NewSl M T.zA0 2 q (zaz L).length c' ((zaz L).flatMap zd4) M':=by
 refine zuk (by simp) ?_;(conv=>whnf);refine on (hm.c1 rfl) ?_;refine zR ?_;(conv=>whnf)
 refine zaL (σ:=Nat×Mem×Option Addr×Nat×Nat) [11,3] (fun y=>[(11,.int .i64 y.1),(3,.slice y.2.2.1 y.2.2.2.1 y.2.2.2.2)]) (fun _=>[]) (fun y=>y.2.1)
  (fun|⟨i,Mc,q,k,cq⟩=>i≤L.length∧k=(zaz (L.take i)).length∧NewSl M T.zA0 2 q k cq ((zaz (L.take i)).flatMap zd4) Mc) (fun y=>L.length - y.1) ⟨0,M,none,0,0⟩ ⟨by omega,by simp[zaz],NewSl.none M _ _⟩ zS ?_
 rintro ⟨i,Mc,q,k,cq⟩ ⟨hi,hk,hN⟩;(conv=>whnf);refine brn (fun g=>?_) (fun g=>?_)
 ·have g':i<L.length:=by have:=Zd0 g;dsimp only at this;omega
  have hx:L[i]? = some L[i]:=List.getElem?_eq_getElem g';obtain⟨b1,o1,rfl,hrow⟩:=(hs.le hN.le).fall (enc:=zd4) (fun _=>rfl) (by decide) hx;have hw:=zHs L hx
  have hkk:=zB3 (L.take i);rw[List.length_take] at hkk;generalize L[i]=x at *;(conv=>whnf);refine ob (by first|omega|(dsimp only;omega)) ?_;(conv=>whnf);refine on hrow ?_;refine zR ?_;refine appK M _ hN (by dsimp only;omega) (by dsimp only;simp[maxLen];omega) (by simp[Value.oneCell']) fun a6 c6 M6 hN6 hk6=>?_
  refine zR ?_;refine obr (zm (by first|omega|(dsimp only;omega))) ?_;(conv=>whnf)
  refine⟨⟨i+1,M6,a6,k+2,c6⟩,⟨by omega,by rw[hw,List.length_append];simp[hk],?_⟩,by dsimp only;omega,zS⟩;rw[hw,List.flatMap_append];simpa using hN6
 ·have g':i=L.length:=by have:=Zd1 g;dsimp only at this;omega
  subst g';rw[List.take_length] at hk hN;subst hk;refine zR ?_;(conv=>whnf)
  exact⟨q,cq,rfl,hN⟩
theorem zB5 {p:Nat} {S:StI} {lk ds:Value} {a:Option Addr} {n c:Nat} {mb:Nat} {L:List (Nat×Nat)} {lm:List ((Nat×Nat)×Nat)} (hm:M.has p T.zad (zdK S lk ds (.slice a n c) mb)) (hb:MapAt kvL zam M mb lm) (hlm:∀ w,w∈zaz L↔(zL lm w).isSome) (hn:n≤64) (i:Nat) :
  CallsM Tryz.prog F.za4 [ptr p,.int .i64 (i:Nat)] M fun v M'=>∃ q c',v = .slice q (zaK L i n).length c'∧NewSl M T.int 1 q (zaK L i n).length c' ((zaK L i n).map ztB) M':=by
 refine zum (by simp) ?_;(conv=>whnf);refine on (hm.c1 rfl) ?_;refine zR ?_;(conv=>whnf)
 refine zaL (σ:=Nat×Mem×Option Addr×Nat×Nat) [12,5] (fun y=>[(12,.int .i64 (y.1:Nat)),(5,.slice y.2.2.1 y.2.2.2.1 y.2.2.2.2)]) (fun _=>[]) (fun y=>y.2.1)
  (fun|⟨j,Mc,q,k,cq⟩=>j≤n∧k=(zaK L i j).length∧NewSl M T.int 1 q k cq ((zaK L i j).map ztB) Mc) (fun y=>n - y.1) ⟨0,M,none,0,0⟩ ⟨by omega,by simp[zaK],NewSl.none M _ _⟩ zS ?_
 rintro ⟨j,Mc,q,k,cq⟩ ⟨hj,hk,hN⟩;(conv=>whnf);refine brn (fun g=>?_) (fun g=>?_)
 ·have g':j<n:=by have:=Zd0 g;dsimp only at this;omega
  have hkk:=zzF L i j;have hsc:=zFW L i j
  refine zR ?_;refine on ((hm.le hN.le).c1 rfl) ?_;refine zR ?_;refine(hb.mono fun o ho=>hN.le _ _ ho).get zpV (i,j) (fun h0=>?_) (fun b _ h1=>?_)
  ·rw[if_neg (fun h=>by rw[hlm,h0] at h;cases h),List.append_nil] at hsc;refine zR ?_;refine obr (zm (by first|omega|(dsimp only;omega))) ?_;(conv=>whnf)
   exact⟨⟨j+1,Mc,q,k,cq⟩,⟨by omega,by rw[hsc];exact hk,by rw[hsc];exact hN⟩,by dsimp only;omega,zS⟩
  ·rw[if_pos ((hlm _).2 (by rw[h1];rfl))] at hsc;refine zR ?_;refine appK M _ hN (by dsimp only;omega) (by dsimp only;simp[maxLen];omega) (by simp[Value.oneCell']) fun a6 c6 M6 hN6 hk6=>?_
   refine zR ?_;refine obr (zm (by first|omega|(dsimp only;omega))) ?_;(conv=>whnf)
   refine⟨⟨j+1,M6,a6,k+1,c6⟩,⟨by omega,by rw[hsc,List.length_append];simp[hk],?_⟩,by dsimp only;omega,zS⟩;rw[hsc,List.map_append];exact hN6
 ·have g':j=n:=by have:=Zd1 g;dsimp only at this;omega
  subst g';subst hk;refine zR ?_;(conv=>whnf)
  exact⟨q,cq,rfl,hN⟩
theorem zJJ {dl:Int} (h:0≤dl∧dl≤64):CallsM Tryz.prog F.zhn [.int .i64 dl] M fun v M'=>∃ b,v = .tuple #[ptr b,.int .i64 0]∧M b=none∧M'=M.setCells b T.zN (zgq dl):=by
 refine zCh (by simp) ?_;(conv=>whnf);refine brn_f (by simp;omega) ?_;(conv=>whnf);refine brn_f (by simp;omega) ?_;refine zR ?_;refine new fun b hb=>?_
 (conv=>whnf);exact⟨b,rfl,hb,rfl⟩
theorem zJK {b n c:Nat} {dl:Int} {a:Option Addr} {L:List UInt8} (hd:0≤dl∧dl≤64) (hb:M.has b T.zN (zgq dl)) (hs:SrcOk M 1 a n (L.map z7)) (hn:n≤65536) :
  CallsM Tryz.prog F.zcn [ptr b,.slice a n c] M fun v M'=>v = .int .i64 0∧Mem.keep (fun y=>y=b) M M':=by
 have hl:=hs.maplen;refine zvY (by simp) ?_;(conv=>whnf);refine brn_f rfl ?_;(conv=>whnf);refine on (hb.c1 rfl) ?_;(conv=>whnf);refine obr (zm (by omega)) ?_;(conv=>whnf);refine brn_f (by simp;omega) ?_;(conv=>whnf);refine on (hb.c1 rfl) ?_;(conv=>whnf);refine zkt hs ?_;(conv=>whnf);refine appK M _ (NewSl.none M T.zY 1) (by omega) (by simp[maxLen];omega) (zzz L) fun a6 c6 M6 hN6 hk6=>?_
 have hb6:=hb.le hN6.le;(conv=>whnf);refine on hb6.cells ?_;(conv=>whnf);refine ob (by simp) ?_;obtain⟨M7,hM7⟩:∃ M7,M7=M6.setCells b T.zN [.int .i64 dl,.int .i64 0,.slice a6 (0+n) c6,.slice none 0 0]:=⟨_,rfl⟩
 have hk7:Mem.keep (fun y=>y=b) M M7:=Mem.keep_trans (Mem.keep_of_le hN6.le) (by rw[hM7];exact zfl _ _ _ _);have hb7:M7.has b T.zN [.int .i64 dl,.int .i64 0,.slice a6 (0+n) c6,.slice none 0 0]:=hM7▸Mem.has_setCells
 (conv=>whnf);erw [←hM7];refine zR ?_;(conv=>whnf)
 refine zaL (σ:=Nat×Mem×Option Addr×Nat×List Int) [27] (fun y=>[(27,.int .i64 (y.1:Nat))]) (fun _=>[]) (fun y=>y.2.1)
  (fun|⟨i,Mc,q,cq,D⟩=>i≤n∧Mem.keep (fun y=>y=b) M Mc∧Mc.has b T.zN [.int .i64 dl,.int .i64 0,.slice a6 (0+n) c6,.slice q D.length cq]∧D.length=i∧NewSl (M.minus fun y=>y=b) T.int 1 q D.length cq (D.map zbw) Mc) (fun y=>n - y.1) ⟨0,M7,none,0,[]⟩ ⟨by omega,hk7,hb7,rfl,(NewSl.none _ _ _).up (Mem.keep_minus.1 hk7)⟩ zS ?_
 rintro ⟨i,Mc,q,cq,D⟩ ⟨hi,hk,hbc,hD,hN⟩;(conv=>whnf);refine brn (fun g=>?_) (fun g=>?_)
 ·have g':i<n:=by have:=Zd0 g;dsimp only at this;omega
  (conv=>whnf);refine on (hbc.c1 rfl) ?_;(conv=>whnf);refine on (hbc.c1 rfl) ?_;(conv=>whnf);refine on (hbc.c1 rfl) ?_;(conv=>whnf);refine obr (zm (by omega)) ?_;refine zR ?_;refine appK _ _ hN (by first|omega|(dsimp only;omega)) (by first|(simp[maxLen];omega)|(dsimp only;simp[maxLen];omega)) (by simp[Value.oneCell']) fun a8 c8 M8 hN8 hk8=>?_
  have hqb:∀ y,blk q y→y≠b∧M y=none:=fun y ⟨r,hr,e⟩=>by
   obtain⟨h1,cs,h2⟩:=hN.block hr;rw[e] at h1 h2;have hne:y≠b:=fun e=>by subst e;have:=(hbc.inj h2).1;revert this;decide
   refine⟨hne,?_⟩;unfold Mem.minus at h1
   rwa [if_neg hne] at h1
  have hb8:M8.has b _ _:=hk8 _ _ (fun h=>(hqb _ h).1 rfl) hbc;refine zR ?_;refine on hb8.cells ?_;(conv=>whnf);refine ob (by simp) ?_;obtain⟨M9,hM9⟩:∃ M9,M9=M8.setCells b T.zN [.int .i64 dl,.int .i64 0,.slice a6 (0+n) c6,.slice a8 (D.length+1) c8]:=⟨_,rfl⟩
  have hk89:Mem.keep (fun y=>y=b) M8 M9:=by rw[hM9];exact zfl _ _ _ _
  have hk9:Mem.keep (fun y=>y=b) M M9:=fun y o hy ho=>hk89 y o hy (hk8 y o (fun hq=>by rw[(hqb y hq).2] at ho;cases ho) (hk y o hy ho))
  have hN9:=hN8.keep hk89 (fun y e=>e▸Mem.minus_in rfl) (fun r hr e=>by
   obtain⟨_,cs,h2⟩:=hN8.block hr;rw[e] at h2
   have:=(hb8.inj h2).1;revert this;decide)
  (conv=>whnf);erw [←hM9];refine zR ?_;refine obr (zm (by first|omega|(dsimp only;omega))) ?_;(conv=>whnf)
  refine⟨⟨i+1,M9,a8,c8,D++[0+dl]⟩,⟨by omega,hk9,?_,by simp[hD],?_⟩,by dsimp only;omega,zS⟩
  ·rw[List.length_append];exact hM9▸Mem.has_setCells
  ·rw[List.map_append,List.length_append];exact hN9
 ·refine zR ?_;(conv=>whnf)
  exact⟨rfl,hk⟩
end Go.Proofs.YtpnhjkiligohnaaGreatDoor
namespace Go.Vm.Rn
open Go.Vm
set_option linter.unusedVariables false
@[reducible] def nmE (x:Int):E:=⟨0,0,true,[.int .i64 x]⟩
section
variable {P:Program} {F:Cal} {A A' M M':Mem} {σ τ:List E} {H:T O}
theorem zcq {a:Nat} {x lo hi:Int} (h:σ[a]? = some (nmE x)) (h1:lo≤x) (h2:x≤hi):CR σ (.xx a 0 lo hi) (.int .i64 x):=by
 simp only[CR,C.val,h,Option.bind_some,Int.add_zero];rw[if_pos ⟨h1,h2⟩]
theorem zyh {a:Nat} {x d lo hi:Int} (h:σ[a]? = some (nmE x)) {v:Value} (hv:CR σ (.xx a d lo hi) v):v = .int .i64 (x+d):=by
 obtain⟨e,n,h1,h2, -, -, rfl⟩:=C.val_xx hv;rw[h] at h1;cases h1;cases h2;rfl
theorem HR.nil (σ:List E) (A:Mem):HR σ .e A:=⟨fun _ _ h=>(by cases h),fun _ _ _ _ _ _ h=>(by cases h)⟩
theorem HR.pad (h:HR σ H A) (τ:List E):HR (σ++τ) H A:=by
 refine⟨fun a o ha=>?_,fun a b oa ob ea eb ha hb he he'=>?_⟩
 ·obtain⟨e,h5,h6⟩:=h.has a o ha;exact⟨e,ztw h5 τ,h6.mono τ⟩
 ·obtain⟨e1,h5, -⟩:=h.has a oa ha;obtain⟨e2,h6, -⟩:=h.has b ob hb;rw[ztw h5 τ] at he;rw[ztw h6 τ] at he';cases he;cases he';exact h.inj a b oa ob _ _ ha hb h5 h6
theorem All2.same {l:List C} {vs us:List Value} (h:All2 (CR σ) l vs) (h':All2 (CR (σ++τ)) l us):vs=us:=
 All2.fn (Q:=CR (σ++τ)) (fun _ _ _=>CR.fn) (All2.imp (fun _ _ h=>CR.mono τ h) h) h'
theorem HR.shrink (h:HR σ H A) (h':HR (σ++τ) H A'):HR σ H A':=by
 refine⟨fun a o ha=>?_,h.inj⟩;obtain⟨e,h1,h2⟩:=h.has a o ha;obtain⟨e',h3,h4⟩:=h'.has a o ha;rw[ztw h1 τ] at h3;cases h3;refine⟨e,h1,?_⟩;cases o with
 | row T l=>
  obtain⟨h0,vs,h5, -⟩:=h2;obtain⟨-, us,h6,h7⟩:=h4;rw[←All2.same h5 h6] at h7;exact⟨h0,vs,h5,h7⟩
 | ro T l=>
  obtain⟨h0,vs,h5, -⟩:=h2;obtain⟨-, us,h6,h7⟩:=h4;rw[←All2.same h5 h6] at h7;exact⟨h0,vs,h5,h7⟩
 | gr T z l=>
  obtain⟨vs,h5, -⟩:=h2;obtain⟨us,h6,h7⟩:=h4;rw[←All2.same h5 h6] at h7;exact⟨vs,h5,h7⟩
 | mp es c=>
  obtain⟨h0,ms,h5, -⟩:=h2;obtain⟨-, us,h6,h7⟩:=h4;rw[←All2.fn (Q:=EnR (σ++τ)) (fun _ _ _=>EnR.fn) (All2.imp (fun _ _ h=>EnR.mono τ h) h5) h6] at h7;exact⟨h0,ms,h5,h7⟩
 | it m a s t=>
  obtain⟨h0,x,h5, -⟩:=h2;obtain⟨-, y,h6,h7⟩:=h4;refine⟨h0,x,h5,?_⟩
  have:x=y:=by
   cases m with
   | none=>exact h5.trans h6.symm
   | some b=>
    obtain⟨e1,h8,h9⟩:=h5;obtain⟨e2,h10,h11⟩:=h6;rw[ztw h8 τ] at h10;cases h10;exact h9.trans h11.symm
  rw[this];exact h7
 | si l p=>exact h4
theorem zt0 (hF:FOk P F) {g:Stg} {f:Nat} {ws:List W} {vs:List Value} (hok:g.ok (F f) ws=true) (hr:HR σ H A) (hn:σ.length=g.n) (hs:g.H.sub H id=true) (hvs:All2 (WR σ) ws vs) :
  CallsM P f vs A fun u A'=>∃ τ,(σ++τ).length=g.n'∧OVR (σ++τ) g.v u∧HR (σ++τ) g.H' A':=by
 unfold Stg.ok at hok;split at hok
 ·rename_i v2 n2 H2 hrun;obtain⟨h5,h6⟩:=zs hok;obtain⟨h7,h8⟩:=zs h6;have e3:=V.eqb_s h5
  have e4:=zE h7;subst e3;refine(hF hrun rfl hn (hr.sub hs) hvs).mono ?_;rintro u A' ⟨τ,h9,h10,h11⟩;exact⟨τ,h9.trans e4,h10,h11.sub h8⟩
 ·cases hok
def MObj (n:Nat) (H:T O) (k:Nat) (A:Mem) (b:Nat):Prop:=∃ σ:List E,σ.length=n∧HR σ H A∧∃ e,σ[k]? = some e∧e.addr=b
end
end Go.Vm.Rn
namespace Go.Vm.Rn
open Go.Vm
set_option linter.unusedVariables false
section
variable {P:Program} {F:Cal} {A A' M M':Mem} {σ τ:List E} {H:T O}
noncomputable def zl3 (σ:List E) (H:T O) (M:Mem):Mem:=fun y=>open Classical in if ∃ a o e,H.get a=some o∧σ[a]? = some e∧e.nil=false∧e.addr=y then M y else none
theorem zwZ:(zl3 σ H M).le M:=fun y o h=>by
 unfold zl3 at h;split at h
 ·exact h
 ·cases h
theorem zJL {a:Nat} {o:O} {e:E} (h:H.get a=some o) (he:σ[a]? = some e) (hn:e.nil=false):zl3 σ H M e.addr=M e.addr:=by
 unfold zl3;rw[if_pos ⟨a,o,e,h,he,hn,rfl⟩]
theorem HR.on (h:HR σ H M):HR σ H (zl3 σ H M):=by
 refine⟨fun a o ha=>?_,h.inj⟩;obtain⟨e,h1,h2⟩:=h.has a o ha;exact⟨e,h1,h2.frame fun hn=>zJL ha h1 hn⟩
theorem HR.le (h:HR σ H M) (hle:M.le M'):HR σ H M':=by
 refine⟨fun a o ha=>?_,h.inj⟩;obtain⟨e,h1,h2⟩:=h.has a o ha;refine⟨e,h1,h2.frame fun hn=>?_⟩;obtain⟨ob,h3⟩:=h2.some hn;rw[h3,hle _ _ h3]
theorem HR.same (h:HR σ H M) (h':HR σ H M'):(zl3 σ H M).le M':=fun y ob hy=>by
 unfold zl3 at hy;split at hy
 ·rename_i hx;obtain⟨a,o,e,h1,h2,h3,rfl⟩:=hx;obtain⟨e1,h4,h5⟩:=h.has a o h1;obtain⟨e2,h6,h7⟩:=h'.has a o h1;rw[h2] at h4 h6;cases h4;cases h6;cases o with
  | row T l=>
   obtain⟨-, vs,h8,h9⟩:=h5;obtain⟨-, us,h10,h11⟩:=h7;rw[h9] at hy;cases hy;rw[h11,All2.fn (Q:=CR σ) (fun _ _ _=>CR.fn) h8 h10]
  | ro T l=>
   obtain⟨-, vs,h8,h9⟩:=h5;obtain⟨-, us,h10,h11⟩:=h7;rw[h9] at hy;cases hy;rw[h11,All2.fn (Q:=CR σ) (fun _ _ _=>CR.fn) h8 h10]
  | gr T z l=>
   obtain⟨vs,h8,h9⟩:=h5;obtain⟨us,h10,h11⟩:=h7;rcases h9 with ⟨h9, -⟩|⟨-, h9, -⟩
   ·rw[h3] at h9;cases h9
   rcases h11 with ⟨h11, -⟩|⟨-, h11, -⟩
   ·rw[h3] at h11;cases h11
   rw[h9] at hy;cases hy;rw[h11,All2.fn (Q:=CR σ) (fun _ _ _=>CR.fn) h8 h10]
  | mp es c=>
   obtain⟨-, vs,h8,h9⟩:=h5;obtain⟨-, us,h10,h11⟩:=h7;rw[h9] at hy;cases hy;rw[h11,All2.fn (Q:=EnR σ) (fun _ _ _=>EnR.fn) h8 h10]
  | it m b s t=>
   obtain⟨-, x,h8,h9⟩:=h5;obtain⟨-, z,h10,h11⟩:=h7
   have:x=z:=by
    cases m with
    | none=>exact h8.trans h10.symm
    | some b=>
     obtain⟨e1,h12,h13⟩:=h8;obtain⟨e2,h14,h15⟩:=h10;rw[h12] at h14;cases h14;exact h13.trans h15.symm
   rw[h9] at hy;cases hy;rw[h11,this]
  | si l p=>
   rw[h5.2] at hy;cases hy;exact h7.2
 ·cases hy
theorem ztC (hF:FOk P F) {g:Stg} {f k b:Nat} {n:Nat} {ws:List W} (hok:g.ok (F f) ws=true) (h:MObj n H k M b) (hn:g.n=n) (hs:g.H.sub H id=true) (hws:ws=[.c (.p k 0)]) (hs':H.sub g.H' id=true) :
  CallsM P f [.pointer (some ⟨b,0,none⟩)] M fun u M'=>M.le M'∧∃ σ',OVR σ' g.v u∧HR σ' g.H' M':=by
 obtain⟨σ,h1,h2,e,h3,h4⟩:=h;subst hws;refine(CallsM.frame (zt0 hF hok h2.on (h1.trans hn.symm) hs (show All2 (WR σ) [.c (.p k 0)] [_] from ⟨by rw[←h4];exact zBY h3,trivial⟩)) zwZ).mono ?_;rintro u M' ⟨A',⟨τ, -, h6,h7⟩,hle,hfr⟩;refine⟨fun y o hy=>?_,σ++τ,h6,h7.le hle⟩;cases hm:zl3 σ H M y with
 | none=>exact(hfr y o hm hy).1
 | some o'=>
  have h8:=zwZ y o' hm;rw[hy] at h8;cases h8;exact hle y o (h2.same (h2.on.shrink (h7.sub hs')) y o hm)
theorem MObj.le {n k b:Nat} (h:MObj n H k M b) (hle:M.le M'):MObj n H k M' b:=by
 obtain⟨σ,h1,h2,h3⟩:=h;exact⟨σ,h1,h2.le hle,h3⟩
end
end Go.Vm.Rn
namespace Go.Vm.Rn
open Go.Vm
noncomputable def O.isT (E:Nat) (o:O):Bool:=match o with | .row T _=>Nat.beq T E | .ro T _=>Nat.beq T E | .gr T _ _=>Nat.beq T E|_=>false
noncomputable def zJM (E:Nat) (v:Option O):Bool:=match v with|none=>true|some o => !o.isT E
noncomputable def T.noT (E:Nat) (H:T O):Bool:=T.rec true (fun _ v _ il ir=>zM (zJM E v) (zM il ir)) H
theorem T.zt1 {E:Nat}:∀ {H:T O},H.noT E=true→∀ {a:Nat} {o:O},H.get a=some o→o.isT E=false
 | .e,_,_,_,h=>by cases h
 | .n l v r,hn,a,o,h=>by
  have hn':zM (zJM E v) (zM (l.noT E) (r.noT E))=true:=hn;obtain⟨h1,h2⟩:=zs hn';obtain⟨h3,h4⟩:=zs h2;cases a with
  | zero=>
   have hv:v=some o:=h;subst hv;simpa[zJM] using h1
  | succ m=>
   rw[T.get_1] at h;split at h
   ·exact T.zt1 h4 h
   ·exact T.zt1 h3 h
theorem MObj.keepT {n k b:Nat} {H:T O} {M M':Mem} {S:Nat→Prop} (h:MObj n H k M b) (hk:Mem.keep S M M') (hS:∀ y,S y→∃ E l,M.has y E l∧H.noT E=true):MObj n H k M' b:=by
 obtain⟨σ,h1,h2,h3⟩:=h;refine⟨σ,h1,⟨fun a o ha=>?_,h2.inj⟩,h3⟩;obtain⟨e,h4,h5⟩:=h2.has a o ha;refine⟨e,h4,h5.frame fun hn=>?_⟩;obtain⟨ob,h6⟩:=h5.some hn;rw[h6];refine hk _ _ (fun hs=>?_) h6;obtain⟨E,l,h7,h8⟩:=hS _ hs;have h9:=T.zt1 h8 ha
 unfold Mem.has at h7;have nb:∀ {T:Nat},Nat.beq T E=false→T≠E:=fun {T} h e=>by subst e;rw[Nat.beq_refl] at h;cases h
 cases o with
 | row T l=>obtain⟨-, vs, -, h10⟩:=h5;rw[h10] at h7;simp only[Option.some.injEq,Go.Obj.cells.injEq] at h7;exact nb h9 h7.2.1
 | ro T l=>obtain⟨-, vs, -, h10⟩:=h5;rw[h10] at h7;simp only[Option.some.injEq,Go.Obj.cells.injEq] at h7;exact nb h9 h7.2.1
 | gr T z l=>
  obtain⟨vs, -, h10⟩:=h5;rcases h10 with ⟨h10, -⟩|⟨-, h10, -⟩
  ·rw[hn] at h10;cases h10
  ·rw[h10] at h7;simp only[Option.some.injEq,Go.Obj.cells.injEq] at h7;exact nb h9 h7.2.1
 | mp es c=>obtain⟨-, vs, -, h10⟩:=h5;rw[h10] at h7;cases h7
 | it m b s t=>obtain⟨-, x, -, h10⟩:=h5;rw[h10] at h7;cases h7
 | si l p=>rw[h5.2] at h7;cases h7
end Go.Vm.Rn
namespace Go.Vm.Rn
open Go.Vm
section
variable {P:Program} {F:Cal} {A A' M M':Mem} {σ:List E} {H:T O}
theorem zlV (hF:FOk P F) {g:Stg} {f:Nat} {ws:List W} {vs:List Value} (hok:g.ok (F f) ws=true) (hn:σ.length=g.n) (hs:g.H.sub .e id=true) (hvs:All2 (WR σ) ws vs) :
  CallsM P f vs M fun u M'=>∃ τ A',(σ++τ).length=g.n'∧OVR (σ++τ) g.v u∧HR (σ++τ) g.H' A'∧A'.le M'∧M.le M'∧∀ y,M y≠none→A' y=none:=by
 refine(CallsM.frame (zt0 hF hok (HR.nil σ Mem.empty) hn hs hvs) (Mem.empty_le M)).mono ?_;rintro u M' ⟨A',⟨τ,h1,h2,h3⟩,hle,hfr⟩;refine⟨τ,A',h1,h2,h3,hle,fun y o ho=>(hfr y o rfl ho).1,fun y hy=>?_⟩;cases ho:M y with
 | none=>exact absurd ho hy
 | some o=>exact(hfr y o rfl ho).2
theorem zNx (h:HR σ H A) {a:Nat} {E0:TypeId} {l:List C} (ha:H.get a=some (.row E0 l)) {e:E} (he:σ[a]? = some e):∃ vs,All2 (CR σ) l vs∧A e.addr=some (.cells vs.toArray E0 (0,0)):=by
 obtain⟨e',h1, -, vs,h2,h3⟩:=h.has a _ ha;rw[he] at h1;cases h1;exact⟨vs,h2,h3⟩
end
end Go.Vm.Rn
namespace Go.Vm.Rn
open Go.Vm
section
variable {A:Mem} {σ:List E} {H:T O}
theorem zOr (h:HR σ H A) {a n c z:Nat} {E0:TypeId} {l:List C} (ha:H.get a=some (.gr E0 z l)) {q:Option Addr} (hv:CR σ (.g a 0 0 n) (.slice q n c)) (hl:l.length=n*z):∃ vs,All2 (CR σ) l vs∧SrcOk A z q n vs:=by
 obtain⟨e,h1,vs,h2,h3⟩:=h.has a _ ha;have hlen:=h2.len
 refine⟨vs,h2,by rw[←hl,hlen],?_⟩;rcases h3 with ⟨hn,h4, -⟩|⟨hn,hc, -⟩
 ·subst h4;left;cases vs with
  | nil=>rfl
  | cons _ _=>cases hlen
 ·simp only[CR,C.val,h1,Option.bind_some,hn] at hv;split at hv
  ·rename_i hx;cases hx
  split at hv
  ·cases hv;right;refine⟨e.addr,0,rfl,?_⟩;rw[Mem.row_obj (o:=0) (n:=n*z) hc (by rw[List.length_append];omega),←hl,hlen];simp
  ·cases hv
end
end Go.Vm.Rn
namespace Go.Vm.Rn
open Go.Vm
theorem MObj.tight {n k b:Nat} {H:T O} {A:Mem} (h:MObj n H k A b):∃ A0:Mem,A0.le A∧MObj n H k A0 b∧∀ y E l,A0.has y E l→H.noT E=false:=by
 obtain⟨σ,h1,h2,h3⟩:=h;refine⟨zl3 σ H A,zwZ,⟨σ,h1,h2.on,h3⟩,fun y E l hy=>?_⟩;unfold Mem.has at hy;have hy':=hy
 unfold zl3 at hy;split at hy
 ·rename_i hx;obtain⟨a,o,e,h4,h5,h6,rfl⟩:=hx;cases hno:H.noT E with
  | false=>rfl
  | true=>
   have h11:=T.zt1 hno h4;obtain⟨e',h12,h13⟩:=h2.on.has a o h4;rw[h5] at h12;cases h12;cases o with
   | row T l=>obtain⟨-, vs, -, h14⟩:=h13;rw[h14] at hy';simp only[Option.some.injEq,Go.Obj.cells.injEq] at hy';rw[hy'.2.1] at h11;simp[O.isT] at h11
   | ro T l=>obtain⟨-, vs, -, h14⟩:=h13;rw[h14] at hy';simp only[Option.some.injEq,Go.Obj.cells.injEq] at hy';rw[hy'.2.1] at h11;simp[O.isT] at h11
   | gr T z l=>
    obtain⟨vs, -, h14⟩:=h13;rcases h14 with ⟨h14, -⟩|⟨-, h14, -⟩
    ·rw[h6] at h14;cases h14
    ·rw[h14] at hy';simp only[Option.some.injEq,Go.Obj.cells.injEq] at hy';rw[hy'.2.1] at h11;simp[O.isT] at h11
   | mp es c=>obtain⟨-, vs, -, h14⟩:=h13;rw[h14] at hy';cases hy'
   | it m b s t=>obtain⟨-, x, -, h14⟩:=h13;rw[h14] at hy';cases hy'
   | si l p=>rw[h13.2] at hy';cases hy'
 ·cases hy
end Go.Vm.Rn
namespace Go.Proofs.YtpnhjkiligohnaaGreatDoor
open Go Go.Vm
attribute [local irreducible] Brn Ob Grow CallsM inR zay zav Mem.row Mem.cells Mem.setCells Mem.upd Go.Vm.Own zaU zbF zbE zaV New SrcOk zah NewSl Mem.textAt Mem.mapAt Mem.iterAt zak kfind Wr NewEls Elems
set_option maxRecDepth 10000
open Rn Rn.Q
variable {M M':Mem}
@[reducible] def zc6 (self:Int) (S:StI) (c sm:Nat) (t d:Value):List Value:=[.int .i64 self,.int .i64 S.qh,.int .i64 S.qb,.int .i64 S.qg,.int .i64 S.disk,.int .i64 S.seg,.int .i64 S.win,.int .i64 S.timer,.int .i64 S.tries,.int .i64 S.wait,.int .i64 S.delay,ptr c,.map (some sm),t,d,.slice none 0 0,.int .i64 0,.int .i64 0]
def SideB (M:Mem) (b:Nat):Prop:=∃ e d q n c,∃ L:List UInt8,M.has b T.zQ [e,d,.int .i64 0,.slice q n c]∧SrcOk M 1 q n (L.map z7)∧n≤65536∧∀ r,q=some r→∃ ds,M.has r.block T.zY ds
theorem zB6 {x:Nat} {self:Int} {S:StI} {c sm:Nat} {t d:Value} (h:M.has x T.zae (zc6 self S c sm t d)) :
  CallsM Tryz.prog F.zaY [ptr x] M fun v M'=>v = .slice none 0 0∧M'=M.setCells x T.zae (zc6 self S c sm t d):=by
 refine zoL (by simp) ?_;(conv=>whnf);refine brn_f rfl ?_;(conv=>whnf);refine on (h.c1 rfl) ?_;(conv=>whnf);refine on h.cells ?_;(conv=>whnf);refine ob (by simp) ?_;(conv=>whnf)
 exact⟨rfl,rfl⟩
theorem zJN {x:Nat} {self:Int} {S:StI} {c sm:Nat} {t d:Value} {mp:List (Int×Nat)} (h:M.has x T.zae (zc6 self S c sm t d)) (hm:MapAt zbw zam M sm mp) {k:Int} {b:Nat} (hk:zL mp k=some b) {e dc:Value} {q:Option Addr} {n cq:Nat} (hb:M.has b T.zQ [e,dc,.int .i64 0,.slice q n cq]) :
  CallsM Tryz.prog F.zb2 [ptr x,.int .i64 k] M fun v M'=>v = .slice q n cq∧M'=M.setCells b T.zQ [e,dc,.int .i64 0,.slice none 0 0]:=by
 have hkey:zqj zbw:=by intro a b;simp[zbw,zeP]
 refine zuq (by simp) ?_;(conv=>whnf);refine brn_f rfl ?_;(conv=>whnf);refine on (h.c1 rfl) ?_;(conv=>whnf)
 refine hm.get hkey k (fun h0=>by rw[hk] at h0;cases h0) (fun b' _ h1=>?_);rw[hk] at h1;cases h1;refine zR ?_;refine on (h.c1 rfl) ?_;refine zR ?_;refine hm.get hkey k (fun h0=>by rw[hk] at h0;cases h0) (fun b' _ h1=>?_);rw[hk] at h1;cases h1;refine zR ?_;refine on (hb.c1 rfl) ?_;refine zR ?_;refine on (h.c1 rfl) ?_;refine zR ?_;refine hm.get hkey k (fun h0=>by rw[hk] at h0;cases h0) (fun b' _ h1=>?_);rw[hk] at h1;cases h1;refine zR ?_;refine on hb.cells ?_;(conv=>whnf);refine ob (by simp) ?_;(conv=>whnf)
 exact⟨rfl,rfl⟩
end Go.Proofs.YtpnhjkiligohnaaGreatDoor
namespace Go.Proofs.YtpnhjkiligohnaaGreatDoor
open Go Go.Proofs Go.Shelf
def Tryz.lays189_ren:Go.Shelf.Ren:=⟨fun|189=>160|125=>224|257=>223|128=>283|129=>182|294=>274|295=>275|296=>276|297=>277|298=>278|299=>279|216=>280|300=>281|301=>282|328=>339|329=>340|330=>341|331=>342|332=>343|215=>311|343=>377|n=>n,fun|28=>99|3=>3|46=>150|0=>0|51=>275|53=>201|4=>4|183=>352|182=>351|131=>236|5=>5|9=>9|218=>393|222=>397|228=>421|229=>97|n=>n,fun|n=>n⟩
theorem Tryz.lays189:Go.Proofs.Lays.n189 Tryz.prog Tryz.lays189_ren:={
 mixed:=by kernel_rfl
 f125:=Tryz.func224.trans (congrArg some (by kernel_rfl))
 f128:=Tryz.func283.trans (congrArg some (by kernel_rfl))
 f129:=Tryz.func182.trans (congrArg some (by kernel_rfl))
 f189:=Tryz.func160.trans (congrArg some (by kernel_rfl))
 f215:=Tryz.func311.trans (congrArg some (by kernel_rfl))
 f216:=Tryz.func280.trans (congrArg some (by kernel_rfl))
 f257:=Tryz.func223.trans (congrArg some (by kernel_rfl))
 f294:=Tryz.func274.trans (congrArg some (by kernel_rfl))
 f295:=Tryz.func275.trans (congrArg some (by kernel_rfl))
 f296:=Tryz.func276.trans (congrArg some (by kernel_rfl))
 f297:=Tryz.func277.trans (congrArg some (by kernel_rfl))
 f298:=Tryz.func278.trans (congrArg some (by kernel_rfl))
 f299:=Tryz.func279.trans (congrArg some (by kernel_rfl))
 f300:=Tryz.func281.trans (congrArg some (by kernel_rfl))
 f301:=Tryz.func282.trans (congrArg some (by kernel_rfl))
 f328:=Tryz.func339.trans (congrArg some (by kernel_rfl))
 f329:=Tryz.func340.trans (congrArg some (by kernel_rfl))
 f330:=Tryz.func341.trans (congrArg some (by kernel_rfl))
 f331:=Tryz.func342.trans (congrArg some (by kernel_rfl))
 f332:=Tryz.func343.trans (congrArg some (by kernel_rfl))
 f343:=Tryz.func377.trans (congrArg some (by kernel_rfl))
 t0:=Tryz.underlying0
 a0:=Tryz.isAgg0
 z0:=Tryz.sizeOf0
 v0:=Tryz.zeroValue0
 t3:=Tryz.underlying3
 a3:=Tryz.isAgg3
 z3:=Tryz.sizeOf3
 v3:=Tryz.zeroValue3
 t4:=Tryz.underlying4
 a4:=Tryz.isAgg4
 z4:=Tryz.sizeOf4
 v4:=Tryz.zeroValue4
 t5:=Tryz.underlying5
 a5:=Tryz.isAgg5
 z5:=Tryz.sizeOf5
 v5:=Tryz.zeroValue5
 t9:=Tryz.underlying9
 a9:=Tryz.isAgg9
 z9:=Tryz.sizeOf9
 v9:=Tryz.zeroValue9
 t28:=Tryz.underlying99
 a28:=Tryz.isAgg99
 z28:=Tryz.sizeOf99
 v28:=Tryz.zeroValue99
 t46:=Tryz.underlying150
 a46:=Tryz.isAgg150
 z46:=Tryz.sizeOf150
 v46:=Tryz.zeroValue150
 t51:=Tryz.underlying275
 a51:=Tryz.isAgg275
 z51:=Tryz.sizeOf275
 v51:=Tryz.zeroValue275
 t53:=Tryz.underlying201
 a53:=Tryz.isAgg201
 z53:=Tryz.sizeOf201
 v53:=Tryz.zeroValue201
 t131:=Tryz.underlying236
 a131:=Tryz.isAgg236
 z131:=Tryz.sizeOf236
 v131:=Tryz.zeroValue236
 t182:=Tryz.underlying351
 a182:=Tryz.isAgg351
 z182:=Tryz.sizeOf351
 v182:=Tryz.zeroValue351
 t183:=Tryz.underlying352
 a183:=Tryz.isAgg352
 z183:=Tryz.sizeOf352
 v183:=Tryz.zeroValue352
 t218:=Tryz.underlying393
 a218:=Tryz.isAgg393
 z218:=Tryz.sizeOf393
 v218:=Tryz.zeroValue393
 t222:=Tryz.underlying397
 a222:=Tryz.isAgg397
 z222:=Tryz.sizeOf397
 v222:=Tryz.zeroValue397
 t228:=Tryz.underlying421
 a228:=Tryz.isAgg421
 z228:=Tryz.sizeOf421
 v228:=Tryz.zeroValue421
 t229:=Tryz.underlying97
 a229:=Tryz.isAgg97
 z229:=Tryz.sizeOf97
 v229:=Tryz.zeroValue97 }
end Go.Proofs.YtpnhjkiligohnaaGreatDoor
namespace Go.Proofs.YtpnhjkiligohnaaGreatDoor
open Go Go.Vm Go.Proofs Go.Shelf
theorem zL5 {M:Mem} {E:TypeId} {a:Option Addr} {n c:Nat} {l:List Int} (h:Wr M E 1 a n c (l.map (Value.int .i64))) (hn:n<4611686018427387904) :
  CallsM Tryz.prog F.zaZ [.slice a n c] M fun v M'=>v = .tuple #[]∧Wr M' E 1 a n c ((zfx l).map (Value.int .i64))∧Mem.keep (blk a) M M':=
 zIc Tryz.lays189 (by kernel_rfl) h hn
end Go.Proofs.YtpnhjkiligohnaaGreatDoor
namespace Go.Proofs.YtpnhjkiligohnaaGreatDoor
open Go Go.Vm
attribute [local irreducible] Brn Ob Grow CallsM inR zay zav Mem.row Mem.cells Mem.setCells Mem.upd Go.Vm.Own zaU zbF zbE zaV New SrcOk zah NewSl Mem.textAt Mem.mapAt Mem.iterAt zak kfind Wr NewEls Elems
set_option maxRecDepth 10000
open Rn Rn.Q
section
variable {M M':Mem}
theorem zzo:zqj zbw:=by
 intro a b;simp[zbw,zeP]
def zbU (nb bs:List Nat):List (Int×Nat):=(nb.map fun (k:Nat)=>(k:Int)).zip bs
theorem ztD {nb bs:List Nat} (hl:bs.length=nb.length):(zbU nb bs).map (·.1)=nb.map fun (k:Nat)=>(k:Int):=by
 unfold zbU;rw[List.map_fst_zip];simp[hl]
theorem zB7 {nb bs:List Nat} (hs:nb.Pairwise (· < ·)) (hl:bs.length=nb.length) {j k b:Nat} (hk:nb[j]? = some k) (hb:bs[j]? = some b):zL (zbU nb bs) (k:Int)=some b:=by
 refine zCm ?_ ?_
 ·rw[ztD hl];exact(hs.imp fun {a b} h e=>by omega).map _ fun a b h=>h
 ·unfold zbU;refine List.mem_of_getElem? (i:=j) ?_;rw[List.getElem?_zip_eq_some];exact⟨by rw[List.getElem?_map,hk];rfl,hb⟩
theorem zFX {nb:List Nat} (hs:nb.Pairwise (· < ·)) {l:List Int} (hp:l.Perm (nb.map fun (k:Nat)=>(k:Int))):zfx l=nb.map fun (k:Nat)=>(k:Int):=
 List.Perm.eq_of_pairwise (le:=(· ≤ ·)) (fun x y _ _ h1 h2=>Int.le_antisymm h1 h2) (zzm _) (List.Pairwise.map (S:=fun (x y:Int)=>x≤y) (fun (k:Nat)=>(k:Int)) (fun a b h=>h) (hs.imp (S:=fun (a b:Nat)=>(a:Int)≤(b:Int)) fun {a b} h=>by omega)) ((zBT _).trans hp)
theorem zB8 {x:Nat} {self:Int} {S:StI} {c sm:Nat} {t d:Value} {nb bs:List Nat} (h:M.has x T.zae (zc6 self S c sm t d)) (hm:MapAt zbw zam M sm (zbU nb bs)) (hs:nb.Pairwise (· < ·)) (hl:bs.length=nb.length) (hn:nb.length≤64) :
  CallsM Tryz.prog F.zat [ptr x] M fun v M'=>∃ a' c',v = .slice a' nb.length c'∧NewSl M T.int 1 a' nb.length c' (nb.map ztB) M':=by
 have hkeys:=ztD hl;have hzl:(zbU nb bs).length=nb.length:=by unfold zbU;simp[hl]
 refine zur (by simp) ?_;(conv=>whnf);refine on (h.c1 rfl) ?_;(conv=>whnf)
 refine hm.range fun q bi hbi hI=>?_
 replace hbi:M bi=none:=hbi;(conv=>whnf)
 refine zaL (σ:=Mem×Option Addr×Nat×List Int×List (Int×Nat)) [3] (fun x=>[(3,.slice x.2.1 x.2.2.2.1.length x.2.2.1)]) (fun _=>[]) (fun x=>x.1)
  (fun|⟨M1,a',c',ks,todo⟩=>M.le M1∧Iter zbw zam M1 bi sm (zbU nb bs) todo∧NewSl M T.int 1 a' ks.length c' (ks.map zbw) M1∧(ks++todo.map (·.1)).Perm ((zbU nb bs).map (·.1))) (fun x=>x.2.2.2.2.length) ⟨_,none,0,[],zbU nb bs⟩
  ⟨Mem.le_upd hbi,hI,(NewSl.none M T.int 1).up (Mem.le_upd hbi),by simp⟩ zS ?_
 rintro ⟨M1,a',c',ks,todo⟩ ⟨hle,hI1,hN,hp⟩;have hlen:=hp.length_eq
 simp only[List.length_append,List.length_map,hzl] at hlen;(conv=>whnf)
 refine hI1.next (fun h0=>?_) (fun i k todo' o' hperm hI2 hent=>?_)
 ·subst h0;simp only[List.map_nil,List.append_nil,List.length_nil,Nat.add_zero] at hp hlen;refine zR ?_;refine(zL5 hN.wr (by omega)).mono ?_;rintro v M2 ⟨rfl,hw,hk⟩;refine zR ?_;(conv=>whnf)
  rw[hkeys] at hp;rw[zFX hs hp,List.map_map] at hw;refine⟨a',c',by rw[hlen],?_⟩;rw[hlen] at hw hN;exact hN.ofWr hw hk rfl
 ·have hne:∀ r,a'=some r→r.block≠bi:=fun r hr=>by obtain⟨_,cs,hh⟩:=hN.block hr;exact(hI1.nb hh).1
  have hk:=Mem.keep_upd (S:=fun y=>y=bi) M1 (b:=bi) o' rfl;have hN2:=hN.keep hk (fun b hb=>by have hb:b=bi:=hb;subst hb;exact hbi) fun r hr hb=>hne r hr hb
  obtain⟨M2,hM2⟩:∃ M2,M2=M1.upd bi o':=⟨_,rfl⟩
  rw[←hM2] at hI2 hent hN2;have hpl:=hperm.length_eq
  simp only[List.length_cons] at hpl;(conv=>whnf)
  erw [←hM2];refine zR ?_;refine on hent ?_;refine zR ?_;refine appK M _ hN2 (by first|omega|(dsimp only;omega)) (by simp[maxLen];omega) (by simp[Value.oneCell']) fun a6 c6 M6 hN6 hk6=>?_
  (conv=>whnf);refine⟨⟨M6,a6,c6,ks++[i],todo'⟩,⟨hN6.le,?_,by simpa using hN6,?_⟩,by dsimp only;omega,by simp only[List.length_append,List.length_cons,List.length_nil];exact zS⟩
  ·refine hI2.keep hk6 ?_ ?_
   ·rintro ⟨r,hr,e⟩;obtain⟨_,cs,hh⟩:=hN2.block hr;exact(hI2.nb hh).1 e
   ·rintro ⟨r,hr,e⟩;obtain⟨_,cs,hh⟩:=hN2.block hr;exact(hI2.nb hh).2 e
  ·refine List.Perm.trans ?_ hp;rw[List.append_assoc];exact List.Perm.append_left ks (by simpa using (hperm.map (fun q:Int×Nat=>q.1)).symm)
@[reducible] def zzp:List Value:=[.int .i64 5,.int .i64 0,.int .i64 0,.bool false,.int .i64 512,.int .i64 0,.slice none 0 0]
@[reducible] def zNy (W Tm R:Int) (sp rp:Nat) (q:Value):List Value:=[.int .i64 512,.int .i64 (-1),.bool false,.int .i64 W,.int .i64 Tm,.int .i64 R,.int .i64 Tm,.int .i64 0,.int .i64 0,.bool false,.bool false,ptr sp,ptr rp,q,.slice none 0 0]
def EndN (M:Mem) (e:Nat):Prop:=∃ W Tm R sp rp w c,∃ sp',M.has e T.zbd (zNy W Tm R sp rp (.slice (some ⟨w,0,none⟩) 1 c))∧M.has w T.zma (zzp++sp')
def SideN (M:Mem) (b e:Nat):Prop:=∃ d,M.has b T.zQ [ptr e,ptr d,.int .i64 0,.slice none 0 0]∧EndN M e
theorem EndN.le {e:Nat} (h:EndN M e) (hle:M.le M'):EndN M' e:=by
 obtain⟨W,Tm,R,sp,rp,w,c,sp',h1,h2⟩:=h;exact⟨W,Tm,R,sp,rp,w,c,sp',h1.le hle,h2.le hle⟩
theorem SideN.le {b e:Nat} (h:SideN M b e) (hle:M.le M'):SideN M' b e:=by
 obtain⟨d,h1,h2⟩:=h;exact⟨d,h1.le hle,h2.le hle⟩
theorem EndN.resets {e:Nat} (h:EndN M e):CallsM Tryz.prog F.zaG [ptr e] M fun v M'=>v = .int .i64 0∧M=M':=by
 obtain⟨W,Tm,R,sp,rp,w,c,sp',h1,h2⟩:=h;refine zrv (by simp) ?_;(conv=>whnf);refine brn_f rfl ?_;(conv=>whnf);refine on (h1.c1 rfl) ?_;(conv=>whnf)
 exact⟨rfl,rfl⟩
theorem EndN.up {e:Nat} (h:EndN M e):CallsM Tryz.prog F.zb3 [ptr e] M fun v M'=>v = .bool false∧M=M':=by
 obtain⟨W,Tm,R,sp,rp,w,c,sp',h1,h2⟩:=h;refine zxA (by simp) ?_;refine zR ?_;refine on (h1.c1 rfl) ?_;(conv=>whnf)
 exact⟨rfl,rfl⟩
theorem EndN.out {e:Nat} (h:EndN M e):CallsM Tryz.prog F.zco [ptr e] M fun v M'=>∃ w c sp,v = .slice (some ⟨w,0,none⟩) 1 c∧M.has w T.zma (zzp++sp)∧∃ l,M'=M.setCells e T.zbd l∧∃ l',M.has e T.zbd l':=by
 obtain⟨W,Tm,R,sp,rp,w,c,sp',h1,h2⟩:=h;refine zv3 (by simp) ?_;(conv=>whnf);refine brn_f rfl ?_;(conv=>whnf);refine on (h1.c1 rfl) ?_;(conv=>whnf);refine on h1.cells ?_;(conv=>whnf);refine ob (by simp) ?_;(conv=>whnf)
 exact⟨w,c,sp',rfl,h2,_,rfl,_,h1⟩
end
section
variable {M M':Mem}
set_option maxRecDepth 100000
noncomputable abbrev zoa:Cal:=run primsN zu 1000 40
noncomputable def bwC:List W:=[.ag [.xx 0 0 0 255,.xx 1 0 0 2040,.xx 2 0 0 255,.xx 3 0 256 65536,.xx 4 0 16 271,.xx 5 0 1 63,.xx 6 0 1 8,.xx 7 0 1 4,.xx 8 0 1 8,.xx 9 0 0 3]]
noncomputable def bgC:Stg:=⟨10,.e,.c (i 0),14,.e⟩
theorem zNz:bgC.ok (zoa F.zce) bwC=true:=by kernel_rfl
noncomputable def bhD:T O := .ofs .e [(1,some (.mp [] 0)),(2,some (.row T.zoK [.xx 0 0 256 65536,.m 1,.n .i64 (-1),.t false]))]
noncomputable def bgD:Stg:=⟨1,.e,.tp [.c (.p 2 0),.c (i 0)],3,bhD⟩
theorem zNA:bgD.ok (zoa F.zho) [.c (.xx 0 0 256 65536)]=true:=by kernel_rfl
noncomputable def bhO:T O := .ofs .e [(1,some (.mp [⟨.c (.s [119,48,48,48,48,49]),.c (.p 41 0),0⟩] 1)),(2,some (.row T.zoK [.xx 0 0 256 65536,.m 1,.n .i64 (-1),.t false])),(8,some (.mp [] 0)),(9,some (.row T.zDH [.xx 6 0 0 255,.m 8])),(10,some (.mp [] 0)),
 (11,some (.row T.zzK (.xx 3 0 0 63 :: .xx 4 0 0 255 :: .xx 5 0 0 2040 :: .xx 6 0 0 255::i 1::List.replicate 64 (i 0)++[.m 10,i 0,i 0,.p 9 0]))),(12,some (.row T.zt9 [.p 11 0,.p 2 0,.p 15 0,i 0,.t false,.t false])),(15,some (.row T.zGl [.p 2 0,i 1,i 1,.xx 7 0 16 271,.t false])),(41,some (.row T.zvv [.g 42 0 0 9,i 9])),(42,some (.gr T.zY 1 [u 0,u 0,u 0,u 1,u 168,u 62,u 246,u 202,u 1]))]
noncomputable def bwO:List W:=[.c (.p 2 0),.c (.xx 3 0 0 63),.ag [.xx 4 0 0 255,.xx 5 0 0 2040,.xx 6 0 0 255],.c (.xx 7 0 16 271)]
noncomputable def bgO:Stg:=⟨8,bhD,.tp [.c (.p 12 0),.c (i 0)],49,bhO⟩
theorem zNB:bgO.ok (zoa F.zcJ) bwO=true:=by kernel_rfl
noncomputable def bwS:List W:=[.c (.p 12 0)]
noncomputable def bgS:Stg:=⟨49,bhO,.ag [.xx 3 0 0 63,i 1,.nl,.nl,.nl],51,bhO⟩
theorem zND:bgS.ok (zoa F.zal) bwS=true:=by kernel_rfl
noncomputable def bgH:Stg:=⟨49,bhO,.c .nl,50,bhO⟩
theorem zNE:bgH.ok (zoa F.zaN) bwS=true:=by kernel_rfl
noncomputable def bgF:Stg:=⟨49,bhO,.c (.t false),49,bhO⟩
theorem zNF:bgF.ok (zoa F.zH) bwS=true:=by kernel_rfl
noncomputable def bgK:Stg:=⟨1,.e,.tp [.c (.p 2 0),.c (i 0)],3,.e⟩
theorem zNG:bgK.ok (zoa F.zj2) [.c (.xx 0 0 1 8)]=true:=by kernel_rfl
noncomputable def bgX:Stg:=⟨0,.e,.c (.p 0 0),1,.e⟩
theorem zNH:bgX.ok (zoa F.zhr) []=true:=by kernel_rfl
noncomputable def blC:List C:=[i 512,.n .i64 (-1),.t false,.xx 0 0 1 63,.xx 1 0 1 8,.xx 2 0 1 4,.xx 1 0 1 8,i 0,i 0,.t false,.t false,.p 3 0,.p 4 0,.g 8 0 0 1,.nl]
noncomputable def bhL:T O := .ofs .e [(7,some (.row T.zbd blC)),(8,some (.gr T.zma 7 [i 5,i 0,i 0,.t false,i 512,i 0,.nl]))]
noncomputable def bgL:Stg:=⟨3,.e,.tp [.c (.p 7 0),.c (i 0)],9,bhL⟩
theorem zNI:bgL.ok (zoa F.zhq) [.c (i 512),.c (.xx 0 0 1 63),.c (.xx 1 0 1 8),.c (.xx 2 0 1 4)]=true:=by kernel_rfl
noncomputable def bwP:List W:=[.ag [i 5,i 0,i 0,.t false,i 512,i 0,.nl]]
noncomputable def bhP:T O := .ofs .e [(10,some (.gr T.zY 1 [u 3,u 111,u 2,u 0,u 0,u 0]))]
noncomputable def bgP:Stg:=⟨0,.e,.tp [.c (.g 10 0 0 6),.c (i 0)],11,bhP⟩
theorem zNJ:bgP.ok (zoa F.zdu) bwP=true:=by kernel_rfl
noncomputable def bhE:T O := .ofs .e [(26,some (.gr T.zY 1 [u 126,u 3,u 111,u 2,u 0,u 0,u 0,u 203,u 9,u 126]))]
noncomputable def bgE:Stg:=⟨11,bhP,.tp [.c (.g 26 0 0 10),.c (i 0)],27,bhE⟩
theorem zNK:bgE.ok (zoa F.zdv) [.c (.g 10 0 0 6)]=true:=by kernel_rfl
end
end Go.Proofs.YtpnhjkiligohnaaGreatDoor
