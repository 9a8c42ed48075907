/- Part of this proof;laid by program. -/
import Derived.Test.YtpdkkbpkplhdpaaGreatJ10
import Derived.RangeFuncNested
import Derived.RangeFuncBound
import Derived.RangeFuncCalls
import Derived.RangeFuncLeaves
import Derived.Shelf.Abstract
import Derived.Shelf.RegionOpen
import Derived.WalkKit
import Derived.OwnWalkIn
import Derived.TacticsInMore
import Derived.LoopNIn
import Derived.LoopIn
import Derived.Sort.Walk0
import Derived.Test.YtpdkkbpkplhdpaaGreatJ8
import Derived.Test.YtpdkkbpkplhdpaaGreatJ9
import Derived.Shelf.Sort.Plain
import Derived.Shelf.Slices.In.SortNone
set_option linter.unusedVariables false
set_option linter.unusedSimpArgs false
namespace Go.Proofs.YtpdkkbpkplhdpaaGreat
open Go Go.Vm
attribute [local irreducible] Brn Ob Grow CallsM inR zax zav Mem.row Mem.cells Mem.setCells Mem.upd Go.Vm.Own zaD za5 zbc zaJ New SrcOk subA NewSl Mem.textAt Mem.mapAt Mem.iterAt zau zaj Wr NewEls Elems
set_option maxRecDepth 10000
variable {M:Mem}
def zaQ (l:List UInt8):Option (List UInt8×Nat):=
 if l.length<8 then none else if num (l.take 4) 0=0∨65536<num (l.take 4) 0∨l.length - 8<num (l.take 4) 0 then none
 else if zeG (l.take 4++(l.drop 8).take (num (l.take 4) 0))=num ((l.drop 4).take 4) 0 then some ((l.drop 8).take (num (l.take 4) 0),8+num (l.take 4) 0) else none
def zBt (M:Mem) (l:List UInt8) (v:Value) (M':Mem):Prop:=
 (zaQ l=none∧v = .tuple #[.slice none 0 0,.int .i64 0]∧M.le M')∨∃ p k a n c,zaQ l=some (p,k)∧v = .tuple #[.slice a n c,.int .i64 (k:Nat)]∧NewSl M T.zn 1 a n c (p.map zl) M'
theorem zxX (l:List UInt8):num (l.take 4) 0<4294967296:=by
 have h:=zvW (l.take 4) 0;have h2:(l.take 4).length≤4:=by rw[List.length_take];omega
 have h3:256 ^ (l.take 4).length≤256 ^ 4:=Nat.pow_le_pow_right (by decide) h2;omega
theorem zBu {a:Option Addr} {n c:Nat} {l:List UInt8} (hs:SrcOk M 1 a n (l.map zl)) (hn:n≤2097152) (hnc:n≤c):CallsM Tryz.prog F.zhB [.slice a n c] M (zBt M l):=by
 refine zru (by simp) ?_;have hl:=hs.maplen
 have hd0:l.drop (0:Int).toNat=l:=rfl;have h4':(4:Int).toNat=4:=rfl
 refine zR ?_;by_cases h4:n<4
 ·have he:zb5 n 0 4=2:=by unfold zb5;rw[if_neg (by omega),if_pos (by omega)]
  have he2:zb5 n 4 4=2:=by unfold zb5;rw[if_neg (by omega),if_pos (by omega)]
  have hno:zaQ l=none:=by unfold zaQ;rw[if_pos (by omega)]
  refine(zl7 a n c M 0 4 (by rw[he];decide) (by omega)).mono ?_;rintro v _ ⟨rfl,rfl⟩;rw[he];refine zR ?_;refine(zl7 a n c M 4 4 (by rw[he2];decide) (by omega)).mono ?_;rintro v _ ⟨rfl,rfl⟩;refine zR ?_;exact .inl ⟨hno,rfl,Mem.le_refl _⟩
 have he:zb5 n 0 4=0:=by unfold zb5;rw[if_neg (by omega),if_neg (by omega)]
 refine(zfX a n c M l hs (by omega) hnc 0 4 he).mono ?_;rintro v _ ⟨rfl,rfl⟩;have e1:zb6 l 0 4=num (l.take 4) 0:=rfl
 rw[e1];have hk4:=zxX l
 obtain⟨k,hk⟩:∃ k,k=num (l.take 4) 0:=⟨_,rfl⟩
 rw[←hk] at hk4 ⊢;refine zR ?_;by_cases h8:n<8
 ·have he2:zb5 n 4 4=2:=by unfold zb5;rw[if_neg (by omega),if_pos (by omega)]
  have hno:zaQ l=none:=by unfold zaQ;rw[if_pos (by omega)]
  refine(zl7 a n c M 4 4 (by rw[he2];decide) (by omega)).mono ?_;rintro v _ ⟨rfl,rfl⟩;rw[he2];refine zR ?_;exact .inl ⟨hno,rfl,Mem.le_refl _⟩
 have he2:zb5 n 4 4=0:=by unfold zb5;rw[if_neg (by omega),if_neg (by omega)]
 refine(zfX a n c M l hs (by omega) hnc 4 4 he2).mono ?_;rintro v _ ⟨rfl,rfl⟩;have e2:zb6 l 4 4=num ((l.drop 4).take 4) 0:=rfl
 rw[e2];have hq4:=zxX (l.drop 4)
 obtain⟨q,hq⟩:∃ q,q=num ((l.drop 4).take 4) 0:=⟨_,rfl⟩
 rw[←hq] at hq4 ⊢;refine zR ?_;refine brn (fun g=>?_) (fun g=>?_)
 ·have g1:k=0:=by have:=Zd0 g;omega
  have hno:zaQ l=none:=by unfold zaQ;rw[if_neg (by omega),if_pos (.inl (by omega))]
  refine zR ?_;exact .inl ⟨hno,rfl,Mem.le_refl _⟩
 have g1:¬k=0:=by have:=Zd1 g;omega
 refine zR ?_;refine brn (fun g=>?_) (fun g=>?_)
 ·have g2:65536<k:=by have:=Zd0 g;omega
  have hno:zaQ l=none:=by unfold zaQ;rw[if_neg (by omega),if_pos (.inr (.inl (by omega)))]
  refine zR ?_;exact .inl ⟨hno,rfl,Mem.le_refl _⟩
 have g2:¬65536<k:=by have:=Zd1 g;omega
 refine zR ?_;refine ob (zd (by first|omega|(dsimp only;omega))) ?_;(conv=>whnf)
 rw[zgM (n:=(n:Int) - 8) (by omega)];refine brn (fun g=>?_) (fun g=>?_)
 ·have g3:n - 8<k:=by have:=Zd0 g;omega
  have hno:zaQ l=none:=by unfold zaQ;rw[if_neg (by omega),if_pos (.inr (.inr (by omega)))]
  refine zR ?_;exact .inl ⟨hno,rfl,Mem.le_refl _⟩
 have g3:¬n - 8<k:=by have:=Zd1 g;omega
 (conv=>whnf);rw[znO (n:=(k:Int)) (by omega)];refine ob (zd (by first|omega|(dsimp only;omega))) ?_;(conv=>whnf)
 refine ob (by omega) ?_;(conv=>whnf)
 refine ob (by omega) ?_;have hp:=hs.subm (lo:=8) (hi:=8+k) (c:=c) (by omega) (by omega) hnc
 have ht:=hs.subm (lo:=0) (hi:=4) (c:=c) (by omega) (by omega) hnc;have t1:(8+(k:Int)).toNat - Int.toNat 8=k:=by show (8+(k:Int)).toNat - 8=k;omega
 have t2:Int.toNat 4 - Int.toNat 0=4:=rfl;have t3:Int.toNat 8=8:=rfl
 have t4:Int.toNat 0=0:=rfl;rw[t1,t2,t3,t4];rw[show 8+k - 8=k by omega] at hp;rw[Nat.sub_zero,List.drop_zero] at ht;generalize subA a 8 c 1=ap at hp ⊢;generalize subA a 0 c 1=at' at ht ⊢;obtain⟨pl,hpl⟩:∃ pl,pl=(l.drop 8).take k:=⟨_,rfl⟩
 rw[←hpl] at hp;have hpll:=hp.maplen
 (conv=>whnf);refine new (fun b2 hb2=>?_);replace hb2:M b2=none:=hb2;have hle2:M.le (M.setCells b2 T.zaK [.slice at' 4 (c - 0),.slice ap k (c - 8)]):=Mem.le_setCells hb2
 have hs2:SrcOk (M.setCells b2 T.zaK [.slice at' 4 (c - 0),.slice ap k (c - 8)]) 1 (some ⟨b2,0,none⟩) 2 [.slice at' 4 (c - 0),.slice ap k (c - 8)]:=SrcOk.lit rfl;obtain⟨M2,hM2⟩:∃ M2,M2=M.setCells b2 T.zaK [.slice at' 4 (c - 0),.slice ap k (c - 8)]:=⟨_,rfl⟩
 rw[←hM2] at hle2 hs2;(conv=>whnf)
 erw [←hM2]
 have hE:Elems M2 1 (some ⟨b2,0,none⟩) 2 (znN M2) [l.take 4,pl]:=by
  unfold Elems;refine⟨[[.slice at' 4 (c - 0)],[.slice ap k (c - 8)]],hs2,rfl,rfl,by simp,fun i cs x hi hx=>?_⟩
  match i,hi,hx with
  | 0,hi,hx=>cases hi;cases hx;exact⟨at',4,c - 0,rfl,by omega,ht.le hle2⟩
  | 1,hi,hx=>cases hi;cases hx;exact⟨ap,k,c - 8,rfl,by omega,hp.le hle2⟩
  | i+2,hi,hx=>simp at hi
 refine(zrv hE (by decide) (fun x hx=>by
  rcases List.mem_cons.1 hx with rfl|hx
  ·rw[List.length_take];omega
  ·simp at hx;subst hx;omega)).mono ?_
 rintro v _ ⟨rfl,rfl⟩;have hfl:[l.take 4,pl].flatten=l.take 4++pl:=by simp
 rw[hfl];have hsr:=zhe (l.take 4++pl)
 obtain⟨z,hz⟩:∃ z,z=zeG (l.take 4++pl):=⟨_,rfl⟩
 rw[←hz] at hsr ⊢
 have hf:zaQ l=if z=q then some (pl,8+k) else none:=by
  unfold zaQ;rw[if_neg (by omega),if_neg (by omega),←hk,←hq,←hpl,←hz]
 (conv=>whnf);rw[zgM (n:=z) (by omega)];refine brn (fun g=>?_) (fun g=>?_)
 ·have g4:¬z=q:=by simpa using g
  have hno:zaQ l=none:=by rw[hf,if_neg g4]
  refine zR ?_;exact .inl ⟨hno,rfl,hle2⟩
 have g4:z=q:=by simpa using g
 have hyes:zaQ l=some (pl,8+k):=by rw[hf,if_pos g4]
 (conv=>whnf);refine new (fun b3 hb3=>?_);replace hb3:M2 b3=none:=hb3;have hN3:NewSl M2 T.zn 1 (some ⟨b3,0,none⟩) 0 0 (([]:List UInt8).map zl) _:=NewSl.lit hb3 T.zn 1 0 [] rfl
 obtain⟨M3,hM3⟩:∃ M3,M3=M2.setCells b3 T.zn []:=⟨_,rfl⟩
 rw[←hM3] at hN3;(conv=>whnf)
 erw [←hM3];refine zdR ((hp.le hle2).le hN3.le) ?_;(conv=>whnf);refine ze6 M2 _ hN3 (by omega) (by simp[maxLen];omega) (zco pl) fun a4 c4 M4 hN4=>?_
 (conv=>whnf);rw[znO (n:=(k:Int)) (by omega)];refine ob (zd (by first|omega|(dsimp only;omega))) ?_;refine zR ?_;refine .inr ⟨pl,8+k,a4,0+k,c4,hyes,?_,?_⟩
 ·rw[Int.natCast_add];rfl
 ·rw[←List.map_append,List.nil_append] at hN4;exact hN4.mono hle2
end Go.Proofs.YtpdkkbpkplhdpaaGreat
namespace Go.Vm
open Go.RowKit
theorem WLe.refl (W:World):WLe W W:=⟨rfl,rfl,rfl,Nat.le_refl _,Nat.le_refl _,fun _ _ h=>h⟩
theorem CallsM.world {P:Program} {f:Nat} {args:List Value} {M:Mem} {R:Value→Mem→Prop} (h:CallsM P f args M R) {w:World} (hM:M.le (zy w)) (hR:∀ v M',R v M'→M.le M') :
  Calls P f args.toArray w fun e w'=>∃ v M',e = .returned v∧R v M'∧M'.le (zy w')∧WLe w w'∧∀ b,M b=none→M' b≠none→w.heap.size≤b:=by
 obtain⟨F,hF⟩:∃ F:Mem,F=fun b=>if M b=none then zy w b else none:=⟨_,rfl⟩
 refine(h.2 F w hM (fun b o hb=>?_) (fun b=>?_)).mono ?_
 ·rw[hF] at hb;dsimp only at hb;split at hb
  ·exact hb
  ·cases hb
 ·by_cases e:M b=none
  ·exact .inl e
  ·right;rw[hF];dsimp only;rw[if_neg e]
 ·rintro e w' ⟨v,M',he,hr,hM',hF',hdj,h1,h2,h3,h4,h5⟩;refine⟨v,M',he,hr,hM',⟨h1,h2,h3,h5,h4,fun k o hk=>?_⟩,fun b hb hb'=>?_⟩
  ·by_cases e:M k=none
   ·exact hF' k o (by rw[hF];dsimp only;rw[if_pos e];exact hk)
   ·obtain⟨z,hz⟩:=Option.ne_none_iff_exists'.1 e;have h6:=hM k z hz
    have:o=z:=Option.some.inj (hk.symm.trans h6);subst this;exact hM' k o (hR v M' hr k o hz)
  ·have h6:=(hdj b).resolve_left hb';rw[hF] at h6;dsimp only at h6;rw[if_pos hb] at h6;apply Classical.byContradiction;intro hlt;have:w.heap[b]? = none:=h6
   rw[Array.getElem?_eq_none_iff] at this;exact hlt this
theorem zD7 {P:Program} {asg body:(Exit→St→Prop)→St→Prop} {ps:List Nat} {gf:Nat} {lb:List Value} {Q:Exit→St→Prop} {fr:List (Nat×SV)} {bx:List BE} {M:Mem} {α:Type} {encs:α→List Value} {A:Mem} {N:Nat} {PM:α→Mem→Prop} {D:List α→Prop}
  (hit:zyo P gf lb encs A N PM D) (hen:zfy P gf=true) (hbx:bx.all zCm=true) (hA:A.le M) (hlen:∀ x,(encs x).length=ps.length) (I:List α→Mem→Prop) (M0:Mem) (hM0:M0.le M) (hAM:∀ b,A b≠none→M0 b=none) (hI:I [] M0)
  (hround:∀ pre x M Mx M1,I pre M→pre.length<N→PM x Mx→(∀ b,Mx b≠none→M b=none∧A b=none)→M.le M1→Mx.le M1 →
   asg (fun e t=>e = .normal∧body (fun e t'=>e = .normal∧∃ M2,I (pre++[x]) M2∧M2.le t'.M) t) ⟨zyp ps (encs x) fr,bx,M1⟩)
  (hdone:∀ xs M M1,D xs→I xs M→(∀ b,A b≠none→M b=none)→M.le M1→A.le M1→Q .normal ⟨fr,bx,M1⟩):zxQ P asg body ps gf lb Q ⟨fr,bx,M⟩:=
 ⟨hen,hbx,α,encs,A,N,PM,D,I,hit,hA,hlen,⟨M0,hM0,hAM,hI⟩,hround,hdone⟩
end Go.Vm
namespace Go.Proofs.YtpdkkbpkplhdpaaGreat
open Go Go.RowKit Go.Shelf Go.Vm Go.Proofs
attribute [local go_sem] Oper.semAt_some
structure zfB where
 at':Nat
 a:Option Addr
 n:Nat
 c:Nat
 p:List UInt8
def zy7 (x:zfB):List Value:=[.int .i64 x.at',.slice x.a x.n x.c]
def PMX (x:zfB) (Mx:Mem):Prop:=x.at'≤2097152∧x.n≤65536∧Wr Mx T.zn 1 x.a x.n x.c (x.p.map zl)∧∀ b,Mx b≠none→z6 x.a b
def zfY:Nat→List UInt8→List (List UInt8)
 | 0,_=>[]
 | f+1,l=>match zaQ l with|none=>[]|some (p,k)=>p::zfY f (l.drop k)
def zaN (l:List UInt8):List (List UInt8):=zfY l.length l
def zae (ps:List (List UInt8)):Nat:=(ps.map fun p=>8+p.length).sum
theorem zdu {l p:List UInt8} {k:Nat} (h:zaQ l=some (p,k)):k=8+p.length∧k≤l.length∧1≤p.length∧p.length≤65536∧p=(l.drop 8).take p.length:=by
 unfold zaQ at h;split at h
 ·cases h
 ·split at h
  ·cases h
  ·split at h
   ·cases h;rw[List.length_take,List.length_drop];refine⟨by omega,by omega,by omega,by omega,?_⟩;congr 1;omega
   ·cases h
theorem zy8 {l:List UInt8}:∀ {f g:Nat},l.length≤f→l.length≤g→zfY f l=zfY g l:=by
 have key:∀ (m:Nat) (l:List UInt8),l.length≤m→∀ f g,l.length≤f→l.length≤g→zfY f l=zfY g l:=by
  intro m
  induction m with
  | zero=>
   intro l hl f g hf hg;have h0:zaQ l=none:=by unfold zaQ;rw[if_pos (by omega)]
   cases f<;>cases g<;>simp[zfY,h0]
  | succ m ih=>
   intro l hl f g hf hg;cases hx:zaQ l with
   | none=>cases f<;>cases g<;>simp[zfY,hx]
   | some q=>
    obtain⟨p,k⟩:=q;obtain⟨h1,h2,h3, -⟩:=zdu hx
    match f,g,hf,hg with
    | 0,_,hf,_=>omega
    | _+1,0,_,hg=>omega
    | f+1,g+1,hf,hg=>
     simp only[zfY,hx];congr 1;exact ih _ (by rw[List.length_drop];omega) _ _ (by rw[List.length_drop];omega) (by rw[List.length_drop];omega)
 intro f g hf hg;exact key l.length l (Nat.le_refl _) f g hf hg
theorem zhf {l:List UInt8} (h:zaQ l=none):zaN l=[]:=by
 unfold zaN;cases l.length<;>simp[zfY,h]
theorem zhg {l p:List UInt8} {k:Nat} (h:zaQ l=some (p,k)):zaN l=p::zaN (l.drop k):=by
 obtain⟨h1,h2,h3, -⟩:=zdu h;have e:zaN l=zfY ((l.length - 1)+1) l:=by unfold zaN;rw[show l.length - 1+1=l.length by omega]
 rw[e];simp only[zfY,h];congr 1;exact zy8 (by rw[List.length_drop];omega) (Nat.le_refl _)
def AtX:Nat→List zfB→Prop
 | _,[]=>True
 | k,x::r=>x.at'=k∧x.n=x.p.length∧AtX (k+(8+x.p.length)) r
theorem zlb (ps qs:List (List UInt8)):zae (ps++qs)=zae ps+zae qs:=by simp[zae]
theorem AtX.snoc {x:zfB}:∀ {k:Nat} {xs:List zfB},AtX k xs→x.at'=k+zae (xs.map (·.p))→x.n=x.p.length→AtX k (xs++[x])
 | k,[],_,h1,h2=>⟨by simpa[zae] using h1,h2,trivial⟩
 | k,y::r,⟨h3,h4,h5⟩,h1,h2=>⟨h3,h4,h5.snoc (by rw[h1];simp[zae];omega) h2⟩
def DX (l:List UInt8) (xs:List zfB):Prop:=xs.map (·.p)=zaN l∧AtX 0 xs
theorem zvX {M:Mem} {a:Option Addr} {n c:Nat} {l:List UInt8} (hs:SrcOk M 1 a n (l.map zl)) (hn:n≤2097152) (hnc:n≤c) {w:World} (hM:M.le (zy w)) :
  CallsIn Fence.wide 0 Tryz.prog F.zhB #[.slice a n c] w fun e w'=>WLe w w'∧∃ x:zfB,(zaQ l=none∧e = .returned (.tuple #[.slice none 0 0,.int .i64 0])) ∨
   (zaQ l=some (x.p,8+x.p.length)∧x.n=x.p.length∧e = .returned (.tuple #[.slice x.a x.n x.c,.int .i64 ((8+x.p.length:Nat):Int)])∧∃ Mx,PMX x Mx∧Mx.le (zy w')∧∀ b,Mx b≠none→w.heap.size≤b):=by
 refine callsIn_wide.2 ?_;refine((zBu hs hn hnc).world hM ?_).mono ?_
 ·rintro v M' (⟨-, -, h⟩|⟨p,k,a',n',c', -, -, h⟩)
  ·exact h
  ·exact h.le
 ·rintro e w' ⟨v,M',rfl,(⟨h1,rfl, -⟩|⟨p,k,a',n',c',h1,rfl,hN⟩),hM',hle,hfr⟩
  ·exact⟨hle,⟨0,none,0,0,[]⟩,.inl ⟨h1,rfl⟩⟩
  ·obtain⟨h2, -, -, h4, -⟩:=zdu h1;have hl:=hN.src.maplen
   subst h2
   classical
   obtain⟨Mx,hMx⟩:∃ Mx:Mem,Mx=fun b=>if z6 a' b then M' b else none:=⟨_,rfl⟩
   have hxle:Mx.le M':=fun b o hb=>by
    rw[hMx] at hb;dsimp only at hb;split at hb
    ·exact hb
    ·cases hb
   have hxb:∀ b,Mx b≠none→z6 a' b:=fun b hb=>by
    rw[hMx] at hb;dsimp only at hb;split at hb
    ·assumption
    ·exact absurd rfl hb
   refine⟨hle,⟨0,a',n',c',p⟩,.inr ⟨h1,hl.symm,rfl,Mx,⟨Nat.zero_le _,?_,?_,hxb⟩,fun b o hb=>hM' b o (hxle b o hb),fun b hb=>?_⟩⟩
   ·show n'≤65536;omega
   ·refine hN.wr.mono fun q o hq ho=>?_
    rw[hMx];dsimp only;rw[if_pos ⟨q,hq,rfl⟩];exact ho
   ·obtain⟨q,hq,rfl⟩:=hxb b hb;have h5:=hN.block hq
    refine hfr _ h5.1 ?_;obtain⟨cs,hcs⟩:=h5.2;unfold Mem.has at hcs;rw[hcs];simp
set_option maxRecDepth 100000 in
set_option maxHeartbeats 2000000 in
theorem zCS {A:Mem} {a:Option Addr} {n c B:Nat} {l:List UInt8} (hs:SrcOk A 1 a n (l.map zl)) (hn:n≤2097152) (hnc:n≤c) (hB:A.has B T.zaK [.slice a n c]) :
  zyo Tryz.prog F.zhb [.pointer (some ⟨B,0,none⟩)] zy7 A n PMX (DX l):=fun lp J W hAW hY h0=>by
 refine callsIn_of_wp Tryz.func203 rfl trivial ?_ rfl;simp only[Tryz.ntmps203,List.size_toArray,List.length_cons,List.length_nil,Nat.reduceAdd,Nat.reduceSub,Array.replicate_succ,Array.replicate_zero,List.push_toArray,List.append_toArray,List.nil_append,List.cons_append]
 gi_wp2
 gi_loopw [3] (fun p wr=>∃ (pre:List zfB) (k:Nat) (Wp:World),p = .int .i64 k∧k≤n∧J pre Wp∧WLe Wp wr∧A.le (zy wr)∧zaN l=pre.map (·.p)++zaN (l.drop k)∧k=zae (pre.map (·.p))∧AtX 0 pre)
  (fun p _=>n - (intOf p).toNat)
 case atStart=>
  exact⟨[],0,W,rfl,Nat.zero_le _,h0,WLe.refl _,hAW,by simp,rfl,trivial⟩
 case round=>
  obtain⟨pre,k,Wp,rfl,hk,hJp,hwp,hle,hsc,hkl,hat⟩:=hrel
  have hb:wr.cell? ⟨B,0,none⟩=some (.slice a n c):=by
   have:=hle B _ hB;unfold World.cell?;rw[show wr.heap[B]? = _ from this];rfl
  have hsub:=hs.subm (lo:=k) (hi:=n) (c:=c) hk (Nat.le_refl _) hnc;have hll:=hs.maplen
  have htk:(l.drop k).take (n - k)=l.drop k:=List.take_of_length_le (by rw[List.length_drop];omega);rw[htk] at hsub;have H1:Hid (k=zae (pre.map (·.p))):=hkl
  have H2:Hid (SrcOk A 1 (subA a k c 1) (n - k) ((l.drop k).map zl)):=hsub;have H3:Hid (A.le (zy wr)):=hle
  have H4:Hid (zaN l=pre.map (·.p)++zaN (l.drop k)):=hsc;have H5:Hid (l.length=n):=hll
  have H9:Hid (WLe Wp wr):=hwp;clear hkl hsub hle hsc htk hll hwp
  gi_wp2
  ·refine⟨trivial,rfl,?_⟩;refine(zvX (l:=l.drop k) (a:=a) (n:=n - k) (c:=0) (by have h2:=H2.out;unfold subA at h2;rw[if_pos h] at h2;exact h2) (by omega) (by omega) H3.out).mono ?_;rintro e w' ⟨hle',x,(⟨hf,rfl⟩|⟨hf,hxn,rfl,Mx,hPM,hMx,hfr⟩)⟩
   ·have H6:Hid (zaQ (l.drop k)=none):=hf;have H10:Hid (WLe wr w'):=hle'
    clear hf hle'
    gi_wp2
    refine⟨fun _ h=>(by cases h),?_⟩
    gi_wp2
    refine bodyPost_ret (results_none rfl _ _ _) rfl ?_;refine⟨⟨_,rfl⟩,pre,Wp,⟨?_,hat⟩,hJp,H9.out.trans H10.out⟩;have h4:=H4.out
    rw[zhf H6.out,List.append_nil] at h4;exact h4.symm
   ·have hfs:=zdu hf;have H6:Hid (zaQ (l.drop k)=some (x.p,8+x.p.length)):=hf
    have H8:Hid (x.n=x.p.length):=hxn;have H10:Hid (WLe wr w'):=hle'
    have hlen:pre.length<n:=by
     have h1:=H1.out;have h5:=H5.out
     have h9:8*(pre.map (·.p)).length≤zae (pre.map (·.p)):=by
      generalize pre.map (·.p)=ps
      induction ps with
      | nil=>simp
      | cons y r ih=>simp only[zae,List.map_cons,List.sum_cons,List.length_cons] at ih ⊢; omega
     rw[List.length_map] at h9;have h10:=hfs.2.1;rw[List.length_drop] at h10
     omega
    obtain⟨fn,tmps,assign,body,hy,hR⟩:=hY pre { x with at':=k } Wp w' Mx hJp (H9.out.trans hle') (fun b o hb=>hle'.same b o (H3.out b o hb)) hlen ⟨Nat.le_trans hk hn,hPM.2⟩ hMx (fun b hb=>Nat.le_trans H9.out.size (hfr b hb));dsimp only [zy7] at hy;clear hf hfs hxn hPM hMx hfr hle'
    gi_wp2
    refine⟨rfl,?_⟩;refine hR.mono ?_;rintro e W3 ⟨rfl,hJ3,hk3⟩
    gi_wp2
    have h10:=zdu H6.out;have h5:=H5.out
    have h11:=h10.2.1;rw[List.length_drop] at h11
    have hw64:wrap64 ((k:Int)+(8+(x.p.length:Int)))=((k+(8+x.p.length):Nat):Int):=by
     simp only[wrap64];omega
    rw[hw64];refine⟨⟨pre++[{ x with at':=k }],k+(8+x.p.length),W3,rfl,by omega,hJ3,WLe.refl _,hk3,?_,?_,hat.snoc ?_ H8.out⟩,?_⟩
    ·rw[H4.out,zhg H6.out,List.drop_drop];simp
    ·have h1:=H1.out;rw[List.map_append,zlb,←h1];simp[zae]
    ·have h1:=H1.out;dsimp only;omega
    ·simp only[intOf];omega
  ·refine⟨trivial,rfl,?_⟩;refine(zvX (l:=l.drop k) (a:=a.map fun x=>x.add k) (n:=n - k) (c:=c - k) (by have h2:=H2.out;unfold subA at h2;rw[if_neg h,Nat.mul_one] at h2;exact h2) (by omega) (by omega) H3.out).mono ?_;rintro e w' ⟨hle',x,(⟨hf,rfl⟩|⟨hf,hxn,rfl,Mx,hPM,hMx,hfr⟩)⟩
   ·have H6:Hid (zaQ (l.drop k)=none):=hf;have H10:Hid (WLe wr w'):=hle'
    clear hf hle'
    gi_wp2
    refine⟨fun _ h=>(by cases h),?_⟩
    gi_wp2
    refine bodyPost_ret (results_none rfl _ _ _) rfl ?_;refine⟨⟨_,rfl⟩,pre,Wp,⟨?_,hat⟩,hJp,H9.out.trans H10.out⟩;have h4:=H4.out
    rw[zhf H6.out,List.append_nil] at h4;exact h4.symm
   ·have hfs:=zdu hf;have H6:Hid (zaQ (l.drop k)=some (x.p,8+x.p.length)):=hf
    have H8:Hid (x.n=x.p.length):=hxn;have H10:Hid (WLe wr w'):=hle'
    have hlen:pre.length<n:=by
     have h1:=H1.out;have h5:=H5.out
     have h9:8*(pre.map (·.p)).length≤zae (pre.map (·.p)):=by
      generalize pre.map (·.p)=ps
      induction ps with
      | nil=>simp
      | cons y r ih=>simp only[zae,List.map_cons,List.sum_cons,List.length_cons] at ih ⊢; omega
     rw[List.length_map] at h9;have h10:=hfs.2.1;rw[List.length_drop] at h10
     omega
    obtain⟨fn,tmps,assign,body,hy,hR⟩:=hY pre { x with at':=k } Wp w' Mx hJp (H9.out.trans hle') (fun b o hb=>hle'.same b o (H3.out b o hb)) hlen ⟨Nat.le_trans hk hn,hPM.2⟩ hMx (fun b hb=>Nat.le_trans H9.out.size (hfr b hb));dsimp only [zy7] at hy;clear hf hfs hxn hPM hMx hfr hle'
    gi_wp2
    refine⟨rfl,?_⟩;refine hR.mono ?_;rintro e W3 ⟨rfl,hJ3,hk3⟩
    gi_wp2
    have h10:=zdu H6.out;have h5:=H5.out
    have h11:=h10.2.1;rw[List.length_drop] at h11
    have hw64:wrap64 ((k:Int)+(8+(x.p.length:Int)))=((k+(8+x.p.length):Nat):Int):=by
     simp only[wrap64];omega
    rw[hw64];refine⟨⟨pre++[{ x with at':=k }],k+(8+x.p.length),W3,rfl,by omega,hJ3,WLe.refl _,hk3,?_,?_,hat.snoc ?_ H8.out⟩,?_⟩
    ·rw[H4.out,zhg H6.out,List.drop_drop];simp
    ·have h1:=H1.out;rw[List.map_append,zlb,←h1];simp[zae]
    ·have h1:=H1.out;dsimp only;omega
    ·simp only[intOf];omega
end Go.Proofs.YtpdkkbpkplhdpaaGreat
namespace Go.Vm
theorem MapAt.relabel {κ α:Type} [DecidableEq κ] {kv:κ→Value} {vv:α→Value} {M:Mem} {b:Nat} {m:List (κ×α)} (h:MapAt kv vv M b m) (f:κ×α→α) (hf:∀ q∈m,vv (f q)=vv q.2):MapAt kv vv M b (m.map fun q=>(q.1,f q)):=by
 obtain⟨l,c,h1,h2,rfl⟩:=h;refine⟨l.map fun q=>(q.1,q.2.1,f q.2),c,?_,⟨?_,?_,?_⟩,?_⟩
 ·rw[h1];unfold zch;congr 2;rw[List.map_map];congr 1;apply List.map_congr_left;intro q hq;simp only[Function.comp_apply,zbY,hf q.2 (List.mem_map.2 ⟨q,hq,rfl⟩)]
 ·have:=h2.keys;simpa[List.map_map,Function.comp_def] using this
 ·intro q hq;obtain⟨q',hq',rfl⟩:=List.mem_map.1 hq;exact h2.old q' hq'
 ·have:=h2.apart;simpa[List.map_map,Function.comp_def] using this
 ·simp[List.map_map,Function.comp_def]
section
variable {κ α:Type} [DecidableEq κ]
theorem zAn {l:List (κ×α)} {k:κ} {x:α} (h:zD l k=some x):zcA l k x=l:=by
 induction l with
 | nil=>rfl
 | cons q r ih=>
  obtain⟨a,y⟩:=q;simp only[zD] at h;simp only[zcA];split at h
  ·rename_i e;cases h;rw[if_pos e,e]
  ·rename_i e;rw[if_neg e,ih h]
theorem zAo (l:List (κ×α)) (k:κ) (x y:α):zcA (zcA l k x) k y=zcA l k y:=by
 induction l with
 | nil=>rfl
 | cons q r ih=>
  obtain⟨a,z⟩:=q;simp only[zcA];split
  ·simp[zcA]
  ·rename_i e;simp only[zcA,if_neg e,ih]
theorem zxw {l:List (κ×α)} {k:κ} {x y:α} (h:zD l k=none):zcA (l++[(k,x)]) k y=l++[(k,y)]:=by
 induction l with
 | nil=>simp[zcA]
 | cons q r ih=>
  obtain⟨a,z⟩:=q;simp only[zD] at h;split at h
  ·cases h
  ·rename_i e;simp only[List.cons_append,zcA,if_neg e,ih h]
theorem znP (l:List (κ×α)) (k:κ) (x y:α):zQ (zQ l k x) k y=zQ l k y:=by
 cases h:zD l k with
 | some z=>
  have e1:∀ w,zQ l k w=zcA l k w:=fun w=>by simp[zQ,h]
  have e2:zD (zcA l k x) k=some x:=by rw[ztf];simp[h]
  rw[e1,e1];simp only[zQ,e2,zAo]
 | none=>
  have e1:∀ w,zQ l k w=l++[(k,w)]:=fun w=>by simp[zQ,h]
  have e2:zD (l++[(k,x)]) k=some x:=by rw[zo9,h];simp[zD]
  rw[e1,e1];simp only[zQ,e2,zxw h]
theorem ziW {l:List (κ×α)} {k:κ} {x:α} (hn:(l.map (·.1)).Nodup) (h:zD l k=some x) (y:α):∃ u v,l=u++(k,x)::v∧zcA l k y=u++(k,y)::v∧(∀ q∈u,q.1≠k)∧∀ q∈v,q.1≠k:=by
 induction l with
 | nil=>cases h
 | cons q r ih=>
  obtain⟨a,z⟩:=q;simp only[List.map_cons,List.nodup_cons] at hn;simp only[zD] at h;split at h
  ·rename_i e;subst e;cases h;exact⟨[],r,rfl,by simp[zcA],by simp,fun q hq e=>hn.1 (e▸List.mem_map.2 ⟨q,hq,rfl⟩)⟩
  ·rename_i e;obtain⟨u,v,h1,h2,h3,h4⟩:=ih hn.2 h;refine⟨(a,z)::u,v,by rw[h1];rfl,by simp only[zcA,if_neg e,h2];rfl,fun q hq=>?_,h4⟩;rcases List.mem_cons.1 hq with rfl|hq
   ·exact e
   ·exact h3 q hq
end
end Go.Vm
namespace Go.Proofs.YtpdkkbpkplhdpaaGreat
open Go Go.Vm
section
def bl (b:ByteArray):List UInt8:=b.data.toList
theorem zkv (b:ByteArray):b.toList=bl b:=by simp[ByteArray.toList_eq,bl]
theorem zjN {a b:ByteArray} (h:bl a=bl b):a=b:=ByteArray.ext (Array.toList_inj.1 h)
theorem ziX (l:List UInt8):bl ⟨l.toArray⟩=l:=by simp[bl]
theorem zEF (b:ByteArray):(⟨(bl b).toArray⟩:ByteArray)=b:=by apply ByteArray.ext;simp[bl]
theorem zad (a b:ByteArray):bl (a++b)=bl a++bl b:=by simp[bl,ByteArray.data_append]
theorem zaH (b:ByteArray):(bl b).length=b.size:=by simp[bl]
def zfZ (a b:ByteArray):Bool:=Op.bytesLess a.toList b.toList
theorem zgN (a b:ByteArray):zfZ a b=true↔bl a<bl b:=by
 unfold zfZ;rw[Go.Proofs.bytesLess_eq,zkv,zkv];exact decide_eq_true_iff
theorem zcP (a:ByteArray):zfZ a a=false:=by
 rw[←Bool.not_eq_true,zgN];exact List.lt_irrefl _
theorem zpa {a b c:ByteArray} (h:zfZ a b=true) (h':zfZ b c=true):zfZ a c=true:=by
 rw[zgN] at *; exact List.lt_trans h h'
theorem zAp {a b:ByteArray} (h:zfZ a b=false) (hne:a≠b):zfZ b a=true:=by
 rw[←Bool.not_eq_true,zgN] at h;rw[zgN];apply Classical.byContradiction;intro h';exact hne (zjN (List.le_antisymm h' h))
structure FileR where
 name:ByteArray
 safe:ByteArray
 tail:ByteArray
def FileR.all (f:FileR):ByteArray:=f.safe++f.tail
structure zf where
 limit:Int
 l:List FileR
 left:Int
 down:Bool
def SortedR (L:List FileR):Prop:=L.Pairwise fun x y=>zfZ x.name y.name=true
def zg (L:List FileR) (n:ByteArray):Option FileR:=L.find? fun f=>decide (f.name=n)
def zaX (L:List FileR):Nat:=(L.map fun f=>f.safe.size+f.tail.size).sum
def zar (L:List FileR) (n:ByteArray):List FileR:=L.filter fun f=>decide (f.name≠n)
def zhD (f:FileR):List FileR→List FileR
 | []=>[f]
 | x::r=>if zfZ f.name x.name=true then f::x::r else x::zhD f r
def zaO (L:List FileR) (f:FileR):List FileR:=zhD f (zar L f.name)
theorem zql (f x:FileR):∀ L,x∈zhD f L↔x=f∨x∈L
 | []=>by simp[zhD]
 | y::r=>by
  unfold zhD;split
  ·simp
  ·simp only[List.mem_cons,zql f x r];constructor
   ·rintro (h|h|h)
    ·exact .inr (.inl h)
    ·exact .inl h
    ·exact .inr (.inr h)
   ·rintro (h|h|h)
    ·exact .inr (.inl h)
    ·exact .inl h
    ·exact .inr (.inr h)
theorem zpb {f:FileR}:∀ {L:List FileR},SortedR L→(∀ x∈L,x.name≠f.name)→SortedR (zhD f L)
 | [],_,_=>by simp[zhD,SortedR]
 | y::r,h,hne=>by
  obtain⟨h1,h2⟩:=List.pairwise_cons.1 h;unfold zhD;split
  ·rename_i hl;refine List.pairwise_cons.2 ⟨fun x hx=>?_,h⟩;rcases List.mem_cons.1 hx with rfl|hx
   ·exact hl
   ·exact zpa hl (h1 x hx)
  ·rename_i hl;refine List.pairwise_cons.2 ⟨fun x hx=>?_,zpb h2 fun x hx=>hne x (by simp[hx])⟩;rcases(zql f x r).1 hx with rfl|hx
   ·exact zAp (by simpa using hl) (fun e=>hne y (by simp) e.symm)
   ·exact h1 x hx
theorem zgp (f:FileR):∀ L,(zhD f L).length=L.length+1
 | []=>rfl
 | y::r=>by unfold zhD;split<;>simp[zgp f r]
theorem zh3 (f:FileR):∀ L,zaX (zhD f L)=f.safe.size+f.tail.size+zaX L
 | []=>by simp[zhD,zaX]
 | y::r=>by
  unfold zhD;split
  ·simp[zaX]
  ·have:=zh3 f r;simp only[zaX,List.map_cons,List.sum_cons] at this ⊢;omega
theorem zdC {L:List FileR} (h:SortedR L) (n:ByteArray):SortedR (zar L n):=h.filter _
theorem withoutR_mem {L:List FileR} {n:ByteArray} {x:FileR}:x∈zar L n↔x∈L∧x.name≠n:=by simp[zar]
theorem zfC {L:List FileR} (h:SortedR L) (f:FileR):SortedR (zaO L f):=zpb (zdC h _) fun _ hx=>(withoutR_mem.1 hx).2
theorem withR_mem {L:List FileR} {f x:FileR}:x∈zaO L f↔x=f∨(x∈L∧x.name≠f.name):=by rw[zaO,zql,withoutR_mem]
theorem SortedR.uniq {L:List FileR} (h:SortedR L) {x y:FileR} (hx:x∈L) (hy:y∈L) (e:x.name=y.name):x=y:=by
 induction L with
 | nil=>cases hx
 | cons z r ih=>
  obtain⟨h1,h2⟩:=List.pairwise_cons.1 h;rcases List.mem_cons.1 hx with rfl|hx'
  ·rcases List.mem_cons.1 hy with rfl|hy'
   ·rfl
   ·have:=h1 y hy';rw[e,zcP] at this;cases this
  ·rcases List.mem_cons.1 hy with rfl|hy'
   ·have:=h1 x hx';rw[←e,zcP] at this;cases this
   ·exact ih h2 hx' hy'
theorem zaz {L:List FileR} (h:SortedR L) {n:ByteArray} {x:FileR}:zg L n=some x↔x∈L∧x.name=n:=by
 unfold zg;constructor
 ·intro hf;exact⟨List.mem_of_find?_eq_some hf,Zd0 (List.find?_some (p:=fun f:FileR=>decide (f.name=n)) hf)⟩
 ·rintro ⟨hx,rfl⟩;cases hf:L.find? (fun f=>decide (f.name=x.name)) with
  | none=>
   rw[List.find?_eq_none] at hf;exact absurd (decide_eq_true rfl) (hf x hx)
  | some y=>
   rw[h.uniq (List.mem_of_find?_eq_some hf) hx (Zd0 (List.find?_some (p:=fun f:FileR=>decide (f.name=x.name)) hf))]
theorem findR_none {L:List FileR} {n:ByteArray}:zg L n=none↔∀ x∈L,x.name≠n:=by
 unfold zg;rw[List.find?_eq_none];simp
theorem zcQ {L:List FileR} (h:SortedR L) (f:FileR) (n:ByteArray):zg (zaO L f) n=if n=f.name then some f else zg L n:=by
 split
 ·rename_i e;rw[zaz (zfC h f),withR_mem];exact⟨.inl rfl,e.symm⟩
 ·rename_i e;cases hf:zg L n with
  | none=>
   rw[findR_none] at hf ⊢;intro x hx;rcases withR_mem.1 hx with rfl|⟨hx,_⟩
   ·exact Ne.symm e
   ·exact hf x hx
  | some y=>
   rw[zaz h] at hf;rw[zaz (zfC h f),withR_mem];exact⟨.inr ⟨hf.1,by rw[hf.2];exact e⟩,hf.2⟩
theorem zfj {L:List FileR} (h:SortedR L) (m n:ByteArray):zg (zar L m) n=if n=m then none else zg L n:=by
 split
 ·rename_i e;rw[findR_none];intro x hx;rw[e];exact(withoutR_mem.1 hx).2
 ·rename_i e;cases hf:zg L n with
  | none=>
   rw[findR_none] at hf ⊢;exact fun x hx=>hf x (withoutR_mem.1 hx).1
  | some y=>
   rw[zaz h] at hf;rw[zaz (zdC h m),withoutR_mem];exact⟨⟨hf.1,by rw[hf.2];exact e⟩,hf.2⟩
theorem zd9 {L:List FileR} {n:ByteArray} (h:zg L n=none):zar L n=L:=by
 rw[findR_none] at h;unfold zar;rw[List.filter_eq_self];intro x hx;simpa using h x hx
theorem zbs {L:List FileR} (h:SortedR L) {n:ByteArray} {x:FileR} (hf:zg L n=some x):(zar L n).length+1=L.length∧zaX (zar L n)+(x.safe.size+x.tail.size)=zaX L:=by
 obtain⟨hx,rfl⟩:=(zaz h).1 hf;clear hf
 induction L with
 | nil=>cases hx
 | cons z r ih=>
  obtain⟨h1,h2⟩:=List.pairwise_cons.1 h;unfold zar;rw[List.filter_cons];by_cases e:z.name=x.name
  ·have:z=x:=h.uniq (by simp) hx e;subst this;rw[if_neg (by simp)];have hr:zar r z.name=r:=zd9 (findR_none.2 fun y hy e=>by have:=h1 y hy;rw[e,zcP] at this;cases this)
   have hr':List.filter (fun f=>decide (f.name≠z.name)) r=r:=hr;rw[hr'];simp[zaX];omega
  ·rw[if_pos (by simpa using e)];have hx':x∈r:=by rcases List.mem_cons.1 hx with rfl|h;exact absurd rfl e;exact h
   obtain⟨h3,h4⟩:=ih h2 hx';unfold zar at h3 h4;unfold zaX at h4;simp only[zaX,List.map_cons,List.sum_cons,List.length_cons];omega
def zbd (b:ByteArray):Bool:=decide (0<b.size∧b.size≤12)&&(bl b).all fun c=>decide (c.toNat=46∨(48≤c.toNat∧c.toNat≤57)∨(97≤c.toNat∧c.toNat≤122))
def z8 (D:zf) (n:ByteArray):Int:=if D.down=true then 9 else if zbd n=false then 2 else 0
def zaA (D:zf) (n:ByteArray):Int:=if z8 D n≠0 then z8 D n else if zg D.l n=none then 4 else 0
def zbh (D:zf) (l:List FileR):zf:=⟨D.limit,l,if 0<D.left then D.left - 1 else D.left,decide (D.left=1)⟩
def zx (D:zf) (n:ByteArray):FileR:=(zg D.l n).getD ⟨n,.empty,.empty⟩
def zW (D:zf) (n:ByteArray) (p:List UInt8):zf×Int:=
 if z8 D n≠0 then (D,z8 D n) else if D.limit - zaX D.l<p.length∨(zg D.l n=none∧64≤D.l.length) then (D,6)
 else (zbh D (zaO D.l ⟨n,(zx D n).safe,(zx D n).tail++⟨p.toArray⟩⟩),0)
def zbn (D:zf) (n:ByteArray):zf×Int:=
 if zaA D n≠0 then (D,zaA D n) else (zbh D (zaO D.l ⟨n,(zx D n).all,.empty⟩),0)
def zcB (D:zf) (n:ByteArray) (k:Int):zf×Int:=
 if zaA D n≠0 then (D,zaA D n) else if k<0∨(zx D n).all.size<k then (D,1) else (zbh D (zaO D.l ⟨n,(zx D n).all.extract 0 k.toNat,.empty⟩),0)
def zaG (D:zf) (n m:ByteArray):zf×Int:=
 if z8 D n≠0 then (D,z8 D n) else if z8 D m≠0 then (D,z8 D m) else if zaA D n≠0 then (D,zaA D n)
 else if 0<(zx D n).tail.size then (D,7) else (zbh D (zaO (zar D.l n) ⟨m,(zx D n).safe,.empty⟩),0)
def zC (D:zf) (n:ByteArray):zf×Int:=if zaA D n≠0 then (D,zaA D n) else (zbh D (zar D.l n),0)
def zas (D:zf) (n:ByteArray):ByteArray×Int:=if zaA D n≠0 then (.empty,zaA D n) else ((zx D n).all,0)
def zgg (D:zf) (k:Int):zf×Int:=if D.down=true then (D,9) else (⟨D.limit,D.l,if k<0 then -1 else k,decide (k=0)⟩,0)
def zkw (keep:List Int) (i:Nat) (f:FileR):Nat:=match keep[i]? with|some k=>if 0<k then min k.toNat f.tail.size else 0|none=>0
def zdI (keep:List Int) (i:Nat) (f:FileR):FileR:=⟨f.name,f.safe++f.tail.extract 0 (zkw keep i f),.empty⟩
def zbK (D:zf) (keep:List Int):zf:=⟨D.limit,D.l.mapIdx fun i f=>zdI keep i f, -1,false⟩
structure InvD (D:zf):Prop where
 sort:SortedR D.l
 len:D.l.length≤64
 used:zaX D.l≤1048576
 limit:0≤D.limit∧D.limit≤1048576
 left : -1≤D.left∧D.left≤9223372036854775807
end
section
@[reducible] def zaa (n:Int):Value := .int .i64 n
@[reducible] def ptr (p:Nat):Value := .pointer (some ⟨p,0,none⟩)
end
end Go.Proofs.YtpdkkbpkplhdpaaGreat
namespace Go.Vm
open Go.RowKit Go.Shelf Go.Sort Go.Proofs
section
theorem zxx {α:Type} [Inhabited α] (enc:α→Value) (d:Array α) (cs:List Value) (h:d.size≤cs.length):putCells enc 0 d cs.toArray=(d.toList.map enc++cs.drop d.size).toArray:=by
 apply Array.ext_getElem?;intro k;simp only[putCells,Array.getElem?_mapIdx,List.getElem?_toArray];by_cases hk:k<d.size
 ·have hc:k<cs.length:=by omega
  rw[List.getElem?_append_left (by simpa using hk),List.getElem?_map];have e1:cs[k]? = some cs[k]:=List.getElem?_eq_getElem hc
  have e2:d.toList[k]? = some d[k]:=by simp[hk]
  rw[e1,e2];simp[hk]
 ·rw[List.getElem?_append_right (by simpa using hk),List.getElem?_drop];simp only[List.length_map,Array.length_toList];rw[show d.size+(k - d.size)=k by omega];cases cs[k]? with
  | none=>rfl
  | some v=>simp only[Option.map_some];rw[if_neg (by omega)]
theorem turned {α:Type} [Inhabited α] {M F:Mem} {w:World} (hM:M.le (zy w)) (hF:F.le (zy w)) (hdj:M.disj F) {b:Nat} {E:TypeId} {cs:List Value} (hh:M.has b E cs) (enc:α→Value) (d:Array α) (hd:d.size≤cs.length) (n:Nat) (os:Array Obj) :
  (M.setCells b E (d.toList.map enc++cs.drop d.size)).le (zy (grow (putRow enc (Sort.ahead w n) b 0 d) os))∧F.le (zy (grow (putRow enc (Sort.ahead w n) b 0 d) os))∧(M.setCells b E (d.toList.map enc++cs.drop d.size)).disj F ∧
  (grow (putRow enc (Sort.ahead w n) b 0 d) os).os=w.os∧(grow (putRow enc (Sort.ahead w n) b 0 d) os).output=w.output∧(grow (putRow enc (Sort.ahead w n) b 0 d) os).tape=w.tape ∧
  w.heap.size≤(grow (putRow enc (Sort.ahead w n) b 0 d) os).heap.size∧w.drawn≤(grow (putRow enc (Sort.ahead w n) b 0 d) os).drawn:=by
 have hhb:w.heap[b]? = some (.cells cs.toArray E (0,0)):=hM _ _ hh;have hb:b<w.heap.size:=(Array.getElem?_eq_some_iff.1 hhb).1
 have hFb:F b=none:=(hdj b).resolve_left (by unfold Mem.has at hh;rw[hh];simp)
 have other:∀ x o,x≠b→w.heap[x]? = some o→zy (grow (putRow enc (Sort.ahead w n) b 0 d) os) x=some o:=fun x o hx hxo=>by
  have hlt:x<w.heap.size:=(Array.getElem?_eq_some_iff.1 hxo).1;show (w.heap.modify b (onCells (putCells enc 0 d))++os)[x]? = some o
  rw[Array.getElem?_append_left (by simpa using hlt),Array.getElem?_modify,if_neg (Ne.symm hx)];exact hxo
 refine⟨fun x o hx=>?_,fun x o hx=>?_,fun x=>?_,rfl,rfl,rfl,by simp[grow,putRow,mapBlock],by simp[grow,putRow,mapBlock]⟩
 ·by_cases e:x=b
  ·subst e;simp only[Mem.setCells,Mem.upd_same,Option.some.injEq] at hx;subst hx;show (w.heap.modify x (onCells (putCells enc 0 d))++os)[x]? = _
   rw[Array.getElem?_append_left (by simpa using hb),Array.getElem?_modify,if_pos rfl,hhb];simp only[Option.map_some,onCells,zxx enc d cs hd]
  ·simp only[Mem.setCells,Mem.upd_ne _ _ e] at hx;exact other x o e (hM x o hx)
 ·have e:x≠b:=fun e=>by subst e;rw[hFb] at hx;cases hx
  exact other x o e (hF x o hx)
 ·by_cases e:x=b
  ·subst e;exact .inr hFb
  ·simp only[Mem.setCells,Mem.upd_ne _ _ e];exact hdj x
theorem holds_of {α:Type} [Inhabited α] {M:Mem} {w:World} (hM:M.le (zy w)) {b:Nat} {E:TypeId} {cs:List Value} (hh:M.has b E cs) (enc:α→Value) (l:List α) (h:cs.take l.length=l.map enc):Holds enc w b 0 l.toArray:=by
 have hhb:w.heap[b]? = some (.cells cs.toArray E (0,0)):=hM _ _ hh;intro j hj;have hj:j<l.length:=by simpa using hj
 constructor
 ·simp only[World.cell?, hhb,Nat.zero_add];have:(cs.take l.length)[j]? = (l.map enc)[j]? := by rw[h]
  rw[List.getElem?_take_of_lt hj,List.getElem?_map,List.getElem?_eq_getElem hj] at this;simp[this,hj]
 ·simp[World.frozen?, hhb]
section
variable {P:Program} {ρ:Ren}
end
end
section
section
variable {P:Program} {ρ:Ren}
def zgO (l:List (List UInt8)):List (List UInt8):=l.mergeSort fun x y=>decide (x≤y)
theorem zBv (Ly:Lays.n190 P ρ) (he:zfy P (ρ.f 190)=true) {M:Mem} {E:TypeId} {a:Option Addr} {n c:Nat} {l:List (List UInt8)} (h:Wr M E 1 a n c (l.map encStr)) (hn:n<4611686018427387904) :
  CallsM P (ρ.f 190) [.slice a n c] M fun v M'=>v = .tuple #[]∧Wr M' E 1 a n c ((zgO l).map encStr)∧Mem.keep (z6 a) M M':=by
 refine⟨he,fun F w hM hF hdj=>?_⟩;have hll:l.length=n:=h.maplen
 obtain⟨h1,h2,⟨rfl,rfl⟩|⟨b,cs,rfl,hh,hcl,ht⟩⟩:=h
 ·have:n=0:=by omega
  subst this;have:l=[]:=by simpa using hll
  subst this;refine(Any.slices_Sort_string_none Ly none 0 w).mono ?_;rintro e w' ⟨rfl,rfl⟩;exact⟨_,M,rfl,⟨rfl,⟨by simp[zgO],Nat.le_refl _,.inl ⟨rfl,rfl⟩⟩,Mem.keep_refl _ _⟩,hM,hF,hdj,rfl,rfl,rfl,Nat.le_refl _,Nat.le_refl _⟩
 ·have hb:b<w.heap.size:=(Array.getElem?_eq_some_iff.1 (hM _ _ hh)).1;have hH:=holds_of hM hh encStr l (by rw[hll];simpa using ht)
  have hs:=Any.slices_Sort_string Ly b 0 c l w hH hb (by omega);rw[hll] at hs;refine hs.mono ?_;rintro e w' ⟨rfl,q,os,rfl⟩;have hsl:(zgO l).length=l.length:=List.length_mergeSort l
  have ht':=turned hM hF hdj hh encStr (zgO l).toArray (by simp[hsl];omega) q os;refine⟨_,M.setCells b E ((zgO l).toArray.toList.map encStr++cs.drop (zgO l).toArray.size),rfl,⟨rfl,⟨by simp[hsl,hll],h2,.inr ⟨b,_,rfl,Mem.has_setCells,?_,?_⟩⟩,?_⟩,ht'⟩
  ·simp[hsl,hll,hcl];omega
  ·simp only[List.size_toArray,hsl,hll];rw[List.take_append_of_le_length (by simp[hsl];omega),List.take_of_length_le (by simp[hsl];omega)]
  ·intro x o hx hxo;have e:x≠b:=fun e=>hx ⟨_,rfl,e.symm⟩
   simp only[Mem.setCells,Mem.upd_ne _ _ e];exact hxo
theorem zvY (l:List (List UInt8)):(zgO l).Perm l:=List.mergeSort_perm l _
end
end
end Go.Vm
namespace Go.Proofs.YtpdkkbpkplhdpaaGreat
open Go Go.Vm
attribute [local irreducible] Brn Ob Grow CallsM inR zax zav Mem.row Mem.cells Mem.setCells Mem.upd Go.Vm.Own zaD za5 zbc zaJ New SrcOk subA NewSl Mem.textAt Mem.mapAt Mem.iterAt zau zaj Wr NewEls Elems
set_option maxRecDepth 10000
@[reducible] def zfn (k:ByteArray):Value := .string k
theorem zl8:zku zfn:=fun _ _=>rfl
structure FX where
 f:Nat
 a:Option Addr
 c:Nat
 p:List UInt8
 safe:Nat
@[reducible] def fxV (x:FX):Value:=ptr x.f
structure FXAt (M:Mem) (x:FX):Prop where
 self:M.has x.f T.zA [.slice x.a x.p.length x.c,.int .i64 x.safe]
 row:Wr M T.zn 1 x.a x.p.length x.c (x.p.map zl)
def FX.own (x:FX):Nat→Prop:=fun y=>y=x.f∨z6 x.a y
theorem FXAt.mono {M M':Mem} {x:FX} (h:FXAt M x) (hk:∀ y o,x.own y→M y=some o→M' y=some o):FXAt M' x:=
 ⟨hk _ _ (.inl rfl) h.self,h.row.mono fun q o hq=>hk _ o (.inr ⟨q,hq,rfl⟩)⟩
theorem FXAt.le {M M':Mem} {x:FX} (h:FXAt M x) (hle:M.le M'):FXAt M' x:=h.mono fun y o _=>hle y o
def znQ (x y:FX):Prop:=∀ z,x.own z→¬y.own z
abbrev FsT:=List (ByteArray×FX)
structure DAt (M:Mem) (p b:Nat) (D:zf) (es:FsT):Prop where
 self:M.has p T.zaC [.int .i64 D.limit,.map (some b),.int .i64 D.left,.bool D.down]
 map:MapAt zfn fxV M b es
 ents:∀ q∈es,FXAt M q.2
 apart:es.Pairwise fun x y=>znQ x.2 y.2
def zac (p b:Nat) (es:FsT):Nat→Prop:=fun y=>y=p∨y=b∨∃ q∈es,q.2.own y
theorem DAt.mono {M M':Mem} {p b:Nat} {D:zf} {es:FsT} (h:DAt M p b D es) (hk:∀ y o,zac p b es y→M y=some o→M' y=some o):DAt M' p b D es:=
 ⟨hk _ _ (.inl rfl) h.self,h.map.mono fun o ho=>hk _ _ (.inr (.inl rfl)) ho,fun q hq=>(h.ents q hq).mono fun y o hy ho=>hk y o (.inr (.inr ⟨q,hq,hy⟩)) ho,h.apart⟩
theorem DAt.le {M M':Mem} {p b:Nat} {D:zf} {es:FsT} (h:DAt M p b D es) (hle:M.le M'):DAt M' p b D es:=h.mono fun y o _=>hle y o
theorem FXAt.nomap {M:Mem} {x:FX} (h:FXAt M x) {b:Nat} {es:FsT} (hm:MapAt zfn fxV M b es):¬x.own b:=by
 rintro (e|⟨q,hq,e⟩)
 ·exact hm.nb h.self e.symm
 ·obtain⟨cs,hh⟩:=h.row.block hq;exact hm.nb hh e
theorem FXAt.full {M:Mem} {x:FX} (h:FXAt M x) {y:Nat} (hy:x.own y):M y≠none:=by
 rcases hy with rfl|⟨q,hq,rfl⟩
 ·have:=h.self;unfold Mem.has at this;rw[this];simp
 ·obtain⟨cs,hh⟩:=h.row.block hq;unfold Mem.has at hh;rw[hh];simp
theorem FXAt.nodisk {M:Mem} {x:FX} (h:FXAt M x) {p:Nat} {l:List Value} (hp:M.has p T.zaC l):¬x.own p:=by
 rintro (e|⟨q,hq,e⟩)
 ·subst e;exact absurd (h.self.inj hp).1 (by decide)
 ·obtain⟨cs,hh⟩:=h.row.block hq;subst e;exact absurd (hh.inj hp).1 (by decide)
theorem DAt.full {M:Mem} {p b:Nat} {D:zf} {es:FsT} (h:DAt M p b D es) {y:Nat} (hy:zac p b es y):M y≠none:=by
 rcases hy with rfl|rfl|⟨q,hq,hy⟩
 ·have:=h.self;unfold Mem.has at this;rw[this];simp
 ·obtain⟨l,c,hh,_⟩:=h.map;rw[hh];simp[zch]
 ·exact(h.ents q hq).full hy
variable {M:Mem} {p b:Nat} {D:zf} {es:FsT}
theorem DAt.turn {M':Mem} (h:DAt M p b D es) {k:ByteArray} {x x':FX} (hx:zD es k=some x) (hk:Mem.keep x.own M M') (he:FXAt M' x') (hr:x'.f=x.f) (hown:∀ y,x'.own y→x.own y∨M y=none):DAt M' p b D (zQ es k x'):=by
 have hxe:=h.ents _ (zN hx);have hpa:zQ es k x'=zcA es k x':=by simp[zQ,hx]
 obtain⟨u,v,h1,h2,h3,h4⟩:=ziW h.map.nodup hx x';have hap:=h.apart
 rw[h1] at hap;have hap':=List.pairwise_append.1 hap
 have hmem:∀ q,q∈u∨q∈v→q∈es:=fun q hq=>by rw[h1];rcases hq with hq|hq<;>simp[hq]
 have hfar:∀ q,q∈u∨q∈v→∀ y,q.2.own y→¬x.own y:=fun q hq y hy hxy=>by
  rcases hq with hq|hq
  ·exact hap'.2.2 q hq (k,x) (by simp) y hy hxy
  ·exact(List.pairwise_cons.1 hap'.2.1).1 q hq y hxy hy
 have hfar':∀ q,q∈u∨q∈v→∀ y,q.2.own y→¬x'.own y:=fun q hq y hy hxy=>by
  rcases hown y hxy with h5|h5
  ·exact hfar q hq y hy h5
  ·exact(h.ents q (hmem q hq)).full hy h5
 rw[hpa,h2];refine⟨hk _ _ (hxe.nodisk h.self) h.self,?_,fun q hq=>?_,?_⟩
 ·have hm:=h.map.relabel (fun q=>if q.1=k then x' else q.2) (fun q hq=>by
   split
   ·rename_i e;have:zD es k=some q.2:=zdt h.map.nodup (by obtain⟨q1,q2⟩:=q;simp only at e;subst e;exact hq)
    rw[hx] at this;rw[show q.2=x from (Option.some.inj this).symm];simp[fxV,hr]
   ·rfl)
  have e:(es.map fun q=>(q.1,if q.1=k then x' else q.2))=u++(k,x')::v:=by
   rw[h1,List.map_append,List.map_cons];congr 1
   ·rw[List.map_congr_left (g:=id),List.map_id];intro q hq;simp[h3 q hq]
   ·congr 1
    ·simp
    ·rw[List.map_congr_left (g:=id),List.map_id];intro q hq;simp[h4 q hq]
  rw[e] at hm;exact hm.mono fun o ho=>hk _ o (hxe.nomap h.map) ho
 ·rcases List.mem_append.1 hq with hq|hq
  ·exact(h.ents q (hmem q (.inl hq))).mono fun y o hy ho=>hk y o (hfar q (.inl hq) y hy) ho
  ·rcases List.mem_cons.1 hq with rfl|hq
   ·exact he
   ·exact(h.ents q (hmem q (.inr hq))).mono fun y o hy ho=>hk y o (hfar q (.inr hq) y hy) ho
 ·rw[List.pairwise_append];refine⟨hap'.1,List.pairwise_cons.2 ⟨fun q hq y hy hqy=>hfar' q (.inr hq) y hqy hy,(List.pairwise_cons.1 hap'.2.1).2⟩,fun q hq q' hq'=>?_⟩;rcases List.mem_cons.1 hq' with rfl|hq'
  ·exact fun y hy hxy=>hfar' q (.inl hq) y hy hxy
  ·exact hap'.2.2 q hq q' (List.mem_cons_of_mem _ hq')
theorem DAt.more {M':Mem} (h:DAt M p b D es) {k:ByteArray} {x:FX} (hx:zD es k=none) (hk:Mem.keep (fun y=>y=b) M M') (hm:MapAt zfn fxV M' b (zQ es k x)) (he:FXAt M' x) (hown:∀ q∈es,∀ y,x.own y→¬q.2.own y):DAt M' p b D (zQ es k x):=by
 have hpa:zQ es k x=es++[(k,x)]:=by simp[zQ,hx]
 refine⟨hk _ _ (h.map.nb h.self) h.self,hm,fun q hq=>?_,?_⟩
 ·rw[hpa] at hq;rcases List.mem_append.1 hq with hq|hq
  ·exact(h.ents q hq).mono fun y o hy ho=>hk y o (fun e=>by subst e;exact(h.ents q hq).nomap h.map hy) ho
  ·simp at hq;subst hq;exact he
 ·rw[hpa,List.pairwise_append];refine⟨h.apart,by simp,fun q hq q' hq'=>?_⟩;simp at hq';subst hq';exact fun y hy hxy=>hown q hq y hxy hy
theorem DAt.less {M':Mem} (h:DAt M p b D es) (k:ByteArray) (hk:Mem.keep (fun y=>y=b) M M') (hm:MapAt zfn fxV M' b (zfA es k)):DAt M' p b D (zfA es k):=
 ⟨hk _ _ (h.map.nb h.self) h.self,hm,fun q hq=>(h.ents q (List.mem_filter.1 hq).1).mono fun y o hy ho=>hk y o (fun e=>by subst e;exact(h.ents q (List.mem_filter.1 hq).1).nomap h.map hy) ho,h.apart.sublist List.filter_sublist⟩
theorem DAt.head {M':Mem} (h:DAt M p b D es) (D':zf) (hk:Mem.keep (fun y=>y=p) M M') (hs:M'.has p T.zaC [.int .i64 D'.limit,.map (some b),.int .i64 D'.left,.bool D'.down]):DAt M' p b D' es:=
 ⟨hs,h.map.mono fun o ho=>hk _ _ (fun e=>h.map.nb h.self e.symm) ho,fun q hq=>(h.ents q hq).mono fun y o hy ho=>hk y o (fun e=>by subst e;exact(h.ents q hq).nodisk h.self hy) ho,h.apart⟩
theorem zhh {k:ByteArray} {x':FX} {y:Nat} (hy:zac p b (zQ es k x') y) (hn:(es.map (·.1)).Nodup):zac p b es y∨x'.own y:=by
 rcases hy with rfl|rfl|⟨q,hq,hy⟩
 ·exact .inl (.inl rfl)
 ·exact .inl (.inr (.inl rfl))
 ·by_cases e:q.1=k
  ·have hg:zD (zQ es k x') k=some q.2:=zdt (zew hn k x') (by obtain⟨q1,q2⟩:=q;simp only at e;subst e;exact hq);rw[zdX,if_pos rfl] at hg;cases hg;exact .inr hy
  ·have hg:zD (zQ es k x') q.1=some q.2:=zdt (zew hn k x') hq;rw[zdX,if_neg e] at hg;exact .inl (.inr (.inr ⟨q,zN hg,hy⟩))
theorem zrx {k:ByteArray} {y:Nat} (hy:zac p b (zfA es k) y):zac p b es y:=by
 rcases hy with rfl|rfl|⟨q,hq,hy⟩
 ·exact .inl rfl
 ·exact .inr (.inl rfl)
 ·exact .inr (.inr ⟨q,(List.mem_filter.1 hq).1,hy⟩)
def cont (f:FileR):List UInt8×Nat:=(bl f.all,f.safe.size)
structure RelD (es:FsT) (L:List FileR):Prop where
 sort:SortedR L
 nodup:(es.map (·.1)).Nodup
 same:∀ n,(zD es n).map (fun x=>(x.p,x.safe))=(zg L n).map cont
theorem RelD.nil:RelD [] []:=⟨by simp[SortedR],by simp,fun n=>by simp[zD,zg]⟩
theorem RelD.put {L:List FileR} (h:RelD es L) {f:FileR} {x:FX} (hx:(x.p,x.safe)=cont f):RelD (zQ es f.name x) (zaO L f):=by
 refine⟨zfC h.sort f,zew h.nodup _ _,fun n=>?_⟩;rw[zdX,zcQ h.sort];split
 ·simp[hx]
 ·exact h.same n
theorem RelD.del {L:List FileR} (h:RelD es L) (n:ByteArray):RelD (zfA es n) (zar L n):=by
 refine⟨zdC h.sort n,zy4 h.nodup _,fun m=>?_⟩;rw[zAi,zfj h.sort];split
 ·rfl
 ·exact h.same m
theorem RelD.none {L:List FileR} (h:RelD es L) {n:ByteArray}:zD es n=none↔zg L n=none:=by
 have:=h.same n;constructor
 ·intro e;rw[e] at this;simpa using this.symm
 ·intro e;rw[e] at this;simpa using this
theorem RelD.get {L:List FileR} (h:RelD es L) {n:ByteArray} {x:FX} (hx:zD es n=some x):∃ f,zg L n=some f∧f.name=n∧x.p=bl f.all∧x.safe=f.safe.size:=by
 have:=h.same n;rw[hx] at this;cases hf:zg L n with
 | none=>rw[hf] at this;cases this
 | some f=>
  rw[hf] at this;simp only[Option.map_some,Option.some.injEq,cont,Prod.mk.injEq] at this;exact⟨f,rfl,((zaz h.sort).1 hf).2,this.1,this.2⟩
theorem RelD.perm {L:List FileR} (h:RelD es L):(es.map fun q=>(q.1,q.2.p,q.2.safe)).Perm (L.map fun f=>(f.name,bl f.all,f.safe.size)):=by
 have n1:(es.map fun q=>(q.1,q.2.p,q.2.safe)).Nodup:=by
  have:((es.map fun q=>(q.1,q.2.p,q.2.safe)).map (·.1)).Nodup:=by rw[List.map_map];exact h.nodup
  exact zqj this
 have n2:(L.map fun f=>(f.name,bl f.all,f.safe.size)).Nodup:=by
  unfold List.Nodup;rw[List.pairwise_map];refine h.sort.imp fun {x y} hxy e=>?_
  rw[show x.name=y.name from congrArg (·.1) e,zcP] at hxy;cases hxy
 rw[List.perm_ext_iff_of_nodup n1 n2];rintro ⟨n,p,s⟩;constructor
 ·intro hm;obtain⟨q,hq,e⟩:=List.mem_map.1 hm;obtain⟨f,hf,hn,h1,h2⟩:=h.get (zdt h.nodup hq);refine List.mem_map.2 ⟨f,((zaz h.sort).1 hf).1,?_⟩;rw[←e,hn,h1,h2]
 ·intro hm;obtain⟨f,hf,e⟩:=List.mem_map.1 hm;have hff:zg L f.name=some f:=(zaz h.sort).2 ⟨hf,rfl⟩
  have:=h.same f.name;rw[hff] at this;cases hg:zD es f.name with
  | none=>rw[hg] at this;cases this
  | some x=>
   rw[hg] at this;simp only[Option.map_some,Option.some.injEq,cont,Prod.mk.injEq] at this;refine List.mem_map.2 ⟨_,zN hg,?_⟩;rw[←e,this.1,this.2]
theorem FileR.all_size (f:FileR):(bl f.all).length=f.safe.size+f.tail.size:=by rw[zaH];simp[FileR.all]
theorem RelD.len {L:List FileR} (h:RelD es L):es.length=L.length:=by have:=h.perm.length_eq;simpa using this
def zgw (es:FsT):Nat:=(es.map fun q=>q.2.p.length).sum
theorem RelD.used {L:List FileR} (h:RelD es L):zgw es=zaX L:=by
 have:=(h.perm.map fun z=>z.2.1.length).sum_nat;rw[List.map_map,List.map_map] at this;unfold zgw zaX;refine Eq.trans this ?_;congr 1;apply List.map_congr_left;intro f _;exact f.all_size
theorem RelD.names {L:List FileR} (h:RelD es L):(es.map (·.1)).Perm (L.map (·.name)):=by
 have:=h.perm.map (·.1);rw[List.map_map,List.map_map] at this;exact this
theorem zvZ {q:ByteArray×FX} (hq:q∈es):q.2.p.length≤zgw es:=by
 unfold zgw
 induction es with
 | nil=>cases hq
 | cons z r ih=>
  simp only[List.map_cons,List.sum_cons];rcases List.mem_cons.1 hq with rfl|hq
  ·omega
  ·have:=ih hq;omega
end Go.Proofs.YtpdkkbpkplhdpaaGreat
