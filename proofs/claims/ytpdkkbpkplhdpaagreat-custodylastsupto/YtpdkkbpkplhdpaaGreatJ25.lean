/- Part of this proof;laid by program. -/
import Derived.Test.YtpdkkbpkplhdpaaGreatJ24
import Derived.Test.YtpdkkbpkplhdpaaGreatJ10
set_option linter.unusedVariables false
set_option linter.unusedSimpArgs false
namespace Go.Proofs.YtpdkkbpkplhdpaaGreat
open Go Go.Vm
attribute [local irreducible] Brn Ob Grow CallsM inR zax zav Mem.row Mem.cells Mem.setCells Mem.upd Go.Vm.Own zaD za5 zbc zaJ New SrcOk subA NewSl Mem.textAt Mem.mapAt Mem.iterAt zau zaj Wr NewEls Elems
set_option maxRecDepth 10000
def zcY (l:List UInt8):IdT:=⟨(l.getD 0 0).toNat,(l.getD 1 0).toNat,zb6 l 2 2,zb6 l 4 2⟩
def IdT.err (i:IdT):Int:=za4 i.o i.d i.e i.c
@[reducible] def zcr:IdT:=⟨0,0,0,0⟩
def za1 (l:List UInt8):Int:=if l.length≠6 then 2 else if (zcY l).err≠0 then 2 else 0
def zfb (l:List UInt8):IdT:=if za1 l=0 then zcY l else zcr
theorem zwv {l:List UInt8} (h:za1 l≠0):za1 l=2:=by
 unfold za1 at h ⊢;split
 ·rfl
 ·rename_i h6;rw[if_neg h6] at h;split
  ·rfl
  ·rename_i h7;rw[if_neg h7] at h;exact absurd rfl h
theorem zzA (l:List UInt8) (k:Nat) (h:k+2≤l.length):zb6 l k 2=256*(l.getD k 0).toNat+(l.getD (k+1) 0).toNat:=by
 unfold zb6
 have e:(l.drop (k:Int).toNat).take (Int.toNat 2)=[l[k],l[k+1]]:=by
  rw[show (k:Int).toNat=k by simp,show Int.toNat 2=2 by rfl,List.drop_eq_getElem_cons (by omega),List.take_succ_cons,List.drop_eq_getElem_cons (by omega),List.take_succ_cons,List.take_zero]
 rw[e];simp[num,List.getD_eq_getElem?_getD,List.getElem?_eq_getElem (show k<l.length by omega),List.getElem?_eq_getElem (show k+1<l.length by omega)]
theorem zmQ (l:List UInt8) (k:Nat) (h:k+2≤l.length):zb6 l k 2<65536:=by
 rw[zzA l k h];have:=UInt8.toNat_lt (l.getD k 0)
 have:=UInt8.toNat_lt (l.getD (k+1) 0);omega
theorem wrap_i64 {n:Int} (h:0≤n∧n<9223372036854775808):IntKind.i64.wrap n=n:=by
 rw[IntKind.wrap_i64];omega
theorem zqy (a:Option Addr) (n c:Nat) (M:Mem) (l:List UInt8) (hs:SrcOk M 1 a n (l.map zl)) (hn:n≤4194304) (hc:n≤c) :
  CallsM Tryz.prog F.zhO [.slice a n c] M fun v M'=>v = .tuple #[idA (zfb l),.int .i64 (za1 l)]∧M=M':=by
 have hl:=hs.maplen;refine zvB (by simp) ?_;(conv=>whnf);refine brn (fun h=>?_) (fun h=>?_)
 ·have h6:l.length≠6:=by simp at h;omega
  have e:za1 l=2:=by rw[za1,if_pos h6]
  (conv=>whnf);rw[zfb,e];exact⟨rfl,rfl⟩
 have h6:n=6:=by simp at h;omega
 subst h6;(conv=>whnf);refine(zfX _ _ _ _ l hs hn hc 2 2 (by decide)).mono ?_;rintro v M' ⟨rfl,rfl⟩;(conv=>whnf);refine(zfX _ _ _ _ l hs hn hc 4 2 (by decide)).mono ?_;rintro v M' ⟨rfl,rfl⟩;obtain⟨h0,b,o,rfl,hr0⟩:=hs.at (i:=0) (by decide);obtain⟨h1,b',o',hbo,hr1⟩:=hs.at (i:=1) (by decide);cases hbo;have n2:zb6 l 2 2<65536:=zmQ l 2 (by omega)
 have n4:zb6 l 4 2<65536:=zmQ l 4 (by omega);have b0:=UInt8.toNat_lt l[0]
 have b1:=UInt8.toNat_lt l[1];refine zR ?_;refine on hr0 ?_;refine zR ?_;refine on hr1 ?_;refine zR ?_;rw[wrap_i64 (by omega),wrap_i64 (by omega),wrap_i64 (by omega),wrap_i64 (by omega)];have hid:zcY l=⟨(l[0].toNat:Int),(l[1].toNat:Int),zb6 l 2 2,zb6 l 4 2⟩:=by simp[zcY,List.getD_eq_getElem?_getD,List.getElem?_eq_getElem h0,List.getElem?_eq_getElem h1]
 refine zR ?_;refine(zgG _ _ _ _ _).mono ?_;rintro v M' ⟨rfl,rfl⟩;have he:(zcY l).err=za4 l[0].toNat l[1].toNat (zb6 l 2 2) (zb6 l 4 2):=by rw[hid];rfl
 rw[←he];have hne:¬l.length≠6:=by omega
 (conv=>whnf);refine brn (fun g=>?_) (fun g=>?_)
 ·have g':(zcY l).err≠0:=by simpa using g
  have e:za1 l=2:=by rw[za1,if_neg hne,if_pos g']
  (conv=>whnf);rw[zfb,e];exact⟨rfl,rfl⟩
 ·have g':(zcY l).err=0:=by simpa using g
  have e:za1 l=0:=by rw[za1,if_neg hne,if_neg (by simp[g'])]
  (conv=>whnf);rw[zfb,e,if_pos rfl,hid];exact⟨rfl,rfl⟩
def zbb (l:List UInt8):Int:=if l.length<6 then 2 else if za1 (l.take 6)≠0 then 2 else if l.length=6∨54<l.length then 2 else 0
def zbu (l:List UInt8):zby:=if zbb l=0 then ⟨zcY (l.take 6),l.drop 6⟩ else ⟨zcr,[]⟩
theorem zrQ (a:Option Addr) (n c:Nat) (M:Mem) (l:List UInt8) (hs:SrcOk M 1 a n (l.map zl)) (hn:n≤4194304) (hc:n≤c) :
  CallsM Tryz.prog F.zh1 [.slice a n c] M fun v M'=>∃ p m k,v = .tuple #[.agg #[.int .i64 (zbu l).id.o,.int .i64 (zbu l).id.d,.int .i64 (zbu l).id.e,.int .i64 (zbu l).id.c,.slice p m k],.int .i64 (zbb l)] ∧
   NewSl M T.zn 1 p m k ((zbu l).p.map zl) M'∧m≤4194304:=by
 have hl:=hs.maplen;refine zyW (by simp) ?_;(conv=>whnf);refine brn (fun h=>?_) (fun h=>?_)
 ·have e:zbb l=2:=by rw[zbb,if_pos (by have:=Zd0 h;omega)]
  (conv=>whnf);refine⟨none,0,0,?_,?_,by decide⟩
  ·rw[zbu,e];rfl
  ·rw[zbu,e];exact NewSl.none _ _ _
 have h6:6≤l.length:=by have:=Zd1 h;omega
 have hsub:=hs.subm (lo:=0) (hi:=6) (by omega) (by omega) hc;have hsub2:=hs.subm (lo:=6) (hi:=n) (by omega) (by omega) hc
 (conv=>whnf);refine ob (by omega) ?_;(conv=>whnf);refine(zqy _ _ _ _ (l.take 6) (by simpa using hsub) (by decide) (by omega)).mono ?_;rintro v M' ⟨rfl,rfl⟩;(conv=>whnf);refine brn (fun g=>?_) (fun g=>?_)
 ·have g':za1 (l.take 6)≠0:=by simpa using g
  have e:zbb l=2:=by rw[zbb,if_neg (by omega),if_pos g']
  have e2:=zwv g';(conv=>whnf)
  rw[e2];refine⟨none,0,0,?_,?_,by decide⟩
  ·rw[zbu,e];rfl
  ·rw[zbu,e];exact NewSl.none _ _ _
 have g':za1 (l.take 6)=0:=by simpa using g
 have hgi:zfb (l.take 6)=zcY (l.take 6):=by rw[zfb,if_pos g']
 rw[hgi];have hd6:(l.drop 6).length=n - 6:=by simp;omega
 have hsub3:SrcOk M 1 (subA a 6 c 1) (n - 6) ((l.drop 6).map zl):=by rw[List.take_of_length_le (by omega)] at hsub2;exact hsub2
 have hok:zfk (zcY (l.take 6)).o (zcY (l.take 6)).d (zcY (l.take 6)).e (zcY (l.take 6)).c (n - 6)=if n=6 then 2 else if 54<n then 3 else 0:=by
  have:(zcY (l.take 6)).err=0:=by
   unfold za1 at g';split at g'
   ·cases g'
   ·split at g'
    ·cases g'
    ·rename_i h7;simpa using h7
  unfold zfk;rw[show za4 _ _ _ _=0 from this];simp only[ne_eq,not_true_eq_false,if_false]
  (repeat' split)<;>first|rfl|omega
 (conv=>whnf);refine⟨M,Mem.le_refl _,?_⟩
 repeat' ((conv=>whnf);first|refine⟨?_,True.intro⟩|refine⟨?_,?_,True.intro⟩|refine new (fun b hb=>?_)|refine ob (by omega) ?_|fail)
 all_goals
  replace hb:M b=none:=hb;have hN:=NewSl.lit hb T.zn 1 0 [] rfl
  (conv=>whnf);refine zdR (hsub3.le (Mem.le_setCells hb)) ?_;(conv=>whnf)
  refine ze6 M _ hN (by omega) (by simp[maxLen];omega) (zco _) fun a1 c1 M1 hN1=>?_
  refine zR ?_;refine grow_same hN1.le ?_;refine zR ?_;refine(zlg _ _ _ _ _ _ _ _).mono ?_;rintro v M' ⟨rfl,rfl⟩
  have hz:0+((n:Int).toNat - Int.toNat 6)=n - 6:=by
   have:Int.toNat 6=6:=rfl;omega
  rw[hz] at hN1 ⊢;rw[hok];have h6':¬l.length<6:=by omega
  (conv=>whnf);refine brn (fun g2=>?_) (fun g2=>?_)
  ·have e:zbb l=2:=by
    rw[zbb,if_neg h6',if_neg (by simp[g']),if_pos];by_cases h8:n=6
    ·omega
    ·rw[if_neg h8] at g2;by_cases h9:54<n
     ·omega
     ·rw[if_neg h9] at g2;simp at g2
   (conv=>whnf);refine⟨none,0,0,?_,?_,by decide⟩
   ·rw[zbu,e];rfl
   ·rw[zbu,e];exact(NewSl.none _ _ _).up hN1.le
  ·have e:zbb l=0:=by
    rw[zbb,if_neg h6',if_neg (by simp[g']),if_neg];by_cases h8:n=6
    ·rw[if_pos h8] at g2;simp at g2
    ·rw[if_neg h8] at g2;by_cases h9:54<n
     ·rw[if_pos h9] at g2;simp at g2
     ·omega
   (conv=>whnf);refine⟨a1,n - 6,c1,?_,?_,by omega⟩
   ·rw[zbu,e,if_pos rfl]
   ·rw[zbu,e,if_pos rfl];simpa using hN1
theorem zAS (a:Option Addr) (n c:Nat) (M:Mem) (l:List UInt8) (hs:SrcOk M 1 a n (l.map zl)) (hn:n≤4194304) (hc:n≤c) :
  CallsM Tryz.prog F.zh1 [.slice a n c] M fun v M'=>∃ p m k,v = .tuple #[.agg #[.int .i64 (zbu l).id.o,.int .i64 (zbu l).id.d,.int .i64 (zbu l).id.e,.int .i64 (zbu l).id.c,.slice p m k],.int .i64 (zbb l)] ∧
   M.le M'∧SrcOk M' 1 p m ((zbu l).p.map zl)∧m≤4194304∧∀ q,p=some q→M q.block=none:=
 (zrQ a n c M l hs hn hc).mono fun v M' ⟨p,m,k,hv,hN,hm⟩=>⟨p,m,k,hv,hN.le,hN.src,hm,fun q hq=>(hN.block hq).1⟩
theorem zeS {x:Int} (h:0≤x∧x<256):((zu x).toNat:Int)=x:=by
 unfold zu;simp;omega
theorem zfI (b:UInt8):zu (b.toNat:Int)=b:=by
 have:=b.toNat_lt;unfold zu;apply UInt8.toNat_inj.1;simp;omega
theorem zn5 {x:Int} (h:0≤x∧x≤65535):(num (two x) 0:Int)=x:=by
 have h1:=zeS (x:=x / 256) (by omega)
 have h2:((zu x).toNat:Int)=x % 256:=by
  have:zu x=zu (x % 256):=by simp[zu]
  rw[this];exact zeS (by omega)
 simp only[two,num]
 push_cast
 omega
theorem zyb {a b:UInt8}:two (num [a,b] 0:Nat)=[a,b]:=by
 have ha:=a.toNat_lt;have hb:=b.toNat_lt
 simp only[num,two];have h1:((256*(256*0+a.toNat)+b.toNat:Nat):Int) / 256=(a.toNat:Int):=by omega
 rw[h1,zfI]
 have h2:zu ((256*(256*0+a.toNat)+b.toNat:Nat):Int)=zu (b.toNat:Int):=by
  unfold zu;congr 2;omega
 rw[h2,zfI]
theorem zrR {i:IdT} (h:i.err=0):zcY (zZ i.o i.d i.e i.c)=i∧(zZ i.o i.d i.e i.c).length=6:=by
 obtain⟨h1,h2,h3,h4,h5⟩:=zfH h;refine⟨?_,by simp[zZ,two]⟩;have e1:=zeS (x:=i.o) (by omega)
 have e2:=zeS (x:=i.d) (by omega);have e3:=zn5 (x:=i.e) (by omega)
 have e4:=zn5 (x:=i.c) (by omega);have g3:zb6 (zZ i.o i.d i.e i.c) 2 2=num (two i.e) 0:=rfl
 have g4:zb6 (zZ i.o i.d i.e i.c) 4 2=num (two i.c) 0:=rfl;unfold zcY;rw[g3,g4,e3,e4];have q1:(zZ i.o i.d i.e i.c).getD 0 0=zu i.o:=rfl
 have q2:(zZ i.o i.d i.e i.c).getD 1 0=zu i.d:=rfl;rw[q1,q2,e1,e2]
theorem zrS {l:List UInt8} (h:l.length=6):zZ (zcY l).o (zcY l).d (zcY l).e (zcY l).c=l:=by
 match l,h with
 | [a,b,c,d,e,f],_=>
  have g3:zb6 [a,b,c,d,e,f] 2 2=num [c,d] 0:=rfl;have g4:zb6 [a,b,c,d,e,f] 4 2=num [e,f] 0:=rfl
  unfold zcY;rw[g3,g4];simp only[zZ];rw[zyb,zyb];have q1:([a,b,c,d,e,f]:List UInt8).getD 0 0=a:=rfl
  have q2:([a,b,c,d,e,f]:List UInt8).getD 1 0=b:=rfl;rw[q1,q2,zfI,zfI];rfl
end Go.Proofs.YtpdkkbpkplhdpaaGreat
namespace Go.Proofs.YtpdkkbpkplhdpaaGreat
open Go Go.Vm
def zcw (x:EvX):Int:=zaF x.kind x.id x.p.length
def zI (x:EvX):List UInt8:=zu x.kind::(if x.kind=1 then [] else if x.kind=2 then zZ x.id.o x.id.d x.id.e x.id.c++x.p else zZ x.id.o x.id.d x.id.e x.id.c)
def zca (x:EvX):List UInt8:=if zcw x=0 then zI x else []
def zcs:List UInt8→Option EvX
 | []=>none
 | b::r=>
  if b.toNat=1 then (if r=[] then some ⟨1,zcr,[]⟩ else none)
  else if b.toNat=2 then (if zbb r=0 then some ⟨2,(zbu r).id,(zbu r).p⟩ else none)
  else if b.toNat=3∨b.toNat=4 then (if za1 r=0 then some ⟨b.toNat,zfb r,[]⟩ else none)
  else none
theorem zbv (b:UInt8) (r:List UInt8):zcs (b::r)=if b.toNat=1 then (if r=[] then some ⟨1,zcr,[]⟩ else none)
  else if b.toNat=2 then (if zbb r=0 then some ⟨2,(zbu r).id,(zbu r).p⟩ else none)
  else if b.toNat=3∨b.toNat=4 then (if za1 r=0 then some ⟨b.toNat,zfb r,[]⟩ else none)
  else none:=rfl
theorem zmA {x:EvX} (h:zcw x=0):x.kind=1∨x.kind=2∨x.kind=3∨x.kind=4:=by
 unfold zcw zaF at h
 repeat' split at h
 all_goals omega
theorem ztB {x:EvX} (h:zcw x=0) (hk:x.kind=1):zey x.id∧x.p=[]:=by
 unfold zcw zaF at h;rw[if_pos hk] at h;split at h
 ·cases h
 ·rename_i g;refine⟨?_,?_⟩
  ·by_cases h1:zey x.id
   ·exact h1
   ·exact absurd (.inl h1) g
  ·exact List.eq_nil_of_length_eq_zero (by omega)
theorem zh6 {x:EvX} (h:zcw x=0) (hk:x.kind=2):zdJ x.id=0∧0<x.p.length∧x.p.length≤48:=by
 unfold zcw zaF at h;rw[if_neg (by omega),if_pos hk] at h;exact za8 h
theorem zf5 {x:EvX} (h:zcw x=0) (hk:x.kind=3∨x.kind=4):zdJ x.id=0∧x.p=[]:=by
 unfold zcw zaF at h;rw[if_neg (by omega),if_neg (by omega),if_pos hk] at h;split at h
 ·rename_i g;exact absurd h g
 ·rename_i g;split at h
  ·cases h
  ·exact⟨by simpa using g,List.eq_nil_of_length_eq_zero (by omega)⟩
theorem zbp (o d e c:Int):(zZ o d e c).length=6:=by simp[zZ,two]
theorem zf6 {i:IdT} (h:zdJ i=0):za1 (zZ i.o i.d i.e i.c)=0∧zfb (zZ i.o i.d i.e i.c)=i:=by
 obtain⟨h1,h2⟩:=zrR (i:=i) h
 have:za1 (zZ i.o i.d i.e i.c)=0:=by
  unfold za1;rw[if_neg (by omega),h1,if_neg (by simp only[ne_eq,Decidable.not_not];exact h)]
 exact⟨this,by unfold zfb;rw[if_pos this,h1]⟩
theorem zww {k:Int} (h:0≤k∧k<256):((zu k).toNat:Int)=k:=zeS h
theorem zxH {x:EvX} (h:zcw x=0):zcs (zI x)=some x:=by
 obtain⟨k,i,p⟩:=x;have hk:=zmA h
 dsimp only at hk;have hb:((zu k).toNat:Int)=k:=zww (by omega)
 rcases hk with rfl|rfl|rfl|rfl
 ·obtain⟨h1,h2⟩:=ztB h rfl;dsimp only at h1 h2;subst h2;have eb:zI ⟨1,i,[]⟩=[zu 1]:=rfl
  rw[eb,zbv,if_pos (by omega),if_pos rfl];obtain⟨o,d,e,c⟩:=i;unfold zey at h1;dsimp only at h1;obtain⟨rfl,rfl,rfl,rfl⟩:=h1;rfl
 ·obtain⟨h1,h2,h3⟩:=zh6 h rfl;dsimp only at h1 h2 h3;obtain⟨g1,g2⟩:=zf6 h1;have e6:(zZ i.o i.d i.e i.c++p).take 6=zZ i.o i.d i.e i.c:=by rw[List.take_append_of_le_length (by rw[zbp];omega),List.take_of_length_le (by rw[zbp];omega)]
  have d6:(zZ i.o i.d i.e i.c++p).drop 6=p:=by rw[List.drop_append,List.drop_of_length_le (by rw[zbp];omega),zbp];simp
  have hm:zbb (zZ i.o i.d i.e i.c++p)=0:=by
   unfold zbb;rw[if_neg (by rw[List.length_append,zbp];omega),e6,if_neg (by simp[g1]),if_neg (by rw[List.length_append,zbp];omega)]
  have eb:zI ⟨2,i,p⟩=zu 2::(zZ i.o i.d i.e i.c++p):=rfl;rw[eb,zbv,if_neg (by omega),if_pos (by omega),if_pos hm];unfold zbu;rw[if_pos hm,e6,d6];rw[zfb,if_pos g1] at g2;dsimp only;rw[g2]
 ·obtain⟨h1,h2⟩:=zf5 h (.inl rfl);dsimp only at h1 h2;subst h2;obtain⟨g1,g2⟩:=zf6 h1;have eb:zI ⟨3,i,[]⟩=zu 3::zZ i.o i.d i.e i.c:=rfl
  rw[eb,zbv,if_neg (by omega),if_neg (by omega),if_pos (by omega),if_pos g1,g2,hb]
 ·obtain⟨h1,h2⟩:=zf5 h (.inr rfl);dsimp only at h1 h2;subst h2;obtain⟨g1,g2⟩:=zf6 h1;have eb:zI ⟨4,i,[]⟩=zu 4::zZ i.o i.d i.e i.c:=rfl
  rw[eb,zbv,if_neg (by omega),if_neg (by omega),if_pos (by omega),if_pos g1,g2,hb]
theorem zmR {l:List UInt8} (h:za1 l=0):l.length=6∧zdJ (zcY l)=0:=by
 unfold za1 at h;split at h
 ·cases h
 ·rename_i h6;split at h
  ·cases h
  ·rename_i h7;have h8:(zcY l).err=0:=by simpa using h7
   exact⟨by omega,h8⟩
theorem zs1 {l:List UInt8} (h:zbb l=0):(7≤l.length∧l.length≤54)∧za1 (l.take 6)=0:=by
 unfold zbb at h;split at h
 ·cases h
 ·split at h
  ·cases h
  ·rename_i g;split at h
   ·cases h
   ·exact⟨by omega,by simpa using g⟩
theorem zn6 {b:UInt8} {k:Nat} (h:b.toNat=k):zu (k:Int)=b:=by rw[←h];exact zfI b
theorem zxI {l:List UInt8} {x:EvX} (h:zcs l=some x):zcw x=0∧zI x=l:=by
 cases l with
 | nil=>cases h
 | cons b r=>
  rw[zbv] at h;split at h
  ·rename_i hb;split at h
   ·rename_i hr;cases h;subst hr;exact⟨by decide,by have:=zn6 hb;unfold zI;rw[if_pos rfl];exact congrArg (· :: []) this⟩
   ·cases h
  rename_i hb1;split at h
  ·rename_i hb;split at h
   ·rename_i hm;cases h;obtain⟨h1,h2⟩:=zs1 hm;obtain⟨h3,h4⟩:=zmR h2;have em:zbu r=⟨zcY (r.take 6),r.drop 6⟩:=by unfold zbu;rw[if_pos hm]
    rw[em];dsimp only;refine⟨?_,?_⟩
    ·unfold zcw zaF;dsimp only;rw[if_neg (by decide),if_pos rfl];unfold zdm zfk;rw[show za4 (zcY (r.take 6)).o (zcY (r.take 6)).d (zcY (r.take 6)).e (zcY (r.take 6)).c=0 from h4];rw[if_neg (by decide),if_neg (by simp;omega),if_neg (by simp;omega)]
    ·unfold zI;dsimp only;rw[if_neg (by decide),if_pos rfl,zrS h3,List.take_append_drop];exact congrArg (· :: r) (zn6 hb)
   ·cases h
  rename_i hb2;split at h
  ·rename_i hb;split at h
   ·rename_i hi;cases h;obtain⟨h3,h4⟩:=zmR hi;have ei:zfb r=zcY r:=by unfold zfb;rw[if_pos hi]
    rw[ei];refine⟨?_,?_⟩
    ·unfold zcw zaF;dsimp only;rw[if_neg (by omega),if_neg (by omega),if_pos (by omega),if_neg (by simpa using h4),if_neg (by simp)]
    ·unfold zI;dsimp only;rw[if_neg (by omega),if_neg (by omega),zrS h3,zn6 rfl]
   ·cases h
  ·cases h
end Go.Proofs.YtpdkkbpkplhdpaaGreat
namespace Go.Proofs.YtpdkkbpkplhdpaaGreat
open Go Go.Vm
attribute [local irreducible] Brn Ob Grow CallsM inR zax zav Mem.row Mem.cells Mem.setCells Mem.upd Go.Vm.Own zaD za5 zbc zaJ New SrcOk subA NewSl Mem.textAt Mem.mapAt Mem.iterAt zau zaj Wr NewEls Elems
set_option maxRecDepth 10000
section
variable {M:Mem}
theorem ztC (i:IdT) {a:Option Addr} {c:Nat} {l:List UInt8} (hl:SrcOk M 1 a l.length (l.map zl)) (h0:zdm i l.length=0):CallsM Tryz.prog F.zkt [.agg #[.int .i64 i.o,.int .i64 i.d,.int .i64 i.e,.int .i64 i.c,.slice a l.length c]] M fun v M'=>
  ∃ a' c',v = .tuple #[.slice a' (6+l.length) c',.int .i64 0]∧NewSl M T.zn 1 a' (6+l.length) c' ((zZ i.o i.d i.e i.c++l).map zl) M':=by
 refine zyZ (by simp) ?_;obtain⟨h1,h2,h3⟩:=za8 h0;refine zR ?_;refine(zlg _ _ _ _ _ _ _ _).mono ?_;rintro v _ ⟨rfl,rfl⟩;(conv=>whnf);refine brn_f (by rw[show zfk i.o i.d i.e i.c l.length=0 from h0];rfl) ?_;refine zR ?_;refine(zqx _ _ _ _ _).mono ?_;rintro v M1 (⟨hne, -⟩|⟨-, a1,c1,rfl,hN⟩)
 ·exact absurd h1 hne
 refine zR ?_;refine zdR (hl.le hN.le) ?_;(conv=>whnf);refine ze6 M _ hN (by first|omega|(dsimp only;omega)) (by simp[maxLen]<;>omega) (zco _) fun a2 c2 M2 hN2=>?_
 refine zR ?_;exact⟨a2,c2,rfl,by simpa using hN2⟩
def zAT (x:EvX) (M:Mem) (v:Value) (M':Mem):Prop:=∃ a c,v = .tuple #[.slice a (zca x).length c,.int .i64 (zcw x)]∧NewSl M T.zn 1 a (zca x).length c ((zca x).map zl) M'
theorem zB2 (x:EvX) {a:Option Addr} {c:Nat} (hl:SrcOk M 1 a x.p.length (x.p.map zl)):CallsM Tryz.prog F.zif [evV x.kind x.id a x.p.length c] M (zAT x M):=by
 obtain⟨k,i,p⟩:=x;dsimp only at hl ⊢;refine zsu (by simp) ?_;refine zR ?_;refine(zx8 k i a p.length c).mono ?_;rintro v _ ⟨rfl,rfl⟩;(conv=>whnf);refine brn (fun g=>?_) (fun g=>?_)
 ·have g1:¬zaF k i p.length=0:=by simpa using g
  have e:zca ⟨k,i,p⟩=[]:=by unfold zca zcw;rw[if_neg g1]
  refine zR ?_;refine⟨none,0,?_,?_⟩
  ·rw[e];rfl
  ·rw[e];exact NewSl.none _ _ _
 have g0:zaF k i p.length=0:=by simpa using g
 have g1:zcw ⟨k,i,p⟩=0:=g0;have e:zca ⟨k,i,p⟩=zI ⟨k,i,p⟩:=by unfold zca;rw[if_pos g1]
 have hk:=zmA g1;dsimp only at hk;rcases hk with rfl|rfl|rfl|rfl
 ·have eb:zI ⟨1,i,p⟩=[zu 1]:=rfl;have hlen:1+0=(zca ⟨1,i,p⟩).length:=by rw[e,eb];rfl
  have hle:=Mem.le_refl M;refine zR ?_;refine new (fun b9 hb9=>?_);replace hb9:M b9=none:=hb9;rw[zb9];have hN9:NewSl M T.zn 1 (some ⟨b9,0,none⟩) 1 1 ([zu 1].map zl) _:=NewSl.lit hb9 T.zn 1 1 [zl (zu 1)] rfl
  (conv=>whnf);refine zdR (vs:=([]:List UInt8).map zl) (SrcOk.nil _ _) ?_;(conv=>whnf);refine ze6 _ _ hN9 (by first|omega|(dsimp only;omega)) (by simp[maxLen]<;>omega) (zco _) fun a2 c2 M2 hN2=>?_
  refine zR ?_;refine⟨a2,c2,by rw[←hlen,g1],?_⟩;rw[←hlen,e,eb];exact NewSl.mono (by simpa using hN2) hle
 ·obtain⟨h1,h2,h3⟩:=zh6 g1 rfl;dsimp only at h1 h2 h3;have eb:zI ⟨2,i,p⟩=zu 2::(zZ i.o i.d i.e i.c++p):=rfl
  have hlen:1+(6+p.length)=(zca ⟨2,i,p⟩).length:=by rw[e,eb,List.length_cons,List.length_append,zbp];omega
  refine zR ?_;refine(ztC i hl (by unfold zaF at g0;rwa [if_neg (by decide),if_pos rfl] at g0)).mono ?_;rintro v M1 ⟨a1,c1,rfl,hN⟩;refine zR ?_;refine new (fun b9 hb9=>?_);replace hb9:M1 b9=none:=hb9;have hle:=hN.le
  rw[zb9];have hN9:NewSl M1 T.zn 1 (some ⟨b9,0,none⟩) 1 1 ([zu 2].map zl) _:=NewSl.lit hb9 T.zn 1 1 [zl (zu 2)] rfl
  (conv=>whnf);refine zdR (hN.src.le hN9.le) ?_;(conv=>whnf);refine ze6 _ _ hN9 (by first|omega|(dsimp only;omega)) (by simp[maxLen]<;>omega) (zco _) fun a2 c2 M2 hN2=>?_
  refine zR ?_;refine⟨a2,c2,by rw[←hlen,g1],?_⟩;rw[←hlen,e,eb];exact NewSl.mono (by simpa using hN2) hle
 ·have eb:zI ⟨3,i,p⟩=zu 3::zZ i.o i.d i.e i.c:=rfl;have hlen:1+6=(zca ⟨3,i,p⟩).length:=by rw[e,eb,List.length_cons,zbp]
  obtain⟨h1,h2⟩:=zf5 g1 (by dsimp only;omega);refine zR ?_;refine(zqx _ _ _ _ _).mono ?_;rintro v M1 (⟨hne, -⟩|⟨-, a1,c1,rfl,hN⟩)
  ·exact absurd h1 hne
  refine zR ?_;refine new (fun b9 hb9=>?_);replace hb9:M1 b9=none:=hb9;have hle:=hN.le
  rw[zb9];have hN9:NewSl M1 T.zn 1 (some ⟨b9,0,none⟩) 1 1 ([zu 3].map zl) _:=NewSl.lit hb9 T.zn 1 1 [zl (zu 3)] rfl
  (conv=>whnf);refine zdR (hN.src.le hN9.le) ?_;(conv=>whnf);refine ze6 _ _ hN9 (by first|omega|(dsimp only;omega)) (by simp[maxLen]<;>omega) (zco _) fun a2 c2 M2 hN2=>?_
  refine zR ?_;refine⟨a2,c2,by rw[←hlen,g1],?_⟩;rw[←hlen,e,eb];exact NewSl.mono (by simpa using hN2) hle
 ·have eb:zI ⟨4,i,p⟩=zu 4::zZ i.o i.d i.e i.c:=rfl;have hlen:1+6=(zca ⟨4,i,p⟩).length:=by rw[e,eb,List.length_cons,zbp]
  obtain⟨h1,h2⟩:=zf5 g1 (by dsimp only;omega);refine zR ?_;refine(zqx _ _ _ _ _).mono ?_;rintro v M1 (⟨hne, -⟩|⟨-, a1,c1,rfl,hN⟩)
  ·exact absurd h1 hne
  refine zR ?_;refine new (fun b9 hb9=>?_);replace hb9:M1 b9=none:=hb9;have hle:=hN.le
  rw[zb9];have hN9:NewSl M1 T.zn 1 (some ⟨b9,0,none⟩) 1 1 ([zu 4].map zl) _:=NewSl.lit hb9 T.zn 1 1 [zl (zu 4)] rfl
  (conv=>whnf);refine zdR (hN.src.le hN9.le) ?_;(conv=>whnf);refine ze6 _ _ hN9 (by first|omega|(dsimp only;omega)) (by simp[maxLen]<;>omega) (zco _) fun a2 c2 M2 hN2=>?_
  refine zR ?_;refine⟨a2,c2,by rw[←hlen,g1],?_⟩;rw[←hlen,e,eb];exact NewSl.mono (by simpa using hN2) hle
end
section
variable {M:Mem}
def GetOut (l:List UInt8) (M:Mem) (v:Value) (M':Mem):Prop:=
 (zcs l=none∧v = .tuple #[evV 0 zcr none 0 0,.int .i64 2]∧M.le M') ∨
 (∃ x a c,zcs l=some x∧v = .tuple #[evV x.kind x.id a x.p.length c,.int .i64 0]∧M.le M'∧SrcOk M' 1 a x.p.length (x.p.map zl)∧x.p.length≤4194304)
theorem zB3 {a:Option Addr} {n c:Nat} {l:List UInt8} (hs:SrcOk M 1 a n (l.map zl)) (hn:n≤4194304) (hc:n≤c):CallsM Tryz.prog F.zid [.slice a n c] M (GetOut l M):=by
 refine zso (by simp) ?_;have hl:=hs.maplen
 refine zR ?_;refine brn (fun g=>?_) (fun g=>?_)
 ·have hn0:l=[]:=List.eq_nil_of_length_eq_zero (by have:=Zd0 g;omega);subst hn0;refine zR ?_;exact .inl ⟨rfl,rfl,Mem.le_refl _⟩
 have hn1:0<n:=by have:=Zd1 g;omega
 obtain⟨b,r,rfl⟩:∃ b r,l=b::r:=by
  cases l with
  | nil=>simp at hl;omega
  | cons b r=>exact⟨b,r,rfl⟩
 obtain⟨h0,bb,o,ha,hrow⟩:=hs.at (i:=0) hn1;replace hrow:M.row bb (o+0*1) 1=some [zl b]:=hrow;have hrl:r.length=n - 1:=by simp at hl;omega
 have hsub:SrcOk M 1 (subA a 1 c 1) (n - 1) (r.map zl):=by
  have:=hs.subm (lo:=1) (hi:=n) (by omega) (by omega) hc;rw[List.drop_succ_cons,List.drop_zero,List.take_of_length_le (by omega)] at this;exact this
 have hb:=UInt8.toNat_lt b;have hw:IntKind.i64.wrap (b.toNat:Int)=b.toNat:=wrap_i64 (by omega)
 (conv=>whnf);refine ob (by omega) ?_;(conv=>whnf);refine atp ha ?_;(conv=>whnf);refine on hrow ?_;(conv=>whnf)
 rw[hw];refine brn (fun g1=>?_) (fun g1=>?_)
 ·have k1:b.toNat=1:=by have:=Zd0 g1;omega
  (conv=>whnf);refine brn (fun g2=>?_) (fun g2=>?_)
  ·have hp:zcs (b::r)=none:=by
    rw[zbv,if_pos k1,if_neg];intro e;subst e;have:=Zd0 g2
    simp at hrl;omega
   (conv=>whnf);refine zR ?_;exact .inl ⟨hp,rfl,by first|exact Mem.le_refl _|exact hle⟩
  ·have hr:r=[]:=List.eq_nil_of_length_eq_zero (by have:=Zd1 g2;omega);have hp:zcs (b::r)=some ⟨1,zcr,[]⟩:=by rw[zbv,if_pos k1,if_pos hr]
   rw[k1];refine zR ?_;exact .inr ⟨_,none,0,hp,rfl,Mem.le_refl _,SrcOk.nil _ _,by simp⟩
 have k1:¬b.toNat=1:=by have:=Zd1 g1;omega
 (conv=>whnf);refine brn (fun g2=>?_) (fun g2=>?_)
 ·have k2:b.toNat=2:=by have:=Zd0 g2;omega
  refine zR ?_;refine ob (by omega) ?_;refine zR ?_;refine(zAS _ _ _ _ r hsub (by omega) (by omega)).mono ?_;rintro v M1 ⟨p,m,k,rfl,hle,hps,hm, -⟩;(conv=>whnf);refine brn (fun g3=>?_) (fun g3=>?_)
  ·have e:¬zbb r=0:=by simpa using g3
   have hp:zcs (b::r)=none:=by rw[zbv,if_neg k1,if_pos k2,if_neg e]
   (conv=>whnf);refine zR ?_;exact .inl ⟨hp,rfl,by first|exact Mem.le_refl _|exact hle⟩
  ·have e:zbb r=0:=by simpa using g3
   have hp:zcs (b::r)=some ⟨2,(zbu r).id,(zbu r).p⟩:=by rw[zbv,if_neg k1,if_pos k2,if_pos e]
   obtain rfl:=hps.maplen;rw[k2];refine zR ?_;exact .inr ⟨_,p,k,hp,rfl,hle,hps,hm⟩
 have k2:¬b.toNat=2:=by have:=Zd1 g2;omega
 (conv=>whnf);refine brn (fun g3=>?_) (fun g3=>?_)
 ·have k3:b.toNat=3∨b.toNat=4:=by have:=Zd0 g3;omega
  (conv=>whnf);refine brn_t g3 ?_;refine zR ?_;refine ob (by omega) ?_;refine zR ?_;refine(zqy _ _ _ _ r hsub (by omega) (by omega)).mono ?_;rintro v _ ⟨rfl,rfl⟩;(conv=>whnf);refine brn (fun g5=>?_) (fun g5=>?_)
  ·have e:¬za1 r=0:=by simpa using g5
   have hp:zcs (b::r)=none:=by rw[zbv,if_neg k1,if_neg k2,if_pos k3,if_neg e]
   (conv=>whnf);refine zR ?_;exact .inl ⟨hp,rfl,by first|exact Mem.le_refl _|exact hle⟩
  ·have e:za1 r=0:=by simpa using g5
   have hp:zcs (b::r)=some ⟨b.toNat,zfb r,[]⟩:=by rw[zbv,if_neg k1,if_neg k2,if_pos k3,if_pos e]
   refine zR ?_;exact .inr ⟨_,none,0,hp,rfl,Mem.le_refl _,SrcOk.nil _ _,by simp⟩
 (conv=>whnf);refine brn (fun g4=>?_) (fun g4=>?_)
 ·have k3:b.toNat=3∨b.toNat=4:=by have:=Zd0 g4;omega
  refine zR ?_;refine ob (by omega) ?_;refine zR ?_;refine(zqy _ _ _ _ r hsub (by omega) (by omega)).mono ?_;rintro v _ ⟨rfl,rfl⟩;(conv=>whnf);refine brn (fun g5=>?_) (fun g5=>?_)
  ·have e:¬za1 r=0:=by simpa using g5
   have hp:zcs (b::r)=none:=by rw[zbv,if_neg k1,if_neg k2,if_pos k3,if_neg e]
   (conv=>whnf);refine zR ?_;exact .inl ⟨hp,rfl,by first|exact Mem.le_refl _|exact hle⟩
  ·have e:za1 r=0:=by simpa using g5
   have hp:zcs (b::r)=some ⟨b.toNat,zfb r,[]⟩:=by rw[zbv,if_neg k1,if_neg k2,if_pos k3,if_pos e]
   refine zR ?_;exact .inr ⟨_,none,0,hp,rfl,Mem.le_refl _,SrcOk.nil _ _,by simp⟩
 ·have k3:¬(b.toNat=3∨b.toNat=4):=by have:=Zd1 g3;have:=Zd1 g4;omega
  have hp:zcs (b::r)=none:=by rw[zbv,if_neg k1,if_neg k2,if_neg k3]
  (conv=>whnf);refine zR ?_;exact .inl ⟨hp,rfl,by first|exact Mem.le_refl _|exact hle⟩
end
section
variable {M:Mem}
def zbO (l:List UInt8):EvX:=(zcs l).getD ⟨0,zcr,[]⟩
def zgs (l:List UInt8):Int:=if zcs l=none then 2 else 0
theorem GetOut.all {l:List UInt8} {v:Value} {M':Mem} (h:GetOut l M v M'):∃ a c,v = .tuple #[evV (zbO l).kind (zbO l).id a (zbO l).p.length c,.int .i64 (zgs l)]∧M.le M'∧SrcOk M' 1 a (zbO l).p.length ((zbO l).p.map zl):=by
 unfold zbO zgs;rcases h with ⟨h1,rfl,h2⟩|⟨x,a,c,h1,rfl,h2,h3,h4⟩
 ·rw[h1];exact⟨none,0,rfl,h2,SrcOk.nil _ _⟩
 ·rw[h1];exact⟨a,c,rfl,h2,h3⟩
theorem zxJ {l:List UInt8} (h:zgs l=0):zcs l=some (zbO l):=by
 unfold zgs at h;unfold zbO;cases e:zcs l with
 | none=>rw[e] at h;simp at h
 | some x=>rfl
theorem zzB (x:EvX):(zca x).length≤60:=by
 unfold zca;split
 ·rename_i h;unfold zI;rw[List.length_cons];split
  ·simp
  ·split
   ·rename_i hk;have:=(zh6 h hk).2.2
    rw[List.length_append,zbp];omega
   ·rw[zbp];omega
 ·simp
theorem back {x:EvX} (h:zcw x=0):zbO (zca x)=x∧zgs (zca x)=0:=by
 have e:zca x=zI x:=by unfold zca;rw[if_pos h]
 have:=zxH h;unfold zbO zgs;rw[e,this];exact⟨rfl,rfl⟩
theorem zEN {l:List UInt8} (h:zgs l=0):zcw (zbO l)=0∧zca (zbO l)=l:=by
 obtain⟨h1,h2⟩:=zxI (zxJ h);exact⟨h1,by unfold zca;rw[if_pos h1,h2]⟩
end
section
variable {M:Mem}
structure zhp where
 self:Int
 epoch:Int
 ul:NxT
 hs:List zby
 sn:List Mk
def zbA (l:NxT):List UInt8:=l.flatMap fun n=>zu n.1::zV [n.2]
def zaM (l:List zby):List UInt8:=l.flatMap fun m=>zu (6+m.p.length)::(zZ m.id.o m.id.d m.id.e m.id.c++m.p)
def zfc (m:Mk):List UInt8:=zu m.o::(zV [m.e,m.up,m.more.length]++zV m.more)
def zO (l:List Mk):List UInt8:=l.flatMap zfc
def zcM (s:zhp):List UInt8:=zu s.self::(zV [s.epoch]++[zu s.ul.length])
def zgH (s:zhp):List UInt8:=zcM s++zbA s.ul++zV [(s.hs.length:Int)]++zaM s.hs++zV [(s.sn.length:Int)]++zO s.sn
def zaq (s:zhp):List UInt8:=zgH s++be 4 (zeG (zgH s))
structure SnapOk (s:zhp):Prop where
 bad:¬zbr s.self 256 1048576 256
 form:zky s.self s.epoch s.ul s.hs s.sn
 full:¬zfa 256 1048576 256 s.hs s.sn
 few:s.sn.length≤65535
theorem SnapOk.check {s:zhp} (h:SnapOk s):CheckS 256 1048576 256 s.self s.epoch s.ul s.hs s.sn 0 := .inr (.inr (.inr ⟨h.bad,h.form,h.full,rfl⟩))
structure zrT (M:Mem) (s:zhp) (ua:Option Addr) (un:Nat) (ha:Option Addr) (hn hc:Nat) (ma:Option Addr) (mn:Nat) (ms:List MX) (mk:List MkC):Prop where
 stat:StatR M ua un ha hn ma mn s.ul ms mk
 big:zB0 ms mk un hn hc mn
 held:ms.map MX.msg=s.hs
 seen:mk.map MkC.mk'=s.sn
variable {s:zhp} {ua ha ma:Option Addr} {un uc hn hc mn mc:Nat} {ms:List MX} {mk:List MkC}
theorem zn7 (h:zrT M s ua un ha hn hc ma mn ms mk) (hR:SnapOk s):CallsM Tryz.prog F.zg8 [zhV s.self s.epoch ua un uc ha hn hc ma mn mc] M fun v M'=>v = .int .i64 0∧M.le M':=by
 refine zue (by simp) ?_;have hml:=h.stat.seen.len
 have hmm:mn≤65535:=by have h1:=hR.few;have h2:=congrArg List.length h.seen;rw[List.length_map] at h2;omega
 refine zR ?_;refine(ztA 256 1048576 256 h.stat h.big).mono ?_;rw[h.held,h.seen];rintro v M1 ⟨e,hC,⟨he0, -⟩|⟨-, p,b,sp,sb,came,xs,es,rfl,h1, -⟩⟩
 ·exact absurd (hC.uniq hR.check) he0
 refine zR ?_;refine brn_f (decide_eq_false (by omega)) ?_;refine zR ?_;exact⟨rfl,h1.le⟩
theorem zwx (x:Int):zV [x]=be 2 x:=by simp[zV]
theorem zmB (l:NxT):(zbA l).length=3*l.length:=by
 unfold zbA
 induction l with
 | nil=>rfl
 | cons x r ih=>rw[List.flatMap_cons,List.length_append,ih,List.length_cons,za0];simp;omega
theorem zxK {l:NxT} {i:Nat} (h:i<l.length):zbA (l.take (i+1))=zbA (l.take i)++(zu l[i].1::zV [l[i].2]):=by
 unfold zbA;rw[List.take_add_one,List.getElem?_eq_getElem h,List.flatMap_append];simp
theorem zmC {l:List zby} {i:Nat} (h:i<l.length):zaM (l.take (i+1))=zaM (l.take i)++(zu (6+l[i].p.length)::(zZ l[i].id.o l[i].id.d l[i].id.e l[i].id.c++l[i].p)):=by
 unfold zaM;rw[List.take_add_one,List.getElem?_eq_getElem h,List.flatMap_append];simp
theorem zps {l:List Mk} {i:Nat} (h:i<l.length):zO (l.take (i+1))=zO (l.take i)++zfc l[i]:=by
 unfold zO;rw[List.take_add_one,List.getElem?_eq_getElem h,List.flatMap_append];simp
theorem zCy {E:TypeId} {a:Option Addr} {n c m:Nat} {k:Option Addr→Nat→Mem→Prop} (M0:Mem) {bs ys:List UInt8} (hown:NewSl M0 E 1 a n c (bs.map zl) M) (h1:n+m≤1000000000)
  (hk:∀ a' c' M',NewSl M0 E 1 a' (n+m) c' ((bs++ys).map zl) M'→k a' c' M'):zaD E 1 1 a n c m (ys.map zl) M k:=
 ze6 M0 _ hown (by omega) (by simp[maxLen];omega) (zco _) fun a' c' M' h=>hk a' c' M' (by rw[List.map_append];exact h)
theorem zrU {E:TypeId} {a:Option Addr} {n c:Nat} {k:Option Addr→Nat→Mem→Prop} (M0:Mem) {bs:List UInt8} {x:UInt8} (hown:NewSl M0 E 1 a n c (bs.map zl) M) (h1:n+1≤1000000000)
  (hk:∀ a' c' M',NewSl M0 E 1 a' (n+1) c' ((bs++[x]).map zl) M'→Mem.keep (z6 a) M M'→k a' c' M'):zaD E 1 1 a n c 1 [zl x] M k:=
 zge M0 _ hown (by omega) (by simp[maxLen];omega) (zco [x]) fun a' c' M' h hk'=>hk a' c' M' (by rw[List.map_append];exact h) hk'
theorem zmD {M0 M':Mem} {E E2:TypeId} {a:Option Addr} {n c:Nat} {L l:List Value} (hN:NewSl M0 E 1 a n c L M) {b:Nat} (hb:M b=none) (hk:Mem.keep (z6 a) (M.setCells b E2 l) M'):M'.has b E2 l:=by
 refine hk b _ (fun ⟨q,hq,e⟩=>?_) Mem.has_setCells;obtain⟨-, cs,hh⟩:=hN.block hq;unfold Mem.has at hh;rw[e,hb] at hh;cases hh
theorem zB4 {E:TypeId} {a:Option Addr} {n c:Nat} {k:Option Addr→Nat→Mem→Prop} (M0:Mem) {bs:List UInt8} {x:UInt8} (hown:NewSl M0 E 1 a n c (bs.map zl) M) (h1:n+1≤1000000000)
  (hk:∀ a' c' M',NewSl M0 E 1 a' (n+1) c' ((bs++[x]).map zl) M'→k a' c' M'):zaD E 1 1 a n c 1 [zl x] M k:=zCy (ys:=[x]) M0 hown h1 hk
end
end Go.Proofs.YtpdkkbpkplhdpaaGreat
