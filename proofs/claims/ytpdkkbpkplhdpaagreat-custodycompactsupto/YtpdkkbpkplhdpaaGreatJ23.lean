/- Part of this proof;laid by program. -/
import Derived.Test.YtpdkkbpkplhdpaaGreatJ22
import Derived.Test.YtpdkkbpkplhdpaaGreatJ10
set_option linter.unusedVariables false
set_option linter.unusedSimpArgs false
namespace Go.Proofs.YtpdkkbpkplhdpaaGreat
open Go Go.Vm
attribute [local irreducible] Brn Ob Grow CallsM inR zay zax Mem.row Mem.cells Mem.setCells Mem.upd Go.Vm.Own zaG za5 za6 zaO New SrcOk subA NewSl Mem.textAt Mem.mapAt Mem.iterAt zaw zai Wr NewEls Elems
set_option maxRecDepth 10000
def zcK (l:List UInt8):IdT:=⟨(l.getD 0 0).toNat,(l.getD 1 0).toNat,zbX l 2 2,zbX l 4 2⟩
def IdT.err (i:IdT):Int:=zbw i.o i.d i.e i.c
@[reducible] def zbN:IdT:=⟨0,0,0,0⟩
def zaR (l:List UInt8):Int:=if l.length≠6 then 2 else if (zcK l).err≠0 then 2 else 0
def zeN (l:List UInt8):IdT:=if zaR l=0 then zcK l else zbN
theorem zv8 {l:List UInt8} (h:zaR l≠0):zaR l=2:=by
 unfold zaR at h ⊢
 split
 ·rfl
 ·rename_i h6
  rw[if_neg h6] at h
  split
  ·rfl
  ·rename_i h7;rw[if_neg h7] at h;exact absurd rfl h
theorem zzc (l:List UInt8) (k:Nat) (h:k+2≤l.length):zbX l k 2=256*(l.getD k 0).toNat+(l.getD (k+1) 0).toNat:=by
 unfold zbX
 have e:(l.drop (k:Int).toNat).take (Int.toNat 2)=[l[k],l[k+1]]:=by
  rw[show (k:Int).toNat=k by simp,show Int.toNat 2=2 by rfl,List.drop_eq_getElem_cons (by omega),List.take_succ_cons,List.drop_eq_getElem_cons (by omega),List.take_succ_cons,List.take_zero]
 rw[e]
 simp[num,List.getD_eq_getElem?_getD,List.getElem?_eq_getElem (show k<l.length by omega),List.getElem?_eq_getElem (show k+1<l.length by omega)]
theorem zmf (l:List UInt8) (k:Nat) (h:k+2≤l.length):zbX l k 2<65536:=by
 rw[zzc l k h]
 have:=UInt8.toNat_lt (l.getD k 0)
 have:=UInt8.toNat_lt (l.getD (k+1) 0)
 omega
theorem wrap_i64 {n:Int} (h:0≤n∧n<9223372036854775808):IntKind.i64.wrap n=n:=by
 rw[IntKind.wrap_i64];omega
theorem zqj (a:Option Addr) (n c:Nat) (M:Mem) (l:List UInt8) (hs:SrcOk M 1 a n (l.map zh)) (hn:n≤4194304) (hc:n≤c) :
  CallsM Tryz.prog F.zhb [.slice a n c] M fun v M'=>v = .tuple #[idA (zeN l),.int .i64 (zaR l)]∧M=M':=by
 have hl:=hs.maplen
 refine zvn (by simp) ?_
 (conv=>whnf);refine brn (fun h=>?_) (fun h=>?_)
 ·have h6:l.length≠6:=by simp at h;omega
  have e:zaR l=2:=by rw[zaR,if_pos h6]
  (conv=>whnf)
  rw[zeN,e]
  exact⟨rfl,rfl⟩
 have h6:n=6:=by simp at h;omega
 subst h6
 (conv=>whnf);refine(zfq _ _ _ _ l hs hn hc 2 2 (by decide)).mono ?_
 rintro v M' ⟨rfl,rfl⟩
 (conv=>whnf);refine(zfq _ _ _ _ l hs hn hc 4 2 (by decide)).mono ?_
 rintro v M' ⟨rfl,rfl⟩
 obtain⟨h0,b,o,rfl,hr0⟩:=hs.at (i:=0) (by decide)
 obtain⟨h1,b',o',hbo,hr1⟩:=hs.at (i:=1) (by decide)
 cases hbo
 have n2:zbX l 2 2<65536:=zmf l 2 (by omega)
 have n4:zbX l 4 2<65536:=zmf l 4 (by omega)
 have b0:=UInt8.toNat_lt l[0]
 have b1:=UInt8.toNat_lt l[1]
 refine zR ?_
 refine on hr0 ?_
 refine zR ?_
 refine on hr1 ?_
 refine zR ?_
 rw[wrap_i64 (by omega),wrap_i64 (by omega),wrap_i64 (by omega),wrap_i64 (by omega)]
 have hid:zcK l=⟨(l[0].toNat:Int),(l[1].toNat:Int),zbX l 2 2,zbX l 4 2⟩:=by simp[zcK,List.getD_eq_getElem?_getD,List.getElem?_eq_getElem h0,List.getElem?_eq_getElem h1]
 refine zR ?_
 refine(zf2 _ _ _ _ _).mono ?_
 rintro v M' ⟨rfl,rfl⟩
 have he:(zcK l).err=zbw l[0].toNat l[1].toNat (zbX l 2 2) (zbX l 4 2):=by rw[hid];rfl
 rw[←he]
 have hne:¬l.length≠6:=by omega
 (conv=>whnf);refine brn (fun g=>?_) (fun g=>?_)
 ·have g':(zcK l).err≠0:=by simpa using g
  have e:zaR l=2:=by rw[zaR,if_neg hne,if_pos g']
  (conv=>whnf)
  rw[zeN,e]
  exact⟨rfl,rfl⟩
 ·have g':(zcK l).err=0:=by simpa using g
  have e:zaR l=0:=by rw[zaR,if_neg hne,if_neg (by simp[g'])]
  (conv=>whnf)
  rw[zeN,e,if_pos rfl,hid]
  exact⟨rfl,rfl⟩
def zaU (l:List UInt8):Int:=if l.length<6 then 2 else if zaR (l.take 6)≠0 then 2 else if l.length=6∨54<l.length then 2 else 0
def zbi (l:List UInt8):zbo:=if zaU l=0 then ⟨zcK (l.take 6),l.drop 6⟩ else ⟨zbN,[]⟩
theorem zrJ (a:Option Addr) (n c:Nat) (M:Mem) (l:List UInt8) (hs:SrcOk M 1 a n (l.map zh)) (hn:n≤4194304) (hc:n≤c) :
  CallsM Tryz.prog F.zhk [.slice a n c] M fun v M'=>∃ p m k,v = .tuple #[.agg #[.int .i64 (zbi l).id.o,.int .i64 (zbi l).id.d,.int .i64 (zbi l).id.e,.int .i64 (zbi l).id.c,.slice p m k],.int .i64 (zaU l)] ∧
   NewSl M T.zm 1 p m k ((zbi l).p.map zh) M'∧m≤4194304:=by
 have hl:=hs.maplen
 refine zyx (by simp) ?_
 (conv=>whnf);refine brn (fun h=>?_) (fun h=>?_)
 ·have e:zaU l=2:=by rw[zaU,if_pos (by have:=Zd0 h;omega)]
  (conv=>whnf)
  refine⟨none,0,0,?_,?_,by decide⟩
  ·rw[zbi,e];rfl
  ·rw[zbi,e];exact NewSl.none _ _ _
 have h6:6≤l.length:=by have:=Zd1 h;omega
 have hsub:=hs.subm (lo:=0) (hi:=6) (by omega) (by omega) hc
 have hsub2:=hs.subm (lo:=6) (hi:=n) (by omega) (by omega) hc
 (conv=>whnf);refine ob (by omega) ?_
 (conv=>whnf);refine(zqj _ _ _ _ (l.take 6) (by simpa using hsub) (by decide) (by omega)).mono ?_
 rintro v M' ⟨rfl,rfl⟩
 (conv=>whnf);refine brn (fun g=>?_) (fun g=>?_)
 ·have g':zaR (l.take 6)≠0:=by simpa using g
  have e:zaU l=2:=by rw[zaU,if_neg (by omega),if_pos g']
  have e2:=zv8 g'
  (conv=>whnf)
  rw[e2]
  refine⟨none,0,0,?_,?_,by decide⟩
  ·rw[zbi,e];rfl
  ·rw[zbi,e];exact NewSl.none _ _ _
 have g':zaR (l.take 6)=0:=by simpa using g
 have hgi:zeN (l.take 6)=zcK (l.take 6):=by rw[zeN,if_pos g']
 rw[hgi]
 have hd6:(l.drop 6).length=n - 6:=by simp;omega
 have hsub3:SrcOk M 1 (subA a 6 c 1) (n - 6) ((l.drop 6).map zh):=by rw[List.take_of_length_le (by omega)] at hsub2;exact hsub2
 have hok:zfN (zcK (l.take 6)).o (zcK (l.take 6)).d (zcK (l.take 6)).e (zcK (l.take 6)).c (n - 6)=if n=6 then 2 else if 54<n then 3 else 0:=by
  have:(zcK (l.take 6)).err=0:=by
   unfold zaR at g';split at g'
   ·cases g'
   ·split at g'
    ·cases g'
    ·rename_i h7;simpa using h7
  unfold zfN
  rw[show zbw _ _ _ _=0 from this]
  simp only[ne_eq,not_true_eq_false,if_false]
  (repeat' split)<;>first|rfl|omega
 (conv=>whnf)
 refine⟨M,Mem.le_refl _,?_⟩
 repeat' ((conv=>whnf);first|refine⟨?_,True.intro⟩|refine⟨?_,?_,True.intro⟩|refine new (fun b hb=>?_)|refine ob (by omega) ?_|fail)
 all_goals
  replace hb:M b=none:=hb
  have hN:=NewSl.lit hb T.zm 1 0 [] rfl
  (conv=>whnf)
  refine zdQ (hsub3.le (Mem.le_setCells hb)) ?_
  (conv=>whnf)
  refine ze4 M _ hN (by omega) (by simp[maxLen];omega) (zcb _) fun a1 c1 M1 hN1=>?_
  refine zR ?_
  refine grow_same hN1.le ?_
  refine zR ?_
  refine(zkI _ _ _ _ _ _ _ _).mono ?_
  rintro v M' ⟨rfl,rfl⟩
  have hz:0+((n:Int).toNat - Int.toNat 6)=n - 6:=by
   have:Int.toNat 6=6:=rfl
   omega
  rw[hz] at hN1 ⊢
  rw[hok]
  have h6':¬l.length<6:=by omega
  (conv=>whnf);refine brn (fun g2=>?_) (fun g2=>?_)
  ·have e:zaU l=2:=by
    rw[zaU,if_neg h6',if_neg (by simp[g']),if_pos]
    by_cases h8:n=6
    ·omega
    ·rw[if_neg h8] at g2
     by_cases h9:54<n
     ·omega
     ·rw[if_neg h9] at g2;simp at g2
   (conv=>whnf)
   refine⟨none,0,0,?_,?_,by decide⟩
   ·rw[zbi,e];rfl
   ·rw[zbi,e];exact(NewSl.none _ _ _).up hN1.le
  ·have e:zaU l=0:=by
    rw[zaU,if_neg h6',if_neg (by simp[g']),if_neg]
    by_cases h8:n=6
    ·rw[if_pos h8] at g2;simp at g2
    ·rw[if_neg h8] at g2
     by_cases h9:54<n
     ·rw[if_pos h9] at g2;simp at g2
     ·omega
   (conv=>whnf)
   refine⟨a1,n - 6,c1,?_,?_,by omega⟩
   ·rw[zbi,e,if_pos rfl]
   ·rw[zbi,e,if_pos rfl];simpa using hN1
theorem zAt (a:Option Addr) (n c:Nat) (M:Mem) (l:List UInt8) (hs:SrcOk M 1 a n (l.map zh)) (hn:n≤4194304) (hc:n≤c) :
  CallsM Tryz.prog F.zhk [.slice a n c] M fun v M'=>∃ p m k,v = .tuple #[.agg #[.int .i64 (zbi l).id.o,.int .i64 (zbi l).id.d,.int .i64 (zbi l).id.e,.int .i64 (zbi l).id.c,.slice p m k],.int .i64 (zaU l)] ∧
   M.le M'∧SrcOk M' 1 p m ((zbi l).p.map zh)∧m≤4194304∧∀ q,p=some q→M q.block=none:=
 (zrJ a n c M l hs hn hc).mono fun v M' ⟨p,m,k,hv,hN,hm⟩=>⟨p,m,k,hv,hN.le,hN.src,hm,fun q hq=>(hN.block hq).1⟩
theorem zex {x:Int} (h:0≤x∧x<256):((zr x).toNat:Int)=x:=by
 unfold zr
 simp
 omega
theorem zfc (b:UInt8):zr (b.toNat:Int)=b:=by
 have:=b.toNat_lt
 unfold zr
 apply UInt8.toNat_inj.1
 simp
 omega
theorem znG {x:Int} (h:0≤x∧x≤65535):(num (two x) 0:Int)=x:=by
 have h1:=zex (x:=x / 256) (by omega)
 have h2:((zr x).toNat:Int)=x % 256:=by
  have:zr x=zr (x % 256):=by simp[zr]
  rw[this];exact zex (by omega)
 simp only[two,num]
 push_cast
 omega
theorem zxE {a b:UInt8}:two (num [a,b] 0:Nat)=[a,b]:=by
 have ha:=a.toNat_lt
 have hb:=b.toNat_lt
 simp only[num,two]
 have h1:((256*(256*0+a.toNat)+b.toNat:Nat):Int) / 256=(a.toNat:Int):=by omega
 rw[h1,zfc]
 have h2:zr ((256*(256*0+a.toNat)+b.toNat:Nat):Int)=zr (b.toNat:Int):=by
  unfold zr;congr 2;omega
 rw[h2,zfc]
theorem zrK {i:IdT} (h:i.err=0):zcK (zW i.o i.d i.e i.c)=i∧(zW i.o i.d i.e i.c).length=6:=by
 obtain⟨h1,h2,h3,h4,h5⟩:=zge h
 refine⟨?_,by simp[zW,two]⟩
 have e1:=zex (x:=i.o) (by omega)
 have e2:=zex (x:=i.d) (by omega)
 have e3:=znG (x:=i.e) (by omega)
 have e4:=znG (x:=i.c) (by omega)
 have g3:zbX (zW i.o i.d i.e i.c) 2 2=num (two i.e) 0:=rfl
 have g4:zbX (zW i.o i.d i.e i.c) 4 2=num (two i.c) 0:=rfl
 unfold zcK
 rw[g3,g4,e3,e4]
 have q1:(zW i.o i.d i.e i.c).getD 0 0=zr i.o:=rfl
 have q2:(zW i.o i.d i.e i.c).getD 1 0=zr i.d:=rfl
 rw[q1,q2,e1,e2]
theorem zrL {l:List UInt8} (h:l.length=6):zW (zcK l).o (zcK l).d (zcK l).e (zcK l).c=l:=by
 match l,h with
 | [a,b,c,d,e,f],_=>
  have g3:zbX [a,b,c,d,e,f] 2 2=num [c,d] 0:=rfl
  have g4:zbX [a,b,c,d,e,f] 4 2=num [e,f] 0:=rfl
  unfold zcK
  rw[g3,g4]
  simp only[zW]
  rw[zxE,zxE]
  have q1:([a,b,c,d,e,f]:List UInt8).getD 0 0=a:=rfl
  have q2:([a,b,c,d,e,f]:List UInt8).getD 1 0=b:=rfl
  rw[q1,q2,zfc,zfc]
  rfl
end Go.Proofs.YtpdkkbpkplhdpaaGreat
namespace Go.Proofs.YtpdkkbpkplhdpaaGreat
open Go Go.Vm
def zcj (x:EvX):Int:=za8 x.kind x.id x.p.length
def zF (x:EvX):List UInt8:=zr x.kind::(if x.kind=1 then [] else if x.kind=2 then zW x.id.o x.id.d x.id.e x.id.c++x.p else zW x.id.o x.id.d x.id.e x.id.c)
def zb1 (x:EvX):List UInt8:=if zcj x=0 then zF x else []
def zcf:List UInt8→Option EvX
 | []=>none
 | b::r=>
  if b.toNat=1 then (if r=[] then some ⟨1,zbN,[]⟩ else none)
  else if b.toNat=2 then (if zaU r=0 then some ⟨2,(zbi r).id,(zbi r).p⟩ else none)
  else if b.toNat=3∨b.toNat=4 then (if zaR r=0 then some ⟨b.toNat,zeN r,[]⟩ else none)
  else none
theorem zbj (b:UInt8) (r:List UInt8):zcf (b::r)=if b.toNat=1 then (if r=[] then some ⟨1,zbN,[]⟩ else none)
  else if b.toNat=2 then (if zaU r=0 then some ⟨2,(zbi r).id,(zbi r).p⟩ else none)
  else if b.toNat=3∨b.toNat=4 then (if zaR r=0 then some ⟨b.toNat,zeN r,[]⟩ else none)
  else none:=rfl
theorem zlY {x:EvX} (h:zcj x=0):x.kind=1∨x.kind=2∨x.kind=3∨x.kind=4:=by
 unfold zcj za8 at h
 repeat' split at h
 all_goals omega
theorem ztx {x:EvX} (h:zcj x=0) (hk:x.kind=1):zfO x.id∧x.p=[]:=by
 unfold zcj za8 at h
 rw[if_pos hk] at h
 split at h
 ·cases h
 ·rename_i g
  refine⟨?_,?_⟩
  ·by_cases h1:zfO x.id
   ·exact h1
   ·exact absurd (.inl h1) g
  ·exact List.eq_nil_of_length_eq_zero (by omega)
theorem zhp {x:EvX} (h:zcj x=0) (hk:x.kind=2):zd7 x.id=0∧0<x.p.length∧x.p.length≤48:=by
 unfold zcj za8 at h
 rw[if_neg (by omega),if_pos hk] at h
 exact za3 h
theorem zfx {x:EvX} (h:zcj x=0) (hk:x.kind=3∨x.kind=4):zd7 x.id=0∧x.p=[]:=by
 unfold zcj za8 at h
 rw[if_neg (by omega),if_neg (by omega),if_pos hk] at h
 split at h
 ·rename_i g;exact absurd h g
 ·rename_i g
  split at h
  ·cases h
  ·exact⟨by simpa using g,List.eq_nil_of_length_eq_zero (by omega)⟩
theorem zbb (o d e c:Int):(zW o d e c).length=6:=by simp[zW,two]
theorem zfy {i:IdT} (h:zd7 i=0):zaR (zW i.o i.d i.e i.c)=0∧zeN (zW i.o i.d i.e i.c)=i:=by
 obtain⟨h1,h2⟩:=zrK (i:=i) h
 have:zaR (zW i.o i.d i.e i.c)=0:=by
  unfold zaR
  rw[if_neg (by omega),h1,if_neg (by simp only[ne_eq,Decidable.not_not];exact h)]
 exact⟨this,by unfold zeN;rw[if_pos this,h1]⟩
theorem zv9 {k:Int} (h:0≤k∧k<256):((zr k).toNat:Int)=k:=zex h
theorem zxe {x:EvX} (h:zcj x=0):zcf (zF x)=some x:=by
 obtain⟨k,i,p⟩:=x
 have hk:=zlY h
 dsimp only at hk
 have hb:((zr k).toNat:Int)=k:=zv9 (by omega)
 rcases hk with rfl|rfl|rfl|rfl
 ·obtain⟨h1,h2⟩:=ztx h rfl
  dsimp only at h1 h2
  subst h2
  have eb:zF ⟨1,i,[]⟩=[zr 1]:=rfl
  rw[eb,zbj,if_pos (by omega),if_pos rfl]
  obtain⟨o,d,e,c⟩:=i
  unfold zfO at h1
  dsimp only at h1
  obtain⟨rfl,rfl,rfl,rfl⟩:=h1
  rfl
 ·obtain⟨h1,h2,h3⟩:=zhp h rfl
  dsimp only at h1 h2 h3
  obtain⟨g1,g2⟩:=zfy h1
  have e6:(zW i.o i.d i.e i.c++p).take 6=zW i.o i.d i.e i.c:=by rw[List.take_append_of_le_length (by rw[zbb];omega),List.take_of_length_le (by rw[zbb];omega)]
  have d6:(zW i.o i.d i.e i.c++p).drop 6=p:=by rw[List.drop_append,List.drop_of_length_le (by rw[zbb];omega),zbb];simp
  have hm:zaU (zW i.o i.d i.e i.c++p)=0:=by
   unfold zaU
   rw[if_neg (by rw[List.length_append,zbb];omega),e6,if_neg (by simp[g1]),if_neg (by rw[List.length_append,zbb];omega)]
  have eb:zF ⟨2,i,p⟩=zr 2::(zW i.o i.d i.e i.c++p):=rfl
  rw[eb,zbj,if_neg (by omega),if_pos (by omega),if_pos hm]
  unfold zbi
  rw[if_pos hm,e6,d6]
  rw[zeN,if_pos g1] at g2
  dsimp only
  rw[g2]
 ·obtain⟨h1,h2⟩:=zfx h (.inl rfl)
  dsimp only at h1 h2
  subst h2
  obtain⟨g1,g2⟩:=zfy h1
  have eb:zF ⟨3,i,[]⟩=zr 3::zW i.o i.d i.e i.c:=rfl
  rw[eb,zbj,if_neg (by omega),if_neg (by omega),if_pos (by omega),if_pos g1,g2,hb]
 ·obtain⟨h1,h2⟩:=zfx h (.inr rfl)
  dsimp only at h1 h2
  subst h2
  obtain⟨g1,g2⟩:=zfy h1
  have eb:zF ⟨4,i,[]⟩=zr 4::zW i.o i.d i.e i.c:=rfl
  rw[eb,zbj,if_neg (by omega),if_neg (by omega),if_pos (by omega),if_pos g1,g2,hb]
theorem zmg {l:List UInt8} (h:zaR l=0):l.length=6∧zd7 (zcK l)=0:=by
 unfold zaR at h
 split at h
 ·cases h
 ·rename_i h6
  split at h
  ·cases h
  ·rename_i h7
   have h8:(zcK l).err=0:=by simpa using h7
   exact⟨by omega,h8⟩
theorem zs0 {l:List UInt8} (h:zaU l=0):(7≤l.length∧l.length≤54)∧zaR (l.take 6)=0:=by
 unfold zaU at h
 split at h
 ·cases h
 ·split at h
  ·cases h
  ·rename_i g
   split at h
   ·cases h
   ·exact⟨by omega,by simpa using g⟩
theorem znH {b:UInt8} {k:Nat} (h:b.toNat=k):zr (k:Int)=b:=by rw[←h];exact zfc b
theorem zxf {l:List UInt8} {x:EvX} (h:zcf l=some x):zcj x=0∧zF x=l:=by
 cases l with
 | nil=>cases h
 | cons b r=>
  rw[zbj] at h
  split at h
  ·rename_i hb
   split at h
   ·rename_i hr
    cases h
    subst hr
    exact⟨by decide,by have:=znH hb;unfold zF;rw[if_pos rfl];exact congrArg (· :: []) this⟩
   ·cases h
  rename_i hb1
  split at h
  ·rename_i hb
   split at h
   ·rename_i hm
    cases h
    obtain⟨h1,h2⟩:=zs0 hm
    obtain⟨h3,h4⟩:=zmg h2
    have em:zbi r=⟨zcK (r.take 6),r.drop 6⟩:=by unfold zbi;rw[if_pos hm]
    rw[em]
    dsimp only
    refine⟨?_,?_⟩
    ·unfold zcj za8
     dsimp only
     rw[if_neg (by decide),if_pos rfl]
     unfold zc0 zfN
     rw[show zbw (zcK (r.take 6)).o (zcK (r.take 6)).d (zcK (r.take 6)).e (zcK (r.take 6)).c=0 from h4]
     rw[if_neg (by decide),if_neg (by simp;omega),if_neg (by simp;omega)]
    ·unfold zF
     dsimp only
     rw[if_neg (by decide),if_pos rfl,zrL h3,List.take_append_drop]
     exact congrArg (· :: r) (znH hb)
   ·cases h
  rename_i hb2
  split at h
  ·rename_i hb
   split at h
   ·rename_i hi
    cases h
    obtain⟨h3,h4⟩:=zmg hi
    have ei:zeN r=zcK r:=by unfold zeN;rw[if_pos hi]
    rw[ei]
    refine⟨?_,?_⟩
    ·unfold zcj za8
     dsimp only
     rw[if_neg (by omega),if_neg (by omega),if_pos (by omega),if_neg (by simpa using h4),if_neg (by simp)]
    ·unfold zF
     dsimp only
     rw[if_neg (by omega),if_neg (by omega),zrL h3,znH rfl]
   ·cases h
  ·cases h
end Go.Proofs.YtpdkkbpkplhdpaaGreat
namespace Go.Proofs.YtpdkkbpkplhdpaaGreat
open Go Go.Vm
attribute [local irreducible] Brn Ob Grow CallsM inR zay zax Mem.row Mem.cells Mem.setCells Mem.upd Go.Vm.Own zaG za5 za6 zaO New SrcOk subA NewSl Mem.textAt Mem.mapAt Mem.iterAt zaw zai Wr NewEls Elems
set_option maxRecDepth 10000
section
variable {M:Mem}
theorem zty (i:IdT) {a:Option Addr} {c:Nat} {l:List UInt8} (hl:SrcOk M 1 a l.length (l.map zh)) (h0:zc0 i l.length=0):CallsM Tryz.prog F.zjS [.agg #[.int .i64 i.o,.int .i64 i.d,.int .i64 i.e,.int .i64 i.c,.slice a l.length c]] M fun v M'=>
  ∃ a' c',v = .tuple #[.slice a' (6+l.length) c',.int .i64 0]∧NewSl M T.zm 1 a' (6+l.length) c' ((zW i.o i.d i.e i.c++l).map zh) M':=by
 refine zyB (by simp) ?_
 obtain⟨h1,h2,h3⟩:=za3 h0
 refine zR ?_
 refine(zkI _ _ _ _ _ _ _ _).mono ?_
 rintro v _ ⟨rfl,rfl⟩
 (conv=>whnf);refine brn_f (by rw[show zfN i.o i.d i.e i.c l.length=0 from h0];rfl) ?_
 refine zR ?_
 refine(zqi _ _ _ _ _).mono ?_
 rintro v M1 (⟨hne, -⟩|⟨-, a1,c1,rfl,hN⟩)
 ·exact absurd h1 hne
 refine zR ?_
 refine zdQ (hl.le hN.le) ?_
 (conv=>whnf);refine ze4 M _ hN (by first|omega|(dsimp only;omega)) (by simp[maxLen]<;>omega) (zcb _) fun a2 c2 M2 hN2=>?_
 refine zR ?_
 exact⟨a2,c2,rfl,by simpa using hN2⟩
def zAu (x:EvX) (M:Mem) (v:Value) (M':Mem):Prop:=∃ a c,v = .tuple #[.slice a (zb1 x).length c,.int .i64 (zcj x)]∧NewSl M T.zm 1 a (zb1 x).length c ((zb1 x).map zh) M'
theorem zBC (x:EvX) {a:Option Addr} {c:Nat} (hl:SrcOk M 1 a x.p.length (x.p.map zh)):CallsM Tryz.prog F.zhx [evV x.kind x.id a x.p.length c] M (zAu x M):=by
 obtain⟨k,i,p⟩:=x
 dsimp only at hl ⊢
 refine zsn (by simp) ?_
 refine zR ?_
 refine(zxB k i a p.length c).mono ?_
 rintro v _ ⟨rfl,rfl⟩
 (conv=>whnf);refine brn (fun g=>?_) (fun g=>?_)
 ·have g1:¬za8 k i p.length=0:=by simpa using g
  have e:zb1 ⟨k,i,p⟩=[]:=by unfold zb1 zcj;rw[if_neg g1]
  refine zR ?_
  refine⟨none,0,?_,?_⟩
  ·rw[e];rfl
  ·rw[e];exact NewSl.none _ _ _
 have g0:za8 k i p.length=0:=by simpa using g
 have g1:zcj ⟨k,i,p⟩=0:=g0
 have e:zb1 ⟨k,i,p⟩=zF ⟨k,i,p⟩:=by unfold zb1;rw[if_pos g1]
 have hk:=zlY g1
 dsimp only at hk
 rcases hk with rfl|rfl|rfl|rfl
 ·have eb:zF ⟨1,i,p⟩=[zr 1]:=rfl
  have hlen:1+0=(zb1 ⟨1,i,p⟩).length:=by rw[e,eb];rfl
  have hle:=Mem.le_refl M
  refine zR ?_
  refine new (fun b9 hb9=>?_)
  replace hb9:M b9=none:=hb9
  rw[zb0]
  have hN9:NewSl M T.zm 1 (some ⟨b9,0,none⟩) 1 1 ([zr 1].map zh) _:=NewSl.lit hb9 T.zm 1 1 [zh (zr 1)] rfl
  (conv=>whnf)
  refine zdQ (vs:=([]:List UInt8).map zh) (SrcOk.nil _ _) ?_
  (conv=>whnf);refine ze4 _ _ hN9 (by first|omega|(dsimp only;omega)) (by simp[maxLen]<;>omega) (zcb _) fun a2 c2 M2 hN2=>?_
  refine zR ?_
  refine⟨a2,c2,by rw[←hlen,g1],?_⟩
  rw[←hlen,e,eb]
  exact NewSl.mono (by simpa using hN2) hle
 ·obtain⟨h1,h2,h3⟩:=zhp g1 rfl
  dsimp only at h1 h2 h3
  have eb:zF ⟨2,i,p⟩=zr 2::(zW i.o i.d i.e i.c++p):=rfl
  have hlen:1+(6+p.length)=(zb1 ⟨2,i,p⟩).length:=by rw[e,eb,List.length_cons,List.length_append,zbb];omega
  refine zR ?_
  refine(zty i hl (by unfold za8 at g0;rwa [if_neg (by decide),if_pos rfl] at g0)).mono ?_
  rintro v M1 ⟨a1,c1,rfl,hN⟩
  refine zR ?_
  refine new (fun b9 hb9=>?_)
  replace hb9:M1 b9=none:=hb9
  have hle:=hN.le
  rw[zb0]
  have hN9:NewSl M1 T.zm 1 (some ⟨b9,0,none⟩) 1 1 ([zr 2].map zh) _:=NewSl.lit hb9 T.zm 1 1 [zh (zr 2)] rfl
  (conv=>whnf)
  refine zdQ (hN.src.le hN9.le) ?_
  (conv=>whnf);refine ze4 _ _ hN9 (by first|omega|(dsimp only;omega)) (by simp[maxLen]<;>omega) (zcb _) fun a2 c2 M2 hN2=>?_
  refine zR ?_
  refine⟨a2,c2,by rw[←hlen,g1],?_⟩
  rw[←hlen,e,eb]
  exact NewSl.mono (by simpa using hN2) hle
 ·have eb:zF ⟨3,i,p⟩=zr 3::zW i.o i.d i.e i.c:=rfl
  have hlen:1+6=(zb1 ⟨3,i,p⟩).length:=by rw[e,eb,List.length_cons,zbb]
  obtain⟨h1,h2⟩:=zfx g1 (by dsimp only;omega)
  refine zR ?_
  refine(zqi _ _ _ _ _).mono ?_
  rintro v M1 (⟨hne, -⟩|⟨-, a1,c1,rfl,hN⟩)
  ·exact absurd h1 hne
  refine zR ?_
  refine new (fun b9 hb9=>?_)
  replace hb9:M1 b9=none:=hb9
  have hle:=hN.le
  rw[zb0]
  have hN9:NewSl M1 T.zm 1 (some ⟨b9,0,none⟩) 1 1 ([zr 3].map zh) _:=NewSl.lit hb9 T.zm 1 1 [zh (zr 3)] rfl
  (conv=>whnf)
  refine zdQ (hN.src.le hN9.le) ?_
  (conv=>whnf);refine ze4 _ _ hN9 (by first|omega|(dsimp only;omega)) (by simp[maxLen]<;>omega) (zcb _) fun a2 c2 M2 hN2=>?_
  refine zR ?_
  refine⟨a2,c2,by rw[←hlen,g1],?_⟩
  rw[←hlen,e,eb]
  exact NewSl.mono (by simpa using hN2) hle
 ·have eb:zF ⟨4,i,p⟩=zr 4::zW i.o i.d i.e i.c:=rfl
  have hlen:1+6=(zb1 ⟨4,i,p⟩).length:=by rw[e,eb,List.length_cons,zbb]
  obtain⟨h1,h2⟩:=zfx g1 (by dsimp only;omega)
  refine zR ?_
  refine(zqi _ _ _ _ _).mono ?_
  rintro v M1 (⟨hne, -⟩|⟨-, a1,c1,rfl,hN⟩)
  ·exact absurd h1 hne
  refine zR ?_
  refine new (fun b9 hb9=>?_)
  replace hb9:M1 b9=none:=hb9
  have hle:=hN.le
  rw[zb0]
  have hN9:NewSl M1 T.zm 1 (some ⟨b9,0,none⟩) 1 1 ([zr 4].map zh) _:=NewSl.lit hb9 T.zm 1 1 [zh (zr 4)] rfl
  (conv=>whnf)
  refine zdQ (hN.src.le hN9.le) ?_
  (conv=>whnf);refine ze4 _ _ hN9 (by first|omega|(dsimp only;omega)) (by simp[maxLen]<;>omega) (zcb _) fun a2 c2 M2 hN2=>?_
  refine zR ?_
  refine⟨a2,c2,by rw[←hlen,g1],?_⟩
  rw[←hlen,e,eb]
  exact NewSl.mono (by simpa using hN2) hle
end
section
variable {M:Mem}
def GetOut (l:List UInt8) (M:Mem) (v:Value) (M':Mem):Prop:=
 (zcf l=none∧v = .tuple #[evV 0 zbN none 0 0,.int .i64 2]∧M.le M') ∨
 (∃ x a c,zcf l=some x∧v = .tuple #[evV x.kind x.id a x.p.length c,.int .i64 0]∧M.le M'∧SrcOk M' 1 a x.p.length (x.p.map zh)∧x.p.length≤4194304)
theorem zBD {a:Option Addr} {n c:Nat} {l:List UInt8} (hs:SrcOk M 1 a n (l.map zh)) (hn:n≤4194304) (hc:n≤c):CallsM Tryz.prog F.zhw [.slice a n c] M (GetOut l M):=by
 refine zsg (by simp) ?_
 have hl:=hs.maplen
 refine zR ?_
 refine brn (fun g=>?_) (fun g=>?_)
 ·have hn0:l=[]:=List.eq_nil_of_length_eq_zero (by have:=Zd0 g;omega)
  subst hn0
  refine zR ?_
  exact .inl ⟨rfl,rfl,Mem.le_refl _⟩
 have hn1:0<n:=by have:=Zd1 g;omega
 obtain⟨b,r,rfl⟩:∃ b r,l=b::r:=by
  cases l with
  | nil=>simp at hl;omega
  | cons b r=>exact⟨b,r,rfl⟩
 obtain⟨h0,bb,o,ha,hrow⟩:=hs.at (i:=0) hn1
 replace hrow:M.row bb (o+0*1) 1=some [zh b]:=hrow
 have hrl:r.length=n - 1:=by simp at hl;omega
 have hsub:SrcOk M 1 (subA a 1 c 1) (n - 1) (r.map zh):=by
  have:=hs.subm (lo:=1) (hi:=n) (by omega) (by omega) hc
  rw[List.drop_succ_cons,List.drop_zero,List.take_of_length_le (by omega)] at this
  exact this
 have hb:=UInt8.toNat_lt b
 have hw:IntKind.i64.wrap (b.toNat:Int)=b.toNat:=wrap_i64 (by omega)
 (conv=>whnf);refine ob (by omega) ?_
 (conv=>whnf);refine atp ha ?_
 (conv=>whnf);refine on hrow ?_
 (conv=>whnf)
 rw[hw]
 refine brn (fun g1=>?_) (fun g1=>?_)
 ·have k1:b.toNat=1:=by have:=Zd0 g1;omega
  (conv=>whnf);refine brn (fun g2=>?_) (fun g2=>?_)
  ·have hp:zcf (b::r)=none:=by
    rw[zbj,if_pos k1,if_neg]
    intro e;subst e
    have:=Zd0 g2
    simp at hrl;omega
   (conv=>whnf)
   refine zR ?_
   exact .inl ⟨hp,rfl,by first|exact Mem.le_refl _|exact hle⟩
  ·have hr:r=[]:=List.eq_nil_of_length_eq_zero (by have:=Zd1 g2;omega)
   have hp:zcf (b::r)=some ⟨1,zbN,[]⟩:=by rw[zbj,if_pos k1,if_pos hr]
   rw[k1]
   refine zR ?_
   exact .inr ⟨_,none,0,hp,rfl,Mem.le_refl _,SrcOk.nil _ _,by simp⟩
 have k1:¬b.toNat=1:=by have:=Zd1 g1;omega
 (conv=>whnf);refine brn (fun g2=>?_) (fun g2=>?_)
 ·have k2:b.toNat=2:=by have:=Zd0 g2;omega
  refine zR ?_
  refine ob (by omega) ?_
  refine zR ?_
  refine(zAt _ _ _ _ r hsub (by omega) (by omega)).mono ?_
  rintro v M1 ⟨p,m,k,rfl,hle,hps,hm, -⟩
  (conv=>whnf);refine brn (fun g3=>?_) (fun g3=>?_)
  ·have e:¬zaU r=0:=by simpa using g3
   have hp:zcf (b::r)=none:=by rw[zbj,if_neg k1,if_pos k2,if_neg e]
   (conv=>whnf)
   refine zR ?_
   exact .inl ⟨hp,rfl,by first|exact Mem.le_refl _|exact hle⟩
  ·have e:zaU r=0:=by simpa using g3
   have hp:zcf (b::r)=some ⟨2,(zbi r).id,(zbi r).p⟩:=by rw[zbj,if_neg k1,if_pos k2,if_pos e]
   obtain rfl:=hps.maplen
   rw[k2]
   refine zR ?_
   exact .inr ⟨_,p,k,hp,rfl,hle,hps,hm⟩
 have k2:¬b.toNat=2:=by have:=Zd1 g2;omega
 (conv=>whnf);refine brn (fun g3=>?_) (fun g3=>?_)
 ·have k3:b.toNat=3∨b.toNat=4:=by have:=Zd0 g3;omega
  (conv=>whnf);refine brn_t g3 ?_
  refine zR ?_
  refine ob (by omega) ?_
  refine zR ?_
  refine(zqj _ _ _ _ r hsub (by omega) (by omega)).mono ?_
  rintro v _ ⟨rfl,rfl⟩
  (conv=>whnf);refine brn (fun g5=>?_) (fun g5=>?_)
  ·have e:¬zaR r=0:=by simpa using g5
   have hp:zcf (b::r)=none:=by rw[zbj,if_neg k1,if_neg k2,if_pos k3,if_neg e]
   (conv=>whnf)
   refine zR ?_
   exact .inl ⟨hp,rfl,by first|exact Mem.le_refl _|exact hle⟩
  ·have e:zaR r=0:=by simpa using g5
   have hp:zcf (b::r)=some ⟨b.toNat,zeN r,[]⟩:=by rw[zbj,if_neg k1,if_neg k2,if_pos k3,if_pos e]
   refine zR ?_
   exact .inr ⟨_,none,0,hp,rfl,Mem.le_refl _,SrcOk.nil _ _,by simp⟩
 (conv=>whnf);refine brn (fun g4=>?_) (fun g4=>?_)
 ·have k3:b.toNat=3∨b.toNat=4:=by have:=Zd0 g4;omega
  refine zR ?_
  refine ob (by omega) ?_
  refine zR ?_
  refine(zqj _ _ _ _ r hsub (by omega) (by omega)).mono ?_
  rintro v _ ⟨rfl,rfl⟩
  (conv=>whnf);refine brn (fun g5=>?_) (fun g5=>?_)
  ·have e:¬zaR r=0:=by simpa using g5
   have hp:zcf (b::r)=none:=by rw[zbj,if_neg k1,if_neg k2,if_pos k3,if_neg e]
   (conv=>whnf)
   refine zR ?_
   exact .inl ⟨hp,rfl,by first|exact Mem.le_refl _|exact hle⟩
  ·have e:zaR r=0:=by simpa using g5
   have hp:zcf (b::r)=some ⟨b.toNat,zeN r,[]⟩:=by rw[zbj,if_neg k1,if_neg k2,if_pos k3,if_pos e]
   refine zR ?_
   exact .inr ⟨_,none,0,hp,rfl,Mem.le_refl _,SrcOk.nil _ _,by simp⟩
 ·have k3:¬(b.toNat=3∨b.toNat=4):=by have:=Zd1 g3;have:=Zd1 g4;omega
  have hp:zcf (b::r)=none:=by rw[zbj,if_neg k1,if_neg k2,if_neg k3]
  (conv=>whnf)
  refine zR ?_
  exact .inl ⟨hp,rfl,by first|exact Mem.le_refl _|exact hle⟩
end
section
variable {M:Mem}
def zbz (l:List UInt8):EvX:=(zcf l).getD ⟨0,zbN,[]⟩
def zfP (l:List UInt8):Int:=if zcf l=none then 2 else 0
theorem GetOut.all {l:List UInt8} {v:Value} {M':Mem} (h:GetOut l M v M'):∃ a c,v = .tuple #[evV (zbz l).kind (zbz l).id a (zbz l).p.length c,.int .i64 (zfP l)]∧M.le M'∧SrcOk M' 1 a (zbz l).p.length ((zbz l).p.map zh):=by
 unfold zbz zfP
 rcases h with ⟨h1,rfl,h2⟩|⟨x,a,c,h1,rfl,h2,h3,h4⟩
 ·rw[h1]
  exact⟨none,0,rfl,h2,SrcOk.nil _ _⟩
 ·rw[h1]
  exact⟨a,c,rfl,h2,h3⟩
theorem zxg {l:List UInt8} (h:zfP l=0):zcf l=some (zbz l):=by
 unfold zfP at h
 unfold zbz
 cases e:zcf l with
 | none=>rw[e] at h;simp at h
 | some x=>rfl
theorem zzd (x:EvX):(zb1 x).length≤60:=by
 unfold zb1
 split
 ·rename_i h
  unfold zF
  rw[List.length_cons]
  split
  ·simp
  ·split
   ·rename_i hk
    have:=(zhp h hk).2.2
    rw[List.length_append,zbb];omega
   ·rw[zbb];omega
 ·simp
theorem back {x:EvX} (h:zcj x=0):zbz (zb1 x)=x∧zfP (zb1 x)=0:=by
 have e:zb1 x=zF x:=by unfold zb1;rw[if_pos h]
 have:=zxe h
 unfold zbz zfP
 rw[e,this]
 exact⟨rfl,rfl⟩
theorem zEr {l:List UInt8} (h:zfP l=0):zcj (zbz l)=0∧zb1 (zbz l)=l:=by
 obtain⟨h1,h2⟩:=zxf (zxg h)
 exact⟨h1,by unfold zb1;rw[if_pos h1,h2]⟩
end
section
variable {M:Mem}
structure zgL where
 self:Int
 epoch:Int
 ul:NxT
 hs:List zbo
 sn:List Mk
def zbq (l:NxT):List UInt8:=l.flatMap fun n=>zr n.1::zO [n.2]
def zaD (l:List zbo):List UInt8:=l.flatMap fun m=>zr (6+m.p.length)::(zW m.id.o m.id.d m.id.e m.id.c++m.p)
def zeO (m:Mk):List UInt8:=zr m.o::(zO [m.e,m.up,m.more.length]++zO m.more)
def zK (l:List Mk):List UInt8:=l.flatMap zeO
def zcy (s:zgL):List UInt8:=zr s.self::(zO [s.epoch]++[zr s.ul.length])
def zf3 (s:zgL):List UInt8:=zcy s++zbq s.ul++zO [(s.hs.length:Int)]++zaD s.hs++zO [(s.sn.length:Int)]++zK s.sn
def zah (s:zgL):List UInt8:=zf3 s++be 4 (zeh (zf3 s))
structure SnapOk (s:zgL):Prop where
 bad:¬zbp s.self 256 1048576 256
 form:zjV s.self s.epoch s.ul s.hs s.sn
 full:¬zeM 256 1048576 256 s.hs s.sn
 few:s.sn.length≤65535
theorem SnapOk.check {s:zgL} (h:SnapOk s):CheckS 256 1048576 256 s.self s.epoch s.ul s.hs s.sn 0 := .inr (.inr (.inr ⟨h.bad,h.form,h.full,rfl⟩))
structure zrM (M:Mem) (s:zgL) (ua:Option Addr) (un:Nat) (ha:Option Addr) (hn hc:Nat) (ma:Option Addr) (mn:Nat) (ms:List MX) (mk:List MkC):Prop where
 stat:StatR M ua un ha hn ma mn s.ul ms mk
 big:zBA ms mk un hn hc mn
 held:ms.map MX.msg=s.hs
 seen:mk.map MkC.mk'=s.sn
variable {s:zgL} {ua ha ma:Option Addr} {un uc hn hc mn mc:Nat} {ms:List MX} {mk:List MkC}
theorem znI (h:zrM M s ua un ha hn hc ma mn ms mk) (hR:SnapOk s):CallsM Tryz.prog F.zgs [zgJ s.self s.epoch ua un uc ha hn hc ma mn mc] M fun v M'=>v = .int .i64 0∧M.le M':=by
 refine zt8 (by simp) ?_
 have hml:=h.stat.seen.len
 have hmm:mn≤65535:=by have h1:=hR.few;have h2:=congrArg List.length h.seen;rw[List.length_map] at h2;omega
 refine zR ?_
 refine(ztw 256 1048576 256 h.stat h.big).mono ?_
 rw[h.held,h.seen]
 rintro v M1 ⟨e,hC,⟨he0, -⟩|⟨-, p,b,sp,sb,came,xs,es,rfl,h1, -⟩⟩
 ·exact absurd (hC.uniq hR.check) he0
 refine zR ?_
 refine brn_f (decide_eq_false (by omega)) ?_
 refine zR ?_
 exact⟨rfl,h1.le⟩
theorem zwa (x:Int):zO [x]=be 2 x:=by simp[zO]
theorem zlZ (l:NxT):(zbq l).length=3*l.length:=by
 unfold zbq
 induction l with
 | nil=>rfl
 | cons x r ih=>rw[List.flatMap_cons,List.length_append,ih,List.length_cons,zaQ];simp;omega
theorem zxh {l:NxT} {i:Nat} (h:i<l.length):zbq (l.take (i+1))=zbq (l.take i)++(zr l[i].1::zO [l[i].2]):=by
 unfold zbq;rw[List.take_add_one,List.getElem?_eq_getElem h,List.flatMap_append];simp
theorem zl0 {l:List zbo} {i:Nat} (h:i<l.length):zaD (l.take (i+1))=zaD (l.take i)++(zr (6+l[i].p.length)::(zW l[i].id.o l[i].id.d l[i].id.e l[i].id.c++l[i].p)):=by
 unfold zaD;rw[List.take_add_one,List.getElem?_eq_getElem h,List.flatMap_append];simp
theorem zo8 {l:List Mk} {i:Nat} (h:i<l.length):zK (l.take (i+1))=zK (l.take i)++zeO l[i]:=by
 unfold zK;rw[List.take_add_one,List.getElem?_eq_getElem h,List.flatMap_append];simp
theorem zB6 {E:TypeId} {a:Option Addr} {n c m:Nat} {k:Option Addr→Nat→Mem→Prop} (M0:Mem) {bs ys:List UInt8} (hown:NewSl M0 E 1 a n c (bs.map zh) M) (h1:n+m≤1000000000)
  (hk:∀ a' c' M',NewSl M0 E 1 a' (n+m) c' ((bs++ys).map zh) M'→k a' c' M'):zaG E 1 1 a n c m (ys.map zh) M k:=
 ze4 M0 _ hown (by omega) (by simp[maxLen];omega) (zcb _) fun a' c' M' h=>hk a' c' M' (by rw[List.map_append];exact h)
theorem zrN {E:TypeId} {a:Option Addr} {n c:Nat} {k:Option Addr→Nat→Mem→Prop} (M0:Mem) {bs:List UInt8} {x:UInt8} (hown:NewSl M0 E 1 a n c (bs.map zh) M) (h1:n+1≤1000000000)
  (hk:∀ a' c' M',NewSl M0 E 1 a' (n+1) c' ((bs++[x]).map zh) M'→Mem.keep (blk a) M M'→k a' c' M'):zaG E 1 1 a n c 1 [zh x] M k:=
 zmT M0 _ hown (by omega) (by simp[maxLen];omega) (zcb [x]) fun a' c' M' h hk'=>hk a' c' M' (by rw[List.map_append];exact h) hk'
theorem zl1 {M0 M':Mem} {E E2:TypeId} {a:Option Addr} {n c:Nat} {L l:List Value} (hN:NewSl M0 E 1 a n c L M) {b:Nat} (hb:M b=none) (hk:Mem.keep (blk a) (M.setCells b E2 l) M'):M'.has b E2 l:=by
 refine hk b _ (fun ⟨q,hq,e⟩=>?_) Mem.has_setCells
 obtain⟨-, cs,hh⟩:=hN.block hq
 unfold Mem.has at hh
 rw[e,hb] at hh
 cases hh
theorem zBE {E:TypeId} {a:Option Addr} {n c:Nat} {k:Option Addr→Nat→Mem→Prop} (M0:Mem) {bs:List UInt8} {x:UInt8} (hown:NewSl M0 E 1 a n c (bs.map zh) M) (h1:n+1≤1000000000)
  (hk:∀ a' c' M',NewSl M0 E 1 a' (n+1) c' ((bs++[x]).map zh) M'→k a' c' M'):zaG E 1 1 a n c 1 [zh x] M k:=zB6 (ys:=[x]) M0 hown h1 hk
end
end Go.Proofs.YtpdkkbpkplhdpaaGreat
