/- Part. -/
import Derived.Test.YtlgbofpennelhaaGreatJ6
set_option linter.all false
set_option maxHeartbeats 0
namespace Go.Proofs.YtlgbofpennelhaaGreat
open Go Go.Vm
attribute [local irreducible] Brn Ob Grow CallsM inR zI Mem.row Mem.cells Mem.setCells Mem.upd Go.Vm.Own zZ zaj zam zO New SrcOk subA
def zbq (x:Int) (s:Int):UInt8:=UInt8.ofNat ((x.fdiv (2 ^ s.toNat)) % 256).toNat
def be:Nat→Int→List UInt8
 | 0,_=>[]
 | k+1,x=>zbq x (8*k)::be k x
def zch (x size:Int):Int:=if size<1∨8<size then 1 else if size<8∧x.fdiv (2 ^ (8*size).toNat)≠0 then 3 else 0
theorem zcs:∀ (k:Nat) (x:Int),(be k x).length=k
 | 0,_=>rfl
 | k+1,x=>by simp[be,zcs k x]
theorem zBL (x:Int):∀ (m k:Nat),k<m→(be m x)[k]? = some (zbq x (8*((m:Int) - 1 - k)))
 | m+1,0,_=>by simp[be]
 | m+1,k+1,h=>by
  simp only[be,List.getElem?_cons_succ];rw[zBL x m k oM];congr 2;omega
theorem zBM (x s:Int) (hs:0≤s∧s≤64):Value.int .u8 (IntKind.u8.wrap (x.fdiv (2 ^ (min s.toNat (IntKind.bits .u64)))))=zc (zbq x s):=by
 have h1:min s.toNat (IntKind.bits .u64)=s.toNat:=by simp[IntKind.bits];omega
 rw[h1];simp only[zc,zbq];congr 1;generalize x.fdiv (2 ^ s.toNat)=y
 have h:IntKind.u8.wrap y=y % 256:=by
  simp[IntKind.wrap,IntKind.signed,IntKind.bits]
 rw[h];have:0≤y % 256∧y % 256<256:=by omega
 simp;omega
set_option maxRecDepth 10000 in
theorem zf8 (a:Option Addr) (n c:Nat) (x size:Int) (M:Mem) (bs:List UInt8) (hs:SrcOk M 1 a n (bs.map zc)) (hn:n≤4194304) :
  CallsM Tryz.prog 141 [.slice a n c,.int .u64 x,.int .i64 size] M fun v M'=>(zch x size≠0∧v = .tuple #[.slice none 0 0,.int .i64 (zch x size)]∧M=M') ∨
   (zch x size=0∧∃ a' c',v = .tuple #[.slice a' (n+size.toNat) c',.int .i64 0]∧Go.Vm.Own M 5 1 a' (n+size.toNat) c' ((bs++be size.toNat x).map zc) M'):=by
 refine zxD oS ?_;refine brn (fun h1=>?_) (fun h1=>?_)
 ·(conv=>whnf);refine .inl ⟨?_,?_,rfl⟩<;>simp_all [zch]
 refine brn (fun h2=>?_) (fun h2=>?_)
 ·(conv=>whnf);refine .inl ⟨?_,?_,rfl⟩<;>simp_all [zch]
 simp only[decide_eq_false_iff_not,Int.not_lt] at h1 h2;have h64:min (8*size).toNat (IntKind.bits .u64)=(8*size).toNat:=by simp[IntKind.bits];omega
 refine brn (fun h3=>?_) (fun h3=>?_);refine obr (inR_i64 oM) ?_;refine ob oM ?_;refine brn (fun h4=>?_) (fun h4=>?_)
 ·(conv=>whnf);rw[h64] at h4;have hp:zch x size=3:=by simp_all [zch]
  exact .inl ⟨by omega,by rw[hp],rfl⟩
 rw[h64] at h4;have hp:zch x size=0:=by simp_all [zch]
 rotate_left
 have hp:zch x size=0:=by simp_all [zch];omega
 all_goals
  refine new (fun b hb=>?_);replace hb:M b=none:=hb;refine zb2 (SrcOk.le (Yw hb) hs) ?_;refine app M [] (Own.lit hb 5 1 0 [] rfl) oM (by simp[maxLen];omega) (by simp[zc,Value.oneCell']) fun a' c' M' hown=>?_
  refine obr (inR_i64 oM) ?_
  refine loop (σ:=Option Addr×Nat×Mem×Int×Nat×Nat) (fun|⟨a1,c1,M1,sh,N,_⟩=>⟨[(9,.int .i64 sh),(8,.slice a1 N c1),(1,.int .u64 x)],[],M1⟩)
   (fun|⟨a1,c1,M1,sh,N,k⟩=>sh=8*(size - k)∧N=n+k∧(k:Int)<size∧Go.Vm.Own M 5 1 a1 N c1 ((bs++(be size.toNat x).take k).map zc) M1)
   (fun|⟨_,_,_,sh,_,_⟩=>sh.toNat) ⟨a',c',M',8*size,0+n,0⟩ ⟨by simp,by simp,by simp;omega,by simp_all⟩ ⟨⟨rfl,rfl,rfl,trivial⟩,trivial,Ya _,rfl⟩ ?_
  rintro ⟨a1,c1,M1,sh,N,k⟩ ⟨hsh,hN,hk,hown1⟩;refine obr (inR_i64 oM) ?_;refine ob oM ?_;refine app M _ hown1 oM (by simp[maxLen];omega) oC fun a2 c2 M2 hown2=>?_
  rw[zBM x (sh - 8) oM] at hown2
  have hb1:(be size.toNat x)[k]? = some (zbq x (sh - 8)):=by
   rw[zBL x size.toNat k oM];congr 2;omega
  have hl:(bs++(be size.toNat x).take k).map zc++[zc (zbq x (sh - 8))]=(bs++(be size.toNat x).take (k+1)).map zc:=by
   rw[Y1,hb1];simp
  rw[hl] at hown2;refine brn (fun h5=>?_) (fun h5=>?_)
  ·(conv=>whnf);have hk1:k+1=size.toNat:=by simp at h5;omega
   have hN1:N+1=n+size.toNat:=by omega
   rw[hk1,Yf (by rw[zcs];omega),hN1] at hown2;rw[hN1];exact .inr ⟨hp,a2,c2,rfl,hown2⟩
  ·(conv=>whnf);simp at h5;exact⟨⟨a2,c2,M2,sh - 8,N+1,k+1⟩,⟨by omega,by omega,by omega,hown2⟩,by grind,⟨rfl,rfl,rfl,trivial⟩,trivial,Ya _,rfl⟩
end Go.Proofs.YtlgbofpennelhaaGreat
namespace Go.Proofs.YtlgbofpennelhaaGreat
open Go Go.Vm Go.Proofs.Tryz
attribute [local irreducible] Brn Ob Grow CallsM inR zI zF Mem.row Mem.cells Mem.setCells Mem.upd Go.Vm.Own zZ zaj zam zO New SrcOk subA NewSl Mem.textAt Mem.mapAt Mem.iterAt zC zB Wr NewEls Elems
set_option maxRecDepth 10000
section
def num:List UInt8→Nat→Nat
 | [],acc=>acc
 | b::r,acc=>num r (256*acc+b.toNat)
theorem zzY (l r:List UInt8) (acc:Nat):num (l++r) acc=num r (num l acc):=by
 induction l generalizing acc with
 | nil=>rfl
 | cons b l ih=>simp[num,ih]
theorem zBN (l:List UInt8) (acc:Nat):num l acc<256 ^ l.length*(acc+1):=by
 induction l generalizing acc with
 | nil=>simp[num]
 | cons b l ih=>
  have:=ih (256*acc+b.toNat);have hb:=b.toNat_lt
  simp only[num,Ym,Nat.pow_succ];refine Ycd this ?_;rw[Nat.mul_assoc];exact Nat.mul_le_mul_left _ oM
theorem zIj (n b:Nat) (hb:b<256) (hn:n<2 ^ 56):zD .or .u64 (IntKind.u64.wrap ((n:Int)*2 ^ (min (Int.toNat 8) (IntKind.bits .u64)))) (IntKind.u64.wrap (b:Int))=((256*n+b:Nat):Int):=by
 have h1:IntKind.u64.wrap ((n:Int)*2 ^ (min (Int.toNat 8) (IntKind.bits .u64)))=((256*n:Nat):Int):=by
  simp[IntKind.wrap,IntKind.signed,IntKind.bits];omega
 have h2:IntKind.u64.wrap (b:Int)=((b:Nat):Int):=by simp[IntKind.wrap,IntKind.signed,IntKind.bits];omega
 rw[h1,h2]
 have h3:(256*n) ||| b=256*n+b:=by
  have:=Nat.shiftLeft_add_eq_or_of_lt (i:=8) (b:=b) oM n;rw[Nat.shiftLeft_eq,show (2:Nat) ^ 8=256 from rfl] at this;rw[Yd6 256 n];omega
 simp only[zD,IntKind.bits]
 have e1:(BitVec.ofInt 64 ((256*n:Nat):Int) ||| BitVec.ofInt 64 ((b:Nat):Int)).toNat=256*n+b:=by
  rw[BitVec.toNat_or,Ydd,Ydd,Yct,Yct,Ybj oM,Ybj oM,h3]
 erw [e1];simp[IntKind.wrap,IntKind.signed,IntKind.bits];omega
def zaL (n:Nat) (at' size:Int):Int:=if size<1∨8<size∨at'<0 then 1 else if (n:Int)<at'∨(n:Int) - at'<size then 2 else 0
def zaf (l:List UInt8) (at' size:Int):Nat:=num ((l.drop at'.toNat).take size.toNat) 0
theorem zdM (a:Option Addr) (n c:Nat) (M:Mem) (l:List UInt8) (hs:SrcOk M 1 a n (l.map zc)) (hn:n≤4194304) (hc:n≤c) (at' size:Int) (he:zaL n at' size=0) :
  CallsM prog 188 [.slice a n c,.int .i64 at',.int .i64 size] M fun v M'=>v = .tuple #[.int .u64 (zaf l at' size),.int .i64 0]∧M=M':=by
 have hl:=hs.maplen
 have hb:(1≤size∧size≤8∧0≤at')∧at'≤n∧size≤n - at':=by
  unfold zaL at he;split at he
  ·cases he
  ·omega
 refine zpW oS ?_;refine brn_f oE ?_;refine brn_f oE ?_;refine brn_f oE ?_;refine brn_f oE ?_;refine obr (inR_i64 oM) ?_;refine brn_f oE ?_;refine obr (inR_i64 oM) ?_;refine ob oM ?_;have hsub:=hs.subm (lo:=at'.toNat) (hi:=(at'+size).toNat) oM oM hc
 have hK:(at'+size).toNat - at'.toNat=size.toNat:=by omega
 rw[hK] at hsub;have hcl:=hsub.maplen
 rw[hK];refine zem (σ:=Nat) [40,8] (fun i=>[(40,.int .i64 i),(8,.int .u64 (num (((l.drop at'.toNat).take size.toNat).take i) 0:Nat))]) (fun i=>i≤size.toNat) (fun i=>size.toNat - i) 0 oM zS ?_;intro i hi;refine brn (fun h=>?_) (fun h=>?_)
 ·have h':i<size.toNat:=by have:=Zd0 h;omega
  obtain⟨hlt,b,o,hp,hrow⟩:=hsub.at (i:=i) h';refine ob oM ?_;refine atp hp ?_;refine on hrow ?_;refine ob oD ?_;refine obr (inR_i64 oM) ?_;refine⟨i+1,by omega,by omega,?_,trivial,Ya _,rfl⟩;have hnl:=zBN (((l.drop at'.toNat).take size.toNat).take i) 0
  have hpow:(256:Nat) ^ (((l.drop at'.toNat).take size.toNat).take i).length≤256 ^ 7:=Yd7 oD oE;have e:=zIj (num (((l.drop at'.toNat).take size.toNat).take i) 0) (((l.drop at'.toNat).take size.toNat)[i]).toNat (Ya5 _) (by omega)
  have e2:num (((l.drop at'.toNat).take size.toNat).take (i+1)) 0=256*num (((l.drop at'.toNat).take size.toNat).take i) 0+(((l.drop at'.toNat).take size.toNat)[i]).toNat:=by
   rw[Y1,Yb hlt,zzY];rfl
  refine⟨rfl,?_⟩;refine⟨?_,(by repeat' first|exact True.intro|refine⟨rfl,?_⟩)⟩;show some (SV.int .u64 _)=some (SV.int .u64 _)
  rw[e2];exact congrArg (fun z=>some (SV.int .u64 z)) e
 ·have h':i=size.toNat:=by have:=Zd1 h;omega
  subst h';refine⟨?_,rfl⟩;rw[zaf,Yf (l:=(l.drop at'.toNat).take size.toNat) oM]
theorem zf9 (a:Option Addr) (n c:Nat) (M:Mem) (at' size:Int) (he:zaL n at' size≠0) (hn:n≤4194304):CallsM prog 188 [.slice a n c,.int .i64 at',.int .i64 size] M fun v M'=>v = .tuple #[.int .u64 0,.int .i64 (zaL n at' size)]∧M=M':=by
 refine zpW oS ?_;by_cases h1:size<1∨8<size∨at'<0
 ·have e:zaL n at' size=1:=by rw[zaL,if_pos h1]
  rw[e]
  repeat' (first|refine brn (fun h=>?_) (fun h=>?_)|refine obr (inR_i64 (by simp at *; omega)) ?_|fail)
  all_goals (try (conv=>whnf))
  all_goals simp only[decide_eq_true_eq,decide_eq_false_iff_not] at *
  all_goals first
   | exact⟨rfl,rfl⟩
   | exact⟨trivial,trivial⟩
   | (exfalso;omega)
 ·have h2:(n:Int)<at'∨(n:Int) - at'<size:=by
   rw[zaL,if_neg h1] at he;split at he
   ·assumption
   ·omega
  have e:zaL n at' size=2:=by rw[zaL,if_neg h1,if_pos h2]
  rw[e]
  repeat' (first|refine brn (fun h=>?_) (fun h=>?_)|refine obr (inR_i64 (by simp at *; omega)) ?_|refine ob (by simp at *; omega) ?_|fail)
  all_goals (try (conv=>whnf))
  all_goals simp only[decide_eq_true_eq,decide_eq_false_iff_not] at *
  all_goals first
   | exact⟨rfl,rfl⟩
   | exact⟨trivial,trivial⟩
   | (exfalso;omega)
end
section
variable {M:Mem}
def zu8 (r p:Int):Int:=if zD .and .u32 r 1=1 then zD .xor .u32 (r.fdiv (2 ^ (min (Int.toNat 1) (IntKind.bits .u32)))) p else r.fdiv (2 ^ (min (Int.toNat 1) (IntKind.bits .u32)))
theorem zGr (r p:Int):CallsM prog 292 [.int .u32 r,.int .u32 p] M fun v M'=>v = .int .u32 (zu8 r p)∧M=M':=by
 refine zpX oS ?_;refine brn (fun g=>?_) (fun g=>?_)
 ·refine zR ?_;exact⟨by unfold zu8;rw[if_pos (Zd0 g)],rfl⟩
 ·refine zR ?_;exact⟨by unfold zu8;rw[if_neg (Zd1 g)],rfl⟩
def zu9 (r:Int):Nat→Int
 | 0=>r
 | j+1=>zu8 (zu9 r j) 3988292384
def zJv (r:Int) (b:UInt8):Int:=zu9 (zD .xor .u32 r (IntKind.u32.wrap (b.toNat:Int))) 8
def zqI (r:Int) (l:List UInt8):Int:=l.foldl zJv r
def zhu (l:List UInt8):Int:=zD .xor .u32 (if IntKind.u32.signed=true then -1 else IntKind.u32.max) (zqI 4294967295 l)
def zvS (M:Mem) (cs:List Value) (x:List UInt8):Prop:=∃ a n c,cs=[.slice a n c]∧n≤c∧SrcOk M 1 a n (x.map zc)
theorem zBO {a:Option Addr} {n c:Nat} {ls:List (List UInt8)} (h:Elems M 1 a n (zvS M) ls) (hn:n≤4194304) (hl:∀ l∈ls,l.length≤4194304) :
  CallsM prog 227 [.slice a n c] M fun v M'=>v = .int .u32 (zhu ls.flatten)∧M=M':=by
 refine zzT oS ?_;have hlen:=h.len
 refine zem (σ:=Nat) [10,3] (fun i=>[(10,.int .i64 i),(3,.int .u32 (zqI 4294967295 (ls.take i).flatten))]) (fun i=>i≤n) (fun i=>n - i) 0 oM zS ?_;intro i hi;refine brn (fun g=>?_) (fun g=>?_)
 ·have hlt:i<n:=by have:=Zd0 g;omega
  obtain⟨hl1,b,o,cs,ha, -, hrow,hcl,a1,n1,c1,rfl,hnc1,hs1⟩:=h.at oD hlt;have hx:ls[i]? = some ls[i]:=Yb hl1
  have hll:=hl _ (Yai hl1);have htk:(ls.take (i+1)).flatten=(ls.take i).flatten++ls[i]:=by rw[Y1,hx,Ydi];simp only[Option.toList_some,List.flatten_cons,List.flatten_nil,Yt]
  generalize ls[i]=x at *;have hxl:=hs1.maplen
  refine ob (by omega) ?_;refine atp ha ?_;refine on hrow ?_;refine zR ?_;refine zem (σ:=Nat) [16,3] (fun j=>[(16,.int .i64 j),(3,.int .u32 (zqI 4294967295 ((ls.take i).flatten++x.take j)))]) (fun j=>j≤n1) (fun j=>n1 - j) 0 oM ?_ ?_
  ·rw[List.take_zero,Yt];exact zS
  intro j hj;refine brn (fun g2=>?_) (fun g2=>?_)
  ·have hlt2:j<n1:=by have:=Zd0 g2;omega
   obtain⟨hk,b2,o2,ha2,hr2⟩:=hs1.at hlt2;have hxj:x[j]? = some x[j]:=Yb hk
   have htk2:x.take (j+1)=x.take j++[x[j]]:=by rw[Y1,hxj];rfl
   generalize x[j]=y at *;refine ob (by omega) ?_;refine atp ha2 ?_;refine on hr2 ?_;refine zR ?_;refine zem (σ:=Nat) [24,3] (fun q=>[(24,.int .i64 q),(3,.int .u32 (zu9 (zD .xor .u32 (zqI 4294967295 ((ls.take i).flatten++x.take j)) (IntKind.u32.wrap (y.toNat:Int))) q))]) (fun q=>q≤8) (fun q=>8 - q) 0 oM zS ?_;intro q hq;refine brn (fun g3=>?_) (fun g3=>?_)
   ·have hlt3:q<8:=by have:=Zd0 g3;omega
    refine zN (zGr _ _) ?_;refine obr (inR_i64 (by omega)) ?_;exact⟨q+1,by omega,by omega,zS⟩
   ·have hge:q=8:=by have:=Zd1 g3;omega
    subst hge;refine zR ?_;refine obr (inR_i64 (by omega)) ?_;refine⟨j+1,by omega,by omega,?_⟩
    have e:zqI 4294967295 ((ls.take i).flatten++x.take (j+1))=zu9 (zD .xor .u32 (zqI 4294967295 ((ls.take i).flatten++x.take j)) (IntKind.u32.wrap (y.toNat:Int))) 8:=by
     rw[htk2,←Yr];unfold zqI;rw[Ya0 (l':=[y])];rfl
    rw[e];exact zS
  ·have hge:j=n1:=by have:=Zd1 g2;omega
   subst hge;rw[Yf (l:=x) oM,←htk];refine zR ?_;refine obr (inR_i64 (by omega)) ?_;exact⟨i+1,by omega,by omega,zS⟩
 ·have hge:i=n:=by have:=Zd1 g;omega
  subst hge;rw[Yf (l:=ls) oM];refine zR ?_;exact⟨rfl,rfl⟩
end
section
variable {M:Mem}
theorem zBP (n:Int):0≤IntKind.u32.wrap n∧IntKind.u32.wrap n<4294967296:=by
 simp[IntKind.wrap,IntKind.signed,IntKind.bits];omega
theorem zmh (l:List UInt8):0≤zhu l∧zhu l<4294967296:=by
 unfold zhu zD;exact zBP _
theorem zky {n:Int} (h:0≤n∧n<18446744073709551616):IntKind.u64.wrap n=n:=by
 simp[IntKind.wrap,IntKind.signed,IntKind.bits];omega
theorem ztR {n:Int} (h:0≤n∧n≤9223372036854775807):IntKind.i64.wrap n=n:=by
 simp[IntKind.wrap,IntKind.signed,IntKind.bits];omega
def zag (p:List UInt8):List UInt8:=be 4 p.length++be 4 (zhu (be 4 p.length++p))++p
def zgo (p:List UInt8):Int:=if p.length=0 then 2 else if 65536<p.length then 3 else 0
theorem zyC {x:Int} (h:0≤x∧x<4294967296):zch x 4=0:=by
 unfold zch
 have h2:x.fdiv (2 ^ (8*(4:Int)).toNat)=0:=by
  have e:(2:Int) ^ (8*(4:Int)).toNat=4294967296:=by decide
  rw[e,Yb5 _ oD];exact Int.ediv_eq_zero_of_lt h.1 h.2
 rw[if_neg oD,if_neg (by omega)]
theorem zIk {a:Option Addr} {n c:Nat} {p:List UInt8} (hs:SrcOk M 1 a n (p.map zc)) (hn:n≤2097152) (hnc:n≤c):CallsM prog 203 [.slice a n c] M fun v M'=>
  (zgo p≠0∧v = .tuple #[.slice none 0 0,.int .i64 (zgo p)]∧M=M')∨(zgo p=0∧∃ a' n' c',n'=(zag p).length∧v = .tuple #[.slice a' n' c',.int .i64 0]∧NewSl M 5 1 a' n' c' ((zag p).map zc) M'):=by
 refine zuM oS ?_;have hl:=hs.maplen
 refine brn (fun g=>?_) (fun g=>?_)
 ·have g1:n=0:=by have:=Zd0 g;omega
  have e:zgo p=2:=by unfold zgo;rw[if_pos oM]
  refine zR ?_;rw[e];exact .inl ⟨by decide,rfl,rfl⟩
 have g1:¬n=0:=by have:=Zd1 g;omega
 refine brn (fun g=>?_) (fun g=>?_)
 ·have g2:65536<n:=by have:=Zd0 g;omega
  have e:zgo p=3:=by unfold zgo;rw[if_neg oM,if_pos oM]
  refine zR ?_;rw[e];exact .inl ⟨by decide,rfl,rfl⟩
 have g2:¬65536<n:=by have:=Zd1 g;omega
 have e0:zgo p=0:=by unfold zgo;rw[if_neg oM,if_neg oM]
 (conv=>whnf);rw[zky (n:=(n:Int)) oM];refine(zf8 none 0 0 n 4 M [] (Ybh M 1) oD).mono ?_;rintro v M1 (⟨hbad, -, -⟩|⟨-, a1,c1,rfl,hN1⟩)
 ·exact absurd (zyC oM) hbad
 replace hN1:=hN1.new;rw[Yaa] at hN1;have hk4:(0:Nat)+(4:Int).toNat=4:=rfl
 have hk4':(4:Int).toNat=4:=rfl;rw[hk4,hk4'] at hN1;rw[hk4];refine new (fun b2 hb2=>?_);replace hb2:M1 b2=none:=hb2;have hle2:M1.le (M1.setCells b2 37 [.slice a1 4 c1,.slice a n c]):=Yw hb2
 have hs2:SrcOk (M1.setCells b2 37 [.slice a1 4 c1,.slice a n c]) 1 (some ⟨b2,0,none⟩) 2 [.slice a1 4 c1,.slice a n c]:=SrcOk.lit rfl;obtain⟨M2,hM2⟩:=oI (M1.setCells b2 37 [.slice a1 4 c1,.slice a n c]);rw[←hM2] at hle2 hs2;erw [←hM2];have hcc:4≤c1:=(newSl_iff.1 hN1).2.2.1
 have hE:Elems M2 1 (some ⟨b2,0,none⟩) 2 (zvS M2) [be 4 n,p]:=by
  unfold Elems;refine⟨[[.slice a1 4 c1],[.slice a n c]],hs2,rfl,rfl,by simp,fun i cs x hi hx=>?_⟩
  match i,hi,hx with
  | 0,hi,hx=>cases hi;cases hx;exact⟨a1,4,c1,rfl,hcc,hN1.src.le hle2⟩
  | 1,hi,hx=>cases hi;cases hx;exact⟨a,n,c,rfl,hnc,(hs.le hN1.le).le hle2⟩
  | i+2,hi,hx=>simp at hi
 refine(zBO hE oD (fun l hl2=>by
  rcases Yp.1 hl2 with rfl|hl2
  ·rw[zcs];decide
  ·grind)).mono ?_
 rintro v _ ⟨rfl,rfl⟩;have hfl:[be 4 (n:Int),p].flatten=be 4 p.length++p:=by rw[←hl];simp
 rw[hfl];have hsr:=zmh (be 4 p.length++p)
 (conv=>whnf);rw[zky (n:=zhu (be 4 p.length++p)) oM];refine(zf8 a1 4 c1 (zhu (be 4 p.length++p)) 4 M2 (be 4 n) (hN1.src.le hle2) oD).mono ?_;rintro v M3 (⟨hbad, -, -⟩|⟨-, a3,c3,rfl,hN3⟩)
 ·exact absurd (zyC oM) hbad
 replace hN3:=hN3.new;rw[hk4'] at hN3;rw[hk4'];refine zR ?_;refine zb2 (((hs.le hN1.le).le hle2).le hN3.le) ?_;refine zb8 M2 _ hN3 oM (by simp[maxLen];omega) (zaA p) fun a4 c4 M4 hN4=>?_
 refine zR ?_;refine .inr ⟨e0,a4,_,c4,?_,rfl,?_⟩
 ·show 4+4+n=_;unfold zag;simp only[Yi,zcs];omega
 ·have e:(zag p).map zc=(be 4 n++be 4 (zhu (be 4 p.length++p))).map zc++p.map zc:=by rw[←Yv];unfold zag;rw[hl]
  rw[e];exact hN4.mono (Yc hN1.le hle2)
end
section
variable {M:Mem}
def zaE (l:List UInt8):Option (List UInt8×Nat):=
 if l.length<8 then none else if num (l.take 4) 0=0∨65536<num (l.take 4) 0∨l.length - 8<num (l.take 4) 0 then none
 else if zhu (l.take 4++(l.drop 8).take (num (l.take 4) 0))=num ((l.drop 4).take 4) 0 then some ((l.drop 8).take (num (l.take 4) 0),8+num (l.take 4) 0) else none
def zDI (M:Mem) (l:List UInt8) (v:Value) (M':Mem):Prop:=
 (zaE l=none∧v = .tuple #[.slice none 0 0,.int .i64 0]∧M.le M')∨∃ p k a n c,zaE l=some (p,k)∧v = .tuple #[.slice a n c,.int .i64 (k:Nat)]∧NewSl M 5 1 a n c (p.map zc) M'
theorem zyD (l:List UInt8):num (l.take 4) 0<4294967296:=by
 have h:=zBN (l.take 4) 0;have h2:(l.take 4).length≤4:=by rw[Ya2];omega
 have h3:256 ^ (l.take 4).length≤256 ^ 4:=Yd7 oD h2;omega
theorem zDJ {a:Option Addr} {n c:Nat} {l:List UInt8} (hs:SrcOk M 1 a n (l.map zc)) (hn:n≤2097152) (hnc:n≤c):CallsM prog 425 [.slice a n c] M (zDI M l):=by
 refine zrQ oS ?_;have hl:=hs.maplen
 have hd0:l.drop (0:Int).toNat=l:=rfl;have h4':(4:Int).toNat=4:=rfl
 refine zR ?_;by_cases h4:n<4
 ·have he:zaL n 0 4=2:=by unfold zaL;rw[if_neg oM,if_pos oM]
  have he2:zaL n 4 4=2:=by unfold zaL;rw[if_neg oM,if_pos oM]
  have hno:zaE l=none:=by unfold zaE;rw[if_pos oM]
  refine(zf9 a n c M 0 4 (by omega) oM).mono ?_;rintro v _ ⟨rfl,rfl⟩;rw[he];refine zR ?_;refine(zf9 a n c M 4 4 (by omega) oM).mono ?_;rintro v _ ⟨rfl,rfl⟩;refine zR ?_;exact .inl ⟨hno,rfl,Ya _⟩
 have he:zaL n 0 4=0:=by unfold zaL;rw[if_neg oM,if_neg oM]
 refine zJ (zdM a n c M l hs oM hnc 0 4 he) ?_;have e1:zaf l 0 4=num (l.take 4) 0:=rfl
 rw[e1];have hk4:=zyD l
 obtain⟨k,hk⟩:=oI (num (l.take 4) 0);rw[←hk] at hk4 ⊢;refine zR ?_;by_cases h8:n<8
 ·have he2:zaL n 4 4=2:=by unfold zaL;rw[if_neg oM,if_pos oM]
  have hno:zaE l=none:=by unfold zaE;rw[if_pos oM]
  refine(zf9 a n c M 4 4 (by omega) oM).mono ?_;rintro v _ ⟨rfl,rfl⟩;rw[he2];refine zR ?_;exact .inl ⟨hno,rfl,Ya _⟩
 have he2:zaL n 4 4=0:=by unfold zaL;rw[if_neg oM,if_neg oM]
 refine zJ (zdM a n c M l hs oM hnc 4 4 he2) ?_;have e2:zaf l 4 4=num ((l.drop 4).take 4) 0:=rfl
 rw[e2];have hq4:=zyD (l.drop 4)
 obtain⟨q,hq⟩:=oI (num ((l.drop 4).take 4) 0);rw[←hq] at hq4 ⊢;refine zR ?_;refine brn (fun g=>?_) (fun g=>?_)
 ·have g1:k=0:=by have:=Zd0 g;omega
  have hno:zaE l=none:=by unfold zaE;rw[if_neg oM,if_pos (.inl oM)]
  refine zR ?_;exact .inl ⟨hno,rfl,Ya _⟩
 have g1:¬k=0:=by have:=Zd1 g;omega
 refine zR ?_;refine brn (fun g=>?_) (fun g=>?_)
 ·have g2:65536<k:=by have:=Zd0 g;omega
  have hno:zaE l=none:=by unfold zaE;rw[if_neg oM,if_pos (.inr (.inl oM))]
  refine zR ?_;exact .inl ⟨hno,rfl,Ya _⟩
 have g2:¬65536<k:=by have:=Zd1 g;omega
 refine zR ?_;refine obr (inR_i64 (by omega)) ?_;(conv=>whnf)
 rw[zky (n:=(n:Int) - 8) oM];refine brn (fun g=>?_) (fun g=>?_)
 ·have g3:n - 8<k:=by have:=Zd0 g;omega
  have hno:zaE l=none:=by unfold zaE;rw[if_neg oM,if_pos (.inr (.inr oM))]
  refine zR ?_;exact .inl ⟨hno,rfl,Ya _⟩
 have g3:¬n - 8<k:=by have:=Zd1 g;omega
 (conv=>whnf);rw[ztR (n:=(k:Int)) oM];refine obr (inR_i64 (by omega)) ?_;refine ob oM ?_;refine ob oM ?_;have hp:=hs.subm (lo:=8) (hi:=8+k) (c:=c) oM oM hnc
 have ht:=hs.subm (lo:=0) (hi:=4) (c:=c) oM oM hnc;have t1:(8+(k:Int)).toNat - Int.toNat 8=k:=by show (8+(k:Int)).toNat - 8=k;omega
 have t2:Int.toNat 4 - Int.toNat 0=4:=rfl;have t3:Int.toNat 8=8:=rfl
 have t4:Int.toNat 0=0:=rfl;rw[t1,t2,t3,t4];rw[show 8+k - 8=k by omega] at hp;rw[Ycr,Ycn] at ht;generalize subA a 8 c 1=ap at hp ⊢;generalize subA a 0 c 1=at' at ht ⊢;obtain⟨pl,hpl⟩:=oI ((l.drop 8).take k);rw[←hpl] at hp;have hpll:=hp.maplen
 refine new (fun b2 hb2=>?_);replace hb2:M b2=none:=hb2;have hle2:M.le (M.setCells b2 37 [.slice at' 4 (c - 0),.slice ap k (c - 8)]):=Yw hb2
 have hs2:SrcOk (M.setCells b2 37 [.slice at' 4 (c - 0),.slice ap k (c - 8)]) 1 (some ⟨b2,0,none⟩) 2 [.slice at' 4 (c - 0),.slice ap k (c - 8)]:=SrcOk.lit rfl;obtain⟨M2,hM2⟩:=oI (M.setCells b2 37 [.slice at' 4 (c - 0),.slice ap k (c - 8)]);rw[←hM2] at hle2 hs2;erw [←hM2]
 have hE:Elems M2 1 (some ⟨b2,0,none⟩) 2 (zvS M2) [l.take 4,pl]:=by
  unfold Elems;refine⟨[[.slice at' 4 (c - 0)],[.slice ap k (c - 8)]],hs2,rfl,rfl,by simp,fun i cs x hi hx=>?_⟩
  match i,hi,hx with
  | 0,hi,hx=>cases hi;cases hx;exact⟨at',4,c - 0,rfl,by omega,ht.le hle2⟩
  | 1,hi,hx=>cases hi;cases hx;exact⟨ap,k,c - 8,rfl,by omega,hp.le hle2⟩
  | i+2,hi,hx=>simp at hi
 refine(zBO hE oD (fun x hx=>by grind)).mono ?_;rintro v _ ⟨rfl,rfl⟩;have hfl:[l.take 4,pl].flatten=l.take 4++pl:=by simp
 rw[hfl];have hsr:=zmh (l.take 4++pl)
 obtain⟨z,hz⟩:=oI (zhu (l.take 4++pl));rw[←hz] at hsr ⊢
 have hf:zaE l=if z=q then some (pl,8+k) else none:=by
  unfold zaE;rw[if_neg oM,if_neg oM,←hk,←hq,←hpl,←hz]
 (conv=>whnf);rw[zky (n:=z) oM];refine brn (fun g=>?_) (fun g=>?_)
 ·have g4:¬z=q:=by simpa using g
  have hno:zaE l=none:=by rw[hf,if_neg g4]
  refine zR ?_;exact .inl ⟨hno,rfl,hle2⟩
 have g4:z=q:=by simpa using g
 have hyes:zaE l=some (pl,8+k):=by rw[hf,if_pos g4]
 refine new (fun b3 hb3=>?_);replace hb3:M2 b3=none:=hb3;have hN3:NewSl M2 5 1 (some ⟨b3,0,none⟩) 0 0 (([]:List UInt8).map zc) _:=Ybc hb3 5 1 0 [] rfl
 obtain⟨M3,hM3⟩:=oI (M2.setCells b3 5 []);rw[←hM3] at hN3;erw [←hM3];refine zb2 ((hp.le hle2).le hN3.le) ?_;refine zb8 M2 _ hN3 oM (by simp[maxLen];omega) (zaA pl) fun a4 c4 M4 hN4=>?_
 (conv=>whnf);rw[ztR (n:=(k:Int)) oM];refine obr (inR_i64 (by omega)) ?_;refine zR ?_;refine .inr ⟨pl,8+k,a4,0+k,c4,hyes,?_,?_⟩
 ·rfl
 ·rw[←Yv,Yaa] at hN4;exact hN4.mono hle2
end
end Go.Proofs.YtlgbofpennelhaaGreat
